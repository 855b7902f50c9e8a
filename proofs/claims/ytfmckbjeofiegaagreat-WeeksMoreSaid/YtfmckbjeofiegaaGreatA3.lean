/- Part 3 of a proof. -/
import Derived.Test.YtfmckbjeofiegaaGreatA0
set_option maxRecDepth 100000
set_option maxHeartbeats 16000000
set_option linter.all false
open Go Go.RowKit Go.Proofs.Tryz
namespace Go.Proofs
open Go
section
open Go.Shelf
def aFM:Go.Shelf.Ren:=⟨λ|6=>180|15=>246|14=>245|28=>299|29=>300|20=>291|21=>292|22=>293|23=>294|24=>295|25=>296|26=>297|27=>298|46=>319|47=>320|48=>321|49=>322|50=>323|57=>327|n=>n,λ|22=>54|24=>41|25=>200|3=>3|39=>328|0=>0|53=>369|55=>371|4=>4|46=>363|45=>362|50=>275|5=>5|9=>9|66=>380|70=>384|76=>388|77=>389|n=>n,λ|n=>n⟩
theorem aFN:Go.Proofs.SlLaysF0.n6 prog aFM:={
 mixed:=by kernel_rfl
 f6:=⟨f180.name,by decide,func180.trans (congrArg some (by kernel_rfl))⟩
 f14:=⟨f245.name,by decide,func245.trans (congrArg some (by kernel_rfl))⟩
 f15:=func246.trans (congrArg some (by kernel_rfl))
 f20:=⟨f291.name,by decide,func291.trans (congrArg some (by kernel_rfl))⟩
 f21:=⟨f292.name,by decide,func292.trans (congrArg some (by kernel_rfl))⟩
 f22:=⟨f293.name,by decide,func293.trans (congrArg some (by kernel_rfl))⟩
 f23:=⟨f294.name,by decide,func294.trans (congrArg some (by kernel_rfl))⟩
 f24:=⟨f295.name,by decide,func295.trans (congrArg some (by kernel_rfl))⟩
 f25:=⟨f296.name,by decide,func296.trans (congrArg some (by kernel_rfl))⟩
 f26:=⟨f297.name,by decide,func297.trans (congrArg some (by kernel_rfl))⟩
 f27:=⟨f298.name,by decide,func298.trans (congrArg some (by kernel_rfl))⟩
 f28:=func299.trans (congrArg some (by kernel_rfl))
 f29:=func300.trans (congrArg some (by kernel_rfl))
 f46:=⟨f319.name,by decide,func319.trans (congrArg some (by kernel_rfl))⟩
 f47:=func320.trans (congrArg some (by kernel_rfl))
 f48:=func321.trans (congrArg some (by kernel_rfl))
 f49:=⟨f322.name,by decide,func322.trans (congrArg some (by kernel_rfl))⟩
 f50:=⟨f323.name,by decide,func323.trans (congrArg some (by kernel_rfl))⟩
 f57:=⟨f327.name,by decide,func327.trans (congrArg some (by kernel_rfl))⟩
 t0:=underlying0
 a0:=isAgg0
 z0:=sizeOf0
 v0:=zeroValue0
 t3:=underlying3
 a3:=isAgg3
 z3:=sizeOf3
 v3:=zeroValue3
 t4:=underlying4
 a4:=isAgg4
 z4:=sizeOf4
 v4:=zeroValue4
 t5:=underlying5
 a5:=isAgg5
 z5:=sizeOf5
 v5:=zeroValue5
 t9:=underlying9
 a9:=isAgg9
 z9:=sizeOf9
 v9:=zeroValue9
 t22:=underlying54
 a22:=isAgg54
 z22:=sizeOf54
 v22:=zeroValue54
 t25:=underlying200
 a25:=isAgg200
 z25:=sizeOf200
 v25:=zeroValue200
 t39:=underlying328
 a39:=isAgg328
 z39:=sizeOf328
 v39:=zeroValue328
 t45:=underlying362
 a45:=isAgg362
 z45:=sizeOf362
 v45:=zeroValue362
 t46:=underlying363
 a46:=isAgg363
 z46:=sizeOf363
 v46:=zeroValue363
 t50:=underlying275
 a50:=isAgg275
 z50:=sizeOf275
 v50:=zeroValue275
 t53:=underlying369
 a53:=isAgg369
 z53:=sizeOf369
 v53:=zeroValue369
 t55:=underlying371
 a55:=isAgg371
 z55:=sizeOf371
 v55:=zeroValue371
 t66:=underlying380
 a66:=isAgg380
 z66:=sizeOf380
 v66:=zeroValue380
 t70:=underlying384
 a70:=isAgg384
 z70:=sizeOf384
 v70:=zeroValue384
 t76:=underlying388
 a76:=isAgg388
 z76:=sizeOf388
 v76:=zeroValue388
 t77:=underlying389
 a77:=isAgg389
 z77:=sizeOf389
 v77:=zeroValue389 }
end
end Go.Proofs
