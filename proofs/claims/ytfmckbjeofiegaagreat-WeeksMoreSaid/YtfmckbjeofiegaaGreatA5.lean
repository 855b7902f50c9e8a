/- Part 5 of a proof. -/
import Derived.Test.YtfmckbjeofiegaaGreatA1
import Derived.Test.YtfmckbjeofiegaaGreatA2
set_option maxRecDepth 100000
set_option maxHeartbeats 16000000
set_option linter.all false
open Go Go.RowKit Go.Proofs.Tryz
namespace Go.Proofs.YtfmckbjeofiegaaGreat
open Go
theorem Oi(a b c:Int)(w:World):Calls prog 160 #[a,b,c] w λe w'=>e=.returned (.bool (dw a b c))∧w=w':=by
 go_enter func160,ntmps160;go_wp2
 all_goals
  go_ret;exact⟨bu adr,rfl⟩
theorem Qy(a b c:Int)(w:World):Calls prog 226 #[a,b,c] w λe w'=>e=.returned (.bool (dw a b c))∧w=w':=by
 go_enter func226,ntmps226;go_wp2
 all_goals
  go_ret;exact⟨bu adr,rfl⟩
theorem aaE(a b c:Int)(w:World):Calls prog 216 #[a,b,c] w λe w'=>e=.returned (.bool (dw a b c))∧w=w':=by
 go_enter func216,ntmps216;go_wp2
 all_goals
  go_ret;exact⟨bu adr,rfl⟩
theorem aap(x y lo hi:Int)(w:World):Calls prog 224 #[.agg #[x,y],lo,hi] w λe w'=>e=.returned (.bool (xz (x,y) lo hi))∧BL w w':=by
 go_enter func224,ntmps224;go_wp2_with (first|(go_at_call 226;refine(Qy _ _ _ _).mono ?_;rintro e w' ⟨rfl,rfl⟩)|fail)
 all_goals
  go_ret;exact⟨bu (by simp[xz,dw]at *;try omega),Je⟩
theorem am9(x y:Int)(w:World):Calls prog 105 #[.agg #[x,y]] w λe w'=>e=.returned (.int .i64 (if BF x y=true then 0 else 1))∧BL w w':=by
 go_enter func105,ntmps105;go_wp2_with (first|(go_at_call 160;refine(Oi _ _ _ _).mono ?_;rintro e w' ⟨rfl,rfl⟩)|fail)
 all_goals
  go_ret;exact⟨gW (by simp[BF,dw]at *;try omega),Je⟩
theorem win(x y n:Int)(w:World):Calls prog 85 #[.agg #[x,y],n] w λe w'=>e=.returned (.bool (decide (x≤n)&&decide (n≤y)))∧BL w w':=by
 go_enter func85,ntmps85;go_wp2
 all_goals
  go_ret;exact⟨bu BA,Je⟩
theorem az0(x y:Int)(w:World):Calls prog 204 #[.agg #[x,y]] w λe w'=>e=.returned (.bool (decide (0≤x)&&decide (x≤y)&&decide (y≤4000)))∧BL w w':=by
 go_enter func204,ntmps204;go_wp2_with (first|(go_at_call 160;refine(Oi _ _ _ _).mono ?_;rintro e w' ⟨rfl,rfl⟩)|fail)
 all_goals
  go_ret;exact⟨bu (by simp[dw]at *;try omega),Je⟩
theorem adT (w:World):Calls prog 29 #[] w λe w'=>e=.returned (.bool true)∧w=w':=by
 go_enter func29,ntmps29;go_wp2
 all_goals
  go_ret;exact⟨rfl,rfl⟩
end Go.Proofs.YtfmckbjeofiegaaGreat
