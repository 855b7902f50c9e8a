/- Part 0 of a proof. -/
import Derived.Deep.WholeRow
import Derived.Carry
import Derived.Laws.Tables
import Derived.Maps.OwnOps
import Derived.Maps.OwnIn
import Derived.Maps.Views
import Derived.DeepKeys3
import Derived.JoinedTies
import Derived.ChangeSame
import Derived.JoinedOf
import Derived.JoinedAt
import Derived.JoinedStill
import Derived.ProofKit
import Derived.OpenShut
import Derived.Below
import Derived.Deep.MidRow
import Derived.ChangeArms
import Derived.WideShapes
import Derived.Laws.OwnMore
import Derived.Deep.OwnRows
import Derived.RangeFuncNested
import Derived.LoopIn
import Derived.RangeFuncBound
import Derived.RangeFuncLeaves
import Derived.Shelf.Abstract
import Derived.Sort.QuietIn
import Derived.RangeFuncCalls
import Init
import Derived.OwnWalk
import Derived.Deep.AppendLies
import Derived.Shelf.SlSortCmp.WholeK
import Derived.Shelf.SlGeneric
import Derived.Ground.SlsfProg
import Derived.Test.YtfmckbjeofiegaaGreatProg
import Derived.Deep.Upon
import Derived.Maps.AppendAt
import Derived.Shelf.SlSortCmp.NoneTotal
import Derived.WalkMore
import Derived.Lib.AppendZerosOnto
import Derived.Laws.ResultCell
import Derived.Test.YtfmckbjeofiegaaGreatRows
import Derived.WalkKit
import Derived.WalkSpells
import Derived.WalkLawsBesides
import Derived.Deep.DeepFit
import Derived.Deep.QuietTactic
import Derived.BigQuiet
import Derived.Lib.QuietBelow
import Derived.OwnWalkIn
import Derived.TacticsInMore
import Derived.RangeFuncBox
import Derived.Laws.StructEq
import Derived.Outline
import Derived.Deep.RegionHeld3
import Derived.Deep.DeepCutAuto
import Derived.Deep.Quiet
import Derived.RegionTactic
set_option linter.unusedVariables false
set_option linter.unusedSimpArgs false
set_option linter.defProp false
set_option maxRecDepth 100000
namespace Go.RowKit
theorem Hid.o{p:Prop}(h:Hid p):p:=h
abbrev BL(w:World):World→Prop:=Below w.heap.size w
instance:Coe Int Value:=⟨.int .i64⟩
instance:Coe Nat Value:=⟨λn=>.int .i64 n⟩
end Go.RowKit
open Go Go.RowKit Go.Proofs.Tryz
variable {p:Prop}
namespace Go.Proofs.YtfmckbjeofiegaaGreat
def aB:=@Below.refl
def aD:=@if_neg
def aG:=@if_pos
def aH:=@wpQuiet_nil
def aK:=@List.getElem?_cons_zero
def aV:=@Nat.le_refl
def bB:=@List.getElem?_cons_succ
def bN:=@List.getD_eq_getElem?_getD
def bW:=@Bool.and_eq_true
def di:=@List.getElem?_eq_getElem
def dn:=@List.length_append
def dz:=@List.mem_map
def dE:=@IntWalk.i64_in
def dG:=@decide_eq_true_eq
def dS:=@List.length_cons
def dY:=@info_parts
def eu:=@List.getElem_mem
def fe:=@World.block_lt_of_cell?
def fo:=@enters_of
def fC:=@List.length_map
def fD:=@List.mem_range
def fE:=@List.nil_append
def fH:=@World.size_alloc
def fK:=@Nat.le_trans
def fU:=@List.length_nil
def gB:=@List.cons_append
def gJ:=@Below.grown
def gN:=@List.getElem?_eq_some_iff
def gQ:=@congrArg
def iB:=@List.mem_flatMap
def iL:=@World.cell?_of_block
def iT:=@List.map_append
def jb:=@List.size_toArray
def jc:=@List.take_length
def jo:=@List.eq_nil_of_length_eq_zero
def jq:=@List.range_succ
def jF:=@List.take_succ_eq_append_getElem
def jN:=@List.flatMap_cons
def kv:=@Array.replicate_succ
def kw:=@Array.replicate_zero
def kz:=@List.append_toArray
def kC:=@List.push_toArray
def kE:=@bodyPost_ret
def lK:=@List.getElem_map
def mq:=@List.all_eq_true
def mr:=@List.getElem_of_mem
def mH:=@wpList_append_own
def mO:=@List.flatMap_append
def mP:=@List.mem_cons
def nu:=@Array.getElem?_eq_some_iff
def nH:=@Nat.lt_of_lt_of_le
def nJ:=@World.ownsRow_nil
def oo:=@Int.le_refl
def ow:=@List.append_nil
def oC:=@List.cons.injEq
def oD:=@List.ext_getElem
def oF:=@List.length_take
def oG:=@List.map_cons
def oH:=@List.mem_append
def oI:=@Nat.add_zero
def oJ:=@Nat.zero_add
def pJ:=@Nat.eq_zero_or_pos
def qW:=@List.length_set
def qX:=@List.mem_of_getElem?
def qY:=@Value.slice.injEq
def qZ:=@and_true
def rZ:=@List.getElem_range
def r9:=@List.mem_filter
def sj:=@Option.getD_some
def sO:=@run_takeDeferred
def tX:=@Nat.zero_le
def tZ:=@World.putObj_heap_other
def uS:=@ready_mono
def uZ:=@Calls.regrown_of
def vH:=@Lib.run_eql_slice_nil
def wS:=@List.filter_append
def wT:=@List.getElem?_eq_none
def wU:=@Sem.run_bind
def xO:=@List.foldl_cons
def xV:=@callsIn_of_wp
def xW:=@callsIn_wide
def yB:=@mem_ready
def yR:=@Int.mul_nonneg
def yS:=@List.append_assoc
def yU:=@List.getElem?_set_self
def yX:=@Prod.mk.injEq
def zb:=@callsIn_of_wp_marks
def zS:=@Act.put_comm
def Ar:=@List.getElem?_set_ne
def Au:=@List.map_map
def Av:=@List.map_nil
def Aw:=@Nat.succ_mul
def Ay:=@Ne.symm
def AB:=@Result.andThen_ok
def AO:=@belowK_b
def Bp:=@or_false
def BH:=@Calls.quiet_of_same
def Ct:=@List.getElem?_map
def Cu:=@List.length_drop
def Cv:=@List.mem_cons_of_mem
def Cw:=@List.set_cons_zero
def Cy:=@Option.some.injEq
def CE:=@Region.noSelect_spec
def CZ:=@heap_alloc_new
def DJ:=@Below.heap_alloc
def DK:=@Bool.eq_iff_iff
def DL:=@Bool.true_and
def Ec:=@List.not_mem_nil
def Ed:=@List.set_cons_succ
def En:=@decide_eq_true
def EN:=@of_decide_eq_true
def FQ:=@Int.toNat_natCast
def FU:=@List.any_eq_true
def FV:=@List.length_filter_le
def FW:=@List.mem_singleton
def FX:=@List.pairwise_cons
def FY:=@List.take_of_length_le
def FZ:=@Nat.mul_one
def F7:=@World.ownsRow_made
def Gi:=@decide_eq_false_iff_not
def Hy:=@Int.mul_le_mul
def Hz:=@List.getElem_cons_succ
def H9:=@List.length_range
def Ih:=@below_regrown
def Jf:=@results_none
def Js:=@true_and
def Jv:=@wpList_plain
def Jw:=@wpOp_mono
def JB:=@Addr.add_mid
def JD:=@Below.heap_setCell
def J4:=@List.drop_eq_getElem_cons
def J5:=@List.flatMap_nil
def J6:=@List.flatten_cons
def J7:=@List.map_congr_left
def J8:=@List.mem_of_mem_take
def J9:=@Nat.add_assoc
def Ke:=@Sem.run_pure
def Kr:=@decide_eq_false
def Lb:=@results_cell_row
def Lc:=@results_tmp
def Mv:=@List.foldl_append
def Mw:=@List.getElem_set
def Mx:=@List.getElem_set_self
def MC:=@List.pairwise_map
def ME:=@Nat.le_of_eq
def MF:=@Oper.quiet_mono
def MG:=@Option.map_some
def MI:=@World.ownsRow_lit
def M6:=@getD_set_ne
def OA:=@Array.setIfInBounds_comm
def OB:=@Bool.or_eq_true
def OC:=@Calls.mono
def PS:=@List.drop_of_length_le
def PU:=@List.getElem?_append_left
def PV:=@List.getElem?_append_right
def PW:=@List.getElem?_range
def PY:=@List.map_toArray
def PZ:=@List.prefix_append
def P6:=@Nat.le_of_ble_eq_true
def P7:=@Nat.mul_le_mul_right
def P9:=@Option.some.inj
def Qb:=@Region.free_spec
def Qd:=@Sort.alloc_eq_grow
def Qg:=@World.cell?_setCell_other
def Qh:=@World.putObj_heap_same
def RU:=@run_makeSlice_full
def SK:=@wpIn_mono
def SX:=@yieldsIn_of_qOp
def S9:=@Addr.mk.injEq
def Ta:=@Bool.false_and
def Uf:=@Int.ediv_le_ediv
def Ug:=@Int.ediv_le_of_le_mul
def Uh:=@Int.ediv_nonneg
def Ui:=@Int.mul_le_mul_of_nonneg_right
def Ul:=@List.getElem_append_left
def Um:=@List.getElem_append_right
def Un:=@List.getElem_set_ne
def Uo:=@List.length_singleton
def Uq:=@List.mem_flatten
def Ur:=@List.take_prefix
def Uv:=@Nat.le_max_left
def Uw:=@Nat.mod_one
def Ux:=@Nat.mul_le_mul
def Uy:=@Nat.mul_le_mul_left
def Uz:=@Oper.wp_mono
def UK:=@World.alloc_heap_new
def UL:=@World.cell?_setCell_same
def U7:=@execOp_put
def Wd:=@of_decide_eq_false
def Ws:=@results_tmp2
def Xr:=@wpOpIn_mono
def XG:=@Array.getElem?_modify
def XH:=@Bool.decide_and
def Zi:=@Int.mul_le_mul_of_nonneg_left
def Zj:=@Int.natCast_mul
def Zk:=@Int.toNat_of_nonneg
def Zn:=@List.drop_length
def Zo:=@List.flatMap_map
def Zp:=@List.getElem?_append
def Zq:=@List.getElem_cons_zero
def Zr:=@List.getElem_reverse
def Zt:=@List.length_ofFn
def Zu:=@List.pairwise_iff_getElem
def Zv:=@List.set_set
def Zw:=@List.take_append_drop
def Zx:=@List.zipIdx_cons
def Zy:=@Nat.add_mul
def Zz:=@Nat.le_max_right
def ZA:=@Nat.lt_or_ge
def ZK:=@Target.collected.injEq
def aay:=@eq_iff_iff
def aaF:=@getElem!_pos
def acK:=@run_build
def acL:=@run_endRound
def adU:=@wanted_put
def ad4:=@wpIn_region_any
def aec:=@Array.ext_getElem?
def aed:=@Array.getElem?_eq_none
def aee:=@Array.getElem?_toList
def aef:=@Array.getElem_toList
def aeg:=@Array.size_append
def aeh:=@Bool.and_eq_false_iff
def aei:=@Bool.eq_false_iff
def aej:=@Bool.false_ne_true
def aen:=@Deferred.mk.injEq
def agc:=@Int.tdiv_eq_ediv_of_nonneg
def agd:=@List.any_append
def age:=@List.drop_zero
def agf:=@List.ext_getElem?
def agh:=@List.filter_map
def agi:=@List.findIdx?_eq_none_iff
def agj:=@List.findIdx?_eq_some_iff_getElem
def agk:=@List.getElem?_eraseIdx
def agl:=@List.length_pos_iff
def agm:=@List.length_replicate
def agn:=@List.map_take
def agp:=@List.pairwise_lt_range
def agq:=@List.range_add
def agr:=@Nat.lt_irrefl
def ags:=@Nat.min_eq_left
def agH:=@Sort.grow_grow
def agJ:=@World.frozen?_setCell
def ag5:=@and_congr_right
def aim:=@forall_eq_or_imp
def aix:=@getD_set_true
def aiz:=@growslice_fits
def alD:=@ownsRow_putObj
def al5:=@run_eqGuard_agg
def al6:=@run_equalIn_struct
def al7:=@run_isAgg_plain
def al8:=@run_loadVar_row
def al9:=@run_neq_struct
def ama:=@run_sliceBound
def amb:=@run_underlying
def amP:=@size_zeroCells
def an2:=@wp_region_any
theorem aA4(h:p:=by unfold dw;rw [Bool.and_eq_false_iff];simp;omega):p:=h
theorem aFx(h:p:=by rw [jo h] at hj;simp at hj):p:=h
theorem azR(h:p:=by simp [bN,show kc<gaps.length by omega]):p:=h
theorem lY(h:p:=by rw [gy.o];rfl):p:=h
theorem GH(h:p:=by simpa using hn):p:=h
theorem acQ(h:p:=by rw [h.1] at hi;cases hi):p:=h
theorem aFF(h:p:=by simp [intOf];omega):p:=h
theorem Le(h:p:=by rw [hr] at h0;cases h0):p:=h
theorem aju(h:p:=by have:=hbd s hs;omega):p:=h
theorem aji(h:p:=by have:=(HO.o.lt q hq).2;omega):p:=h
theorem acO(h:p:=by rw [Gi];intro e;exact hne (by simp [e])):p:=h
theorem Ll(h:p:=by show w.heap.size≤w.heap.size+1;omega):p:=h
theorem aEX(h:p:=by rw [dn,← hm,List.flatten_append];exact ho):p:=h
theorem ays(h:p:=by rcases k with h|h|h;have:=ho _ h;omega;omega;omega):p:=h
theorem Du(h:p:=by rw [HE.o]):p:=h
theorem azT(h:p:=by simp [mY,bN,hjs]):p:=h
theorem aF(h:p:=by kernel_rfl):p:=h
theorem MS(h:p:=by cases hq):p:=h
theorem ae(h:p:=by omega):p:=h
theorem amo(h:p:=by rw [Xx];have:=HP.o.zero;omega):p:=h
theorem zG(h:p:=by rw [← hwq];simp [go_sem]):p:=h
theorem aym(h:p:=by rcases e with e|e;have:=dX.o;omega;have:=(kP.o.lt q e.symm).1;have:=hsz;have:=dX.o;omega):p:=h
theorem azU(h:p:=by simp [results,results199,go_sem,c1,J9]):p:=h
theorem Wu(h:p:=by rw [jV.o];rfl):p:=h
theorem amf(h:p:=by rw [HN.o,HQ.o];rfl):p:=h
theorem ayq(h:p:=by rcases hk with h|h|h;have:=ho k h;omega;omega;omega):p:=h
theorem adz(h:p:=by simpa using hc):p:=h
theorem azV(h:p:=by simp [results,results218,go_sem,c1,J9,q1]):p:=h
theorem ahm(h:p:=by cases yE.1 h;simp [Value.oneCell']):p:=h
theorem aFz(h:p:=by rw [KM own A B ht ho hs _ (by omega)];exact hl):p:=h
theorem Jl(h:p:=by simpa using h4):p:=h
theorem acU(h:p:=by rw [vZ];exact hin):p:=h
theorem Lf(h:p:=by rw [hz2];omega):p:=h
theorem at5(h:p:=by have:=(ht.ed _ _ e h1).2.2;simp only;omega):p:=h
theorem ayT(h:p:=by rw [Ar (by decide),jV.o];rfl):p:=h
theorem adA(h:p:=by simpa using ht2):p:=h
theorem N8(h:p:=by rw [← hwq];simp):p:=h
theorem Jk(h:p:=by simpa using h0):p:=h
theorem qN(h:p:=by simp [maxLen]):p:=h
theorem ayr(h:p:=by rcases hq with h|h|h;exact .inl h;exact .inr (.inl h);exact .inr (.inr (.inl h))):p:=h
theorem azd(h:p:=by rw [← hW2];exact Qh (by omega)):p:=h
theorem N9(h:p:=by rw [← hwq];simp [go_sem,KI,r0]):p:=h
theorem Sg(h:p:=by simpa [bR] using hsz):p:=h
theorem acS(h:p:=by rw [hz.o];exact HZ0.o):p:=h
theorem ado(h:p:=by simp [World.setCell]):p:=h
theorem Wy(h:p:=by rw [RA HK.o];exact hoq):p:=h
theorem ay6(h:p:=by rw [aD (by simp)];exact dz.2 ⟨p,hp,rfl⟩):p:=h
theorem ayU(h:p:=by rw [Um hge];congr 1;omega):p:=h
theorem aml(h:p:=by rw [jb,nC.o];kernel_rfl):p:=h
theorem amd(h:p:=by rw [tL.o,aD hle]):p:=h
theorem Vy(h:p:=by have:=h.1;omega):p:=h
theorem ayp(h:p:=by rcases h with h|h|h;omega;omega;(have:=(Hl.o.2.2.lt k h).1;omega)):p:=h
theorem WK(h:p:=by simp at hk;omega):p:=h
theorem ic(h:p:=by dsimp only;omega):p:=h
theorem amc(h:p:=by rw [mh.o,← hz];exact bL z):p:=h
theorem at6(h:p:=by have:=(Jn hs).2;have:=hP.band;omega):p:=h
theorem Wv(h:p:=by rw [HF.o]):p:=h
theorem alT(h:p:=by rcases x with x|x|x;omega;(have:=h2 x;omega);(have:=h1 x;omega)):p:=h
theorem ayo(h:p:=by rcases h with h|h|h;omega;(have:=HC.o.lt;omega);(have:=HA.o.lt;omega)):p:=h
theorem VC(h:p:=by have:=ho _ e;omega):p:=h
theorem XE(h:p:=by (first|omega|(simp;omega))):p:=h
theorem Je(h:p:=by repeat (first|exact aB _ _|refine Bl.alloc ?_ _|refine Bl.drewN ?_ _|refine Bl.call ?_ (by assumption))):p:=h
theorem aFt(h:p:=by intro _ _ _ _ h;exact h.elim):p:=h
theorem aza(h:p:=by rw [sU,Kr (by omega),Ta]):p:=h
theorem adr(h:p:=by simp [dw];try omega):p:=h
theorem akw(h:p:=by injection k with _ k _;exact k.symm):p:=h
theorem WW(h:p:=by subst e;rw [(hnc o).1] at h;cases h):p:=h
theorem WN(h:p:=by simpa using hz0):p:=h
theorem MR(h:p:=by cases hj):p:=h
theorem Es(h:p:=by have:=vF.o;omega):p:=h
theorem VB(h:p:=by have:=hnr.o;omega):p:=h
theorem R3(h:p:=by rw [hbs.o];exact (eB.lt q hq).1):p:=h
theorem amI(h:p:=by show bn<bs;have:=hbs.o;omega):p:=h
theorem azW(h:p:=by simp at hu;subst hu;omega):p:=h
theorem DF(h:p:=by unfold jZ;rw [oh.o,nZ.o];simp;omega):p:=h
theorem NW(h:p:=by rw [e]):p:=h
theorem Nb(h:p:=by have:=hbq.size;simp;omega):p:=h
theorem Iw(h:p:=by first|(simp;omega)|(simp;done)):p:=h
theorem Nf(h:p:=by have:=xe.o;omega):p:=h
theorem aFB(h:p:=by rw [aG h,aG (by omega)]):p:=h
theorem adq(h:p:=by simp [dw];omega):p:=h
theorem Na(h:p:=by have:=(ig.o _).1 h;omega):p:=h
theorem Xz(h:p:=by (first|(simp;omega)|omega)):p:=h
theorem Gw(h:p:=by rcases h with h|h<;>omega):p:=h
theorem Gz(h:p:=by rw [← hS.o];rfl):p:=h
theorem Sk(h:p:=by simpa using hq):p:=h
theorem Sj(h:p:=by simpa using hf.o):p:=h
theorem ayt(h:p:=by rcases o with o|o;exact .inl o;exact .inr (HO.o.lt _ o.symm).1):p:=h
theorem KE(h:p:=by have:=ho k h;omega):p:=h
theorem acT(h:p:=by rw [hz.o];rfl):p:=h
theorem ahn(h:p:=by cases jC.1 h;simp [Value.oneCell']):p:=h
theorem R4(h:p:=by rw [hcs];rfl):p:=h
theorem ajx(h:p:=by have:=hrow k e;omega):p:=h
theorem ayB(h:p:=by repeat (first|exact aB _ _|refine Bl.alloc ?_ _|fail)):p:=h
theorem aFq(h:p:=by have:=Ha.o q hq;omega):p:=h
theorem acP(h:p:=by rw [dG];exact U6 HL.o (by omega) HN.o):p:=h
theorem aFE(h:p:=by simp [bN,h]):p:=h
theorem aA0(h:p:=by unfold Func.isWrapper;first|(rw [if_pos (by decide +kernel)];kernel_rfl)|(rw [if_neg (by decide +kernel)];exact ⟨rfl,rfl⟩)):p:=h
theorem WI(h:p:=by show w.heap.size≤w.heap.size;omega):p:=h
theorem alS(h:p:=by rcases h with h|h;exact .inl h;exact .inr (by omega)):p:=h
theorem aj(h:p:=by simp):p:=h
theorem aue(h:p:=by have:=acg f.sheet.band f.sheet.rate o (2*f.sheet.band+1).toNat;unfold Gs;dsimp only;omega):p:=h
theorem ajn(h:p:=by have:=HB0.o.size;have:=hbq.size;omega):p:=h
theorem aDj(h:p:=by have:=qK k h;omega):p:=h
theorem acN(h:p:=by rw [Gi];intro e;exact hl (by rw [e])):p:=h
theorem adw(h:p:=by simpa using h6):p:=h
theorem Ji(h:p:=by rw [hr];simp):p:=h
theorem Od(h:p:=by simpa using hD):p:=h
theorem auc(h:p:=by have:=hb1.size;have:=Cr.o.lt;have:=aZ.o.lt;dsimp only;omega):p:=h
theorem ajl(h:p:=by have:=(hrow q e).2;omega):p:=h
theorem aze(h:p:=by rw [← hx.o];first|go_num|(simp;omega)):p:=h
theorem Ku(h:p:=by exact ul):p:=h
theorem ajt(h:p:=by have:=dX.o;have:=JZ.o;omega):p:=h
theorem Og(h:p:=by simpa using hown'):p:=h
theorem BC(h:p:=by simpa using hk):p:=h
theorem aFw(h:p:=by rintro ⟨k,_⟩;rw [lW (by omega)] at k;exact absurd k (gU v)):p:=h
theorem aA3(h:p:=by unfold aP;rw [List.getD_eq_getElem?_getD,List.getElem?_eq_getElem hn,Option.getD_some]):p:=h
theorem RZ(h:p:=by rw [hbs.o];exact (eB.lt j hj).1):p:=h
theorem Si(h:p:=by simpa [bR] using hz):p:=h
theorem aub(h:p:=by have:=h.1.2;exact ⟨by omega,by omega,by omega,.inl h.1.1⟩):p:=h
theorem aud(h:p:=by have:=hb1.size;have:=hb2.size;have:=hb3.size;have:=aZ.o.lt;dsimp only;omega):p:=h
theorem Wx(h:p:=by rw [oF];omega):p:=h
theorem amm(h:p:=by rw [Qd,Qd,agH];rfl):p:=h
theorem SC(h:p:=by unfold qOp;simp only [ho];exact h):p:=h
theorem Sb(h:p:=by simp [Array.getD,hilt] at hir ⊢;exact hir):p:=h
theorem BA(h:p:=by simp;try omega):p:=h
theorem acR(h:p:=by rw [yw.o];exact GX.o):p:=h
theorem aia(h:p:=by first|go_num|(simp;omega)):p:=h
theorem aA5(h:p:=by unfold wH vS;first|(rw [if_pos hr,if_pos hr];rfl)|(rw [if_neg (by omega),if_neg (by omega)];rfl)):p:=h
theorem amq(h:p:=by rw [← zS a v undef h2];exact h):p:=h
theorem VA(h:p:=by have:=hm.o;omega):p:=h
theorem amj(h:p:=by rw [dn];omega):p:=h
theorem GD(h:p:=by simp [ht]):p:=h
theorem ay0(h:p:=by rw [h2];exact (Bx.new (vs:=[v]) rfl).alloc _):p:=h
theorem Ij(h:p:=by cases hw;exact h):p:=h
theorem adm(h:p:=by show ¬ w.heap.size+1=w.heap.size;omega):p:=h
theorem ayY(h:p:=by rw [iT];exact MP yN.o g3 hs (fun k h=>(ho k h).2)):p:=h
theorem ayn(h:p:=by rcases h with h|h;omega;simp [Value.ownBlock] at h;omega):p:=h
theorem adl(h:p:=by show ¬ xC=_;omega):p:=h
theorem WM(h:p:=by simpa using hv):p:=h
theorem aA2(h:p:=by unfold uh;rw [show ls.map (·.2)=Ts from hls]):p:=h
theorem WA(h:p:=by rw [← hz.o];exact HF.o):p:=h
theorem uA(h:p:=by decide +kernel):p:=h
theorem adu(h:p:=by simpa using e'):p:=h
theorem ayW(h:p:=by rw [iT,nG.o,jF hlt,iT];rfl):p:=h
theorem GG(h:p:=by simp only [intOf];omega):p:=h
theorem ami(h:p:=by rw [dn,hcl];omega):p:=h
theorem amJ(h:p:=by show w.heap.size≤Ck;omega):p:=h
theorem QS(h:p:=by have:=H3.o.size;have:=hbs.o;omega):p:=h
theorem ajh(h:p:=by have:=(HO.o.lt q hq).1;omega):p:=h
theorem aFp(h:p:=by have:=(kP.o.lt q e.symm).1;omega):p:=h
theorem Dw(h:p:=by rw [← hwq];exact Bl.drewN hb5 _):p:=h
theorem kL(h:p:=by simp [Fence.wide]):p:=h
theorem zJ(h:p:=by simpa using hle):p:=h
theorem iH(h:p:=by have:=hn.o;omega):p:=h
theorem ayV(h:p:=by rw [qW] at hk;rw [hlen];exact h.st k hk):p:=h
theorem azb(h:p:=by rw [← zS _ v undef h2,← Act.put_defers];exact h):p:=h
theorem amN(h:p:=by show wr.heap.size≤Ck;have:=bV.o;omega):p:=h
theorem ay7(h:p:=by rw [V6 (fun s hs=>(lH.o s hs).2.1) p2];exact V8.2 fun n=>aca p1):p:=h
theorem ay3(h:p:=by rw [h4.2 j hj];exact di hj):p:=h
theorem Wz(h:p:=by rw [← zS a v u h2];exact he):p:=h
theorem Dx(h:p:=by rw [← hwq];exact jB hown5 nq):p:=h
theorem ay2(h:p:=by rw [h2];exact Bx.new (vs:=[.int .i64 k]) (by simp)):p:=h
theorem Sd(h:p:=by simp at hk;exact hk):p:=h
theorem aua(h:p:=by have:=vF.o;unfold eQ;rw [List.getD_eq_getElem?_getD,List.getElem?_eq_getElem (by omega)];rfl):p:=h
theorem Vu(h:p:=by have:=bX.o.size;omega):p:=h
theorem Dt(h:p:=by repeat (first|exact hb|refine Bl.alloc ?_ _|refine Bl.setCell ?_ (by simp;try omega) _)):p:=h
theorem ady(h:p:=by simpa using hC):p:=h
theorem at0(h:p:=by have h1:=hf.o;rw [hf'] at h1;exact P9 h1):p:=h
theorem ajy(h:p:=by have:=Xy hz;have:=HP.o.zero;omega):p:=h
theorem wu(h:p:=by simpa using h):p:=h
theorem aaC(h:p:=by first|assumption|exact Bl.alloc hb _):p:=h
theorem aFH(h:p:=by subst hjk;exact hjun):p:=h
theorem EU(h:p:=by simpa using h3):p:=h
theorem ayX(h:p:=by rw [iT];exact MP HJ.o g3 hs (fun k h=>(ho k h).2)):p:=h
theorem ajm(h:p:=by have:=(Jn hy).2;have:=HP.o.band;omega):p:=h
theorem ads(h:p:=by simp only [dS];omega):p:=h
theorem Vz(h:p:=by have:=hji.o;omega):p:=h
theorem aFr(h:p:=by have:=ho q h;omega):p:=h
theorem amM(h:p:=by show w5.heap.size≤gS;exact EE):p:=h
theorem ajq(h:p:=by have:=HC.o.lt;have:=HA.o.lt;have:=cB.o.lt;have:=lH.o.lt;omega):p:=h
theorem wh(h:p:=by simp [maxLen];omega):p:=h
theorem Ww(h:p:=by rw [qB.o]):p:=h
theorem lD(h:p:=by unfold maxLen;omega):p:=h
theorem amK(h:p:=by show w.heap.size≤bn;omega):p:=h
theorem amO(h:p:=by simp [aI,bN,h]):p:=h
theorem aFC(h:p:=by rw [I4 (by omega)];exact kH):p:=h
theorem ame(h:p:=by rw [tL.o,aG hle,hmk.o];simp):p:=h
theorem aa8(h:p:=by have:=h5.size;omega):p:=h
theorem ajp(h:p:=by have:=cB.o.size;omega):p:=h
theorem ay8(h:p:=by rw [R9];exact ⟨oo _,oo _⟩):p:=h
theorem RY(h:p:=by rw [hN.o]):p:=h
theorem Nc(h:p:=by have:=hnn.o;omega):p:=h
theorem aFu(h:p:=by intro k h;have:=ho k h;simp;omega):p:=h
theorem aFA(h:p:=by rw [if_neg (by simp only [List.length_cons];omega),Array.getElem?_setIfInBounds_ne (by dsimp only;omega)]):p:=h
theorem Ls(h:p:=by simpa using hj):p:=h
theorem Sc(h:p:=by simp [e]):p:=h
theorem adN(h:p:=by unfold zy;simp;try omega):p:=h
theorem NY(h:p:=by rw [h1,h.o]):p:=h
theorem N7(h:p:=by rw [← HF.o]):p:=h
theorem amk(h:p:=by rw [fC];exact hn):p:=h
theorem aDi(h:p:=by have:=((hF.sp j hj).lt q hq).2;omega):p:=h
theorem aW(h:p:=by decide):p:=h
theorem aa6(h:p:=by have:=HX.o;omega):p:=h
theorem ayQ(h:p:=by rw [HF.o];exact ⟨rfl,Bl.alloc (Bl.alloc (aB _ _) _) _⟩):p:=h
theorem ajk(h:p:=by have:=(gT.lt gS e).1;have:=BU.o;have:=hbs.o;omega):p:=h
theorem aa9(h:p:=by have:=hBa.lt;omega):p:=h
theorem alX(h:p:=by repeat (first|exact aB _ _|refine Bl.call ?_ (by assumption)|refine Bl.alloc ?_ _|fail)):p:=h
theorem aa7(h:p:=by have:=h2 t ht;omega):p:=h
theorem amL(h:p:=by show w.heap.size≤gS;omega):p:=h
theorem Dv(h:p:=by rw [h] at hr;cases hr):p:=h
theorem RX(h:p:=by rw [HT.o];exact fu):p:=h
theorem Jg(h:p:=by rw [HAT.o];exact U (by first|(simp;omega)|(simp;done))):p:=h
theorem aa5(h:p:=by have:=HLEN.o;omega):p:=h
theorem RV(h:p:=by rw [nC.o];decide):p:=h
theorem aFy(h:p:=by rw [KM own A B ht ho hs _ (by omega)];exact hk):p:=h
theorem Et(h:p:=by have:=iR.size;omega):p:=h
theorem aFG(h:p:=by subst e;exact HP.o):p:=h
theorem Gf(h:p:=by cases hj;exact aV _):p:=h
theorem ay1(h:p:=by rw [h2];exact Bl.alloc (Bl.alloc (aB _ _) _) _):p:=h
theorem ajs(h:p:=by have:=hb6.size;omega):p:=h
theorem Wt(h:p:=by rw [vC.o];rfl):p:=h
theorem azO(h:p:=by show b≠w2.heap.size;omega):p:=h
theorem Vx(h:p:=by have:=HL.o;omega):p:=h
theorem amg(h:p:=by rw [qV.o,aG HCM.o];exact nJ _ _ _ _):p:=h
theorem ajj(h:p:=by have:=(HOW.o.lt q hq).1;omega):p:=h
theorem adv(h:p:=by simpa using h32):p:=h
theorem ajw(h:p:=by have:=hrl j hj e;omega):p:=h
theorem aFv(h:p:=by intro w' hw';exact CT.of (aA.of_below (Io hw'))):p:=h
theorem adx(h:p:=by simpa using hA):p:=h
theorem ay5(h:p:=by rw [aD (by simp only [fU];omega)];rfl):p:=h
theorem Vv(h:p:=by have:=HCM.o;omega):p:=h
theorem aFI(h:p:=by unfold bR at hun;rw [getD_set_ne true hjk] at hun;exact hun):p:=h
theorem qI(h:p:=by assumption):p:=h
theorem ayR(h:p:=by rw [tL.o];exact wW (ys:=[]) hown' rfl):p:=h
theorem QT(h:p:=by have:=hb.size;omega):p:=h
theorem aY(h:p:=by go_num):p:=h
theorem uU(h:p:=by simp only;omega):p:=h
theorem adM(h:p:=by unfold zx;simp;try omega):p:=h
theorem Oh(h:p:=by simpa using hp):p:=h
theorem WL(h:p:=by simpa using hB.2):p:=h
theorem amh(h:p:=by rw [dE _ (by omega)];omega):p:=h
theorem acM(h:p:=by rw [nD.o];exact hin):p:=h
theorem adp(h:p:=by simp [rJ]):p:=h
theorem azS(h:p:=by simp [aP,bN,hlt]):p:=h
theorem at1(h:p:=by have:=(eB.lt j hj).1;have:=Ea.o;omega):p:=h
theorem vY(h:p:=by rw [HF.o];rfl):p:=h
theorem at7(h:p:=by have:=pG.o.size;rcases h with h|h<;>omega):p:=h
theorem Oe(h:p:=by simpa using hi):p:=h
theorem KD(h:p:=by have:=Af.o;omega):p:=h
theorem ajv(h:p:=by have:=hbs.o;have:=BU.o;omega):p:=h
theorem xw(h:p:=by simpa using h2):p:=h
theorem NZ(h:p:=by rw [KY HK.o oh.o nZ.o];simpa [flat3] using hown'):p:=h
theorem ze(h:p:=by cases h):p:=h
theorem zK(h:p:=by simpa using hr):p:=h
theorem azc(h:p:=by rw [← hW2];exact (tZ (by omega)).trans hda):p:=h
theorem WJ(h:p:=by simp [madeCells]):p:=h
theorem ay9(h:p:=by rw [show (tk:Int)+1=((lo+(k+1):Nat):Int) by have:=xe.o;omega]):p:=h
theorem aFD(h:p:=by simp [Array.getD,h] at hir):p:=h
theorem adt(h:p:=by simpa using a3):p:=h
theorem Vw(h:p:=by have:=xI.o.1;omega):p:=h
theorem Dz(h:p:=by simpa [bR] using rF):p:=h
theorem nN(h:p:=by constructor<;>omega):p:=h
theorem ajo(h:p:=by have:=lH.o s (J8 hs);omega):p:=h
theorem aA1(h:p:=by unfold World.cell?;dsimp only;rw [hv];rfl):p:=h
theorem bC(h:p:=by simp;omega):p:=h
theorem Jh(h:p:=by rw [bE.o];decide):p:=h
theorem ah9(h:p:=by first|exact hne.1|exact hne.2):p:=h
theorem Dr(h:p:=by repeat (first|exact aB _ _|refine Bl.alloc ?_ _|refine Bl.setCell ?_ (by simp) _)):p:=h
theorem zI(h:p:=by simp [Value.oneCell']):p:=h
theorem VD(h:p:=by have:=ho _ h;omega):p:=h
theorem ajr(h:p:=by have:=HP.o.ticks;omega):p:=h
theorem ah8(h:p:=by first|exact (Bl.call HB.o hb5).size|exact (Bl.call mD hb5).size):p:=h
theorem ayC(h:p:=by repeat (first|exact aB _ _|refine Bl.alloc ?_ _|refine Bl.set ?_ _ _ (by simp;done))):p:=h
theorem qO(h:p:=by simpa using h1):p:=h
theorem adn(h:p:=by show ¬ w.heap.size=w.heap.size+1;omega):p:=h
theorem ayZ(h:p:=by rw [agn];exact Ur _ _):p:=h
theorem ayS(h:p:=by rw [kR.o,wS];simp [hst]):p:=h
theorem WO(h:p:=by simpa using t1):p:=h
theorem amn(h:p:=by rw [aD (by omega)]):p:=h
theorem aFs(h:p:=by intro _ _ _ _ _ _ h;exact h.elim):p:=h
theorem ay4(h:p:=by rw [aD (by have:=fD.1 hi';omega)]):p:=h
theorem azP(h:p:=by show w5.heap.size≤bm;have:=AY.o;omega):p:=h
end Go.Proofs.YtfmckbjeofiegaaGreat
