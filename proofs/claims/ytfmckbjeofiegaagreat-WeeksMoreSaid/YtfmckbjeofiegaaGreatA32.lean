/- Part 32 of a proof. -/
import Derived.Test.YtfmckbjeofiegaaGreatA29
import Derived.Test.YtfmckbjeofiegaaGreatA30
import Derived.Test.YtfmckbjeofiegaaGreatA31
set_option maxRecDepth 100000
set_option maxHeartbeats 16000000
set_option linter.all false
open Go Go.RowKit Go.Proofs.Tryz
namespace Go.Proofs.YtfmckbjeofiegaaGreat
variable {a:Act}{af:Array Edge}{ops:Array Oper}{Q:Exit→Act→World→Prop}{b hi:Int}{rest:List Oper}{L:List Sp}{cs vs:List Value}{B:Nat}{A:Nat→Prop}{P:Program}{α:Type}{e ty:TypeId}{u v:Value}{W w':World}
def Lp(t:List dF):vJ:=⟨⟨100,1000,0,9500,10500,2,(1000,1000),(1000,1000)⟩,t,[],([(1,2)],[]),1,0,0,3⟩
def mU:aQ:=⟨0,0,1,0,Lp [(50,500,0),(150,503,0)],[],[]⟩
def wY:aQ:=⟨0,0,2,0,Lp [(50,505,0)],[],[]⟩
def dN(l:List je):aJ:=⟨[(1,0,0,[(0,0,0)]),(2,3,4,[(0,0,0)])],1,0,1,2,0,0,[mU,wY],l⟩
def rP:List je:=[(1,0,1,10010,10020)]
theorem R6:dA (dN [])=0:=uA
theorem amw:dA (dN rP)=0:=uA
theorem Lj(l:List je):Fits (dN l):=by
 intro f hf;simp only[dN,mP,Ec,Bp]at hf;rcases hf with rfl|rfl
 ·show gG (dN l) mU=false
  have:gG (dN []) mU=false:=uA;exact this
 ·show gG (dN l) wY=false
  have:gG (dN []) wY=false:=uA;exact this
theorem amt:jO (dN []) mU=[[(9998,10001)],[(10001,10004)],[(10001,10007)]]:=uA
theorem ade:ko (dN []) mU=[(10001,10004)]:=uA
theorem adf:ko (dN []) wY=[(10001,10009)]:=uA
theorem azv:ko (dN rP) mU=[]:=uA
theorem Ob(l:List je):lS (dN l) mU=(0,0)∧lS (dN l) wY=(0,0):=by
 have:lS (dN []) mU=(0,0)∧lS (dN []) wY=(0,0):=uA;exact this
theorem Oa:jW (dN []) mU wY=1∧jW (dN []) wY mU=1∧jW (dN []) mU mU=0∧jW (dN []) wY wY=0:=uA
theorem R9(v:Int):eZ v (0,0)=(v,v):=by simp[eZ,sP]
theorem NC{v a:Int}:Mem v [(a,b)]↔a≤v∧v≤b:=by rw[mem_cons];simp[gU]
theorem adg{m:Nat→Int}:F6 (dN []) m↔(10001≤m 0∧m 0≤10004)∧(10001≤m 1∧m 1≤10009)∧m 1-1≤m 0∧m 0-1≤m 1:=by
 have e0:(dN []).sheets[0]?=some mU:=rfl;have e1:(dN []).sheets[1]?=some wY:=rfl;constructor
 ·intro h;have h0:=h.mem 0 _ e0;have h1:=h.mem 1 _ e1;have b0:=h.wind 0 1 _ _ e0 e1;have b1:=h.wind 1 0 _ _ e1 e0;rw[ade,(Ob []).1]at h0;rw[adf,(Ob []).2]at h1;rw[Oa.1]at b0;rw[Oa.2.1]at b1;simp only[R9,NC]at h0 h1;omega
 ·intro⟨h0,h1,b0,b1⟩;refine⟨λi f hf=>?_,λi k f g hf hg=>?_⟩
  ·match i,hf with
   |0,hf=>cases hf;rw[ade,(Ob []).1];exact⟨m 0,by rw[NC];exact h0,ay8⟩
   |1,hf=>cases hf;rw[adf,(Ob []).2];exact⟨m 1,by rw[NC];exact h1,ay8⟩
  ·match i,k,hf,hg with
   |0,0,hf,hg=>cases hf;cases hg;rw[Oa.2.2.1];omega
   |0,1,hf,hg=>cases hf;cases hg;rw[Oa.1];omega
   |1,0,hf,hg=>cases hf;cases hg;rw[Oa.2.1];omega
   |1,1,hf,hg=>cases hf;cases hg;rw[Oa.2.2.2];omega
theorem R7:iK (dN []):=⟨λ_=>10001,adg.2 aW⟩
theorem amv:¬iK (dN rP):=by
 rintro⟨m,hm⟩;obtain⟨v,hv,_⟩:=hm.mem 0 mU rfl;rw[azv]at hv;exact gU v hv
theorem adh(h:qH (dN []) 0 L):L=[(10001,10004)]:=by
 refine I9 h.1 (by unfold bF;simp) λv=>?_;rw[GK (show(dN []).sheets[0]?=some mU from rfl) h,ade,(Ob []).1,NC];simp only[R9,adg];constructor
 ·exact λh=>h.1
 ·intro h;refine⟨h,λ_=>v,?_,?_⟩
  ·show(10001≤v∧v≤10004)∧(10001≤v∧v≤10009)∧v-1≤v∧v-1≤v
   omega
  ·exact⟨oo _,oo _⟩
theorem amz(h:qH (dN []) 1 L):L=[(10001,10005)]:=by
 refine I9 h.1 (by unfold bF;simp) λv=>?_;rw[GK (show(dN []).sheets[1]?=some wY from rfl) h,adf,(Ob []).2,NC,NC];simp only[R9,adg];constructor
 ·rintro⟨h1,m,h2,h3,h4⟩;omega
 ·intro h;refine⟨ae,λi=>if i=0 then min v 10004 else v,?_,?_⟩
  ·simp only[if_true,Nat.one_ne_zero,if_false];omega
  ·simp
theorem azl{l:List (List Sp)}(h:Oz (dN []) 0 l):l=[[(9998,10001)],[(10001,10004)],[(10001,10007)]]:=by
 obtain⟨_,f,_,hf,_,_,e⟩:=h;cases hf;rw[e];exact amt
theorem azm:∃l,Oz (dN []) 0 l:=⟨_,R6,mU,aW,rfl,Lj [] mU (by simp[dN]),by rw[amt];simp[aP],rfl⟩
theorem azy{l:List (List Sp)}(h:ZM (dN []) l):l=[[(10001,10004)],[(10001,10005)]]:=by
 obtain⟨hl,ht⟩:=h.2.2.2;have h0:=adh (ht 0 aW);have h1:=amz (ht 1 aW);have hl2:l.length=2:=hl
 obtain⟨a,b,rfl⟩:∃a b,l=[a,b]:=by
  match l,hl2 with
  |[a,b],_=>exact⟨a,b,rfl⟩
 simp[aP]at h0 h1;rw[h0,h1]
theorem azw:xq (dN []) wY [(10001,10005)]=[[(10004,10007)],[(10001,10005)],[(9998,10008)]]:=uA
theorem azu{l:List (List Sp)}(h:Eb (dN []) 1 l):l=[[(10004,10007)],[(10001,10005)],[(9998,10008)]]:=by
 obtain⟨_,_,_,f,L,_,hf,hT,e⟩:=h;cases hf;rw[e,amz hT];exact azw
theorem amu:QC (dN []) mU [(10001,10004)] 0 1 2=2∧QC (dN []) mU [(10001,10004)] 0 0 2=1:=uA
theorem azx{n:Int}(h:CF (dN []) 0 0 2 2 n):n=2:=by
 obtain⟨_,_,_,_,f,L,hf,hT,e⟩:=h;cases hf;rw[e,adh hT];exact amu.1
theorem azq{n:Int}(h:CF (dN []) 0 0 1 2 n):n=1:=by
 obtain⟨_,_,_,_,f,L,hf,hT,e⟩:=h;cases hf;rw[e,adh hT];exact amu.2
theorem amy:sW (dN []) 0 0 2 2=true∧sW (dN []) 0 0 1 2=true:=uA
theorem azs:KJ (dN rP) mU=[2]:=uA
theorem azr{l:List Int}(h:Ue (dN rP) 0 l):l=[2]:=by
 obtain⟨_,f,_,hf,_,e⟩:=h;cases hf;rw[e];exact azs
theorem azt:∃l,Ue (dN rP) 0 l:=⟨_,amw,mU,aW,rfl,Lj rP mU (by simp[dN]),rfl⟩
section
attribute [local go_sem] Qv
theorem I7{s:Shape α}{w:World}:s.list.reads A w [.slice none 0 0] []:=⟨none,0,rfl,aj,aj,aj⟩
theorem ak1{s:Shape α}{w:World}{ds:List Value}{x y:α}{t:TypeId}(hr:s.reads A w cs x)(hq:s.reads A w ds y)(hB:w.heap.size=B)(hA:A B):s.list.reads A (w.alloc (.cells (cs++ds).toArray t)) [.slice (some ⟨B,0,none⟩) 2 2] [x,y]:=by
 have h1:=ak0 (t:=t) (s.mono hr λ_ _ _=>trivial) (s.mono hq λ_ _ _=>trivial) hB;obtain⟨a,c,e,h2,h3,h4⟩:=h1;simp only[oC,qY,qZ]at e;obtain⟨rfl,e2,rfl⟩:=e;refine⟨_,_,rfl,aj,qN,λh0=>?_⟩;obtain⟨b,o,e,hb,_,hr2⟩:=h4 h0;cases e;have hbl:BL w (w.alloc (.cells (cs++ds).toArray t)):=Bl.alloc (aB _ _) _;have hl:=s.len hr;have hl2:=s.len hq;refine⟨_,_,rfl,hb,hA,λk hk=>?_⟩;have X:=Bx.new (t:=t) (vs:=cs++ds) hB
 match k,hk with
 |0,_=>exact⟨cs,s.below hr hbl,λj hj=>by rw[show 0+0*s.n+j=j from aj,X.cell,PU ae]⟩
 |1,_=>exact⟨ds,s.below hq hbl,λj hj=>by rw[show 0+1*s.n+j=s.n+j from aj,X.cell,PV ae,hl,Nat.add_sub_cancel_left]⟩
theorem aB4{w:World}{d:Option Nat}{t:TypeId}{x y:Operand}{pos:String}{ds:List Value}(hb:∀W,(Instr.buildSlice t 2 #[(0,.agg cs.toArray),(1,.agg ds.toArray)]).run P W=.ok (.slice (some ⟨W.heap.size,0,none⟩) 2 2) (W.alloc (.cells (cs++ds).toArray e)))(hx:a.eval x=.agg cs.toArray)(hy:a.eval y=.agg ds.toArray)(h:wpList P ops Q rest (a.put d (.slice (some ⟨w.heap.size,0,none⟩) 2 2)) (w.alloc (.cells (cs++ds).toArray e))):wpList P ops Q (Oper.mk d (.buildSlice t 2 #[(0,x),(1,y)]) ty pos af none::rest) a w:=by
 refine Jv rfl λ_ hK=>?_;unfold Oper.wp execOp;simp only[PY,oG,Av,hx,hy,wU,hb,AB];exact hK _ _ h
theorem aii(c:Nat):∀(cs:List Value) (n:Nat) (z:Array Value) (j:Nat),c+n+cs.length≤z.size→((cs.zipIdx n).foldl (λa x=>a.setIfInBounds (c+x.2) x.1) z)[j]?=if c+n≤j∧j<c+n+cs.length then cs[j-(c+n)]? else z[j]?
 |[],n,z,j,_=>ay5
 |d::cs,n,z,j,h=>by
  rw[Zx,xO,aii c cs (n+1) _ j (by simp at h ⊢;omega)];by_cases h1:c+(n+1)≤j∧j<c+(n+1)+cs.length
  ·rw[aG h1,aG ads,show j-(c+n)=(j-(c+(n+1)))+1 from ae,bB]
  ·rw[aD h1];by_cases h2:j=c+n
   ·subst h2;rw[aG aj];simp at h;simp[show c+n<z.size from ae]
   ·exact aFA
theorem aaD(g:Nat→Nat):∀(l:List (Value×Nat)) (z:Array Value),(l.foldl (λa x=>a.setIfInBounds (g x.2) x.1) z).size=z.size
 |[],_=>rfl
 |p::l,z=>by rw[xO,aaD g l];simp
theorem ate{z:Array Value}{ds:List Value}{n:Nat}(hc:cs.length=n)(hd:ds.length=n)(hz:z.size=n+n):ds.zipIdx.foldl (λa x=>a.setIfInBounds (n+x.2) x.1) (cs.zipIdx.foldl (λa x=>a.setIfInBounds x.2 x.1) z)=(cs++ds).toArray:=by
 have hs:=aaD (λk=>k) cs.zipIdx z;apply aec;intro j;rw[aii n ds 0 _ j (by rw[hs];omega),fold_at cs 0 z j ae];simp only[List.getElem?_toArray,Zp,oI,oJ,Nat.sub_zero,tX,Js];by_cases h1:j<n
 ·rw[aD ae,aG ae,aG ae]
 ·by_cases h2:j<n+n
  ·rw[aG ae,aD ae,hc]
  ·rw[aD ae,aD ae,aD ae,aed ae,wT ae]
theorem awL{ds:List Value}(hl:cs.length=24)(hd:ds.length=24)(W:World):(Instr.buildSlice 27 2 #[(0,.agg cs.toArray),(1,.agg ds.toArray)]).run prog W=.ok (.slice (some ⟨W.heap.size,0,none⟩) 2 2) (W.alloc (.cells (cs++ds).toArray 65)):=by
 have hs:=λz=>aaD (λk=>k) cs.zipIdx z;have h:=λz hz=>ate (z:=z) hl hd hz;simp[go_sem,hl,hd,hs,h]
theorem ahd(i:Int)(b1 n1 b2:Nat)(W:World):(Instr.build 65 #[(1,.int .i64 i),(3,.agg (iq (Lp []) (.slice (some ⟨b1,0,none⟩) n1 n1) (.slice none 0 0) (.slice (some ⟨b2,0,none⟩) 1 1) (.slice none 0 0)).toArray)]).run prog W=.ok (.agg (iW ⟨0,0,i,0,Lp [],[],[]⟩ (.slice (some ⟨b1,0,none⟩) n1 n1) (.slice none 0 0) (.slice (some ⟨b2,0,none⟩) 1 1) (.slice none 0 0) (.slice none 0 0) (.slice none 0 0)).toArray) W:=acK W _ _ _ aF
theorem aCb(w:World):Calls prog 22 #[] w λe w'=>∃cx,e=.returned (.agg cx.toArray)∧dM w' (dN []) cx∧BL w w':=by
 obtain⟨S0,hS0⟩:∃S,Hid (iq (Lp []) (.slice none 0 0) (.slice none 0 0) (.slice (some ⟨w.heap.size+1+1,0,none⟩) 1 1) (.slice none 0 0)=S):=⟨_,U rfl⟩;have xM:Hid (S0.length=18):=U (by rw[←hS0.o];rfl);have tO:Hid (∀u∈S0,u.oneCell'=true):=U (by rw[←hS0.o];exact Lr rfl rfl rfl rfl);go_in;go_wp2_with (first|(refine xA (cs:=S0) fZ rfl (by rw[←hS0.o];rfl) aj rfl xM.o tO.o ?_)|(with_reducible_and_instances refine dI 15 ?_))
 have h0:=Bl.alloc (Bl.alloc (aB w.heap.size w) (.cells #[.slice none 0 0,.int .i64 0,.int .i64 0,.int .i64 0,.int .i64 0,.int .i64 0,.int .i64 0,.slice none 0 0,.slice none 0 0] 30)) (.cells #[.int .i64 1000,.int .i64 1000] 41);have X0:=(Bx.new (W:=w) (t:=30) (vs:=[.slice none 0 0,.int .i64 0,.int .i64 0,.int .i64 0,.int .i64 0,.int .i64 0,.int .i64 0,.slice none 0 0,.slice none 0 0]) rfl).alloc (.cells #[.int .i64 1000,.int .i64 1000] 41);have hs:((w.alloc (.cells #[.slice none 0 0,.int .i64 0,.int .i64 0,.int .i64 0,.int .i64 0,.int .i64 0,.int .i64 0,.slice none 0 0,.slice none 0 0] 30)).alloc (.cells #[.int .i64 1000,.int .i64 1000] 41)).heap.size=w.heap.size+1+1:=aj;generalize (w.alloc (.cells #[.slice none 0 0,.int .i64 0,.int .i64 0,.int .i64 0,.int .i64 0,.int .i64 0,.int .i64 0,.slice none 0 0,.slice none 0 0] 30)).alloc (.cells #[.int .i64 1000,.int .i64 1000] 41)=u0 at *;have OR:=K5 (w:=u0) (e:=41) (n:=2) (enc:=λp:Sp=>[Value.int .i64 p.1,Value.int .i64 p.2]) (base:=w.heap.size+1) (xs:=[(1,2)]) (m:=1) (cs:=[.int .i64 1,.int .i64 2]) hs ae aW rfl rfl rfl;have h1:=Bl.alloc h0 (.cells #[.int .i64 1,.int .i64 2] 41);have X1:=X0.alloc (.cells #[.int .i64 1,.int .i64 2] 41)
 have hs1:(u0.alloc (.cells #[.int .i64 1,.int .i64 2] 41)).heap.size=w.heap.size+1+1+1:=by rw[fH,hs]
 clear h0 X0 hs;generalize u0.alloc (.cells #[.int .i64 1,.int .i64 2] 41)=u1 at *;have h2:=Bl.alloc h1 (.cells S0.toArray 61);have X2:=X1.alloc (.cells S0.toArray 61);have OR2:=il OR (Bl.alloc (aB u1.heap.size u1) (.cells S0.toArray 61));have D5:=U (Bx.new (W:=u1) (t:=61) (vs:=S0) hs1);have hs2:(u1.alloc (.cells S0.toArray 61)).heap.size=w.heap.size+1+1+1+1:=by rw[fH,hs1]
 clear h1 X1 OR hs1;generalize u1.alloc (.cells S0.toArray 61)=u2 at *;have HB2:=U h2;have bg:=U X2;have bL:=U OR2;have HZ2:=U hs2;clear h2 X2 OR2 hs2;refine⟨?_⟩;have Aa:=U (Cx.whole D5.o);refine dh fZ rfl Aa.o xM.o ?_;go_wp2_with (first|(refine xA (cs:=S0) fZ rfl rfl rfl rfl xM.o tO.o ?_)|(with_reducible_and_instances refine dI 16 ?_))
 have h3:=Bl.alloc HB2.o (.cells S0.toArray 61);have Nr:=Bl.alloc (aB u2.heap.size u2) (.cells S0.toArray 61);have bP:=U (bg.o.alloc (.cells S0.toArray 61));have ja:=U (il bL.o Nr);have afE:=U (D5.o.next Nr);have Fz:=U (Bx.new (W:=u2) (t:=61) (vs:=S0) rfl);have hs3:(u2.alloc (.cells S0.toArray 61)).heap.size=u2.heap.size+1:=aj;have HB3:=U h3;have HZ3:=U hs3;clear h3 Nr hs3 Aa D5 bL bg HB2;generalize u2.alloc (.cells S0.toArray 61)=u3 at *;obtain⟨b4,hb4⟩:∃b,Hid (u2.heap.size=b):=⟨_,U rfl⟩;rw[hb4.o]at Fz HZ3 HZ2 ⊢;refine⟨?_⟩;have c10:=(Fz.o.cell 10).trans (by rw[←hS0.o];rfl:S0[10]?=some (.slice none 0 0));have f10:=Fz.o.free 10;have l4:=Fz.o.lt;have aga:=HZ3.o;go_wp2_with (with_reducible_and_instances refine dI 20 ?_)
 refine⟨?_⟩;have akq:=HZ2.o;have hT:=aA.setCell (λq=>q=b4) u3 ⟨b4,10,none⟩ (.slice (some ⟨b4+1,0,none⟩) 2 2) rfl;obtain⟨SA,hSA⟩:∃S,Hid (iq (Lp []) (.slice (some ⟨b4+1,0,none⟩) 2 2) (.slice none 0 0) (.slice (some ⟨w.heap.size+1+1,0,none⟩) 1 1) (.slice none 0 0)=S):=⟨_,U rfl⟩;have aX:=bP.o.turns hT ae;have afF:=afE.o.turns hT ae;have wI:=(Fz.o.set 10 (.slice (some ⟨b4+1,0,none⟩) 2 2) (by rw[xM.o];decide)).val (us:=SA) (by rw[←hSA.o,←hS0.o];rfl);have fu:=fO ja.o hT (λk hk e=>by cases hk;have e':w.heap.size+1+1=b4:=e;omega);have bX:=aA.low HB3.o hT (λk e=>ae);have EG:(u3.setCell ⟨b4,10,none⟩ (.slice (some ⟨b4+1,0,none⟩) 2 2)).heap.size=b4+1:=by simp[aga]
 clear hT c10 f10 l4;generalize u3.setCell ⟨b4,10,none⟩ (.slice (some ⟨b4+1,0,none⟩) 2 2)=u4 at *;have OP:=K5 (w:=u4) (e:=115) (n:=3) (enc:=λp:dF=>[Value.int .i64 p.1,Value.int .i64 p.2.1,Value.int .i64 p.2.2]) (base:=w.heap.size+1) (xs:=[(50,500,0),(150,503,0)]) (m:=2) (cs:=[.int .i64 50,.int .i64 500,.int .i64 0,.int .i64 150,.int .i64 503,.int .i64 0]) EG ae aW rfl rfl rfl;have hst:=Bl.alloc (aB u4.heap.size u4) (.cells #[.int .i64 50,.int .i64 500,.int .i64 0,.int .i64 150,.int .i64 503,.int .i64 0] 115);have aU:=U (aX.next hst);have afG:=U (afF.next hst);have BI:=U (wI.next hst);have iA:=U (il fu hst);have eD:=U (Bl.call bX hst);have HP5:=U OP;have vQ:(u4.alloc (.cells #[.int .i64 50,.int .i64 500,.int .i64 0,.int .i64 150,.int .i64 503,.int .i64 0] 115)).heap.size=b4+2:=by rw[fH,EG]
 clear hst aX afF wI fu bX OP EG bP afE Fz ja HB3 HZ3 aga;generalize u4.alloc (.cells #[.int .i64 50,.int .i64 500,.int .i64 0,.int .i64 150,.int .i64 503,.int .i64 0] 115)=u5 at *;have HC5:=U (Cx.whole afG.o);obtain⟨b6,hb6⟩:∃b,Hid (u5.heap.size=b):=⟨_,U rfl⟩;have Uc:=U vQ;have Zg:=U akq;clear vQ akq;refine dh fZ rfl HC5.o xM.o ?_;go_wp2_with (first|(refine xA (cs:=S0) fZ rfl rfl rfl rfl xM.o tO.o ?_)|(with_reducible_and_instances refine dI 21 ?_))
 have hst:=Bl.alloc (aB u5.heap.size u5) (.cells S0.toArray 61);have bI:=U (aU.o.next hst);have HA6:=U (BI.o.next hst);have TA:=U (il iA.o hst);have dD:=U (Bl.call eD.o hst);have HP6:=U (il HP5.o hst);have yP:=U (Bx.new (W:=u5) (t:=61) (vs:=S0) hb6.o);have vR:(u5.alloc (.cells S0.toArray 61)).heap.size=b6+1:=by rw[fH,hb6.o]
 rw[hb6.o]at Uc ⊢;clear hst aU afG BI iA eD HP5 HC5;generalize u5.alloc (.cells S0.toArray 61)=u6 at *;refine⟨?_⟩;have c10:=(yP.o.cell 10).trans (by rw[←hS0.o];rfl:S0[10]?=some (.slice none 0 0));have f10:=yP.o.free 10;have l4:=yP.o.lt;go_wp2_with (with_reducible_and_instances refine dI 25 ?_)
 refine⟨?_⟩;have hzz:=Zg.o;have avt:=Uc.o;have hT:=aA.setCell (λq=>q=b6) u6 ⟨b6,10,none⟩ (.slice (some ⟨b6+1,0,none⟩) 1 1) rfl;obtain⟨SB,hSB⟩:∃S,Hid (iq (Lp []) (.slice (some ⟨b6+1,0,none⟩) 1 1) (.slice none 0 0) (.slice (some ⟨w.heap.size+1+1,0,none⟩) 1 1) (.slice none 0 0)=S):=⟨_,U rfl⟩;have bD:=bI.o.turns hT ae;have zV:=HA6.o.turns hT ae;have TF:=(yP.o.set 10 (.slice (some ⟨b6+1,0,none⟩) 1 1) (by rw[xM.o];decide)).val (us:=SB) (by rw[←hSB.o,←hS0.o];rfl);have He:=fO TA.o hT (λk hk e=>by cases hk;have e':w.heap.size+1+1=b6:=e;omega);have HP7:=fO HP6.o hT (λk hk e=>by cases hk;have e':b4+1=b6:=e;omega);have iy:=aA.low dD.o hT (λk e=>ae);have uJ:(u6.setCell ⟨b6,10,none⟩ (.slice (some ⟨b6+1,0,none⟩) 1 1)).heap.size=b6+1:=by simp[vR]
 clear hT c10 f10 l4;generalize u6.setCell ⟨b6,10,none⟩ (.slice (some ⟨b6+1,0,none⟩) 1 1)=u7 at *;have OP:=K5 (w:=u7) (e:=115) (n:=3) (enc:=λp:dF=>[Value.int .i64 p.1,Value.int .i64 p.2.1,Value.int .i64 p.2.2]) (base:=w.heap.size+1) (xs:=[(50,505,0)]) (m:=1) (cs:=[.int .i64 50,.int .i64 505,.int .i64 0]) uJ ae aW rfl rfl rfl;have hst:=Bl.alloc (aB u7.heap.size u7) (.cells #[.int .i64 50,.int .i64 505,.int .i64 0] 115);have qD:=U (bD.next hst);have vw:=U (zV.next hst);have Ho:=U (TF.next hst);have BZ:=U (il He hst);have HP8:=U (il HP7 hst);have cZ:=U (Bl.call iy hst);have HQ8:=U OP;have lU:(u7.alloc (.cells #[.int .i64 50,.int .i64 505,.int .i64 0] 115)).heap.size=b6+2:=by rw[fH,uJ]
 clear hst bD zV TF He HP7 iy OP uJ bI HA6 yP TA HP6 dD vR;generalize u7.alloc (.cells #[.int .i64 50,.int .i64 505,.int .i64 0] 115)=u8 at *;obtain⟨b8,bq⟩:∃b,Hid (u8.heap.size=b):=⟨_,U rfl⟩;have Ud:=U lU;clear lU hzz avt;go_wp2_with (with_reducible_and_instances refine dI 33 ?_)
 rw[bq.o];refine⟨?_⟩;have lU:=Ud.o;have vQ:=Uc.o;have hzz:=Zg.o;have OH:=K5 (w:=u8) (e:=117) (n:=3) (enc:=CV) (base:=w.heap.size+1) (xs:=[(0,0,0)]) (m:=1) (cs:=[.int .i64 0,.int .i64 0,.int .i64 0]) bq.o ae aW rfl rfl rfl;have hst:=Bl.alloc (aB u8.heap.size u8) (.cells #[.int .i64 0,.int .i64 0,.int .i64 0] 117);have fF:=qD.o.next hst;have HA9:=vw.o.next hst;have TG:=Ho.o.next hst;have mK:=il BZ.o hst;have HP9:=il HP8.o hst;have HQ9:=il HQ8.o hst;have gm:=Bl.call cZ.o hst;have A8:(u8.alloc (.cells #[.int .i64 0,.int .i64 0,.int .i64 0] 117)).heap.size=b8+1:=by rw[fH,bq.o]
 generalize u8.alloc (.cells #[.int .i64 0,.int .i64 0,.int .i64 0] 117)=u9 at *;have IV:=Bl.alloc (aB u9.heap.size u9) (.cells #[.int .i64 1,.int .i64 0,.int .i64 0,.slice (some ⟨b8,0,none⟩) 1 1,.int .i64 2,.int .i64 3,.int .i64 4,.slice (some ⟨b8,0,none⟩) 1 1] 85);have hh:=Shape.mono _ (Bo jC (e:=117) OH) (A':=λq=>w.heap.size+1≤q) λq _ h=>h;have HST:=ak1 (s:=Shape.sta) (w:=u9) (t:=85) (x:=(1,0,0,[(0,0,0)])) (y:=(2,3,4,[(0,0,0)])) (BD.2 ⟨_,rfl,hh⟩) (BD.2 ⟨_,rfl,hh⟩) A8 (show w.heap.size+1≤b8+1 by have:=bq.o;omega);have afK:Shape.sta.list.reads (λq=>w.heap.size+1≤q) (u9.alloc (.cells #[.int .i64 1,.int .i64 0,.int .i64 0,.slice (some ⟨b8,0,none⟩) 1 1,.int .i64 2,.int .i64 3,.int .i64 4,.slice (some ⟨b8,0,none⟩) 1 1] 85)) [.slice (some ⟨b8+1,0,none⟩) 2 2] [(1,0,0,[(0,0,0)]),(2,3,4,[(0,0,0)])]:=HST;have Ao:=U (fF.next IV);have aof:=U (HA9.next IV);have YS:=U (TG.next IV);have aoZ:=U (il mK IV);have Pf:=U (il HP9 IV);have apb:=U (il HQ9 IV);have yH:=U (Bl.call gm IV);have apx:=U afK;have KN:(u9.alloc (.cells #[.int .i64 1,.int .i64 0,.int .i64 0,.slice (some ⟨b8,0,none⟩) 1 1,.int .i64 2,.int .i64 3,.int .i64 4,.slice (some ⟨b8,0,none⟩) 1 1] 85)).heap.size=b8+2:=by rw[fH,A8]
 clear hst IV fF HA9 TG mK HP9 HQ9 gm HST afK OH hh A8 qD vw Ho BZ HP8 HQ8 cZ;generalize u9.alloc (.cells #[.int .i64 1,.int .i64 0,.int .i64 0,.slice (some ⟨b8,0,none⟩) 1 1,.int .i64 2,.int .i64 3,.int .i64 4,.slice (some ⟨b8,0,none⟩) 1 1] 85)=Xe at *;have nz:Hid (SA.length=18):=U (by rw[←hSA.o];rfl);have pG:Hid (SB.length=18):=U (by rw[←hSB.o];rfl);obtain⟨FA,hFA⟩:∃F,Hid (iW mU (.slice (some ⟨b4+1,0,none⟩) 2 2) (.slice none 0 0) (.slice (some ⟨w.heap.size+1+1,0,none⟩) 1 1) (.slice none 0 0) (.slice none 0 0) (.slice none 0 0)=F):=⟨_,U rfl⟩;obtain⟨FB,hFB⟩:∃F,Hid (iW wY (.slice (some ⟨b6+1,0,none⟩) 1 1) (.slice none 0 0) (.slice (some ⟨w.heap.size+1+1,0,none⟩) 1 1) (.slice none 0 0) (.slice none 0 0) (.slice none 0 0)=F):=⟨_,U rfl⟩;have kN:Hid (∀W,(Instr.build 65 #[(1,.int .i64 1),(3,.agg SA.toArray)]).run prog W=.ok (.agg FA.toArray) W):=U (λW=>by rw[←hSA.o,←hFA.o];exact ahd 1 _ _ _ W);have jK:Hid (∀W,(Instr.build 65 #[(1,.int .i64 2),(3,.agg SB.toArray)]).run prog W=.ok (.agg FB.toArray) W):=U (λW=>by rw[←hSB.o,←hFB.o];exact ahd 2 _ _ _ W);have Fq:=U (λW=>awL (cs:=FA) (ds:=FB) (by rw[←hFA.o];rfl) (by rw[←hFB.o];rfl) W)
 have XZ:=U (Cx.whole aof.o);have HCB:=U (Cx.whole YS.o);have apT:=U KN;clear lU vQ hzz KN;refine dh fZ rfl XZ.o nz.o ?_;go_wp2_with (first|(refine SL kN.o rfl ?_)|(refine dh fZ rfl HCB.o pG.o ?_)|(refine SL jK.o rfl ?_)|(refine aB4 Fq.o rfl rfl ?_)|(with_reducible_and_instances refine dI 38 ?_))
 have lU:=Ud.o;have vQ:=Uc.o;have hzz:=Zg.o;have KN:=apT.o;have aui:=bq.o;have hst:=Bl.alloc (aB Xe.heap.size Xe) (.cells (FA++FB).toArray 65);have ro:=Shape.mono _ (Bo mE (e:=41) aoZ.o) (A':=λq=>w.heap.size+1≤q) λq _ h=>h;have rp:=Shape.mono _ (Bo NT (e:=115) Pf.o) (A':=λq=>w.heap.size+1≤q) λq _ h=>h;have rq:=Shape.mono _ (Bo NT (e:=115) apb.o) (A':=λq=>w.heap.size+1≤q) λq _ h=>h;have nD:=U (ak1 (s:=Shape.fil) (w:=Xe) (t:=65) (x:=mU) (y:=wY) (cs:=FA) (ds:=FB) (A:=λq=>w.heap.size+1≤q) ⟨_,_,_,_,_,_,hFA.o.symm,⟨rp,I7,ro,I7⟩,I7,I7⟩ ⟨_,_,_,_,_,_,hFB.o.symm,⟨rq,I7,ro,I7⟩,I7,I7⟩ KN (show w.heap.size+1≤b8+2 from ae));have yQ:=U (Shape.below apx.o hst);have tV:=U (Ao.o.next hst);have DR:=U (Bl.call yH.o hst);rw[KN];clear hst ro rp rq lU vQ hzz KN aui;generalize Xe.alloc (.cells (FA++FB).toArray 65)=uf at *;refine⟨?_⟩;obtain⟨W9,Vt⟩:∃S,Hid (dm (dN []) (.slice (some ⟨b8+1,0,none⟩) 2 2) (.slice (some ⟨b8+2,0,none⟩) 2 2) (.slice none 0 0)=S):=⟨_,U rfl⟩;have mM:Hid (W9.length=9):=U (by rw[←Vt.o];rfl);have HW1:Hid (∀u∈W9,u.oneCell'=true):=U (by rw[←Vt.o];intro u hu;simp only[dm,mP,Ec,Bp]at hu;rcases hu with rfl|rfl|rfl|rfl|rfl|rfl|rfl|rfl|rfl<;>rfl)
 go_wp2_with (refine SS (cs:=W9) (B:=w.heap.size) (o:=0) bK rfl (by rw[←Vt.o];rfl) tV.o mM.o aW HW1.o ?_)
 have PI:=(tV.o.cells (o:=0) (cs:=W9) (by rw[mM.o];decide)).val (Wm (by rw[mM.o];rfl));obtain⟨ct,cf,hco⟩:=PI.obj (by rw[mM.o];decide);have hT:aA (λq=>q=w.heap.size) uf (uf.setCells w.heap.size 0 W9):=aA.setCells (own:=λq=>q=w.heap.size) rfl W9 0 uf;refine kE (Lb results22 _ _ _ ct _ cf _ rfl hco underlying30 rfl (by rw[jb,mM.o];kernel_rfl)) rfl ⟨W9,rfl,⟨_,_,_,Vt.o.symm,?_,?_,aC.nil⟩,aA.low DR.o hT (λq e=>ae)⟩
 ·exact Shape.list_far (Shape.keep _ yQ.o (hT.same λq h _ e=>by have:w.heap.size+1≤q:=h;omega))
 ·exact Shape.list_far (Shape.keep _ (Shape.mono _ nD.o (A':=λq=>w.heap.size+1≤q) λq _ h=>h) (hT.same λq h _ e=>by have:w.heap.size+1≤q:=h;omega))
end
theorem azn:nL (dN rP)=[(2,(0,0))]:=rfl
theorem amx:yj (nL (dN rP))=[[],[(2,(0,0))]]:=rfl
theorem azz:lF (dN rP) (zA [])=dN []:=by
 have:zA []=λ_=>true:=by funext c;simp[zA]
 rw[this];rfl
theorem azA:lF (dN rP) (zA [(2,(0,0))])=dN rP:=rfl
theorem azo{l:List fB}(h:aem (dN rP) l):l=[(2,(0,0))]:=by
 obtain⟨_,_,_,_,pre,post,e,hp,hn⟩:=h;rw[amx]at e
 match pre,e with
 |[],e=>
  simp only[fE,oC]at e;rw[←e.1,azz]at hn;exact absurd R7 hn
 |[a],e=>
  simp only[gB,fE,oC]at e;exact e.2.1.symm
 |a::b::pre,e=>
  have:=gQ List.length e;simp at this
theorem azp:¬ael (dN rP):=by
 rintro(h|h|h)
 ·exact h ⟨amw,by rw[azn];decide,Lj rP⟩
 ·exact amv h
 ·have:=h [(2,(0,0))] (by rw[amx];simp);rw[azA]at this;exact amv this
section
attribute [local go_sem] Qv
theorem Rt{b:Nat}{lo:Int}(h:Bx b [lo,hi] W):aC Shape.span W (.slice (some ⟨b,0,none⟩) 1 1) [(lo,hi)]:=by
 refine⟨_,1,rfl,aj,qN,λ_=>⟨b,0,rfl,h.lt,trivial,λk hk=>?_⟩⟩;have hk0:k=0:=BC;subst hk0;exact⟨[lo,hi],⟨_,_,rfl,rfl,rfl⟩,λj _=>by have:=h.cell j;simpa using this⟩
theorem akY{s:Shape α}{b n:Nat}{xs:List (List α)}(h:Bx b vs W)(hn:vs.length=n)(hx:xs.length=n)(hm:n≤maxLen)(hl:∀(k:Nat) (v:Value) (x:List α),vs[k]?=some v→xs[k]?=some x→aC s W v x):aC s.list W (.slice (some ⟨b,0,none⟩) n n) xs:=by
 subst hx;refine⟨_,xs.length,rfl,aV _,hm,λ_=>⟨b,0,rfl,h.lt,trivial,λk hk=>?_⟩⟩;have hk':k<vs.length:=ae;refine⟨[vs[k]],hl k _ _ (di hk') (di hk),λj hj=>?_⟩;have hj0:j=0:=by have:s.list.n=1:=rfl;omega
 subst hj0;have:=h.cell k;rw[di hk']at this;simpa[show s.list.n=1 from rfl]using this
theorem awV{p:Addr}{ar:Option Addr}{cr:Nat}{xs:List Sp}(h:aC Shape.span W v xs)(hc:W.cell? p=some (.slice ar 0 cr)):aC Shape.span (W.setCell p u) v xs:=by
 obtain⟨a,c,e,h1,h2,h3⟩:=h;refine⟨a,c,e,h1,h2,λh0=>?_⟩;obtain⟨b,o,e2,hb,hA,hr⟩:=h3 h0;refine⟨b,o,e2,by simpa using hb,hA,λk hk=>?_⟩;obtain⟨cs,g1,g2⟩:=hr k hk;have g3:=mE.1 g1;refine⟨cs,mE.2 g3,λj hj=>?_⟩;rw[Qg _ _ _ _ (λe=>?_)]
 ·exact g2 j hj
 ·have g4:=g2 j hj;rw[←e,hc,g3]at g4
  match j,hj with
  |0,_=>cases g4
  |1,_=>cases g4
theorem ab6{p:Addr}{ar:Option Addr}{cr:Nat}{xs:List (List Sp)}(h:aC Shape.span.list W v xs)(hn:∀x∈xs,x≠[])(hc:W.cell? p=some (.slice ar 0 cr)):aC Shape.span.list (W.setCell p u) v xs:=by
 obtain⟨a,c,e,h1,h2,h3⟩:=h;refine⟨a,c,e,h1,h2,λh0=>?_⟩;obtain⟨b,o,e2,hb,hA,hr⟩:=h3 h0;refine⟨b,o,e2,by simpa using hb,hA,λk hk=>?_⟩;obtain⟨cs,g1,g2⟩:=hr k hk;obtain⟨v',rfl,hv'⟩:=EI.1 g1;refine⟨[v'],awV hv' hc,λj hj=>?_⟩;rw[Qg _ _ _ _ (λe=>?_)]
 ·exact g2 j hj
 ·have g4:=g2 j hj;have hj0:j=0:=by have:Shape.span.list.n=1:=rfl;omega
  subst hj0;rw[←e,hc]at g4;obtain⟨a',c',e',_,_⟩:=(Shape.list_far hv').shape;simp only[aK,Cy]at g4;rw[e']at g4;simp only[qY]at g4;exact hn _ (eu hk) (jo g4.2.1.symm)
theorem akU(w:World)(a b c d e f:Int)(t1 t2:TypeId):aC Shape.span.list ((((w.alloc (.cells #[a,b] t1)).alloc (.cells #[c,d] t1)).alloc (.cells #[e,f] t1)).alloc (.cells #[.slice (some ⟨w.heap.size,0,none⟩) 1 1,.slice (some ⟨w.heap.size+1,0,none⟩) 1 1,.slice (some ⟨w.heap.size+1+1,0,none⟩) 1 1] t2)) (.slice (some ⟨w.heap.size+1+1+1,0,none⟩) 3 3) [[(a,b)],[(c,d)],[(e,f)]]:=by
 have X1:=(((Bx.new (W:=w) (t:=t1) (vs:=[.int .i64 a,.int .i64 b]) rfl).alloc (.cells #[c,d] t1)).alloc (.cells #[e,f] t1)).alloc (.cells #[.slice (some ⟨w.heap.size,0,none⟩) 1 1,.slice (some ⟨w.heap.size+1,0,none⟩) 1 1,.slice (some ⟨w.heap.size+1+1,0,none⟩) 1 1] t2);have X2:=((Bx.new (W:=w.alloc (.cells #[a,b] t1)) (B:=w.heap.size+1) (t:=t1) (vs:=[.int .i64 c,.int .i64 d]) aj).alloc (.cells #[e,f] t1)).alloc (.cells #[.slice (some ⟨w.heap.size,0,none⟩) 1 1,.slice (some ⟨w.heap.size+1,0,none⟩) 1 1,.slice (some ⟨w.heap.size+1+1,0,none⟩) 1 1] t2);have X3:=(Bx.new (W:=(w.alloc (.cells #[a,b] t1)).alloc (.cells #[c,d] t1)) (B:=w.heap.size+1+1) (t:=t1) (vs:=[.int .i64 e,.int .i64 f]) aj).alloc (.cells #[.slice (some ⟨w.heap.size,0,none⟩) 1 1,.slice (some ⟨w.heap.size+1,0,none⟩) 1 1,.slice (some ⟨w.heap.size+1+1,0,none⟩) 1 1] t2);have X4:=Bx.new (W:=((w.alloc (.cells #[a,b] t1)).alloc (.cells #[c,d] t1)).alloc (.cells #[e,f] t1)) (B:=w.heap.size+1+1+1) (t:=t2) (vs:=[.slice (some ⟨w.heap.size,0,none⟩) 1 1,.slice (some ⟨w.heap.size+1,0,none⟩) 1 1,.slice (some ⟨w.heap.size+1+1,0,none⟩) 1 1]) aj;refine akY X4 rfl rfl aW λk v x hv hx=>?_
 match k,hv,hx with
 |0,hv,hx=>cases hv;cases hx;exact Rt X1
 |1,hv,hx=>cases hv;cases hx;exact Rt X2
 |2,hv,hx=>cases hv;cases hx;exact Rt X3
 |k+3,hv,hx=>cases hv
theorem awM(w:World)(a b c d:Int)(t1 t2:TypeId):aC Shape.span.list (((w.alloc (.cells #[a,b] t1)).alloc (.cells #[c,d] t1)).alloc (.cells #[.slice (some ⟨w.heap.size,0,none⟩) 1 1,.slice (some ⟨w.heap.size+1,0,none⟩) 1 1] t2)) (.slice (some ⟨w.heap.size+1+1,0,none⟩) 2 2) [[(a,b)],[(c,d)]]:=by
 have X1:=((Bx.new (W:=w) (t:=t1) (vs:=[.int .i64 a,.int .i64 b]) rfl).alloc (.cells #[c,d] t1)).alloc (.cells #[.slice (some ⟨w.heap.size,0,none⟩) 1 1,.slice (some ⟨w.heap.size+1,0,none⟩) 1 1] t2);have X2:=(Bx.new (W:=w.alloc (.cells #[a,b] t1)) (B:=w.heap.size+1) (t:=t1) (vs:=[.int .i64 c,.int .i64 d]) aj).alloc (.cells #[.slice (some ⟨w.heap.size,0,none⟩) 1 1,.slice (some ⟨w.heap.size+1,0,none⟩) 1 1] t2);have X4:=Bx.new (W:=(w.alloc (.cells #[a,b] t1)).alloc (.cells #[c,d] t1)) (B:=w.heap.size+1+1) (t:=t2) (vs:=[.slice (some ⟨w.heap.size,0,none⟩) 1 1,.slice (some ⟨w.heap.size+1,0,none⟩) 1 1]) aj;refine akY X4 rfl rfl aW λk v x hv hx=>?_
 match k,hv,hx with
 |0,hv,hx=>cases hv;cases hx;exact Rt X1
 |1,hv,hx=>cases hv;cases hx;exact Rt X2
 |k+2,hv,hx=>cases hv
theorem anz(w:World):Calls prog 7 #[] w (oK true w):=by
 go_in;go_wp2_with fail;refine(aCb w).mono ?_;rintro e w1 ⟨cx,rfl,hx,hb1⟩;have bZ:=U hx;have bE:=U hx.len;have Aj:=U hx.one;obtain⟨va,vs,vr,jR,hR⟩:=hx;have gy:=U jR;have pI:=U (And.intro (Shape.mono _ hR.stas (A':=λq=>q<w1.heap.size) λq h _=>h) (Shape.mono _ hR.sheets (A':=λq=>q<w1.heap.size) λq h _=>h));obtain⟨ar,cr,rfl,-,-⟩:=hR.reads.shape;clear jR hR;go_wp2_with (first|(refine xA bK rfl rfl rfl rfl bE.o Aj.o ?_)|(with_reducible_and_instances refine dI 19 ?_))
 have dQ:=Bl.alloc (aB w1.heap.size w1) (.cells cx.toArray 30);have HX:=U (Bx.new (W:=w1) (t:=30) (vs:=cx) rfl);have HB:=U (Bl.call hb1 dQ);have bZ:=U (bZ.o.below dQ);have pI:=U (And.intro (Shape.below pI.o.1 dQ) (Shape.below pI.o.2 dQ));have hbw:=hb1.size;clear dQ hb1;generalize w1.alloc (.cells cx.toArray 30)=w2 at *;obtain⟨b1,hb⟩:∃b,Hid (w1.heap.size=b):=⟨_,U rfl⟩;rw[hb.o]at HX pI hbw ⊢;refine⟨?_⟩;have HC:=U (Cx.whole HX.o);go_wp2_with (refine dh bK rfl HC.o bE.o ?_)
 refine(adQ (dN []) cx 0 w2 bZ.o).mono ?_;rintro e w3 ⟨hb3,⟨q,_,hbad,_⟩|⟨v1,l1,hok,rfl,hL1⟩⟩
 ·exact absurd azm hbad
 rw[azl hok]at hL1;obtain⟨a1,c1,rfl,-,-⟩:=hL1.shape;have eO:=U hL1;have bP:=U (HX.o.next hb3);have Py:=U (bZ.o.below hb3);have HB3:=U (Bl.call HB.o hb3);have pI:=U (And.intro (Shape.below pI.o.1 hb3) (Shape.below pI.o.2 hb3));clear HC hok hL1 hb3;have HC:=U (Cx.whole bP.o);go_wp2_with (refine dh bK rfl HC.o bE.o ?_)
 refine(aBn (dN []) cx w3 Py.o aW).mono ?_;rintro e w4 ⟨hb4,⟨q,_,hbad,_⟩|⟨v2,l2,hok,rfl,hL2⟩⟩
 ·exact absurd ⟨R6,Lj [],R7⟩ hbad
 rw[azy hok]at hL2;obtain⟨a2,c2,rfl,-,-⟩:=hL2.shape;have eO:=U (eO.o.below hb4);have HL2:=U hL2;have aX:=U (bP.o.next hb4);have af5:=U (Py.o.below hb4);have bX:=U (Bl.call HB3.o hb4);have pI:=U (And.intro (Shape.below pI.o.1 hb4) (Shape.below pI.o.2 hb4));clear HC hok hL2 hb4;have HC:=U (Cx.whole aX.o);go_wp2_with (refine dh bK rfl HC.o bE.o ?_)
 refine(Ju (dN []) cx 1 w4 af5.o).mono ?_;rintro e w5 ⟨hb5,⟨q,_,hbad,_⟩|⟨v3,l3,hok,rfl,hL3⟩⟩
 ·exact absurd ⟨R6,aW,Lj [],R7⟩ hbad
 rw[azu hok]at hL3;obtain⟨a3,c3,rfl,-,-⟩:=hL3.shape;have eO:=U (eO.o.below hb5);have HL2:=U (HL2.o.below hb5);have lI:=U hL3;have aU:=U (aX.o.next hb5);have Cq:=U (af5.o.below hb5);have eD:=U (Bl.call bX.o hb5);have pI:=U (And.intro (Shape.below pI.o.1 hb5) (Shape.below pI.o.2 hb5));clear HC hok hL3 hb5;have HC:=U (Cx.whole aU.o);go_wp2_with (refine dh bK rfl HC.o bE.o ?_)
 refine(adS (dN []) cx 0 0 2 2 w5 Cq.o).mono ?_;rintro e w6 ⟨hb6,⟨q,_,hbad,_⟩|⟨n1,hok,rfl⟩⟩
 ·exact absurd ⟨R6,amy.1,Lj [],R7⟩ hbad
 rw[azx hok];have eO:=U (eO.o.below hb6);have HL2:=U (HL2.o.below hb6);have lI:=U (lI.o.below hb6);have bI:=U (aU.o.next hb6);have Pz:=U (Cq.o.below hb6);have dD:=U (Bl.call eD.o hb6);have pI:=U (And.intro (Shape.below pI.o.1 hb6) (Shape.below pI.o.2 hb6));clear HC hok hb6;have HC:=U (Cx.whole bI.o);go_wp2_with (refine dh bK rfl HC.o bE.o ?_)
 refine(aBe (dN []) cx 0 0 2 w6 Pz.o ae).mono ?_;rintro e w7 ⟨bV,⟨q,_,hbad,_⟩|⟨n2,hok,rfl⟩⟩
 ·exact absurd ⟨R6,amy.2,Lj [],R7⟩ hbad
 rw[azq hok];have eO:=U (eO.o.below bV);have HL2:=U (HL2.o.below bV);have lI:=U (lI.o.below bV);have bD:=U (bI.o.next bV);have aCP:=U (Pz.o.below bV);have iy:=U (Bl.call dD.o bV);have pI:=U (And.intro (Shape.below pI.o.1 bV) (Shape.below pI.o.2 bV));clear HC hok bV;have c8:=(bD.o.cell 8).trans (by rw[gy.o];rfl:cx[8]?=some (.slice ar 0 cr));have f8:=bD.o.free 8;have l8:=bD.o.lt;go_wp2_with (with_reducible_and_instances refine dI 48 ?_)
 have hT:=aA.setCell (λq=>q=b1) w7 ⟨b1,8,none⟩ (.slice (some ⟨w7.heap.size,0,none⟩) 1 1) rfl;have hst:=Bl.alloc (aB (w7.setCell ⟨b1,8,none⟩ (.slice (some ⟨w7.heap.size,0,none⟩) 1 1)).heap.size (w7.setCell ⟨b1,8,none⟩ (.slice (some ⟨w7.heap.size,0,none⟩) 1 1))) (.cells #[.int .i64 1,.int .i64 0,.int .i64 1,.int .i64 10010,.int .i64 10020] 43);have hzs:(w7.setCell ⟨b1,8,none⟩ (.slice (some ⟨w7.heap.size,0,none⟩) 1 1)).heap.size=w7.heap.size:=aj;have eO:=U ((ab6 (u:=.slice (some ⟨w7.heap.size,0,none⟩) 1 1) eO.o aj c8).below hst);have HL2:=U ((ab6 (u:=.slice (some ⟨w7.heap.size,0,none⟩) 1 1) HL2.o aj c8).below hst);have lI:=U ((ab6 (u:=.slice (some ⟨w7.heap.size,0,none⟩) 1 1) lI.o aj c8).below hst);have qD:=U ((bD.o.set 8 (.slice (some ⟨w7.heap.size,0,none⟩) 1 1) Jh).next hst);have gz:=U (And.intro (Shape.below (Shape.keep _ pI.o.1 (hT.same λq h _ e=>by have h':q<b1:=h;omega)) hst) (Shape.below (Shape.keep _ pI.o.2 (hT.same λq h _ e=>by have h':q<b1:=h;omega)) hst))
 have jM:=U (Ja yE (K5 (w:=w7.setCell ⟨b1,8,none⟩ (.slice (some ⟨w7.heap.size,0,none⟩) 1 1)) (e:=43) (n:=5) (enc:=λr:je=>[Value.int .i64 r.1,Value.int .i64 r.2.1,Value.int .i64 r.2.2.1,Value.int .i64 r.2.2.2.1,Value.int .i64 r.2.2.2.2]) (base:=0) (xs:=rP) (m:=1) (cs:=[.int .i64 1,.int .i64 0,.int .i64 1,.int .i64 10010,.int .i64 10020]) hzs ae aW rfl rfl rfl));have cZ:=U (Bl.call (aA.low iy.o hT (λq e=>ae)) hst);clear hT hst hzs c8 f8 l8;obtain⟨bz,hbz⟩:∃b,Hid (w7.heap.size=b):=⟨_,U rfl⟩;rw[hbz.o]at qD jM gz eO HL2 lI cZ ⊢;generalize (w7.setCell ⟨b1,8,none⟩ (.slice (some ⟨bz,0,none⟩) 1 1)).alloc (.cells #[.int .i64 1,.int .i64 0,.int .i64 1,.int .i64 10010,.int .i64 10020] 43)=w8 at *;refine⟨?_⟩;obtain⟨cy,hcy⟩:∃c,Hid (cx.set 8 (.slice (some ⟨bz,0,none⟩) 1 1)=c):=⟨_,U rfl⟩;rw[hcy.o]at qD;have Ze:Hid (dM w8 (dN rP) cy):=U ⟨va,vs,.slice (some ⟨bz,0,none⟩) 1 1,by rw[←hcy.o,gy.o];rfl,Shape.list_far gz.o.1,Shape.list_far gz.o.2,jM.o⟩;have PL:=U Ze.o.len;have HC:=U (Cx.whole qD.o);go_wp2_with (refine dh bK rfl HC.o PL.o ?_)
 refine(aBh (dN rP) cy 0 w8 Ze.o).mono ?_;rintro e w9 ⟨dX,⟨q,_,hbad,_⟩|⟨v4,l4,hok,rfl,hL4⟩⟩
 ·exact absurd azt hbad
 rw[azr hok]at hL4;obtain⟨a4,c4,rfl,-,-⟩:=hL4.shape;have eO:=U (eO.o.below dX);have HL2:=U (HL2.o.below dX);have lI:=U (lI.o.below dX);have Ag:=U hL4;have fF:=U (qD.o.next dX);have apS:=U (Ze.o.below dX);have gm:=U (Bl.call cZ.o dX);clear HC hok hL4 dX;have HC:=U (Cx.whole fF.o);go_wp2_with (refine dh bK rfl HC.o PL.o ?_)
 refine(aBd (dN rP) cy w9 apS.o aW (λf hf=>by simp only[dN,mP,Ec,Bp]at hf;rcases hf with rfl|rfl<;>decide)).mono ?_;rintro e iZ ⟨lN,⟨q,_,hbad,_⟩|⟨v5,l5,hok,rfl,hL5⟩⟩
 ·exact absurd hbad azp
 rw[azo hok]at hL5;obtain⟨a5,c5,rfl⟩:=lu hL5;have eO:=U (eO.o.below lN);have HL2:=U (HL2.o.below lN);have lI:=U (lI.o.below lN);have Ag:=U (Ag.o.below lN);have Ah:=U (Jb hL5);have yH:=U (Bl.call gm.o lN);clear HC hok hL5 lN;go_wp2_with fail;have uF:BL iZ ((((iZ.alloc (.cells #[.int .i64 9998,.int .i64 10001] 41)).alloc (.cells #[.int .i64 10001,.int .i64 10004] 41)).alloc (.cells #[.int .i64 10001,.int .i64 10007] 41)).alloc (.cells #[.slice (some ⟨iZ.heap.size,0,none⟩) 1 1,.slice (some ⟨iZ.heap.size+1,0,none⟩) 1 1,.slice (some ⟨iZ.heap.size+1+1,0,none⟩) 1 1] 54)):=Bl.alloc (Bl.alloc (Bl.alloc (Bl.alloc (aB _ _) _) _) _) _;refine(adc _ _ _ _ _ (eO.o.below uF) (akU iZ 9998 10001 10001 10004 10001 10007 _ _)).mono ?_;rintro e rT ⟨rfl,jy⟩;have jy:=Bl.call uF jy;have HL2:=U (HL2.o.below jy);have lI:=U (lI.o.below jy);have Ag:=U (Ag.o.below jy);have Ah:=U (Ah.o.below jy);have zX:=U (Bl.call yH.o jy);rw[show decide (([[(9998,10001)],[(10001,10004)],[(10001,10007)]]:List (List Sp))=[[(9998,10001)],[(10001,10004)],[(10001,10007)]])=true from rfl];clear uF jy;go_wp2_with fail
 have vO:BL rT (((rT.alloc (.cells #[.int .i64 10001,.int .i64 10004] 41)).alloc (.cells #[.int .i64 10001,.int .i64 10005] 41)).alloc (.cells #[.slice (some ⟨rT.heap.size,0,none⟩) 1 1,.slice (some ⟨rT.heap.size+1,0,none⟩) 1 1] 54)):=Bl.alloc (Bl.alloc (Bl.alloc (aB _ _) _) _) _;refine(adc _ _ _ _ _ (HL2.o.below vO) (awM rT 10001 10004 10001 10005 _ _)).mono ?_;rintro e Oq ⟨rfl,mD⟩;have mD:=Bl.call vO mD;have lI:=U (lI.o.below mD);have Ag:=U (Ag.o.below mD);have Ah:=U (Ah.o.below mD);have aoj:=U (Bl.call zX.o mD);rw[show decide (([[(10001,10004)],[(10001,10005)]]:List (List Sp))=[[(10001,10004)],[(10001,10005)]])=true from rfl];clear vO mD;go_wp2_with fail;have QU:BL Oq ((((Oq.alloc (.cells #[.int .i64 10004,.int .i64 10007] 41)).alloc (.cells #[.int .i64 10001,.int .i64 10005] 41)).alloc (.cells #[.int .i64 9998,.int .i64 10008] 41)).alloc (.cells #[.slice (some ⟨Oq.heap.size,0,none⟩) 1 1,.slice (some ⟨Oq.heap.size+1,0,none⟩) 1 1,.slice (some ⟨Oq.heap.size+1+1,0,none⟩) 1 1] 54)):=Bl.alloc (Bl.alloc (Bl.alloc (Bl.alloc (aB _ _) _) _) _) _;refine(adc _ _ _ _ _ (lI.o.below QU) (akU Oq 10004 10007 10001 10005 9998 10008 _ _)).mono ?_;rintro e w16 ⟨rfl,IE⟩;have IE:=Bl.call QU IE
 have Ag:=U (Ag.o.below IE);have Ah:=U (Ah.o.below IE);have aok:=U (Bl.call aoj.o IE);rw[show decide (([[(10004,10007)],[(10001,10005)],[(9998,10008)]]:List (List Sp))=[[(10004,10007)],[(10001,10005)],[(9998,10008)]])=true from rfl];clear QU IE;go_wp2_with fail;have QV:=Bl.alloc (aB w16.heap.size w16) (.cells #[.int .i64 2] 3);refine(azj _ _ _ _ _ (Ag.o.below QV) (RG (K5 (w:=w16) (e:=3) (n:=1) (enc:=λa=>[Value.int .i64 a]) (base:=0) (xs:=[2]) (m:=1) (cs:=[.int .i64 2]) rfl ae aW rfl rfl rfl))).mono ?_;rintro e w18 ⟨rfl,QW⟩;have QW:=Bl.call QV QW;have Ah:=U (Ah.o.below QW);have aol:=U (Bl.call aok.o QW);rw[show decide (([2]:List Int)=[2])=true from rfl];clear QV QW;go_wp2_with fail;have aba:=Bl.alloc (aB w18.heap.size w18) (.cells #[.int .i64 2,.int .i64 0,.int .i64 0] 82);refine(azi _ _ _ _ _ (Ah.o.below aba) (Jb (K5 (w:=w18) (e:=82) (n:=3) (enc:=CV) (base:=0) (xs:=[(2,(0,0))]) (m:=1) (cs:=[.int .i64 2,.int .i64 0,.int .i64 0]) rfl ae aW rfl rfl rfl))).mono ?_;rintro e SE ⟨rfl,yw⟩;have OI:=U (Bl.call aol.o (Bl.call aba yw));rw[show decide (([(2,(0,0))]:List fB)=[(2,(0,0))])=true from rfl];clear aba yw;go_wp2;go_ret;exact⟨rfl,OI.o⟩
end
section
attribute [local go_sem] Qv arh
def Ut(ok:List (List Sp)→Prop)(bad:Prop)(v:Value)(q:Int)(w:World):Prop:=(q≠0∧bad)∨(q=0∧∃l,ok l∧aC Shape.span.list w v l)
theorem Ut.below{ok:List (List Sp)→Prop}{bad:Prop}{q:Int}{w:World}(h:Ut ok bad v q w)(hb:BL w w'):Ut ok bad v q w':=h.imp id λ⟨e,l,h1,h2⟩=>⟨e,l,h1,h2.below hb⟩
end
end Go.Proofs.YtfmckbjeofiegaaGreat
