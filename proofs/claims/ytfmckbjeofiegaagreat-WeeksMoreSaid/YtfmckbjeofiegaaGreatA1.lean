/- Part 1 of a proof. -/
import Derived.Test.YtfmckbjeofiegaaGreatA0
set_option maxRecDepth 100000
set_option maxHeartbeats 16000000
set_option linter.all false
open Go Go.RowKit Go.Proofs.Tryz
namespace Go.Proofs.YtfmckbjeofiegaaGreat
variable {b hi r y z:Int}{i j k:Nat}{α:Type}
abbrev Sp:=Int×Int
def Mem(n:Int)(l:List Sp):Prop:=∃s∈l,s.1≤n∧n≤s.2
def bF(l:List Sp):Prop:=(∀s∈l,s.1≤s.2)∧l.Pairwise λs t=>s.2+1<t.1
theorem gU(n:Int):¬Mem n []:=by rintro⟨s,h,_⟩;simp at h
theorem mem_cons{n:Int}{s:Sp}{l:List Sp}:Mem n (s::l)↔(s.1≤n∧n≤s.2)∨Mem n l:=by simp[Mem]
theorem NA{n:Int}{l m:List Sp}:Mem n (l++m)↔Mem n l∨Mem n m:=by
 simp only[Mem,oH];constructor
 ·rintro⟨s,h|h,k⟩
  ·exact .inl ⟨s,h,k⟩
  ·exact .inr ⟨s,h,k⟩
 ·rintro(⟨s,h,k⟩|⟨s,h,k⟩)
  ·exact⟨s,.inl h,k⟩
  ·exact⟨s,.inr h,k⟩
theorem kH:bF []:=⟨aj,aj⟩
theorem rH{s:Sp}{l:List Sp}:bF (s::l)↔s.1≤s.2∧(∀t∈l,s.2+1<t.1)∧bF l:=by
 simp only[bF,mP,aim,FX];exact⟨λ⟨⟨a,b⟩,c,d⟩=>⟨a,c,b,d⟩,λ⟨a,c,b,d⟩=>⟨⟨a,b⟩,c,d⟩⟩
theorem aco{s:Sp}{l:List Sp}:bF (l++[s])↔bF l∧s.1≤s.2∧∀t∈l,t.2+1<s.1:=by
 simp only[bF,oH,FW,List.pairwise_append,FX,Ec,false_implies,implies_true,List.Pairwise.nil,and_self,Js,forall_eq];constructor
 ·rintro⟨a,b,c⟩;exact⟨⟨λt ht=>a t (.inl ht),b⟩,a s (.inr rfl),c⟩
 ·rintro⟨⟨a,b⟩,c,d⟩;exact⟨λt ht=>ht.elim (a t) (λe=>e ▸ c),b,d⟩
theorem ala{s:Sp}{l:List Sp}(h:bF (s::l)){n:Int}(hn:Mem n (s::l)):s.1≤n:=by
 obtain⟨h1,h2,h3⟩:=rH.1 h;rcases mem_cons.1 hn with k|⟨t,ht,k⟩
 ·exact k.1
 ·exact aa7
theorem I9:∀ {l m:List Sp},bF l→bF m→(∀n,Mem n l↔Mem n m)→l=m
 |[],[],_,_,_=>rfl
 |[],t::m,_,hm,h=>absurd ((h t.1).2 (mem_cons.2 (.inl ⟨by omega,(rH.1 hm).1⟩))) (gU _)
 |s::l,[],hl,_,h=>absurd ((h s.1).1 (mem_cons.2 (.inl ⟨by omega,(rH.1 hl).1⟩))) (gU _)
 |s::l,t::m,hl,hm,h=>by
  obtain⟨a1,a2,a3⟩:=rH.1 hl;obtain⟨b1,b2,b3⟩:=rH.1 hm
  have e1:s.1=t.1:=by
   have:=ala hm ((h s.1).1 (mem_cons.2 (.inl ⟨ae,a1⟩)));have:=ala hl ((h t.1).2 (mem_cons.2 (.inl ⟨ae,b1⟩)));omega
  have c1:¬Mem (s.2+1) (s::l):=λk=>by
   rcases mem_cons.1 k with k|⟨u,hu,k⟩
   ·omega
   ·have:=a2 u hu;omega
  have c2:¬Mem (t.2+1) (t::m):=λk=>by
   rcases mem_cons.1 k with k|⟨u,hu,k⟩
   ·omega
   ·have:=b2 u hu;omega
  have e2:s.2=t.2:=by
   rcases Int.lt_trichotomy s.2 t.2 with k|k|k
   ·exact absurd ((h _).2 (mem_cons.2 (.inl ⟨ae,ae⟩))) c1
   ·exact k
   ·exact absurd ((h _).1 (mem_cons.2 (.inl ⟨ae,ae⟩))) c2
  have e:s=t:=Prod.ext e1 e2;subst e
  congr 1
  refine I9 a3 b3 λn=>?_;have hn:=h n;simp only[mem_cons]at hn;constructor
  ·intro k;rcases hn.1 (.inr k)with q|q
   ·obtain⟨u,hu,k⟩:=k;have:=a2 u hu;omega
   ·exact q
  ·intro k;rcases hn.2 (.inr k)with q|q
   ·obtain⟨u,hu,k⟩:=k;have:=b2 u hu;omega
   ·exact q
def join:List Sp→Sp→List Sp
 |[],x=>[x]
 |s::l,x=>if s.2+1<x.1 then s::join l x else if x.2+1<s.1 then x::s::l else join l (min x.1 s.1,max x.2 s.2)
theorem Rl:∀ {l:List Sp} {x:Sp},bF l→x.1≤x.2→∀n,Mem n (join l x)↔(x.1≤n∧n≤x.2)∨Mem n l
 |[],x,_,_,n=>by simp[join,Mem]
 |s::l,x,hl,hx,n=>by
  obtain⟨a1,a2,a3⟩:=rH.1 hl;unfold join;split
  ·rw[mem_cons,Rl a3 hx,mem_cons];constructor
   ·rintro(k|k|k)
    ·exact .inr (.inl k)
    ·exact .inl k
    ·exact .inr (.inr k)
   ·rintro(k|k|k)
    ·exact .inr (.inl k)
    ·exact .inl k
    ·exact .inr (.inr k)
  ·split
   ·rw[mem_cons]
   ·rw[Rl a3 uU,mem_cons];simp only;constructor
    ·rintro(k|k)
     ·by_cases q:x.1≤n∧n≤x.2
      ·exact .inl q
      ·exact .inr (.inl ae)
     ·exact .inr (.inr k)
    ·rintro(k|k|k)
     ·exact .inl ae
     ·exact .inl ae
     ·exact .inr k
theorem awm{l:List Sp}{x:Sp}(hl:∀t∈l,b<t.1)(hx:b<x.1):∀t∈join l x,b<t.1:=by
 induction l generalizing x with
 |nil=>simpa[join]using hx
 |cons s l ih=>
  have h1:=hl s aj;have h2:∀t∈l,b<t.1:=λt ht=>hl t GD;unfold join;split
  ·simp only[mP,aim];exact⟨h1,ih h2 hx⟩
  ·split
   ·simp only[mP,aim];exact⟨hx,h1,h2⟩
   ·exact ih h2 uU
theorem Rm:∀ {l:List Sp} {x:Sp},bF l→x.1≤x.2→bF (join l x)
 |[],x,_,hx=>by simp[join,bF,hx]
 |s::l,x,hl,hx=>by
  obtain⟨a1,a2,a3⟩:=rH.1 hl;unfold join;split
  ·rename_i h;exact rH.2 ⟨a1,awm a2 h,Rm a3 hx⟩
  ·split
   ·rename_i h
    exact rH.2 ⟨hx,λt ht=>by
     rcases mP.1 ht with rfl|ht
     ·exact h
     ·have:=a2 t ht;omega,hl⟩
   ·exact Rm a3 uU
def KR(l:List Sp)(x:Sp):List Sp:=if x.2<x.1 then l else join l x
theorem akD{l:List Sp}{x:Sp}(hl:bF l):bF (KR l x):=by
 unfold KR;split
 ·exact hl
 ·exact Rm hl ae
theorem awl{l:List Sp}{x:Sp}(hl:bF l)(n:Int):Mem n (KR l x)↔(x.1≤n∧n≤x.2)∨Mem n l:=by
 unfold KR;split
 ·constructor
  ·exact .inr
  ·rintro(k|k)
   ·omega
   ·exact k
 ·exact Rl hl ae n
def norm(l:List Sp):List Sp:=l.foldl KR []
theorem aik:∀ {l o:List Sp},bF o→bF (l.foldl KR o)
 |[],_,h=>h
 |_::l,_,h=>aik (l:=l) (akD h)
theorem aij:∀ {l o:List Sp},bF o→∀n,Mem n (l.foldl KR o)↔Mem n o∨Mem n l
 |[],o,_,n=>by simp[gU]
 |s::l,o,h,n=>by
  rw[xO,aij (l:=l) (akD h),awl h,mem_cons];constructor
  ·rintro((k|k)|k)
   ·exact .inr (.inl k)
   ·exact .inl k
   ·exact .inr (.inr k)
  ·rintro(k|k|k)
   ·exact .inl (.inr k)
   ·exact .inl (.inl k)
   ·exact .inr k
theorem oQ(l:List Sp):bF (norm l):=aik kH
theorem pX{l:List Sp}{n:Int}:Mem n (norm l)↔Mem n l:=by
 unfold norm;rw[aij kH];simp[gU]
theorem V8{l m:List Sp}:norm l=norm m↔∀n,Mem n l↔Mem n m:=
 ⟨λh n=>by rw[←pX (l:=l),←pX (l:=m),h],λh=>I9 (oQ l) (oQ m) λn=>by rw[pX,pX];exact h n⟩
theorem asG{l m:List Sp}(h:bF l)(k:∀n,Mem n l↔Mem n m):l=norm m:=I9 h (oQ m) λn=>by rw[pX];exact k n
def ik(out:List Sp)(s:Sp):List Sp:=
 match out.getLast? with
 |some t=>if s.1≤t.2+1 then out.dropLast++[(t.1,max t.2 s.2)]else out++[s]
 |none=>[s]
def merge(l:List Sp):List Sp:=l.foldl ik []
theorem I6(o:List Sp)(t s:Sp):ik (o++[t]) s=if s.1≤t.2+1 then o++[(t.1,max t.2 s.2)]else o++[t]++[s]:=by
 unfold ik;simp
theorem GI(l:List α):l=[]∨∃o t,l=o++[t]:=by
 rcases List.eq_nil_or_concat l with h|⟨o,t,h⟩
 ·exact .inl h
 ·exact .inr ⟨o,t,wu⟩
theorem axg{o:List Sp}{s:Sp}(ho:bF o)(hs:s.1≤s.2)(hle:∀t∈o,t.1≤s.1):
  bF (ik o s)∧(∀n,Mem n (ik o s)↔Mem n o∨(s.1≤n∧n≤s.2))∧∀b,s.1≤b→∀t∈ik o s,t.1≤b:=by
 rcases GI o with rfl|⟨o,t,rfl⟩
 ·simp only[ik,List.getLast?_nil];refine⟨by simp[bF,hs],λn=>by simp[Mem],λb hb t ht=>?_⟩;simp at ht;subst ht;exact hb
 ·obtain⟨h1,h2,h3⟩:=aco.1 ho;have ht:=hle t aj;rw[I6];split
  ·refine⟨aco.2 ⟨h1,uU,h3⟩,λn=>?_,λb hb u hu=>?_⟩
   ·simp only[NA,mem_cons,gU,Bp];constructor
    ·rintro(k|k)
     ·exact .inl (.inl k)
     ·by_cases q:t.1≤n∧n≤t.2
      ·exact .inl (.inr q)
      ·exact .inr ae
    ·rintro((k|k)|k)
     ·exact .inl k
     ·exact .inr ae
     ·exact .inr ae
   ·rcases oH.1 hu with hu|hu
    ·have:=hle u (by simp[hu]);omega
    ·simp at hu;subst hu;simp only;omega
  ·refine⟨aco.2 ⟨ho,hs,λu hu=>?_⟩,λn=>?_,λb hb u hu=>?_⟩
   ·rcases oH.1 hu with hu|hu
    ·have:=h3 u hu;omega
    ·exact azW
   ·rw[NA];simp[mem_cons,gU]
   ·rcases oH.1 hu with hu|hu
    ·have:=hle u hu;omega
    ·simp at hu;subst hu;exact hb
theorem alc:∀ {l o:List Sp},bF o→(∀s∈l,s.1≤s.2)→(l.Pairwise λs t=>s.1≤t.1)→(∀t∈o,∀s∈l,t.1≤s.1)→bF (l.foldl ik o)∧∀n,Mem n (l.foldl ik o)↔Mem n o∨Mem n l
 |[],o,ho,_,_,_=>⟨ho,λn=>by simp[gU]⟩
 |s::l,o,ho,hv,hp,hle=>by
  rw[FX]at hp;obtain⟨h1,h2,h3⟩:=axg ho (hv s aj) (λt ht=>hle t ht s aj);obtain⟨k1,k2⟩:=alc (l:=l) h1 (λt ht=>hv t GD) hp.2 (λt ht u hu=>h3 _ (hp.1 u hu) t ht);refine⟨k1,λn=>?_⟩;rw[xO,k2,h2,mem_cons];constructor
  ·rintro((k|k)|k)
   ·exact .inl k
   ·exact .inr (.inl k)
   ·exact .inr (.inr k)
  ·rintro(k|k|k)
   ·exact .inl (.inl k)
   ·exact .inl (.inr k)
   ·exact .inr k
theorem V6{l:List Sp}(hv:∀s∈l,s.1≤s.2)(hp:l.Pairwise λs t=>s.1≤t.1):merge l=norm l:=by
 obtain⟨h1,h2⟩:=alc kH hv hp aj;exact asG h1 λn=>by rw[merge,h2];simp[gU]
theorem aca{l m:List Sp}(h:l.Perm m){n:Int}:Mem n l↔Mem n m:=by
 simp only[Mem,h.mem_iff]
def inter(a b:List Sp):List Sp:=a.flatMap λs=>(b.map λt=>(max s.1 t.1,min s.2 t.2)).filter λu=>decide (u.1≤u.2)
theorem Bd{a b:List Sp}{n:Int}:Mem n (inter a b)↔Mem n a∧Mem n b:=by
 simp only[Mem,inter,iB,r9,dz,dG];constructor
 ·rintro⟨u,⟨s,hs,⟨t,ht,rfl⟩,_⟩,h1,h2⟩;simp only at h1 h2;exact⟨⟨s,hs,ae,ae⟩,t,ht,ae,ae⟩
 ·rintro⟨⟨s,hs,h1,h2⟩,t,ht,h3,h4⟩;exact⟨(max s.1 t.1,min s.2 t.2),⟨s,hs,⟨t,ht,rfl⟩,uU⟩,uU,uU⟩
theorem Be{a b:List Sp}(ha:bF a)(hb:bF b):bF (inter a b):=by
 refine⟨λu hu=>?_,?_⟩
 ·simp only[inter,iB,r9,dG]at hu;obtain⟨s,_,_,h⟩:=hu;exact h
 ·unfold inter;rw[List.pairwise_flatMap];refine⟨λs hs=>?_,?_⟩
  ·refine List.Pairwise.filter _ (MC.2 (hb.2.imp_of_mem fun {t u} ht hu h=>?_));simp only;omega
  ·refine ha.2.imp_of_mem fun {s t} hs ht h=>?_;intro x hx y hy;simp only[r9,dz,dG]at hx hy;obtain⟨⟨p,hp,rfl⟩,_⟩:=hx;obtain⟨⟨q,hq,rfl⟩,_⟩:=hy;simp only;omega
structure bU where
 pitch:Int
 height:Int
 radius:Int
 low:Int
 high:Int
 cols:Int
 al:Sp
 ac:Sp
def Lm(s:Sp):Bool:=decide (900≤s.1∧s.1≤s.2∧s.2≤1100)
def fA(p:bU):Bool:=
 decide (1≤p.pitch∧p.pitch≤10000∧1≤p.height∧p.height≤400000∧(p.radius=0∨p.height≤p.radius∧p.radius≤4000000)∧0≤p.low∧p.low<p.high∧p.high≤12000∧p.high-p.low≤p.height∧1≤p.cols∧p.cols≤200)&&Lm p.al&&Lm p.ac
abbrev dF:=Int×Int×Int
def vW(t:dF):Bool:=decide (0≤t.1∧t.1≤400000∧0≤t.2.1∧t.2.1≤400000∧0≤t.2.2∧t.2.2≤5000)
def rO(x half:Int)(s:Sp):Sp:=(max 0 ((x-half)*1000 / s.2),(x+half)*1000 / s.1)
def gP(p:bU)(y:Int):Int:=if p.radius=0 then 0 else y*(p.height-y) / (2*p.radius)
def gD(p:bU)(y:Int):Int:=p.low+y*(p.high-p.low) / p.height
def tC(p:bU)(t:dF):Sp:=rO t.1 t.2.2 p.al
def fI(p:bU)(t:dF):Sp:=((rO t.2.1 t.2.2 p.ac).1,min (rO t.2.1 t.2.2 p.ac).2 p.height)
def yg(p:bU)(t:dF)(y:Int):Sp:=(((tC p t).1-gP p y) / p.pitch,((tC p t).2-gP p y) / p.pitch)
def P5(p:bU)(t:dF)(c n:Int):Prop:=∃y,(fI p t).1≤y∧y≤(fI p t).2∧(yg p t y).1≤c∧c≤(yg p t y).2∧gD p y=n
theorem Bz{p:bU}:fA p=true↔(1≤p.pitch∧p.pitch≤10000∧1≤p.height∧p.height≤400000∧(p.radius=0∨p.height≤p.radius∧p.radius≤4000000)∧0≤p.low∧p.low<p.high∧p.high≤12000∧p.high-p.low≤p.height∧1≤p.cols∧p.cols≤200)∧
  (900≤p.al.1∧p.al.1≤p.al.2∧p.al.2≤1100)∧(900≤p.ac.1∧p.ac.1≤p.ac.2∧p.ac.2≤1100):=by
 unfold fA Lm;rw[bW,bW,dG,dG,dG,and_assoc]
theorem alM{x half:Int}{s:Sp}(hx:0≤x∧x≤400000)(hh:0≤half∧half≤5000)(hs:900≤s.1∧s.1≤s.2∧s.2≤1100):0≤(rO x half s).1∧(rO x half s).1≤450000∧0≤(rO x half s).2∧(rO x half s).2≤450000:=by
 unfold rO;simp only;have h1:(x-half)*1000 / s.2≤450000:=Ug ae ae;have h2:0≤(x+half)*1000 / s.1:=Uh ae ae;have h3:(x+half)*1000 / s.1≤450000:=Ug ae ae;omega
theorem aqE{p:bU}(hp:fA p=true)(h1:y≤z)(h2:y+z≤p.height):gP p y≤gP p z:=by
 obtain⟨⟨_,_,_,_,hr,_⟩,_⟩:=Bz.1 hp;unfold gP;split
 ·omega
 ·refine Uf ae ?_;have:0≤(z-y)*(p.height-y-z):=yR ae ae
  have e:(z-y)*(p.height-y-z)=z*(p.height-z)-y*(p.height-y):=by
   simp only[Int.sub_mul,Int.mul_sub];have:=Int.mul_comm y z;omega
  omega
theorem aqG(p:bU)(y:Int):gP p (p.height-y)=gP p y:=by
 unfold gP
 have e:(p.height-y)*(p.height-(p.height-y))=y*(p.height-y):=by
  rw[show p.height-(p.height-y)=y from ae,Int.mul_comm]
 rw[e]
theorem aqF{p:bU}(hp:fA p=true)(h1:0≤y)(h2:y≤p.height):0≤gP p y:=by
 obtain⟨⟨_,_,_,_,hr,_⟩,_⟩:=Bz.1 hp;unfold gP;split
 ·omega
 ·exact Uh (yR h1 ae) ae
theorem KT{p:bU}(hp:fA p=true)(h:y≤z):gD p y≤gD p z:=by
 obtain⟨⟨_,_,_,_,_,_,_,_,_⟩,_⟩:=Bz.1 hp;unfold gD;have:y*(p.high-p.low) / p.height≤z*(p.high-p.low) / p.height:=Uf ae (Ui h ae);omega
theorem awz{p:bU}(hp:fA p=true)(y:Int):gD p (y+1)≤gD p y+1:=by
 obtain⟨⟨_,_,_,_,_,_,_,_,_,_⟩,_⟩:=Bz.1 hp;unfold gD;have h1:(y+1)*(p.high-p.low) / p.height≤(y*(p.high-p.low)+p.height) / p.height:=Uf ae (by rw[Int.add_mul];omega);rw[Int.add_ediv_of_dvd_right (Int.dvd_refl _),Int.ediv_self ae]at h1;omega
theorem akN{p:bU}(hp:fA p=true){a:Int}:∀(d:Nat) {n:Int},gD p a≤n→n≤gD p (a+d)→∃y,a≤y∧y≤a+d∧gD p y=n
 |0,n,h1,h2=>⟨a,by omega,by omega,by simp at h2;omega⟩
 |d+1,n,h1,h2=>by
  by_cases h:n≤gD p (a+d)
  ·obtain⟨y,k1,k2,k3⟩:=akN hp d h1 h;exact⟨y,k1,ae,k3⟩
  ·have:=awz hp (a+d);have e:a+(d:Int)+1=a+((d+1:Nat):Int):=ae;rw[e]at this;exact⟨a+((d+1:Nat):Int),ae,ae,ae⟩
theorem awy{p:bU}(hp:fA p=true){a n:Int}(hab:a≤b):(gD p a≤n∧n≤gD p b)↔∃y,a≤y∧y≤b∧gD p y=n:=by
 constructor
 ·rintro⟨h1,h2⟩;obtain⟨y,k1,k2,k3⟩:=akN hp (b-a).toNat h1 (by rw[show a+((b-a).toNat:Int)=b from ae];exact h2);exact⟨y,k1,ae,k3⟩
 ·rintro⟨y,h1,h2,rfl⟩;exact⟨KT hp h1,KT hp h2⟩
theorem ahD{p:bU}(hp:fA p=true)(t:dF)(y c:Int):((yg p t y).1≤c∧c≤(yg p t y).2)↔((tC p t).1-(c+1)*p.pitch+1≤gP p y∧gP p y≤(tC p t).2-c*p.pitch):=by
 obtain⟨⟨h0,_⟩,_⟩:=Bz.1 hp;unfold yg;simp only
 have h1:((tC p t).1-gP p y) / p.pitch≤c↔(tC p t).1-gP p y<(c+1)*p.pitch:=by
  rw[show((tC p t).1-gP p y) / p.pitch≤c↔((tC p t).1-gP p y) / p.pitch<c+1 from ae];exact Int.ediv_lt_iff_lt_mul ae
 have h2:c≤((tC p t).2-gP p y) / p.pitch↔c*p.pitch≤(tC p t).2-gP p y:=Int.le_ediv_iff_mul_le ae;rw[h1,h2];omega
def Gl(p:bU)(lo hi n:Int):Int:=lo+(((List.range (hi+1-lo).toNat).filter λ(k:Nat)=>decide (gP p (lo+(k:Int))<n)).length:Nat)
theorem aan{q:Nat→Bool}{r:Nat}:∀ {m:Nat},r≤m→(∀k,k<r→q k=true)→(∀k,r≤k→k<m→q k=false)→((List.range m).filter q).length=r
 |0,h,_,_=>by simp at h;simp[h]
 |m+1,h,h1,h2=>by
  rw[jq,wS,dn];by_cases e:r=m+1
  ·subst e;rw[aan (r:=m) (aV _) (λk hk=>h1 k ae) (λk a b=>ae)];simp[h1 m ae]
  ·rw[aan (r:=r) ae h1 (λk a b=>h2 k a ae)];simp[h2 m ae ae]
theorem as2{p:bU}{lo n:Int}(h1:lo≤r)(h2:r≤hi+1)(h3:∀y,lo≤y→y<r→gP p y<n)(h4:∀y,r≤y→y≤hi→n≤gP p y):Gl p lo hi n=r:=by
 unfold Gl;rw[aan (r:=(r-lo).toNat) ae (λk hk=>by simpa using h3 _ ae ae) (λk a b=>by simpa using h4 (lo+k) ae ae)];omega
theorem ah6{p:bU}{lo n:Int}(h:hi+1≤lo):Gl p lo hi n=lo:=by
 unfold Gl;rw[show(hi+1-lo).toNat=0 from ae];simp
theorem ah7{p:bU}(hp:fA p=true){lo n:Int}(h0:lo≤hi+1)(h2:2*hi≤p.height):
  lo≤Gl p lo hi n∧Gl p lo hi n≤hi+1∧∀y,lo≤y→y≤hi→(Gl p lo hi n≤y↔n≤gP p y):=by
 have key:∀d:Nat,(d:Int)=hi+1-lo→∃r,lo≤r∧r≤hi+1∧(∀y,lo≤y→y<r→gP p y<n)∧(∀y,r≤y→y≤hi→n≤gP p y):=by
  have:∀d:Nat,∀l,lo≤l→(d:Int)=hi+1-l→(∀y,lo≤y→y<l→gP p y<n)→∃r,lo≤r∧r≤hi+1∧(∀y,lo≤y→y<r→gP p y<n)∧(∀y,r≤y→y≤hi→n≤gP p y):=by
   intro d
   induction d with
   |zero=>intro l hl hd hy;exact⟨l,hl,ae,hy,λy a b=>ae⟩
   |succ d ih=>
    intro l hl hd hy;by_cases hq:gP p l<n
    ·refine ih (l+1) ae ae λy a b=>?_;by_cases e:y=l
     ·rw[e];exact hq
     ·exact hy y a ae
    ·refine⟨l,hl,ae,hy,λy a b=>?_⟩;have:=aqE hp a ae;omega
  exact λd hd=>this d lo ae hd (λy a b=>ae)
 obtain⟨r,h1,h3,h4,h5⟩:=key (hi+1-lo).toNat ae;rw[as2 h1 h3 h4 h5];refine⟨h1,h3,λy a b=>⟨λk=>h5 y k b,λk=>?_⟩⟩;rcases Int.lt_or_le y r with q|q
 ·have:=h4 y a q;omega
 ·exact q
def RS(p:bU)(s a:Sp):Sp:=(Gl p s.1 s.2 a.1,Gl p s.1 s.2 (a.2+1)-1)
def QB(p:bU)(s:Sp):Sp:=(p.height-s.2,p.height-s.1)
theorem al2{p:bU}(hp:fA p=true){s a:Sp}(h2:s.1≤s.2+1→2*s.2≤p.height)(y:Int):
  ((RS p s a).1≤y∧y≤(RS p s a).2)↔(s.1≤y∧y≤s.2∧a.1≤gP p y∧gP p y≤a.2):=by
 unfold RS;simp only;by_cases h0:s.1≤s.2+1
 ·obtain⟨a1,a2,a3⟩:=ah7 hp (n:=a.1) h0 (h2 h0);obtain⟨b1,b2,b3⟩:=ah7 hp (n:=a.2+1) h0 (h2 h0);constructor
  ·rintro⟨k1,k2⟩;have c1:=a3 y ae ae;have c2:=b3 y ae ae;omega
  ·rintro⟨k1,k2,k3,k4⟩;have c1:=a3 y ae ae;have c2:=b3 y ae ae;omega
 ·rw[ah6 ae,ah6 ae];omega
def pW(p:bU)(t:dF)(c:Int):Sp:=RS p ((fI p t).1,min (fI p t).2 (p.height / 2)) ((tC p t).1-(c+1)*p.pitch+1,(tC p t).2-c*p.pitch)
def Ex(p:bU)(t:dF)(c:Int):Sp:=QB p (RS p (QB p (max (fI p t).1 (p.height / 2+1),(fI p t).2)) ((tC p t).1-(c+1)*p.pitch+1,(tC p t).2-c*p.pitch))
def De(p:bU)(s:Sp):Sp:=(gD p s.1,gD p s.2)
def mX(p:bU)(t:dF)(c:Int):List Sp:=
 let l:=if(pW p t c).1≤(pW p t c).2 then join [] (De p (pW p t c))else []
 if(Ex p t c).1≤(Ex p t c).2 then join l (De p (Ex p t c))else l
theorem akW{p:bU}(hp:fA p=true)(t:dF)(c y:Int):((pW p t c).1≤y∧y≤(pW p t c).2)↔((fI p t).1≤y∧y≤(fI p t).2∧y≤p.height / 2∧(yg p t y).1≤c∧c≤(yg p t y).2):=by
 unfold pW;rw[al2 hp uU,ahD hp];simp only;omega
theorem ajW{p:bU}(hp:fA p=true)(t:dF)(c y:Int):((Ex p t c).1≤y∧y≤(Ex p t c).2)↔((fI p t).1≤y∧y≤(fI p t).2∧p.height / 2<y∧(yg p t y).1≤c∧c≤(yg p t y).2):=by
 unfold Ex;have h:=al2 hp (s:=QB p (max (fI p t).1 (p.height / 2+1),(fI p t).2)) (a:=((tC p t).1-(c+1)*p.pitch+1,(tC p t).2-c*p.pitch)) (by simp only[QB];omega) (p.height-y);rw[aqG]at h;rw[ahD hp];simp only[QB]at h ⊢;omega
theorem akK{p:bU}(hp:fA p=true){s:Sp}(hs:s.1≤s.2)(n:Int):((De p s).1≤n∧n≤(De p s).2)↔∃y,s.1≤y∧y≤s.2∧gD p y=n:=awy hp hs
theorem ab9{p:bU}(hp:fA p=true)(t:dF)(c:Int):bF (mX p t c)∧∀n,Mem n (mX p t c)↔P5 p t c n:=by
 have a1:bF (if(pW p t c).1≤(pW p t c).2 then join [] (De p (pW p t c))else [])∧∀n,Mem n (if(pW p t c).1≤(pW p t c).2 then join [] (De p (pW p t c))else [])↔∃y,(pW p t c).1≤y∧y≤(pW p t c).2∧gD p y=n:=by
  split
  ·rename_i h;have hv:(De p (pW p t c)).1≤(De p (pW p t c)).2:=KT hp h;refine⟨Rm kH hv,λn=>?_⟩;rw[Rl kH hv,akK hp h];simp[gU]
  ·refine⟨kH,λn=>⟨λk=>absurd k (gU n),?_⟩⟩;rintro⟨y,_,_,_⟩;omega
 have a2:∀n,P5 p t c n↔(∃y,(pW p t c).1≤y∧y≤(pW p t c).2∧gD p y=n)∨∃y,(Ex p t c).1≤y∧y≤(Ex p t c).2∧gD p y=n:=by
  intro n;unfold P5;constructor
  ·rintro⟨y,h1,h2,h3,h4,h5⟩;by_cases hy:y≤p.height / 2
   ·have:=(akW hp t c y).2 ⟨h1,h2,hy,h3,h4⟩;exact .inl ⟨y,this.1,this.2,h5⟩
   ·have:=(ajW hp t c y).2 ⟨h1,h2,ae,h3,h4⟩;exact .inr ⟨y,this.1,this.2,h5⟩
  ·rintro(⟨y,h1,h2,h3⟩|⟨y,h1,h2,h3⟩)
   ·obtain⟨k1,k2,_,k4,k5⟩:=(akW hp t c y).1 ⟨h1,h2⟩;exact⟨y,k1,k2,k4,k5,h3⟩
   ·obtain⟨k1,k2,_,k4,k5⟩:=(ajW hp t c y).1 ⟨h1,h2⟩;exact⟨y,k1,k2,k4,k5,h3⟩
 unfold mX;simp only;generalize (if(pW p t c).1≤(pW p t c).2 then join [] (De p (pW p t c))else [])=l at *;obtain⟨b1,b2⟩:=a1;split
 ·rename_i h;have hv:(De p (Ex p t c)).1≤(De p (Ex p t c)).2:=KT hp h;refine⟨Rm b1 hv,λn=>?_⟩;rw[Rl b1 hv,akK hp h,b2,a2];exact Or.comm
 ·refine⟨b1,λn=>?_⟩;rw[b2,a2];constructor
  ·exact .inl
  ·rintro(k|⟨y,_,_,_⟩)
   ·exact k
   ·omega
def Ld(p:bU)(t:dF)(c:Int)(m:Nat):List Sp:=((List.range m).filter λ(k:Nat)=>decide ((yg p t ((fI p t).1+k)).1≤c)&&decide (c≤(yg p t ((fI p t).1+k)).2)).map λ(k:Nat)=>(gD p ((fI p t).1+k),gD p ((fI p t).1+k))
def hts(p:bU)(t:dF):Nat:=((fI p t).2+1-(fI p t).1).toNat
theorem ayI(p:bU)(t:dF)(c n:Int):Mem n (Ld p t c (hts p t))↔P5 p t c n:=by
 unfold Mem Ld P5 hts;simp only[dz,r9,fD,bW,dG];constructor
 ·rintro⟨s,⟨k,⟨h1,h2,h3⟩,rfl⟩,h4,h5⟩;exact⟨_,ae,ae,h2,h3,by simp only at h4 h5;omega⟩
 ·rintro⟨y,h1,h2,h3,h4,h5⟩;refine⟨(gD p y,gD p y),⟨(y-(fI p t).1).toNat,⟨ae,?_⟩,?_⟩,uU,uU⟩
  ·rw[show(fI p t).1+((y-(fI p t).1).toNat:Int)=y from ae];exact⟨h3,h4⟩
  ·rw[show(fI p t).1+((y-(fI p t).1).toNat:Int)=y from ae]
theorem ayJ{p:bU}(hp:fA p=true)(t:dF)(c:Int)(m:Nat):(∀s∈Ld p t c m,s.1≤s.2)∧(Ld p t c m).Pairwise λs t=>s.1≤t.1:=by
 unfold Ld;refine⟨λs hs=>?_,?_⟩
 ·simp only[dz]at hs;obtain⟨k,_,rfl⟩:=hs;exact oo _
 ·rw[MC];refine List.Pairwise.filter _ (agp.imp fun {a b} h=>?_);exact KT hp ae
theorem ayH{p:bU}(hp:fA p=true)(t:dF)(c:Int):merge (Ld p t c (hts p t))=mX p t c:=by
 obtain⟨h1,h2⟩:=ayJ hp t c (hts p t);obtain⟨h3,h4⟩:=ab9 hp t c;rw[V6 h1 h2];exact I9 (oQ _) h3 λn=>by rw[pX,h4,ayI]
abbrev lG:=Int×Sp
abbrev dK:=List Sp×List lG
abbrev aT:=List (List dK)
def aI(st:List dK)(n:Nat):dK:=st.getD n ([],[])
def aN(t:aT)(k:Nat):List dK:=t.getD k []
def aP(c:List (List Sp))(n:Nat):List Sp:=c.getD n []
def grow(l:List Sp)(c:Sp):List Sp:=l.map λs=>(s.1+c.1,s.2+c.2)
def Qf(l:List Sp):Prop:=∀s∈l,s.1≤s.2
theorem atw{l:List Sp}{c:Sp}(hl:Qf l)(hc:c.1≤c.2):Qf (grow l c):=by
 intro s hs;simp only[grow,dz]at hs;obtain⟨u,hu,rfl⟩:=hs;have:=hl u hu;simp only;omega
theorem Ve{l:List Sp}{c:Sp}(hl:Qf l)(hc:c.1≤c.2){n:Int}:Mem n (grow l c)↔∃m,Mem m l∧c.1≤n-m∧n-m≤c.2:=by
 simp only[Mem,grow,dz];constructor
 ·rintro⟨s,⟨u,hu,rfl⟩,h1,h2⟩;have:=hl u hu;simp only at h1 h2;exact⟨max u.1 (min u.2 (n-c.1)),⟨u,hu,ae,ae⟩,ae,ae⟩
 ·rintro⟨m,⟨u,hu,h1,h2⟩,h3,h4⟩;exact⟨_,⟨u,hu,rfl⟩,uU,uU⟩
theorem Ry{l:List α}{f:α→List Sp}{n:Int}:Mem n (l.flatMap f)↔∃a∈l,Mem n (f a):=by
 simp only[Mem,iB];constructor
 ·rintro⟨s,⟨a,h1,h2⟩,h3⟩;exact⟨a,h1,s,h2,h3⟩
 ·rintro⟨a,h1,s,h2,h3⟩;exact⟨s,⟨a,h1,h2⟩,h3⟩
theorem NL{l:List Sp}(h:bF l):Qf l:=h.1
def into(st:List dK)(n:Nat):List (Nat×Sp):=(List.range st.length).flatMap λm=>((aI st m).2.filter λ(e:lG)=>decide (e.1=(n:Int))).map λe=>(m,e.2)
def aip(st nxt:List dK)(cur:List (List Sp)):List (List Sp):=
 (List.range nxt.length).map λn=>inter (norm ((into st n).flatMap λe=>grow (aP cur e.1) e.2)) (aI nxt n).1
def iG(t:aT):Nat→List (List Sp)
 |0=>(aN t 0).map (·.1)
 |k+1=>aip (aN t k) (aN t (k+1)) (iG t k)
def Jc(st:List dK)(cur:List (List Sp))(m:Nat):List Sp:=(aI st m).2.flatMap λe=>grow (aP cur e.1.toNat) (-e.2.2,-e.2.1)
def ahe(st:List dK)(cur:List (List Sp)):List (List Sp):=(List.range st.length).map λm=>inter (norm (Jc st cur m)) (aI st m).1
def nK(t:aT):Nat→List (List Sp)
 |0=>(aN t (t.length-1)).map (·.1)
 |j+1=>ahe (aN t (t.length-2-j)) (nK t j)
def iD(t:aT)(k:Nat):List (List Sp):=(List.range (aN t k).length).map λn=>inter (aP (iG t k) n) (aP (nK t (t.length-1-k)) n)
def allT(t:aT):List (List (List Sp)):=(List.range t.length).map (iD t)
structure Ia(t:aT):Prop where
 al:∀k n,bF (aI (aN t k) n).1
 ed:∀k n,∀e∈(aI (aN t k) n).2,0≤e.1∧e.1<(aN t (k+1)).length∧e.2.1≤e.2.2
theorem ait(t:aT)(k:Nat):iG t (k+1)=(List.range (aN t (k+1)).length).map λn=>inter (norm ((into (aN t k) n).flatMap λe=>grow (aP (iG t k) e.1) e.2)) (aI (aN t (k+1)) n).1:=rfl
theorem ahf(t:aT)(j:Nat):nK t (j+1)=(List.range (aN t (t.length-2-j)).length).map λm=>inter (norm (Jc (aN t (t.length-2-j)) (nK t j) m)) (aI (aN t (t.length-2-j)) m).1:=rfl
theorem KV{l:List dK}{n:Nat}:aP (l.map (·.1)) n=(aI l n).1:=by
 unfold aP aI;by_cases h:n<l.length
 ·exact aFE
 ·exact aFE
theorem Bh{m n:Nat}{f:Nat→List Sp}(h:n<m):aP ((List.range m).map f) n=f n:=by
 simp[aP,bN,h]
theorem I4{m n:Nat}{f:Nat→List Sp}(h:m≤n):aP ((List.range m).map f) n=[]:=by
 simp[aP,bN,h]
theorem lW{l:List dK}{n:Nat}(h:l.length≤n):aI l n=([],[]):=by
 simp[aI,bN,h]
theorem V4{st:List dK}{n m:Nat}{c:Sp}:(m,c)∈into st n↔((n:Int),c)∈(aI st m).2:=by
 simp only[into,iB,fD,dz,r9,dG,yX];constructor
 ·rintro⟨k,_,e,⟨h1,h2⟩,rfl,rfl⟩;rw[←h2];exact h1
 ·intro h
  have hm:m<st.length:=by
   rcases ZA m st.length with h1|h1
   ·exact h1
   ·rw[lW h1]at h;cases h
  exact⟨m,hm,_,⟨h,rfl⟩,rfl,rfl⟩
section
variable {t:aT} (ht:Ia t)
include ht
theorem M5:∀k n,bF (aP (iG t k) n)
 |0,n=>by rw[iG,KV];exact ht.al 0 n
 |k+1,n=>by
  rw[ait];by_cases h:n<(aN t (k+1)).length
  ·rw[Bh h];exact Be (oQ _) (ht.al _ _)
  ·exact aFC
theorem Qs:∀j n,bF (aP (nK t j) n)
 |0,n=>by rw[nK,KV];exact ht.al _ n
 |j+1,n=>by
  rw[ahf];by_cases h:n<(aN t (t.length-2-j)).length
  ·rw[Bh h];exact Be (oQ _) (ht.al _ _)
  ·exact aFC
theorem akB{n m:Nat}{c:Sp}(h:(m,c)∈into (aN t k) n):c.1≤c.2:=(ht.ed k m _ (V4.1 h)).2.2
theorem ais{n:Nat}{v:Int}:Mem v (aP (iG t (k+1)) n)↔Mem v (aI (aN t (k+1)) n).1∧∃m c,((n:Int),c)∈(aI (aN t k) m).2∧∃u,Mem u (aP (iG t k) m)∧c.1≤v-u∧v-u≤c.2:=by
 rw[ait];by_cases h:n<(aN t (k+1)).length
 ·rw[Bh h,Bd,pX,Ry,And.comm];refine ag5 λ_=>?_;constructor
  ·rintro⟨⟨m,c⟩,h1,h2⟩;exact⟨m,c,V4.1 h1,(Ve (NL (M5 ht k m)) (akB ht h1)).1 h2⟩
  ·rintro⟨m,c,h1,h2⟩;exact⟨(m,c),V4.2 h1,(Ve (NL (M5 ht k m)) (akB ht (V4.2 h1))).2 h2⟩
 ·rw[I4 ae];constructor
  ·intro k;exact absurd k (gU v)
  ·exact aFw
theorem aq4{m:Nat}{v:Int}(hj:j+2≤t.length):Mem v (aP (nK t (j+1)) m)↔Mem v (aI (aN t (t.length-2-j)) m).1∧∃e∈(aI (aN t (t.length-2-j)) m).2,∃u,Mem u (aP (nK t j) e.1.toNat)∧e.2.1≤u-v∧u-v≤e.2.2:=by
 rw[ahf];by_cases h:m<(aN t (t.length-2-j)).length
 ·rw[Bh h,Bd,pX,Jc,Ry,And.comm];refine ag5 λ_=>?_;constructor
  ·rintro⟨e,h1,h2⟩;obtain⟨u,h3,h4,h5⟩:=(Ve (NL (Qs ht j _)) at5).1 h2;simp only at h4 h5;exact⟨e,h1,u,h3,ae,ae⟩
  ·rintro⟨e,h1,u,h3,h4,h5⟩;exact⟨e,h1,(Ve (NL (Qs ht j _)) at5).2 ⟨u,h3,uU,uU⟩⟩
 ·rw[I4 ae];constructor
  ·intro k;exact absurd k (gU v)
  ·exact aFw
theorem aiq{n:Nat}{v:Int}(h:Mem v (aP (iG t k) n)):Mem v (aI (aN t k) n).1:=by
 cases k with
 |zero=>rw[iG,KV]at h;exact h
 |succ k=>exact((ais ht).1 h).1
end
def CX(code:Nat→Int):Nat→Option (Int×Nat)
 |0=>none
 |n+1=>match CX code n with
  |some x=>some x
  |none=>if code n=0 then none else some (code n,n)
theorem Kv{code:Nat→Int}:∀ {n:Nat},CX code n=none↔∀j,j<n→code j=0
 |0=>by simp[CX]
 |n+1=>by
  have ih:=Kv (code:=code) (n:=n);unfold CX
  cases h:CX code n with
  |some x=>
   simp only[reduceCtorEq,false_iff];intro k;have:=ih.2 λj hj=>k j ae;rw[h]at this;cases this
  |none=>
   have k:=ih.1 h;simp only[ite_eq_left_iff,reduceCtorEq,imp_false,Decidable.not_not];constructor
   ·intro e j hj;by_cases q:j=n
    ·subst q;exact e
    ·exact k j ae
   ·intro e;exact e n ae
theorem aaB{code:Nat→Int}{n:Nat}(hi:i<n)(h0:∀j,j<i→code j=0)(h:code i≠0):CX code n=some (code i,i):=by
 induction n with
 |zero=>omega
 |succ n ih=>
  unfold CX;by_cases e:i=n
  ·subst e;rw[Kv.2 h0];simp[h]
  ·rw[ih ae]
theorem alR{n:Nat}{q:Nat→Bool}:(List.range n).all q=true↔∀j,j<n→q j=true:=by
 rw[mq];simp only[fD]
abbrev mo:=Int×Sp
abbrev iC:=Int×Int×Int×List mo
def hgt(l:List mo)(i:Nat):mo:=l.getD i (0,0,0)
def kY(l:List mo)(i:Nat):Bool:=
 (if i=0 then decide ((hgt l 0).1=0)else decide ((hgt l (i-1)).1<(hgt l i).1))&&decide ((hgt l i).1≤10000)&&(decide (0≤(hgt l i).2.1)&&decide ((hgt l i).2.1≤(hgt l i).2.2))&&decide ((hgt l i).2.2≤4000)
def pR(l:List mo):Bool:=decide (1≤l.length)&&decide (l.length≤16)&&(List.range l.length).all (kY l)
def dH(l:List iC)(i:Nat):iC:=l.getD i (0,0,0,[])
def acw(s:iC):Bool:=decide (1≤s.1∧s.1≤65535∧0≤s.2.1∧s.2.1≤2000∧0≤s.2.2.1∧s.2.2.1≤2000)
def sQ(l:List iC)(i:Nat):Int:=
 if acw (dH l i)=true∧(0<i→(dH l (i-1)).1<(dH l i).1)then(if pR (dH l i).2.2.2=true then 0 else 51)else 50
def jU(l:List iC):Int×Int:=if 32<l.length then(2,0)else match CX (sQ l) l.length with|some (e,i)=>(e,i)|none=>(0,0)
theorem WT{l:List iC}:(jU l).1=0↔l.length≤32∧∀j,j<l.length→sQ l j=0:=by
 unfold jU;split
 ·exact uU
 ·cases h:CX (sQ l) l.length with
  |none=>simp only[true_iff];exact⟨ae,Kv.1 h⟩
  |some x=>
   obtain⟨e,i⟩:=x;simp only;constructor
   ·intro he;exfalso;have hn:CX (sQ l) l.length≠none:=by rw[h];simp
    have:∃i,i<l.length∧sQ l i≠0∧∀j,j<i→sQ l j=0:=by
     have key:∀n,n≤l.length→(∀j,j<n→sQ l j=0)∨∃i,i<l.length∧sQ l i≠0∧∀j,j<i→sQ l j=0:=by
      intro n
      induction n with
      |zero=>intro _;exact .inl λj hj=>ae
      |succ n ih=>
       intro hn;rcases ih ae with k|k
       ·by_cases q:sQ l n=0
        ·refine .inl λj hj=>?_;by_cases r:j=n
         ·subst r;exact q
         ·exact k j ae
        ·exact .inr ⟨n,ae,q,k⟩
       ·exact .inr k
     rcases key l.length (aV _)with k|k
     ·exact absurd (Kv.2 k) hn
     ·exact k
    obtain⟨i',h1,h2,h3⟩:=this;rw[aaB h1 h3 h2]at h;cases h;exact h2 he
   ·rintro⟨_,k⟩;rw[Kv.2 k]at h;cases h
def sS(l:List iC)(id:Int):Int×Int:=if(jU l).1≠0 then(0,(jU l).1)else match l.findIdx? λs=>decide (s.1=id)with|some i=>(i,0)|none=>(0,50)
def zn(l:List mo)(week:Int):Sp:=(l.foldl (λ(o:Sp) h=>if h.1≤week then h.2 else o) (hgt l 0).2)
abbrev jD:=List Sp×List (Int×Sp)
abbrev xP:=Int×Sp
def xz(s:Sp)(lo hi:Int):Bool:=decide (lo≤s.1)&&decide (s.1≤s.2)&&decide (s.2≤hi)
def Jo(n:Nat)(s:Int×Sp):Bool:=decide (0≤s.1)&&decide (s.1≤(n:Int)-1)&&xz s.2 0 400
def jQ(d:jD):Bool:=decide (1≤d.1.length)&&decide (d.1.length≤199)&&decide (d.2.length≤16)&&d.1.all (λs=>xz s 1 40)&&d.2.all (Jo d.1.length)
def EK(d:jD)(m:xP):Bool:=decide (0≤m.1)&&decide (m.1≤(d.1.length:Int))&&xz m.2 0 400
def oO(d:jD)(m:List xP):Int×Int:=
 if jQ d=true then(if 64<m.length then(2,0)else match m.findIdx? λx=>!EK d x with|some i=>(21,i)|none=>(0,0))else(20,0)
def zm(d:jD)(c:Nat):Sp:=d.2.foldl (λ(o:Sp) s=>if s.1=(c:Int)then(o.1+s.2.1,o.2+s.2.2)else o) (d.1.getD c (0,0))
def mF(l:List dF)(i:Nat):dF:=l.getD i (0,0,0)
def qp(l:List dF):Int×Int:=if 2000<l.length then(2,0)else match CX (λi=>if vW (mF l i)=true then 0 else 11) l.length with|some (e,i)=>(e,i)|none=>(0,0)
def Gc(p:bU)(l:List Int)(i:Nat):Bool:=decide (0≤l.getD i 0)&&decide (l.getD i 0≤p.cols-1)&&(decide (i=0) || decide (l.getD (i-1) 0<l.getD i 0))
def Ei(p:bU)(l:List Int):Bool:=(List.range l.length).all (Gc p l)
def zk(p:bU)(l:List dF)(c:Nat):List Sp:=norm (l.flatMap λt=>mX p t c)
def sI(p:bU)(l:List dF)(blots:List Int):List (List Sp):=(List.range p.cols.toNat).map λ(c:Nat)=>if((c:Nat):Int)∈blots then []else zk p l c
def jY(p:bU)(l:List dF)(blots:List Int):List (List Sp)×Int:=
 if fA p=true then(if(qp l).1≠0 then([],(qp l).1)else if Ei p blots=true then(if(sI p l blots).any (λx=>decide (8<x.length))=true then([],2)else(sI p l blots,0))else([],1))else([],10)
abbrev je:=Int×Int×Int×Sp
structure vJ where
 paper:bU
 trace:List dF
 blots:List Int
 drum:jD
 band:Int
 zlo:Int
 zhi:Int
 rate:Int
structure aQ where
 clerk:Int
 num:Int
 station:Int
 week:Int
 sheet:vJ
 marks:List xP
 names:List (Int×Int)
structure aJ where
 stas:List iC
 fixed:Int
 each:Int
 term:Int
 ticks:Int
 clerks:Int
 week:Int
 sheets:List aQ
 reads:List je
def Bu(b l h r:Int):Bool:=decide (0≤b∧b≤8∧-200≤l∧l≤h∧h≤200∧h-l≤40∧0≤r∧r≤12000)
def BF(fixed each:Int):Bool:=decide (0≤fixed)&&decide (fixed≤12000)&&decide (0≤each)&&decide (each≤10000)
def lZ(w:aJ)(f:aQ):Bool:=
 decide ((sS w.stas f.station).2=0)&&decide (f.week=w.week)&&fA f.sheet.paper&&decide ((jY f.sheet.paper f.sheet.trace f.sheet.blots).2=0)&&jQ f.sheet.drum&&decide (((f.sheet.drum.1.length:Nat):Int)+1=f.sheet.paper.cols)&&Bu f.sheet.band f.sheet.zlo f.sheet.zhi f.sheet.rate&&decide ((oO f.sheet.drum f.marks).1=0)
def oW(w:aJ)(r:je):Bool:=decide ((sS w.stas r.1).2=0)&&decide (r.2.1=w.week)&&decide (0≤r.2.2.1∧r.2.2.1≤w.ticks)&&decide (0≤r.2.2.2.1∧r.2.2.2.1≤r.2.2.2.2∧r.2.2.2.2≤12000)
def rD(w:aJ)(i:Nat):Bool:=match w.sheets[i]? with
 |none=>true
 |some f=>lZ w f&&(match i with|0=>true|j+1=>match w.sheets[j]? with|none=>true|some g=>decide (g.station<f.station))
def dA(w:aJ):Int:=
 if(jU w.stas).1≠0 then(jU w.stas).1
 else if BF w.fixed w.each=true∧(1≤w.ticks∧w.ticks≤400)∧(0≤w.term∧w.term≤w.ticks)∧(0≤w.week∧w.week≤10000)∧w.sheets.length≤64∧w.reads.length≤64∧(List.range w.sheets.length).all (rD w)=true∧w.reads.all (oW w)=true then 0 else 70
def jg(d:jD):List Sp:=(List.range d.1.length).map (zm d)
abbrev jr:=Int×Int
def eY(gaps:List Sp)(ticks:Int):List jr:=
 (-1,0)::((List.range gaps.length).flatMap λ(c:Nat)=>(List.range (min (gaps.getD c (0,0)).2 ticks).toNat).map λ(a:Nat)=>((c:Int),(a:Int)))++[((gaps.length:Int),0),((gaps.length:Int),1)]
abbrev dx:=Int×Int×Int
def K4(b:Int):List Int:=(List.range (2*b+1).toNat).map λ(k:Nat)=>(k:Int)-b
def o9(l:List jr)(b:Int):List dx:=l.flatMap λx=>(K4 b).map λj=>(x.1,x.2,j)
def adE(last:Int)(x y:jr):Bool:=decide (y.1=x.1)&&(decide (x.1=-1) || (decide (x.1<last)&&decide (y.2=x.2+1)) || (decide (x.1=last)&&decide (y.2=1)))
def acu(gaps:List Sp)(last:Int)(x y:jr):Bool:=decide (y.1=x.1+1)&&decide (y.2=0)&&(decide (x.1=-1) || (decide (x.1<last)&&decide ((gaps.getD x.1.toNat (0,0)).1≤x.2+1)&&decide (x.2+1≤(gaps.getD x.1.toNat (0,0)).2)))
def CR(gaps:List Sp)(b:Int)(moves:List lG)(l:List jr)(x:jr):List lG:=
 (List.range l.length).flatMap λ(i:Nat)=>if(adE gaps.length x (l.getD i (0,0)) || acu gaps gaps.length x (l.getD i (0,0)))=true then moves.map λm=>((i:Int)*(2*b+1)+m.1,m.2)else []
def rQ(l:List je)(station tick by':Int):Sp:=
 l.foldl (λ(s:Sp) r=>if r.1=station∧r.2.2.1=tick then(max s.1 (r.2.2.2.1-by'),min s.2 (r.2.2.2.2-by'))else s) (max 0 (-by'),min 12000 (12000-by'))
def lM(w:aJ)(f:aQ)(station:Int)(ink:List (List Sp))(last zero:Int)(x:dx)(tick:Int):List Sp:=
 let begins:=decide (x.1=-1) || (decide (x.1=0)&&decide (x.2.1=0))
 if((decide (tick=0)&&!begins) || (decide (tick=w.ticks)&&!decide (x.1=last)))=true then []
 else
  let s:=rQ w.reads station tick (x.2.2+zero)
  if s.2<s.1 then []
  else if x.1=-1∨x.2.1≠0 then [s]
  else if(f.marks.any λm=>decide (m.1=x.1)&&!(decide (m.2.1≤tick)&&decide (tick≤m.2.2)))=true then []
  else if ink.getD x.1.toNat []=[]then [s]else inter [s] (ink.getD x.1.toNat [])
def Jp(w:aJ)(f:aQ)(station:Int)(moves:Int→List lG)(zero:Int):aT:=
 let gaps:=jg f.sheet.drum
 let l:=eY gaps w.ticks
 let ink:=(jY f.sheet.paper f.sheet.trace f.sheet.blots).1
 (List.range (w.ticks+1).toNat).map λ(t:Nat)=>(o9 l f.sheet.band).map λx=>(lM w f station ink gaps.length zero x t,if(t:Int)<w.ticks then CR gaps f.sheet.band (moves x.2.2) l (x.1,x.2.1)else [])
def gG(w:aJ)(f:aQ):Bool:=decide (4000<((eY (jg f.sheet.drum) w.ticks).length:Int)*(2*f.sheet.band+1))
def gF(l:List Sp)(by':Int):List Sp:=l.map λs=>(s.1+by',s.2+by')
def yA(ss:List dx)(sets:List (List Sp))(zero:Int):List Sp:=(List.range ss.length).flatMap λn=>gF (aP sets n) ((ss.getD n (0,0,0)).2.2+zero)
def iw(f:aQ):List Int:=(List.range (f.sheet.zhi+1-f.sheet.zlo).toNat).map λ(k:Nat)=>f.sheet.zlo+(k:Int)
theorem als(b:Int):(K4 b).length=(2*b+1).toNat:=by simp[K4]
theorem WV(l:List jr)(b:Int):(o9 l b).length=l.length*(2*b+1).toNat:=by
 unfold o9
 induction l with
 |nil=>simp
 |cons x l ih=>rw[jN,dn,ih,fC,als,dS,Aw];omega
theorem aky(p:bU)(l:List dF)(bl:List Int)(c:Nat):bF (aP (sI p l bl) c):=by
 unfold sI;by_cases h:c<p.cols.toNat
 ·rw[Bh h];split
  ·exact kH
  ·exact oQ _
 ·exact aFC
theorem av1(p:bU)(l:List dF)(bl:List Int)(c:Nat):bF ((jY p l bl).1.getD c []):=by
 have h0:bF (([]:List (List Sp)).getD c []):=by simp[kH]
 unfold jY;split
 ·split
  ·exact h0
  ·split
   ·split
    ·exact h0
    ·exact aky p l bl c
   ·exact h0
 ·exact h0
theorem aqw(w:aJ)(f:aQ)(station:Int)(ink:List (List Sp))(last zero:Int)(x:dx)(tick:Int)(hi:∀c,bF (ink.getD c [])):bF (lM w f station ink last zero x tick):=by
 unfold lM;simp only;generalize rQ w.reads station tick (x.2.2+zero)=s;have h1:¬s.2<s.1→bF [s]:=λh=>by simp[bF];omega
 split
 ·exact kH
 ·split
  ·exact kH
  ·rename_i h;split
   ·exact h1 h
   ·split
    ·exact kH
    ·split
     ·exact h1 h
     ·exact Be (h1 h) (hi _)
section
variable (w:aJ) (f:aQ) (station:Int) (moves:Int→List lG) (zero:Int)
theorem Sv:(Jp w f station moves zero).length=(w.ticks+1).toNat:=by simp[Jp]
theorem EX(k:Nat)(hk:k<(w.ticks+1).toNat):aN (Jp w f station moves zero) k=(o9 (eY (jg f.sheet.drum) w.ticks) f.sheet.band).map λx=>
  (lM w f station (jY f.sheet.paper f.sheet.trace f.sheet.blots).1 (jg f.sheet.drum).length zero x k,if(k:Int)<w.ticks then CR (jg f.sheet.drum) f.sheet.band (moves x.2.2) (eY (jg f.sheet.drum) w.ticks) (x.1,x.2.1)else []):=by
 simp[aN,Jp,bN,hk]
theorem adI(k:Nat)(hk:(w.ticks+1).toNat≤k):aN (Jp w f station moves zero) k=[]:=by
 rw[aN,bN,wT (by rw[Sv];exact hk)];rfl
theorem asD{gaps:List Sp}{mv:List lG}{l:List jr}{x:jr}{e:lG}(h:e∈CR gaps b mv l x):∃i m,i<l.length∧m∈mv∧e=((i:Int)*(2*b+1)+m.1,m.2):=by
 unfold CR at h;simp only[iB,fD]at h;obtain⟨i,hi,h⟩:=h;split at h
 ·simp only[dz]at h;obtain⟨m,hm,rfl⟩:=h;exact⟨i,m,hi,hm,rfl⟩
 ·simp at h
theorem aAI(hb:0≤f.sheet.band)(hm:∀o,∀m∈moves o,0≤m.1∧m.1≤2*f.sheet.band∧m.2.1≤m.2.2):Ia (Jp w f station moves zero):=by
 constructor
 ·intro k n;by_cases hk:k<(w.ticks+1).toNat
  ·rw[EX _ _ _ _ _ k hk];by_cases hn:n<(o9 (eY (jg f.sheet.drum) w.ticks) f.sheet.band).length
   ·simp only[aI,bN,Ct,di hn,MG,sj];exact aqw _ _ _ _ _ _ _ _ (av1 _ _ _)
   ·rw[lW GH];exact kH
  ·rw[adI _ _ _ _ _ k ae,lW aj];exact kH
 ·intro k n e he;by_cases hk:k<(w.ticks+1).toNat
  ·rw[EX _ _ _ _ _ k hk]at he;by_cases hn:n<(o9 (eY (jg f.sheet.drum) w.ticks) f.sheet.band).length
   ·simp only[aI,bN,Ct,di hn,MG,sj]at he;by_cases hlt:(k:Int)<w.ticks
    ·rw[aG hlt]at he;obtain⟨i,m,hi,hmm,rfl⟩:=asD he;obtain⟨h1,h2,h3⟩:=hm _ m hmm;rw[EX _ _ _ _ _ (k+1) ae,fC,WV];have h4:0≤(i:Int)*(2*f.sheet.band+1):=yR ae ae;have h5:((i:Int)+1)*(2*f.sheet.band+1)≤((eY (jg f.sheet.drum) w.ticks).length:Int)*(2*f.sheet.band+1):=Ui ae ae;rw[Int.add_mul]at h5;refine⟨uU,?_,h3⟩;simp only;rw[Zj,show(((2*f.sheet.band+1).toNat:Nat):Int)=2*f.sheet.band+1 from ae];omega
    ·rw[aD hlt]at he;cases he
   ·rw[lW GH]at he;cases he
  ·rw[adI _ _ _ _ _ k ae,lW aj]at he;cases he
end
def sP(l m:Int):Int:=l+l*m / 8000
def eZ(l:Int)(h:Sp):Sp:=(sP l h.1,sP l h.2)
theorem R8{l m n:Int}(hl:0≤l)(h:m≤n):sP l m≤sP l n:=by
 unfold sP;have:l*m / 8000≤l*n / 8000:=Uf ae (Zi h hl);omega
def uP(l:List Sp):List Int:=l.flatMap λs=>(List.range (s.2+1-s.1).toNat).map λ(k:Nat)=>s.1+(k:Int)
theorem NP{l:List Sp}{n:Int}:n∈uP l↔Mem n l:=by
 simp only[uP,iB,dz,fD,Mem];constructor
 ·rintro⟨s,hs,k,hk,rfl⟩;exact⟨s,hs,ae,ae⟩
 ·rintro⟨s,hs,h1,h2⟩;exact⟨s,hs,(n-s.1).toNat,ae,ae⟩
def zi(h:Sp)(l:List Sp):List Sp:=norm ((uP l).map λn=>eZ n h)
theorem ahA{h:Sp}{l:List Sp}{v:Int}:Mem v (zi h l)↔∃n,Mem n l∧(eZ n h).1≤v∧v≤(eZ n h).2:=by
 unfold zi;rw[pX];simp only[Mem,dz];constructor
 ·rintro⟨s,⟨n,hn,rfl⟩,h1,h2⟩;obtain⟨t,ht,h3,h4⟩:=NP.1 hn;exact⟨n,⟨t,ht,h3,h4⟩,h1,h2⟩
 ·rintro⟨n,⟨t,ht,h3,h4⟩,h1,h2⟩;exact⟨_,⟨n,NP.2 ⟨t,ht,h3,h4⟩,rfl⟩,h1,h2⟩
structure tY(sets:List (List Sp))(bd:Nat→Nat→Int)(l:Nat→Int):Prop where
 mem:∀i,i<sets.length→Mem (l i) (aP sets i)
 wind:∀i k,i<sets.length→k<sets.length→l k-bd i k≤l i
theorem tY.min{sets:List (List Sp)}{bd:Nat→Nat→Int}{l m:Nat→Int}(h:tY sets bd l)(k:tY sets bd m):tY sets bd λi=>Min.min (l i) (m i):=
 ⟨λi hi=>by
  have h1:=h.mem i hi;have h2:=k.mem i hi;by_cases c:l i≤m i
  ·simpa[Int.min_eq_left c]using h1
  ·simpa[Int.min_eq_right (show m i≤l i from ae)]using h2,
  λi j hi hj=>by have:=h.wind i j hi hj;have:=k.wind i j hi hj;omega⟩
def Zm(sets:List (List Sp))(bd:Nat→Nat→Int)(dW l:Nat→Int):Prop:=
 tY sets bd l∧(∀i,i<sets.length→dW i≤l i)∧∀m,tY sets bd m→(∀i,i<sets.length→dW i≤m i)→∀i,i<sets.length→l i≤m i
theorem Qr(t:aT)(k:Nat):(iD t k).length=(aN t k).length:=by simp[iD]
section
variable {t:aT} (ht:Ia t)
include ht
theorem aqt(k n:Nat):bF (aP (iD t k) n):=by
 by_cases hn:n<(aN t k).length
 ·rw[iD,Bh hn];exact Be (M5 ht _ _) (Qs ht _ _)
 ·rw[iD,I4 ae];exact kH
end
end Go.Proofs.YtfmckbjeofiegaaGreat
