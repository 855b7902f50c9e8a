/- Part 6 of a proof. -/
import Derived.Test.YtfmckbjeofiegaaGreatA1
import Derived.Test.YtfmckbjeofiegaaGreatA2
set_option maxRecDepth 100000
set_option maxHeartbeats 16000000
set_option linter.all false
open Go Go.RowKit Go.Proofs.Tryz
namespace Go.Proofs.YtfmckbjeofiegaaGreat
open Go
def oP(f:aQ)(o:Int):List lG:=(KX f.sheet.band f.sheet.zlo f.sheet.zhi f.sheet.rate o).1
abbrev df(f:aQ):List Sp:=jg f.sheet.drum
abbrev jP(f:aQ):List (List Sp):=(jY f.sheet.paper f.sheet.trace f.sheet.blots).1
abbrev aL(x:aJ)(f:aQ):List dx:=o9 (eY (df f) x.ticks) f.sheet.band
def xU(x:aJ)(st:Int):List je:=x.reads.filter λr=>decide (r.1=st)
def bQ(x:aJ)(f:aQ)(st zero:Int):aT:=Jp x f st (oP f) zero
def mY(ss:List dx)(n:Nat):Int:=(ss.getD n (0,0,0)).2.2
def kZ(ss:List dx)(T:aT)(zero:Int)(tick:Nat)(levels:List Sp):aT:=
 T.set tick ((List.range (aN T tick).length).map λ(i:Nat)=>(inter (aI (aN T tick) i).1 (gF levels (-(mY ss i)-zero)),(aI (aN T tick) i).2))
def uw(ss:List dx)(i:Nat)(b:Sp)(e:lG):lG:=(e.1,max e.2.1 (b.1-(mY ss e.1.toNat-mY ss i)),min e.2.2 (b.2-(mY ss e.1.toNat-mY ss i)))
def kT(ss:List dx)(T:aT)(tick:Nat)(b:Sp):aT:=
 T.set tick ((List.range (aN T tick).length).map λ(i:Nat)=>((aI (aN T tick) i).1,((aI (aN T tick) i).2.map (uw ss i b)).filter λe=>decide (e.2.1≤e.2.2)))
def chunks(n:Nat):Nat→List Sp→List (List Sp)
 |0,_=>[]
 |k+1,l=>if l=[]then []else l.take n::chunks n k (l.drop n)
def RI(l:List Sp):List (List Sp):=chunks 50 l.length l
def bT(x:aJ)(f:aQ)(st:Int)(term:Nat)(within:List Sp)(any:Bool):List (aT×Int):=
 (iw f).flatMap λz=>if any=true then [(bQ x f st z,z)]else(RI within).map λp=>(kZ (aL x f) (bQ x f st z) z term p,z)
def iF(ss:List dx)(tick:Nat)(p:aT×Int):List Sp:=norm (yA ss (iD p.1 tick) p.2)
def pV(ss:List dx)(l:List (aT×Int))(tick:Nat):List Sp:=norm (l.flatMap (iF ss tick))
def qJ(ss:List dx)(ticks:Int)(l:List (aT×Int)):List (List Sp):=(List.range (ticks+1).toNat).map (pV ss l)
def kG(T:aT):Bool:=(iG T (T.length-1)).any λs=>decide (s≠[])
end Go.Proofs.YtfmckbjeofiegaaGreat
