/-
  Helping texts: plain functions and plain laws. No statement of the seed is proved here.
-/
import Derived.Test.YtbfhmmgnmbilfaaGreatDoorA1
import Derived.ChangeShapes
import Derived.ChangeSame
import Derived.Carry
import Derived.RowKit
import Derived.Test.YtbfhmmgnmbilfaaGreatDoorA2
set_option linter.unusedVariables false
set_option linter.unusedSimpArgs false
set_option linter.unusedSectionVars false
namespace Go.Gk
open Go IntKind
noncomputable section
structure aH where
 X0:Int
 Y0:Int
 X1:Int
 Y1:Int
 deriving DecidableEq,Inhabited
structure dU where
 X:Int
 Y:Int
 deriving DecidableEq,Inhabited
structure bU where
 At:dU
 dV:Int
 cB:Int
 To:Int
 fD:Bool
 deriving DecidableEq,Inhabited
structure dE where
 Part:eV
 fz:eV
 cL:Int
 At:dU
 deriving DecidableEq,Inhabited
structure jO where
 aK:List (List aH)
 cU:List aH
 aM:List bU
 bV:List dE
 deriving DecidableEq,Inhabited
structure aA where
 Y0:Int
 Y1:Int
 Xs:List Int
 deriving DecidableEq,Inhabited
structure fz where
 Part:eV
 fz:eV
 deriving DecidableEq,Inhabited
structure aD where
 cL:Int
 Set:List aA
 dY:List aH
 deriving DecidableEq,Inhabited
structure bW where
 fF:List Int
 aM:List Int
 fw:List fz
 deriving DecidableEq,Inhabited
structure eC where
 bU:Bool
 Number:Int
 deriving DecidableEq,Inhabited
structure bN where
 Open:Bool
 eC:eC
 A:Int
 B:Int
 deriving DecidableEq,Inhabited
structure uP where
 A:Int
 B:Int
 iK:Int
 cB:dU
 To:dU
 deriving DecidableEq,Inhabited
structure aF where
 from_:Int
 to:Int
 deriving DecidableEq,Inhabited
structure aP where
 from_:Int
 to:Int
 jX:List aF
 deriving DecidableEq,Inhabited
def wq(N:Nat)(p0 p1 p2:Int):Option Bool:=
 some (decide (p0>=p1)&&decide (p0<=p2))
def mH(N:Nat)(p0:Int):Option Bool:=
 (wq N p0 (-1000000) 1000000).bind λj=>some j
def oA(N:Nat)(p0:aH):Option Bool:=
 ((mH N p0.X0).bind λj=>bif j then((mH N p0.Y0).bind λo=>bif o then((mH N p0.X1).bind λaa=>bif aa then((mH N p0.Y1).bind λab=>some ab)else some false)else some false)else some false).bind λad=>some ad
def mh(N:Nat)(p0:List aH):Option Int:=
 bif decide ((p0.length:Int)>2000)then some 2 else((vg p0.length (λ(o:Nat)(aa:Unit)=>((idx p0 (o:Int)).bind λj=>(oA N j).bind λab=>bif(!ab)then some (.rt 1)else(bif decide (j.X1<=j.X0)||decide (j.Y1<=j.Y0)then some (.rt 13)else some (.nx ())):Option (Fl Unit Int))) ()).bind λad=>ad.cs (λ(aa:Unit)=>some 0)<|λr=>some r)
def kj(N:Nat)(p0:List aH):Option (List aH):=
 (app 32 ([]:List aH) p0).bind λj=>some j
def kT(N:Nat)(p0 p1:aH):Option Int:=
 some (wrap .i64<|p0.Y0 - p1.Y0)
def iS(N:Nat)(p0:List Int):Option (List Int):=
 bif decide ((p0.length:Int)<2)then some p0 else((iD (λ(o:Int)=>(bif decide (o<(p0.length:Int))then((idx p0 o).bind λab=>(idx p0<|wrap .i64<|o - 1).bind λad=>bif ab==ad then((vh p0 o (p0.length:Int)).bind λgh=>(iD (λ(j:List Int×Int×Int)=>(bif decide (j.2.2<(((j.1.length - Int.toNat o):Nat):Int))then((Jf j.1 o j.2.2).bind λae=>(Jf j.1 o<|wrap .i64<|j.2.2 - 1).bind λaf=>(bif ae != af then((Jf j.1 o j.2.2).bind λag=>(idx j.1 j.2.1).bind λak=>some (j.1.set (Int.toNat j.2.1) ag,wrap .i64<|j.2.1+1))else some (j.1,j.2.1)).bind λaa=>some<|.nx (aa.1,aa.2,wrap .i64<|j.2.2+1))else(some<|.br (j.1,j.2.1,j.2.2)):Option (Fl (List Int×Int×Int) Empty))) N (p0,o,1)).bind λah=>ah.cs (λ(j:List Int×Int×Int)=>(vh j.1 j.2.1 (j.1.length:Int)).bind λal=>(vh (j.1.take (Int.toNat j.2.1)++List.replicate (j.1.length - Int.toNat j.2.1) (0:Int)) 0 j.2.1).bind λai=>some<|.rt ai)<|λr=>r.elim)else some (.nx<|wrap .i64<|o+1))else(some<|.br o):Option (Fl Int<|List Int))) N 1).bind λaj=>aj.cs (λ(o:Int)=>some p0)<|λr=>some r)
def qz(N:Nat)(p0:aH)(p1:List Int)(p2:Int):Option Bool:=
 (idx p1 p2).bind λj=>some<|decide<|p0.Y1<=j
def ni(N:Nat)(p0:List aH)(p1:aH->Option Bool):Option Int:=
 (vg p0.length (λ(j:Nat)(o:Unit)=>((idx p0 (j:Int)).bind λaa=>(p1 aa).bind λab=>bif ab then some (.rt (j:Int))else(some<|.nx ()):Option (Fl Unit Int))) ()).bind λad=>ad.cs (λ(o:Unit)=>some<|-1)<|λr=>some r
def l3(N:Nat)(p0:List aH)(p1:aH->Option Bool):Option Int:=
 (vg p0.length (λ(j:Nat)(o:Unit)=>((idx p0 (j:Int)).bind λaa=>(p1 aa).bind λab=>bif ab then some (.rt (j:Int))else(some<|.nx ()):Option (Fl Unit Int))) ()).bind λad=>ad.cs (λ(o:Unit)=>some<|-1)<|λr=>some r
def jt(N:Nat)(p0:List aH)(p1:aH->Option Bool):Option (List aH):=
 (l3 N p0 p1).bind λo=>bif o==(-1)then some p0 else((iD (λ(j:List aH×Int×Int)=>(bif decide (j.2.2<(j.1.length:Int))then((idx j.1 j.2.2).bind λaa=>(p1 aa).bind λad=>(bif(!ad)then((idx j.1 j.2.1).bind λag=>some (j.1.set (Int.toNat j.2.1) aa,wrap .i64<|j.2.1+1))else some (j.1,j.2.1)).bind λab=>some<|.nx (ab.1,ab.2,wrap .i64<|j.2.2+1))else(some<|.br (j.1,j.2.1,j.2.2)):Option (Fl (List aH×Int×Int) Empty))) N (p0,o,wrap .i64<|o+1)).bind λae=>ae.cs (λ(j:List aH×Int×Int)=>(vh j.1 j.2.1 (j.1.length:Int)).bind λah=>(vh (j.1.take (Int.toNat j.2.1)++List.replicate (j.1.length - Int.toNat j.2.1) (⟨0,0,0,0⟩:aH)) 0 j.2.1).bind λaf=>some af)<|λr=>r.elim)
def iT(N:Nat)(p0 p1:aH):Option Int:=
 some (wrap .i64<|p0.X0 - p1.X0)
def ky(N:Nat)(p0:List aH):Option (List Int×List aH):=
 (Ap (iT N) p0).bind λaa=>(kR aa.length (λ(ad:Nat)(j:List Int)=>((idx aa (ad:Int)).bind λo=>(bif decide (wrap .i64 ((j.length:Int) - 1)>=0)then((idx j<|wrap .i64<|(j.length:Int) - 1).bind λae=>some<|decide<|o.X0<=ae)else some false).bind λaf=>(bif af then((idx j<|wrap .i64<|(j.length:Int) - 1).bind λab=>(idx j<|wrap .i64<|(j.length:Int) - 1).bind λai=>some<|j.set (Int.toNat<|wrap .i64<|(j.length:Int) - 1) (if ab<o.X1 then o.X1 else ab))else((app 8 j ([o.X0,o.X1]:List Int)).bind λag=>some ag)).bind λah=>some ah:Option (List Int))) ([]:List Int)).bind λj=>some (j,aa)
def oC(N:Nat)(p0:List Int)(p1:List Int):Option Bool:=
 bif(p0.length:Int) != (p1.length:Int)then some false else((vg p0.length (λ(j:Nat)(o:Unit)=>((idx p0 (j:Int)).bind λaa=>(idx p1 (j:Int)).bind λab=>bif aa != ab then some (.rt false)else(some<|.nx ()):Option (Fl Unit Bool))) ()).bind λad=>ad.cs (λ(o:Unit)=>some true)<|λr=>some r)
def j6(N:Nat)(p0:List aA)(p1:aA):Option (List aA):=
 bif((p1.Xs.length:Int)==0)||decide (p1.Y1<=p1.Y0)then some p0 else((bif decide (wrap .i64 ((p0.length:Int) - 1)>=0)then((idx p0<|wrap .i64<|(p0.length:Int) - 1).bind λj=>bif j.Y1==p1.Y0 then((idx p0<|wrap .i64<|(p0.length:Int) - 1).bind λo=>(oC N o.Xs p1.Xs).bind λaa=>some aa)else some false)else some false).bind λab=>bif ab then((idx p0<|wrap .i64<|(p0.length:Int) - 1).bind λad=>some<|p0.set (Int.toNat<|wrap .i64<|(p0.length:Int) - 1)<|{ad with Y1:=p1.Y1})else((app 40 p0 ([p1]:List aA)).bind λae=>some ae))
def iX(N:Nat)(p0:List aH):Option (List aA):=
 (kj N p0).bind λag=>(Ap (kT N) ag).bind λaa=>(kR aa.length (λ(ah:Nat)(ad:List Int)=>((idx aa (ah:Int)).bind λae=>(app 8 ad ([ae.Y0,ae.Y1]:List Int)).bind λai=>some ai:Option (List Int))) ([]:List Int)).bind λad=>(xL ad).bind λaj=>(iS N aj).bind λab=>(iD (λ(j:List aA×List aH×Int×Int)=>(bif decide (wrap .i64 (j.2.2.2+1)<(ab.length:Int))then((jt N j.2.1<|λy0=>qz N y0 ab j.2.2.2).bind λak=>(iD (λ(o:List aH×Int)=>((bif decide (o.2<(aa.length:Int))then((idx aa o.2).bind λal=>(idx ab j.2.2.2).bind λan=>some<|decide<|al.Y0<=an)else some false).bind λao=>bif ao then((idx aa o.2).bind λaq=>(app 32 o.1 ([aq]:List aH)).bind λar=>some<|.nx (ar,wrap .i64<|o.2+1))else(some<|.br (o.1,o.2)):Option (Fl (List aH×Int) Empty))) N (ak,j.2.2.1)).bind λau=>au.cs (λ(o:List aH×Int)=>(idx ab j.2.2.2).bind λav=>(idx ab<|wrap .i64<|j.2.2.2+1).bind λaw=>(ky N o.1).bind λaf=>(j6 N j.1 (⟨av,aw,af.1⟩:aA)).bind λax=>some<|.nx (ax,af.2,o.2,wrap .i64<|j.2.2.2+1))<|λr=>r.elim)else(some<|.br (j.1,j.2.1,j.2.2.1,j.2.2.2)):Option (Fl (List aA×List aH×Int×Int) Empty))) N (([]:List aA),([]:List aH),0,0)).bind λay=>ay.cs (λ(j:List aA×List aH×Int×Int)=>some j.1)<|λr=>r.elim
def kz(N:Nat)(p0:List aA):Option (List aH):=
 (kR p0.length (λ(ab:Nat)(aa:List aH)=>((idx p0 (ab:Int)).bind λo=>(iD (λ(j:List aH×Int)=>(bif decide (j.2<(o.Xs.length:Int))then((idx o.Xs j.2).bind λad=>(idx o.Xs<|wrap .i64<|j.2+1).bind λae=>(app 32 j.1 ([(⟨ad,o.Y0,ae,o.Y1⟩:aH)]:List aH)).bind λaf=>some<|.nx (af,wrap .i64<|j.2+2))else(some<|.br (j.1,j.2)):Option (Fl (List aH×Int) Empty))) N (aa,0)).bind λag=>ag.cs (λ(j:List aH×Int)=>some j.1) (λr=>r.elim):Option (List aH))) ([]:List aH)).bind λaa=>some aa
def lN(N:Nat)(p0:List aH)(p1:List aH):Option Bool:=
 bif(p0.length:Int) != (p1.length:Int)then some false else((vg p0.length (λ(j:Nat)(o:Unit)=>((idx p0 (j:Int)).bind λaa=>(idx p1 (j:Int)).bind λab=>bif(!(decide<|aa=ab))then some (.rt false)else(some<|.nx ()):Option (Fl Unit Bool))) ()).bind λad=>ad.cs (λ(o:Unit)=>some true)<|λr=>some r)
def kl(N:Nat)(p0:List aH):Option Int:=
 (mh N p0).bind λab=>bif ab != 0 then some ab else((iD (λ(j:Int)=>(bif decide (j<(p0.length:Int))then((idx p0<|wrap .i64<|j - 1).bind λo=>(idx p0 j).bind λaa=>bif decide (aa.Y0<o.Y0)||((aa.Y0==o.Y0)&&decide (aa.X0<=o.X0))then some (.rt 8)else some (.nx<|wrap .i64<|j+1))else(some<|.br j):Option (Fl Int Int))) N 1).bind λad=>ad.cs (λ(j:Int)=>(iX N p0).bind λae=>(kz N ae).bind λaf=>(lN N af p0).bind λag=>bif(!ag)then some 3 else some 0)<|λr=>some r)
def jl(N:Nat)(p0 p1 p2:Int):Option Bool:=
 some (decide (p0>=p1)&&decide (p0<=p2))
def kL(N:Nat)(p0:dU):Option Bool:=
 ((mH N p0.X).bind λj=>bif j then((mH N p0.Y).bind λo=>some o)else some false).bind λaa=>some aa
def ik(N:Nat)(p0:bU):Option aH:=
 some (⟨wrap .i64<|p0.At.X -(wrap .i64<|Int.tdiv p0.dV 2),wrap .i64<|p0.At.Y -(wrap .i64<|Int.tdiv p0.dV 2),wrap .i64<|wrap .i64 (p0.At.X -(wrap .i64<|Int.tdiv p0.dV 2))+p0.dV,wrap .i64<|wrap .i64 (p0.At.Y -(wrap .i64<|Int.tdiv p0.dV 2))+p0.dV⟩:aH)
def oD(N:Nat)(p0:List aA):Option aH:=
 (idx p0 0).bind λad=>(idx ad.Xs 0).bind λae=>(idx p0 0).bind λaf=>(idx p0 0).bind λag=>(idx ag.Xs 1).bind λah=>(idx p0<|wrap .i64<|(p0.length:Int) - 1).bind λai=>(kR p0.length (λ(aj:Nat)(j:aH)=>((idx p0 (aj:Int)).bind λo=>(idx o.Xs 0).bind λaa=>(idx o.Xs<|wrap .i64<|(o.Xs.length:Int) - 1).bind λab=>some ({{j with X0:=(if aa<j.X0 then aa else j.X0)}with X1:=(if j.X1<ab then ab else j.X1)}):Option aH)) (⟨ae,af.Y0,ah,ai.Y1⟩:aH)).bind λj=>some j
def nT(N:Nat)(p0:List aA):Option Bool:=
 (bif(p0.length:Int)==0 then some true else((oD N p0).bind λj=>(oA N j).bind λo=>some o)).bind λaa=>some aa
def m6(N:Nat)(p0:bU):Option (aH×Int):=
 ((jl N p0.dV 1 10000).bind λo=>bif(!o)then some true else((kL N p0.At).bind λaa=>some<|!aa)).bind λab=>bif ab then some ((⟨0,0,0,0⟩:aH),1)else((ik N p0).bind λj=>(iX N ([j]:List aH)).bind λad=>(nT N ad).bind λae=>bif(!ae)then some ((⟨0,0,0,0⟩:aH),1)else some (j,0))
def lO(N:Nat)(p0:jO):Option Int:=
 bif decide ((p0.aM.length:Int)>500)then some 2 else((vg p0.aM.length (λ(aa:Nat)(ab:Unit)=>((idx p0.aM (aa:Int)).bind λj=>(m6 N j).bind λo=>bif o.2 != 0 then some (.rt o.2)else(((jl N j.cB 0<|wrap .i64<|(p0.aK.length:Int) - 1).bind λad=>bif(!ad)then some true else((jl N j.To j.cB<|wrap .i64<|(p0.aK.length:Int) - 1).bind λae=>some<|!ae)).bind λaf=>bif af then some (.rt 1)else some (.nx ())):Option (Fl Unit Int))) ()).bind λag=>ag.cs (λ(ab:Unit)=>some 0)<|λr=>some r)
def jK(N:Nat)(p0:eV)(p1:Int):Option Int:=
 some (Lib.indexByte p0.dP (Int.toNat p1).toUInt8)
def lP(N:Nat)(p0 p1:eV):Option Int:=
 bif((p1.dP.length:Int)==0)||p1.wi p0 then some 0 else(bif(p1.dP.length:Int)==1 then((I9 p1 0).bind λj=>(jK N p0 (j.toNat:Int)).bind λo=>some o)else(bif decide ((p1.dP.length:Int)>=(p0.dP.length:Int))then some (-1)else none))
def m7(N:Nat)(p0 p1:eV):Option Int:=
 (lP N p0 p1).bind λj=>some j
def pg(N:Nat)(p0 p1:eV):Option Int:=
 bif(p1.dP.length:Int)==0 then none else(bif(p1.dP.length:Int)==1 then((I9 p1 0).bind λaa=>some ((Lib.countByte p0.dP (Int.toNat (aa.toNat:Int)).toUInt8:Nat):Int))else((iD (λ(j:eV×Int)=>((m7 N j.1 p1).bind λo=>bif o==(-1)then some (.rt j.2)else((zC j.1 (wrap .i64<|o+(p1.dP.length:Int)) (j.1.dP.length:Int)).bind λab=>some<|.nx (ab,wrap .i64<|j.2+1)):Option (Fl (eV×Int) Int))) N (p0,0)).bind λad=>ad.cs (λ(j:eV×Int)=>some 0)<|λr=>some r))
def oE(N:Nat)(p0 p1:eV)(p2 p3:Int):Option (List eV):=
 bif p3==0 then some ([]:List eV)else(bif p1.wi (⟨[]⟩)then none else((bif decide (p3<0)then((pg N p0 p1).bind λab=>some<|wrap .i64<|ab+1)else some p3).bind λo=>(mk 16 (⟨[]⟩:eV) (if wrap .i64 ((p0.dP.length:Int)+1)<o then wrap .i64 ((p0.dP.length:Int)+1)else o)).bind λad=>(iD (λ(j:eV×List eV×Int)=>(bif decide (j.2.2< wrap .i64 ((if wrap .i64 ((p0.dP.length:Int)+1)<o then wrap .i64 ((p0.dP.length:Int)+1)else o) - 1))then((m7 N j.1 p1).bind λaa=>bif decide (aa<0)then some (.br (j.1,j.2.1,j.2.2))else((zC j.1 0<|wrap .i64<|aa+p2).bind λae=>(idx j.2.1 j.2.2).bind λai=>(zC j.1 (wrap .i64<|aa+(p1.dP.length:Int)) (j.1.dP.length:Int)).bind λaf=>some<|.nx (af,j.2.1.set (Int.toNat j.2.2) ae,wrap .i64<|j.2.2+1)))else(some<|.br (j.1,j.2.1,j.2.2)):Option (Fl (eV×List eV×Int) Empty))) N (p0,ad,0)).bind λag=>ag.cs (λ(j:eV×List eV×Int)=>(idx j.2.1 j.2.2).bind λaj=>(vh (j.2.1.set (Int.toNat j.2.2) j.1) 0<|wrap .i64<|j.2.2+1).bind λah=>some ah)<|λr=>r.elim))
def m8(N:Nat)(p0 p1:eV):Option (List eV):=
 (oE N p0 p1 0<|-1).bind λj=>some j
def mi(N:Nat)(p0:List eV)(p1:eV->Option Bool):Option Int:=
 (vg p0.length (λ(j:Nat)(o:Unit)=>((idx p0 (j:Int)).bind λaa=>(p1 aa).bind λab=>bif ab then some (.rt (j:Int))else(some<|.nx ()):Option (Fl Unit Int))) ()).bind λad=>ad.cs (λ(o:Unit)=>some<|-1)<|λr=>some r
def ju(N:Nat)(p0:List eV)(p1:eV->Option Bool):Option Bool:=
 (mi N p0 p1).bind λj=>some<|decide<|j>=0
def iE(N:Nat)(p0:eV)(p1:Int):Option Int:=
 (jK N p0 p1).bind λj=>some j
def j7(N:Nat)(p0:eV):Option Bool:=
 (vg p0.dP.length (λ(o:Nat)(aa:Unit)=>((I9 p0 (o:Int)).bind λj=>(bif((decide ((j.toNat:Int)<65)||decide ((j.toNat:Int)>90))&&(decide ((j.toNat:Int)<97)||decide ((j.toNat:Int)>122)))&&(decide ((j.toNat:Int)<48)||decide ((j.toNat:Int)>57))then((iE N (⟨[95,43,45,35]⟩) (j.toNat:Int)).bind λab=>some<|decide<|ab<0)else some false).bind λad=>bif ad then some (.rt false)else(some<|.nx ()):Option (Fl Unit Bool))) ()).bind λae=>ae.cs (λ(aa:Unit)=>some<|decide ((p0.dP.length:Int)>=1)&&decide ((p0.dP.length:Int)<=40))<|λr=>some r
def jv(N:Nat)(p0:eV):Option Bool:=
 (j7 N p0).bind λj=>some<|!j
def nU(N:Nat)(p0:eV):Option Bool:=
 (bif decide ((p0.dP.length:Int)<=200)then((m8 N p0<|⟨[47]⟩).bind λj=>(ju N j<|jv N).bind λo=>some<|!o)else some false).bind λaa=>some aa
def mI(N:Nat)(p0:dE):Option fz:=
 some (⟨p0.Part,p0.fz⟩:fz)
def nj(N:Nat)(p0 p1:eV):Option Int:=
 some (Lib.compareBytes p0.dP p1.dP)
def pK(N:Nat)(p0 p1:eV):Option Int:=
 (nj N p0 p1).bind λj=>some j
def jE(N:Nat)(p0 p1:fz):Option Int:=
 (pK N p0.Part p1.Part).bind λj=>bif j != 0 then some j else((pK N p0.fz p1.fz).bind λo=>some o)
def lQ(N:Nat)(p0:jO):Option Int:=
 bif decide ((p0.bV.length:Int)>1000)then some 2 else((vg p0.bV.length (λ(o:Nat)(aa:Unit)=>((idx p0.bV (o:Int)).bind λj=>((nU N j.Part).bind λab=>bif(!ab)then some true else((j7 N j.fz).bind λad=>some<|!ad)).bind λae=>bif ae then some (.rt 5)else(((jl N j.cL 0<|wrap .i64<|(p0.aK.length:Int) - 1).bind λaf=>bif(!af)then some true else((kL N j.At).bind λag=>some<|!ag)).bind λah=>bif ah then some (.rt 1)else((bif decide ((o:Int)>0)then((idx p0.bV<|wrap .i64<|(o:Int) - 1).bind λai=>(mI N j).bind λaj=>(mI N ai).bind λak=>(jE N aj ak).bind λal=>some<|decide<|al<=0)else some false).bind λan=>bif an then some (.rt 8)else some (.nx ()))):Option (Fl Unit Int))) ()).bind λao=>ao.cs (λ(aa:Unit)=>some 0)<|λr=>some r)
def kM(N:Nat)(p0 p1:Int)(p2 p3:Int):Option Int:=
 some (if(if 0<(wrap .i64<|wrap .i64 (p2 - p1)+1)then wrap .i64 (wrap .i64 (p2 - p1)+1)else 0)<(wrap .i64<|wrap .i64 (p0 - p3)+1)then wrap .i64 (wrap .i64 (p0 - p3)+1)else(if 0<(wrap .i64<|wrap .i64 (p2 - p1)+1)then wrap .i64 (wrap .i64 (p2 - p1)+1)else 0))
def mj(N:Nat)(p0 p1:aH):Option Int:=
 (kM N p0.X0 p0.X1 p1.X0 p1.X1).bind λj=>(kM N p0.Y0 p0.Y1 p1.Y0 p1.Y1).bind λo=>some (if j<o then o else j)
def ml(N:Nat)(p0:bU)(p1:Int):Option Bool:=
 some (decide (p0.cB<=p1)&&decide (p1<=p0.To))
def oF(N:Nat)(p0:List aA)(p1 p2:Int):Option (List Int×Int):=
 bif(p0.length:Int)==0 then some (([]:List Int),p2)else((idx p0 0).bind λaa=>bif decide (p1<aa.Y0)then((idx p0 0).bind λj=>some (([]:List Int),(if j.Y0<p2 then j.Y0 else p2)))else((idx p0 0).bind λab=>(idx p0 0).bind λo=>some (ab.Xs,(if o.Y1<p2 then o.Y1 else p2))))
def tA(N:Nat)(p0:List Int)(p1:List Int)(p2:Bool->Bool->Option Bool):Option (List Int):=
 (iD (λ(j:List Int×List Int×List Int×Bool×Bool×Bool)=>((bif decide ((j.1.length:Int)>0)then some true else some (decide<|(j.2.1.length:Int)>0)).bind λaf=>bif af then((bif(j.2.1.length:Int)==0 then some true else(bif decide ((j.1.length:Int)>0)then((idx j.1 0).bind λag=>(idx j.2.1 0).bind λah=>some<|decide<|ag<=ah)else some false)).bind λai=>(bif ai then((idx j.1 0).bind λaj=>some aj)else((idx j.2.1 0).bind λKO=>some KO)).bind λo=>(bif decide ((j.1.length:Int)>0)then((idx j.1 0).bind λak=>some<|ak==o)else some false).bind λal=>(bif al then((vh j.1 1 (j.1.length:Int)).bind λan=>some (an,(!j.2.2.2.1)))else some (j.1,j.2.2.2.1)).bind λaa=>(bif decide ((j.2.1.length:Int)>0)then((idx j.2.1 0).bind λao=>some<|ao==o)else some false).bind λaq=>(bif aq then((vh j.2.1 1 (j.2.1.length:Int)).bind λar=>some (ar,(!j.2.2.2.2.1)))else some (j.2.1,j.2.2.2.2.1)).bind λab=>(p2 aa.2 ab.2).bind λad=>(bif ad != j.2.2.2.2.2 then((app 8 j.2.2.1 ([o]:List Int)).bind λau=>some (au,ad))else some (j.2.2.1,j.2.2.2.2.2)).bind λae=>some<|.nx (aa.1,ab.1,ae.1,aa.2,ab.2,ae.2))else(some<|.br (j.1,j.2.1,j.2.2.1,j.2.2.2.1,j.2.2.2.2.1,j.2.2.2.2.2)):Option (Fl (List Int×List Int×List Int×Bool×Bool×Bool) Empty))) N (p0,p1,([]:List Int),false,false,false)).bind λav=>av.cs (λ(j:List Int×List Int×List Int×Bool×Bool×Bool)=>some j.2.2.1)<|λr=>r.elim
def rL(N:Nat)(p0:List aA)(p1:List aA)(p2:Bool->Bool->Option Bool):Option (List aA):=
 bif wrap .i64 ((p0.length:Int)+(p1.length:Int))==0 then some ([]:List aA)else((kR (([p0,p1]:List (List aA)).length) (λ(ah:Nat)(o:Int×Int)=>((idx ([p0,p1]:List (List aA)) (ah:Int)).bind λad=>(bif decide ((ad.length:Int)>0)then((bif(ah:Int)==0 then some true else some ((p0.length:Int)==0)).bind λal=>(bif al then((idx ad 0).bind λan=>(idx ad<|wrap .i64<|(ad.length:Int) - 1).bind λao=>some (an.Y0,ao.Y1))else some (o.1,o.2)).bind λag=>(idx ad 0).bind λai=>(idx ad<|wrap .i64<|(ad.length:Int) - 1).bind λaj=>some ((if ai.Y0<ag.1 then ai.Y0 else ag.1),(if ag.2<aj.Y1 then aj.Y1 else ag.2)))else some (o.1,o.2)).bind λak=>some (ak.1,ak.2):Option (Int×Int))) (0,0)).bind λo=>(iD (λ(j:List aA×List aA×List aA×Int)=>(bif decide (j.2.2.2<o.2)then((iD (λ(aa:List aA)=>((bif decide ((aa.length:Int)>0)then((idx aa 0).bind λaq=>some<|decide<|aq.Y1<=j.2.2.2)else some false).bind λar=>bif ar then((vh aa 1 (aa.length:Int)).bind λau=>some<|.nx au)else(some<|.br aa):Option (Fl (List aA) Empty))) N j.1).bind λav=>av.cs (λ(aa:List aA)=>(iD (λ(ab:List aA)=>((bif decide ((ab.length:Int)>0)then((idx ab 0).bind λaw=>some<|decide<|aw.Y1<=j.2.2.2)else some false).bind λax=>bif ax then((vh ab 1 (ab.length:Int)).bind λay=>some<|.nx ay)else(some<|.br ab):Option (Fl (List aA) Empty))) N j.2.1).bind λaz=>az.cs (λ(ab:List aA)=>(oF N aa j.2.2.2 o.2).bind λae=>(oF N ab j.2.2.2 o.2).bind λaf=>(tA N ae.1 af.1 p2).bind λa0=>(j6 N j.2.2.1 (⟨j.2.2.2,(if af.2<ae.2 then af.2 else ae.2),a0⟩:aA)).bind λa1=>some<|.nx (aa,ab,a1,(if af.2<ae.2 then af.2 else ae.2)))<|λr=>r.elim)<|λr=>r.elim)else(some<|.br (j.1,j.2.1,j.2.2.1,j.2.2.2)):Option (Fl (List aA×List aA×List aA×Int) Empty))) N (p0,p1,([]:List aA),o.1)).bind λa2=>a2.cs (λ(j:List aA×List aA×List aA×Int)=>some j.2.2.1)<|λr=>r.elim)
def qA(N:Nat)(p0 p1:Bool):Option Bool:=
 some (p0&&(!p1))
def mm(N:Nat)(p0:List aA)(p1:List aA):Option (List aA):=
 (rL N p0 p1<|qA N).bind λj=>some j
def nV(N:Nat)(p0:List aA):Option Int:=
 (kR p0.length (λ(o:Nat)(j:Int)=>((idx p0 (o:Int)).bind λaa=>some (wrap .i64<|j+ wrap .i64 (Int.tdiv (aa.Xs.length:Int) 2)):Option Int)) 0).bind λj=>some j
def gr(N:Nat)(p0:Int)(p1_0:List Int):Option (Int×List Int):=
 (iD (λ(j:Int×List Int)=>((idx j.2 j.1).bind λaa=>bif aa != j.1 then((idx j.2 j.1).bind λab=>(idx j.2 ab).bind λo=>(idx j.2 j.1).bind λaf=>(idx (j.2.set (Int.toNat j.1) o) j.1).bind λad=>some<|.nx (ad,j.2.set (Int.toNat j.1) o))else(some<|.br (j.1,j.2)):Option (Fl (Int×List Int) Empty))) N (p0,p1_0)).bind λae=>ae.cs (λ(j:Int×List Int)=>some (j.1,j.2))<|λr=>r.elim
def mS(N:Nat)(p0:List aA):Option (List<|List aA):=
 (kz N p0).bind λab=>(mk 8 (0:Int) (ab.length:Int)).bind λan=>(kR an.length (λ(ai:Nat)(ag:List Int)=>((idx ag (ai:Int)).bind λbd=>some (ag.set (Int.toNat (ai:Int)) (ai:Int)):Option (List Int))) an).bind λag=>(kR p0.length (λ(aj:Nat)(aa:List Int×Int×Int)=>((idx p0 (aj:Int)).bind λak=>(bif decide ((aj:Int)>0)then((idx p0<|wrap .i64<|(aj:Int) - 1).bind λar=>some<|ar.Y1==ak.Y0)else some false).bind λau=>(bif au then((iD (λ(j:List Int×Int×Int)=>(bif decide (j.2.1<aa.2.1)&&decide (j.2.2< wrap .i64 (aa.2.1+ wrap .i64 (Int.tdiv (ak.Xs.length:Int) 2)))then(((idx ab j.2.1).bind λav=>(idx ab j.2.2).bind λaw=>bif decide (av.X0<aw.X1)then((idx ab j.2.2).bind λax=>(idx ab j.2.1).bind λay=>some<|decide<|ax.X0<ay.X1)else some false).bind λaz=>(bif az then((gr N j.2.1 j.1).bind λae=>(gr N j.2.2 ae.2).bind λad=>(idx ad.2 (if ae.1<ad.1 then ad.1 else ae.1)).bind λbf=>some<|ad.2.set (Int.toNat (if ae.1<ad.1 then ad.1 else ae.1)) (if ad.1<ae.1 then ad.1 else ae.1))else some j.1).bind λa0=>(idx ab j.2.1).bind λa1=>(idx ab j.2.2).bind λa2=>(bif decide (a1.X1<a2.X1)then some (wrap .i64<|j.2.1+1,j.2.2)else some (j.2.1,wrap .i64<|j.2.2+1)).bind λao=>some<|.nx (a0,ao.1,ao.2))else(some<|.br (j.1,j.2.1,j.2.2)):Option (Fl (List Int×Int×Int) Empty))) N (aa.1,aa.2.2,aa.2.1)).bind λa3=>a3.cs (λ(j:List Int×Int×Int)=>some j.1)<|λr=>r.elim)else some aa.1).bind λa4=>some (a4,wrap .i64<|aa.2.1+ wrap .i64 (Int.tdiv (ak.Xs.length:Int) 2),aa.2.1):Option (List Int×Int×Int))) (ag,0,0)).bind λaa=>(kR ab.length (λ(aq:Nat)(o:List Int×List (Int×Int)×List (List aH))=>((idx ab (aq:Int)).bind λa5=>(gr N (aq:Int) o.1).bind λah=>(bif(!(lZ o.2.1 ah.1))then((app 24 o.2.2 [([]:List aH)]).bind λa6=>some (rJ o.2.1 ah.1 (o.2.2.length:Int),a6,(o.2.2.length:Int)))else some (o.2.1,o.2.2,fK o.2.1 ah.1 (0:Int))).bind λaf=>(idx af.2.1 af.2.2).bind λa7=>(app 32 a7 ([a5]:List aH)).bind λa8=>(idx af.2.1 af.2.2).bind λbg=>some (ah.2,af.1,af.2.1.set (Int.toNat af.2.2) a8):Option (List Int×List (Int×Int)×List (List aH)))) (aa.1,([]:List (Int×Int)),([]:List (List aH)))).bind λo=>(kR o.2.2.length (λ(a9:Nat)(al:List (List aA))=>((idx o.2.2 (a9:Int)).bind λba=>(iX N ba).bind λbb=>(app 24 al ([bb]:List (List aA))).bind λbc=>some bc:Option (List<|List aA))) ([]:List (List aA))).bind λal=>some al
def kU(N:Nat)(p0_0:List (List aH))(p0_2:List bU)(p0_4:List (List aA))(p0_5:List aD):Option (Bool×List (List aA)×List aD):=
 (kR p0_0.length (λ(aa:Nat)(j:List (List aA)×List aD×Bool)=>((idx p0_0 (aa:Int)).bind λai=>(kR p0_2.length (λ(aj:Nat)(o:List aH)=>((idx p0_2 (aj:Int)).bind λaf=>(ml N af (aa:Int)).bind λak=>(bif ak then((ik N af).bind λal=>(app 32 o ([al]:List aH)).bind λan=>some an)else some o).bind λao=>some ao:Option (List aH))) ([]:List aH)).bind λo=>(iX N ai).bind λaq=>(iX N o).bind λar=>(mm N aq ar).bind λab=>(bif j.2.2 then((nV N ab).bind λau=>some (decide<|au<=2000,ab))else some (false,ab)).bind λad=>(app 24 j.1 ([ad.2]:List (List aA))).bind λav=>(mS N ad.2).bind λag=>(kR ag.length (λ(aw:Nat)(ae:List aD)=>((idx ag (aw:Int)).bind λah=>(kz N ah).bind λax=>(app 56 ae ([(⟨(aa:Int),ah,ax⟩:aD)]:List aD)).bind λay=>some ay:Option (List aD))) j.2.1).bind λae=>some (av,ae,ad.1):Option (List (List aA)×List aD×Bool))) (p0_4,p0_5,true)).bind λj=>(bif j.2.2 then some (decide<|(j.2.1.length:Int)<=2000)else some false).bind λaz=>some (az,j.1,j.2.1)
def uQ(N:Nat)(p0 p1:aH):Option Bool:=
 some (((decide (p0.X0<p1.X1)&&decide (p1.X0<p0.X1))&&((p0.Y1==p1.Y0)||(p1.Y1==p0.Y0)))||((decide (p0.Y0<p1.Y1)&&decide (p1.Y0<p0.Y1))&&((p0.X1==p1.X0)||(p1.X1==p0.X0))))
def lq(N:Nat)(p0:aH)(p1:bU):Option Bool:=
 (ik N p1).bind λj=>(uQ N p0 j).bind λo=>some o
def iL(N:Nat)(p0:List aH)(p1:aH->Option Bool):Option Bool:=
 (ni N p0 p1).bind λj=>some<|decide<|j>=0
def kV(N:Nat)(p0_2:List bU)(p0_5:List aD)(p0_6:List (List Int)):Option (List<|List Int):=
 (kR p0_2.length (λ(ae:Nat)(o:List (List Int))=>((idx p0_2 (ae:Int)).bind λaa=>(kR p0_5.length (λ(ab:Nat)(j:List Int)=>((idx p0_5 (ab:Int)).bind λad=>(bif aa.fD then((ml N aa ad.cL).bind λaf=>bif af then((iL N ad.dY<|λy0=>lq N y0 aa).bind λag=>some ag)else some false)else some false).bind λah=>(bif ah then((app 8 j ([(ab:Int)]:List Int)).bind λai=>some ai)else some j).bind λaj=>some aj:Option (List Int))) ([]:List Int)).bind λj=>(app 24 o ([j]:List (List Int))).bind λak=>some ak:Option (List<|List Int))) p0_6).bind λo=>some o
def kN(N:Nat)(p0:Int):Option (List Int):=
 (mk 8 (0:Int) p0).bind λaa=>(kR aa.length (λ(o:Nat)(j:List Int)=>((idx j (o:Int)).bind λab=>some (j.set (Int.toNat (o:Int)) (o:Int)):Option (List Int))) aa).bind λj=>some j
def fG(N:Nat)(p0_0:List Int)(p1:Int):Option (Int×List Int):=
 (iD (λ(j:List Int×Int)=>((idx j.1 j.2).bind λaa=>bif aa != j.2 then((idx j.1 j.2).bind λab=>(idx j.1 ab).bind λo=>(idx j.1 j.2).bind λaf=>(idx (j.1.set (Int.toNat j.2) o) j.2).bind λad=>some<|.nx (j.1.set (Int.toNat j.2) o,ad))else(some<|.br (j.1,j.2)):Option (Fl (List Int×Int) Empty))) N (p0_0,p1)).bind λae=>ae.cs (λ(j:List Int×Int)=>some (j.2,j.1))<|λr=>r.elim
def fL(N:Nat)(p0_0:List Int)(p1 p2:Int):Option (List Int):=
 (fG N p0_0 p1).bind λo=>(fG N o.2 p2).bind λj=>(idx j.2 (if o.1<j.1 then j.1 else o.1)).bind λaa=>some<|j.2.set (Int.toNat (if o.1<j.1 then j.1 else o.1)) (if j.1<o.1 then j.1 else o.1)
def kW(N:Nat)(p0_0:List Int):Option (List (List Int)×List Int):=
 (kR p0_0.length (λ(ab:Nat)(j:List Int×List (List Int)×List (Int×Int))=>((fG N j.1 (ab:Int)).bind λaa=>(bif aa.1==(ab:Int)then((app 24 j.2.1 [([]:List Int)]).bind λad=>some (ad,rJ j.2.2 (ab:Int) (j.2.1.length:Int)))else some (j.2.1,j.2.2)).bind λo=>(idx o.1<|fK o.2 aa.1 (0:Int)).bind λae=>(app 8 ae ([(ab:Int)]:List Int)).bind λaf=>(idx o.1<|fK o.2 aa.1 (0:Int)).bind λag=>some (aa.2,o.1.set (Int.toNat<|fK o.2 aa.1 (0:Int)) af,o.2):Option (List Int×List (List Int)×List (Int×Int)))) (p0_0,([]:List (List Int)),([]:List (Int×Int)))).bind λj=>some (j.2.1,j.1)
def mJ(N:Nat)(p0:aH)(p1:dU):Option Bool:=
 (bif decide (p1.X>=p0.X0)then(bif decide (p1.X<p0.X1)then(bif decide (p1.Y>=p0.Y0)then some (decide<|p1.Y<p0.Y1)else some false)else some false)else some false).bind λj=>some j
def lE(N:Nat)(p0:List aH)(p1:dU):Option Bool:=
 (iL N p0<|λy0=>mJ N y0 p1).bind λj=>some j
def kX(N:Nat)(p0_2:List bU)(p0_5:List aD)(p1:dE):Option (eC×Bool):=
 (vg p0_2.length (λ(o:Nat)(ad:Unit)=>((idx p0_2 (o:Int)).bind λj=>(bif j.fD then((ml N j p1.cL).bind λae=>bif ae then((ik N j).bind λaf=>(lE N ([af]:List aH) p1.At).bind λag=>some ag)else some false)else some false).bind λah=>bif ah then some (.rt ((⟨true,(o:Int)⟩:eC),true))else(some<|.nx ()):Option (Fl Unit<|eC×Bool))) ()).bind λai=>ai.cs (λ(ad:Unit)=>(vg p0_5.length (λ(aa:Nat)(aj:Unit)=>((idx p0_5 (aa:Int)).bind λab=>(bif ab.cL==p1.cL then((lE N ab.dY p1.At).bind λak=>some ak)else some false).bind λal=>bif al then some (.rt ((⟨false,(aa:Int)⟩:eC),true))else(some<|.nx ()):Option (Fl Unit<|eC×Bool))) ()).bind λan=>an.cs (λ(aj:Unit)=>some ((⟨false,0⟩:eC),false))<|λr=>some r)<|λr=>some r
def iY(N:Nat)(p0_8:List Int)(p0_9:List Int)(p1:eC):Option Int:=
 bif p1.bU then((idx p0_9 p1.Number).bind λj=>some j)else((idx p0_8 p1.Number).bind λo=>some o)
def gZ(N:Nat)(p0_2:List bU)(p0_3:List dE)(p0_5:List aD)(p0_6:List (List Int))(p0_8:List Int)(p0_9:List Int)(p0_10:List Int)(p0_11:List eC):Option (List bW×List Int×List Int×List Int×List eC):=
 (kN N<|wrap .i64<|(p0_5.length:Int)+(p0_2.length:Int)).bind λar=>(kR p0_6.length (λ(ai:Nat)(af:List Int)=>((idx p0_6 (ai:Int)).bind λaj=>(kR aj.length (λ(au:Nat)(ag:List Int)=>((idx aj (au:Int)).bind λav=>(fL N ag av<|wrap .i64<|(p0_5.length:Int)+(ai:Int)).bind λaw=>some aw:Option (List Int))) af).bind λag=>some ag:Option (List Int))) ar).bind λaf=>(mk 8 (0:Int) (p0_5.length:Int)).bind λax=>(mk 8 (0:Int) (p0_2.length:Int)).bind λay=>(kW N af).bind λak=>(kR ak.1.length (λ(az:Nat)(aa:List bW×List Int×List Int)=>((idx ak.1 (az:Int)).bind λal=>(kR al.length (λ(a0:Nat)(j:List Int×List Int×List Int×List Int)=>((idx al (a0:Int)).bind λab=>(bif decide (ab<(p0_5.length:Int))then((idx j.1 ab).bind λbd=>(app 8 j.2.2.1 ([ab]:List Int)).bind λa1=>some (j.1.set (Int.toNat ab) (aa.1.length:Int),j.2.1,a1,j.2.2.2))else((idx p0_2<|wrap .i64<|ab -(p0_5.length:Int)).bind λa2=>(bif a2.fD then((idx j.2.1<|wrap .i64<|ab -(p0_5.length:Int)).bind λbf=>(app 8 j.2.2.2 ([wrap .i64<|ab -(p0_5.length:Int)]:List Int)).bind λa3=>some (j.2.1.set (Int.toNat<|wrap .i64<|ab -(p0_5.length:Int)) (aa.1.length:Int),a3))else((idx j.2.1<|wrap .i64<|ab -(p0_5.length:Int)).bind λbg=>some (j.2.1.set (Int.toNat<|wrap .i64<|ab -(p0_5.length:Int))<|-1,j.2.2.2))).bind λan=>some (j.1,an.1,j.2.2.1,an.2))).bind λad=>some (ad.1,ad.2.1,ad.2.2.1,ad.2.2.2):Option (List Int×List Int×List Int×List Int))) (aa.2.1,aa.2.2,([]:List Int),([]:List Int))).bind λj=>(bif decide (wrap .i64 ((j.2.2.1.length:Int)+(j.2.2.2.length:Int))>0)then((app 72 aa.1 [(⟨j.2.2.1,j.2.2.2,([]:List fz)⟩:bW)]).bind λa4=>some a4)else some aa.1).bind λa5=>some (a5,j.1,j.2.1):Option (List bW×List Int×List Int))) (([]:List bW),ax,ay)).bind λaa=>(kR p0_3.length (λ(a6:Nat)(o:List bW×List Int×List Int×List Int×List eC)=>((idx p0_3 (a6:Int)).bind λao=>(kX N p0_2 p0_5 ao).bind λah=>(bif ah.2 then((iY N o.2.1 o.2.2.1 ah.1).bind λae=>(idx o.1 ae).bind λa7=>(mI N ao).bind λa8=>(app 32 a7.fw ([a8]:List fz)).bind λa9=>(idx o.1 ae).bind λba=>some (o.1.set (Int.toNat ae) {ba with fw:=a9},ae))else some (o.1,(-1))).bind λaq=>(app 8 o.2.2.2.1 ([aq.2]:List Int)).bind λbb=>(app 16 o.2.2.2.2 ([ah.1]:List eC)).bind λbc=>some (aq.1,o.2.1,o.2.2.1,bb,bc):Option (List bW×List Int×List Int×List Int×List eC))) (aa.1,aa.2.1,aa.2.2,p0_10,p0_11)).bind λo=>some (o.1,o.2.1,o.2.2.1,o.2.2.2.1,o.2.2.2.2)
def gG(N:Nat)(p0:jO):Option (Option (List (List aH)×List aH×List bU×List dE×List (List aA)×List aD×List (List Int)×List bW×List Int×List Int×List Int×List eC)×Int):=
 bif(p0.aK.length:Int)==0 then some (none,9)else(bif decide ((p0.aK.length:Int)>16)then some (none,2)else((vg p0.aK.length (λ(an:Nat)(aa:Int)=>((idx p0.aK (an:Int)).bind λae=>(kl N ae).bind λaf=>bif af != 0 then some (.rt (none,af))else(some<|.nx<|wrap .i64<|aa+(ae.length:Int)):Option (Fl Int<|Option (List (List aH)×List aH×List bU×List dE×List (List aA)×List aD×List (List Int)×List bW×List Int×List Int×List Int×List eC)×Int))) (p0.cU.length:Int)).bind λao=>ao.cs (λ(aa:Int)=>(kl N p0.cU).bind λag=>bif ag != 0 then some (none,ag)else(bif decide (aa>2000)then some (none,2)else((lO N p0).bind λah=>bif ah != 0 then some (none,ah)else((lQ N p0).bind λai=>bif ai != 0 then some (none,ai)else((vg p0.aM.length (λ(aj:Nat)(aq:Unit)=>((idx p0.aM (aj:Int)).bind λab=>(vh p0.aM 0 (aj:Int)).bind λak=>(vg ak.length (λ(ar:Nat)(au:Unit)=>((idx ak (ar:Int)).bind λad=>(bif decide (ab.cB<=ad.To)&&decide (ad.cB<=ab.To)then((ik N ab).bind λav=>(ik N ad).bind λaw=>(mj N av aw).bind λax=>some<|ax==0)else some false).bind λay=>bif ay then some (.rt (none,12))else(some<|.nx ()):Option (Fl Unit<|Option (List (List aH)×List aH×List bU×List dE×List (List aA)×List aD×List (List Int)×List bW×List Int×List Int×List Int×List eC)×Int))) ()).bind λaz=>az.cs (λ(au:Unit)=>some<|.nx ()) (λr=>some<|.rt r):Option (Fl Unit<|Option (List (List aH)×List aH×List bU×List dE×List (List aA)×List aD×List (List Int)×List bW×List Int×List Int×List Int×List eC)×Int))) ()).bind λa0=>a0.cs (λ(aq:Unit)=>(kU N p0.aK p0.aM ([]:List (List aA)) ([]:List aD)).bind λj=>bif(!j.1)then some (none,2)else((kV N p0.aM j.2.2 ([]:List (List Int))).bind λal=>(gZ N p0.aM p0.bV j.2.2 al ([]:List Int) ([]:List Int) ([]:List Int) ([]:List eC)).bind λo=>some (some (p0.aK,p0.cU,p0.aM,p0.bV,j.2.1,j.2.2,al,o.1,o.2.1,o.2.2.1,o.2.2.2.1,o.2.2.2.2),0)))<|λr=>some r)))))<|λr=>some r))
def oG(N:Nat)(p0 p1 p2:Int):Option Bool:=
 some (decide (p0>=p1)&&decide (p0<=p2))
def jH(N:Nat)(p0:eC)(p1:Int)(p3_0:List bN)(p2h_7:List bW):Option (List bN):=
 (bif decide (p1>=0)then((idx p2h_7 p1).bind λj=>some<|decide<|(j.fw.length:Int)>1)else some false).bind λo=>(bif o then((app 40 p3_0 ([(⟨true,p0,0,0⟩:bN)]:List bN)).bind λaa=>some aa)else some p3_0).bind λab=>some ab
def tB(N:Nat)(p0 p1:aH)(p2:Int):Option dU:=
 some (⟨(if p0.X0<(wrap .i64<|p1.X0 - p2)then wrap .i64 (p1.X0 - p2)else p0.X0),(if p0.Y0<(wrap .i64<|p1.Y0 - p2)then wrap .i64 (p1.Y0 - p2)else p0.Y0)⟩:dU)
def tC(N:Nat)(p0 p1:dU):Option Bool:=
 some (decide (p0.Y<p1.Y)||((p0.Y==p1.Y)&&decide (p0.X<p1.X)))
def pU(N:Nat)(p0:List aH)(p1:List aH):Option uP:=
 (kR p0.length (λ(an:Nat)(aa:Int)=>((idx p0 (an:Int)).bind λao=>(kR p1.length (λ(aq:Nat)(ad:Int)=>((idx p1 (aq:Int)).bind λar=>(mj N ao ar).bind λae=>(bif decide (ad<0)||decide (ae<ad)then some ae else some ad).bind λau=>some au:Option Int)) aa).bind λad=>some ad:Option Int))<|-1).bind λaa=>(kR p0.length (λ(av:Nat)(j:uP×Bool)=>((idx p0 (av:Int)).bind λaf=>(kR p1.length (λ(aw:Nat)(o:uP×Bool)=>((idx p1 (aw:Int)).bind λag=>(tB N af ag aa).bind λah=>((mj N af ag).bind λax=>bif ax==aa then(bif(!o.2)then some true else((tC N ah o.1.cB).bind λay=>some ay))else some false).bind λaz=>(bif az then some ({o.1 with cB:=ah},true)else some (o.1,o.2)).bind λai=>some (ai.1,ai.2):Option (uP×Bool))) (j.1,j.2)).bind λo=>some (o.1,o.2):Option (uP×Bool))) ((⟨0,0,wrap .i64<|aa - 1,⟨0,0⟩,⟨0,0⟩⟩:uP),false)).bind λj=>(kR p1.length (λ(a0:Nat)(ab:uP×Bool)=>((idx p1 (a0:Int)).bind λaj=>(tB N aj (⟨j.1.cB.X,j.1.cB.Y,wrap .i64<|j.1.cB.X+1,wrap .i64<|j.1.cB.Y+1⟩:aH) aa).bind λak=>((mj N aj (⟨j.1.cB.X,j.1.cB.Y,wrap .i64<|j.1.cB.X+1,wrap .i64<|j.1.cB.Y+1⟩:aH)).bind λa1=>bif a1==aa then(bif(!ab.2)then some true else((tC N ak ab.1.To).bind λa2=>some a2))else some false).bind λa3=>(bif a3 then some ({ab.1 with To:=ak},true)else some (ab.1,ab.2)).bind λal=>some (al.1,al.2):Option (uP×Bool))) (j.1,false)).bind λab=>some ab.1
def oH(N:Nat)(p0_0:List (List aH))(p0_1:List aH)(p0_2:List bU)(p0_3:List dE)(p0_4:List (List aA))(p0_5:List aD)(p0_6:List (List Int))(p0_7:List bW)(p0_8:List Int)(p0_9:List Int)(p0_10:List Int)(p0_11:List eC)(p1:Int):Option (List bN×Int):=
 (oG N p1 0 100000).bind λah=>bif(!ah)then some (([]:List bN),1)else((kR p0_8.length (λ(ae:Nat)(ab:List bN)=>((idx p0_8 (ae:Int)).bind λai=>(jH N (⟨false,(ae:Int)⟩:eC) ai ab p0_7).bind λaj=>some aj:Option (List bN))) ([]:List bN)).bind λab=>(kR p0_9.length (λ(af:Nat)(ad:List bN)=>((idx p0_9 (af:Int)).bind λak=>(jH N (⟨true,(af:Int)⟩:eC) ak ad p0_7).bind λal=>some al:Option (List bN))) ab).bind λad=>(kR p0_5.length (λ(o:Nat)(aa:List bN)=>((idx p0_5 (o:Int)).bind λag=>(iD (λ(j:List bN×Int)=>((bif decide (j.2<(p0_5.length:Int))then((idx p0_5 j.2).bind λan=>some<|an.cL==ag.cL)else some false).bind λao=>bif ao then(((idx p0_8 (o:Int)).bind λaq=>(idx p0_8 j.2).bind λar=>bif aq != ar then((idx p0_5 j.2).bind λau=>(pU N ag.dY au.dY).bind λav=>some<|decide<|av.iK<p1)else some false).bind λaw=>(bif aw then((app 40 j.1 ([(⟨false,⟨false,0⟩,(o:Int),j.2⟩:bN)]:List bN)).bind λax=>some ax)else some j.1).bind λay=>some<|.nx (ay,wrap .i64<|j.2+1))else(some<|.br (j.1,j.2)):Option (Fl (List bN×Int) Empty))) N (aa,wrap .i64<|(o:Int)+1)).bind λaz=>az.cs (λ(j:List bN×Int)=>some j.1) (λr=>r.elim):Option (List bN))) ad).bind λaa=>bif decide ((aa.length:Int)>20000)then some (([]:List bN),2)else some (aa,0))
def lR(N:Nat)(p0:jO)(p1:Int):Option (List bN×Int):=
 (gG N p0).bind λo=>G7 o.1 (bif o.2 != 0 then some (([]:List bN),o.2)else none) (λ(j:(List (List aH)×List aH×List bU×List dE×List (List aA)×List aD×List (List Int)×List bW×List Int×List Int×List Int×List eC))=>bif o.2 != 0 then some (([]:List bN),o.2)else((oH N j.1 j.2.1 j.2.2.1 j.2.2.2.1 j.2.2.2.2.1 j.2.2.2.2.2.1 j.2.2.2.2.2.2.1 j.2.2.2.2.2.2.2.1 j.2.2.2.2.2.2.2.2.1 j.2.2.2.2.2.2.2.2.2.1 j.2.2.2.2.2.2.2.2.2.2.1 j.2.2.2.2.2.2.2.2.2.2.2 p1).bind λaa=>some (aa.1,aa.2)))
def nW(N:Nat)(p0 p1 p2:Int):Option Bool:=
 some (decide (p0>=p1)&&decide (p0<=p2))
def dA(N:Nat)(p0:Int):Option Bool:=
 (nW N p0 (-1000000) 1000000).bind λj=>some j
def iM(N:Nat)(p0:List aH):Option Int:=
 bif decide ((p0.length:Int)>2000)then some 2 else((iD (λ(o:Int)=>(bif decide (o<(p0.length:Int))then((idx p0 o).bind λj=>((dA N j.X0).bind λaa=>bif(!aa)then some true else((dA N j.Y0).bind λab=>bif(!ab)then some true else((dA N j.X1).bind λad=>bif(!ad)then some true else((dA N j.Y1).bind λae=>some<|!ae)))).bind λaf=>bif af then some (.rt 1)else(bif decide (j.X1<=j.X0)||decide (j.Y1<=j.Y0)then some (.rt 13)else some (.nx<|wrap .i64<|o+1)))else(some<|.br o):Option (Fl Int Int))) N 0).bind λag=>ag.cs (λ(o:Int)=>some 0)<|λr=>some r)
def iZ(N:Nat)(p0 p1:aH):Option Bool:=
 some (decide (p0.Y0<p1.Y0)||((p0.Y0==p1.Y0)&&decide (p0.X0<p1.X0)))
def fZ(N:Nat)(p0:List Int)(p1:Int):Option (List Int):=
 (iD (λ(j:Int×Int)=>(bif decide (j.1<j.2)then((idx p0<|wrap .i64<|Int.tdiv (wrap .i64<|j.1+j.2) 2).bind λaa=>(bif decide (aa<p1)then some (wrap .i64<|wrap .i64 (Int.tdiv (wrap .i64<|j.1+j.2) 2)+1,j.2)else some (j.1,wrap .i64<|Int.tdiv (wrap .i64<|j.1+j.2) 2)).bind λo=>some<|.nx (o.1,o.2))else(some<|.br (j.1,j.2)):Option (Fl (Int×Int) Empty))) N (0,(p0.length:Int))).bind λab=>ab.cs (λ(j:Int×Int)=>(bif decide (j.1<(p0.length:Int))then((idx p0 j.1).bind λad=>some<|ad==p1)else some false).bind λae=>bif ae then some p0 else((vh p0 0 j.1).bind λaf=>(app 8 ([]:List Int) af).bind λag=>(app 8 ag ([p1]:List Int)).bind λah=>(vh p0 j.1 (p0.length:Int)).bind λai=>(app 8 ah ai).bind λaj=>some aj))<|λr=>r.elim
def iI(N:Nat)(p0:List aH):Option (List Int):=
 (iD (λ(j:List Int×Int)=>(bif decide (j.2<(p0.length:Int))then((idx p0 j.2).bind λo=>(idx p0 j.2).bind λaa=>(fZ N j.1 o.Y0).bind λab=>(fZ N ab aa.Y1).bind λad=>some<|.nx (ad,wrap .i64<|j.2+1))else(some<|.br (j.1,j.2)):Option (Fl (List Int×Int) Empty))) N (([]:List Int),0)).bind λae=>ae.cs (λ(j:List Int×Int)=>some j.1)<|λr=>r.elim
def i5(N:Nat)(p0:List aF)(p1:aF):Option (List aF):=
 (iD (λ(o:List aF×Int)=>((bif decide (o.2<(p0.length:Int))then((idx p0 o.2).bind λad=>some<|decide<|ad.to<p1.from_)else some false).bind λae=>bif ae then((idx p0 o.2).bind λaf=>(app 16 o.1 ([af]:List aF)).bind λag=>some<|.nx (ag,wrap .i64<|o.2+1))else(some<|.br (o.1,o.2)):Option (Fl (List aF×Int) Empty))) N (([]:List aF),0)).bind λah=>ah.cs (λ(o:List aF×Int)=>(iD (λ(j:aF×Int)=>((bif decide (j.2<(p0.length:Int))then((idx p0 j.2).bind λai=>some<|decide<|ai.from_<=j.1.to)else some false).bind λaj=>bif aj then((idx p0 j.2).bind λaa=>(idx p0 j.2).bind λab=>some<|.nx ({{j.1 with from_:=(if aa.from_<j.1.from_ then aa.from_ else j.1.from_)}with to:=(if j.1.to<ab.to then ab.to else j.1.to)},wrap .i64<|j.2+1))else(some<|.br (j.1,j.2)):Option (Fl (aF×Int) Empty))) N (p1,o.2)).bind λak=>ak.cs (λ(j:aF×Int)=>(app 16 o.1 ([j.1]:List aF)).bind λal=>(vh p0 j.2 (p0.length:Int)).bind λan=>(app 16 al an).bind λao=>some ao)<|λr=>r.elim)<|λr=>r.elim
def iF(N:Nat)(p0:List aH)(p1:Int):Option (List aF):=
 (iD (λ(j:List aF×Int)=>(bif decide (j.2<(p0.length:Int))then(((idx p0 j.2).bind λo=>bif decide (o.Y0<=p1)then((idx p0 j.2).bind λaa=>some<|decide<|p1<aa.Y1)else some false).bind λab=>(bif ab then((idx p0 j.2).bind λad=>(idx p0 j.2).bind λae=>(i5 N j.1 (⟨ad.X0,ae.X1⟩:aF)).bind λaf=>some af)else some j.1).bind λag=>some<|.nx (ag,wrap .i64<|j.2+1))else(some<|.br (j.1,j.2)):Option (Fl (List aF×Int) Empty))) N (([]:List aF),0)).bind λah=>ah.cs (λ(j:List aF×Int)=>some j.1)<|λr=>r.elim
def km(N:Nat)(p0:List aF)(p1:List aF):Option Bool:=
 bif(p0.length:Int) != (p1.length:Int)then some false else((iD (λ(j:Int)=>(bif decide (j<(p0.length:Int))then((idx p0 j).bind λo=>(idx p1 j).bind λaa=>bif(!(decide<|o=aa))then some (.rt false)else some (.nx<|wrap .i64<|j+1))else(some<|.br j):Option (Fl Int Bool))) N 0).bind λab=>ab.cs (λ(j:Int)=>some true)<|λr=>some r)
def gK(N:Nat)(p0:List aP)(p1:aP):Option (List aP):=
 bif(p1.jX.length:Int)==0 then some p0 else((bif decide ((p0.length:Int)>0)then((idx p0<|wrap .i64<|(p0.length:Int) - 1).bind λj=>bif j.to==p1.from_ then((idx p0<|wrap .i64<|(p0.length:Int) - 1).bind λo=>(km N o.jX p1.jX).bind λaa=>some aa)else some false)else some false).bind λab=>bif ab then((idx p0<|wrap .i64<|(p0.length:Int) - 1).bind λad=>some<|p0.set (Int.toNat<|wrap .i64<|(p0.length:Int) - 1)<|{ad with to:=p1.to})else((app 40 p0 ([p1]:List aP)).bind λae=>some ae))
def jP(N:Nat)(p0:List aP):Option (List aH):=
 (iD (λ(j:List aH×Int)=>(bif decide (j.2<(p0.length:Int))then((iD (λ(o:List aH×Int)=>((idx p0 j.2).bind λaa=>bif decide (o.2<(aa.jX.length:Int))then((idx p0 j.2).bind λab=>(idx ab.jX o.2).bind λad=>(idx p0 j.2).bind λae=>(idx p0 j.2).bind λaf=>(idx af.jX o.2).bind λag=>(idx p0 j.2).bind λah=>(app 32 o.1 ([(⟨ad.from_,ae.from_,ag.to,ah.to⟩:aH)]:List aH)).bind λai=>some<|.nx (ai,wrap .i64<|o.2+1))else(some<|.br (o.1,o.2)):Option (Fl (List aH×Int) Empty))) N (j.1,0)).bind λaj=>aj.cs (λ(o:List aH×Int)=>some<|.nx (o.1,wrap .i64<|j.2+1))<|λr=>r.elim)else(some<|.br (j.1,j.2)):Option (Fl (List aH×Int) Empty))) N (([]:List aH),0)).bind λak=>ak.cs (λ(j:List aH×Int)=>some j.1)<|λr=>r.elim
def fY(N:Nat)(p0:List aH):Option (List aH):=
 (iI N p0).bind λo=>(iD (λ(j:List aP×Int)=>(bif decide (j.2<(o.length:Int))then((idx o<|wrap .i64<|j.2 - 1).bind λaa=>(idx o j.2).bind λab=>(idx o<|wrap .i64<|j.2 - 1).bind λad=>(iF N p0 ad).bind λae=>(gK N j.1 (⟨aa,ab,ae⟩:aP)).bind λaf=>some<|.nx (af,wrap .i64<|j.2+1))else(some<|.br (j.1,j.2)):Option (Fl (List aP×Int) Empty))) N (([]:List aP),1)).bind λag=>ag.cs (λ(j:List aP×Int)=>(jP N j.1).bind λah=>some ah)<|λr=>r.elim
def kn(N:Nat)(p0:List aH)(p1:List aH):Option Bool:=
 bif(p0.length:Int) != (p1.length:Int)then some false else((iD (λ(j:Int)=>(bif decide (j<(p0.length:Int))then((idx p0 j).bind λo=>(idx p1 j).bind λaa=>bif(!(decide<|o=aa))then some (.rt false)else some (.nx<|wrap .i64<|j+1))else(some<|.br j):Option (Fl Int Bool))) N 0).bind λab=>ab.cs (λ(j:Int)=>some true)<|λr=>some r)
def gk(N:Nat)(p0:List aH):Option Int:=
 (iM N p0).bind λo=>bif o != 0 then some o else((iD (λ(j:Int)=>(bif decide (j<(p0.length:Int))then((idx p0<|wrap .i64<|j - 1).bind λaa=>(idx p0 j).bind λab=>(iZ N aa ab).bind λad=>bif(!ad)then some (.rt 8)else some (.nx<|wrap .i64<|j+1))else(some<|.br j):Option (Fl Int Int))) N 1).bind λae=>ae.cs (λ(j:Int)=>(fY N p0).bind λaf=>(kn N p0 af).bind λag=>bif(!ag)then some 3 else some 0)<|λr=>some r)
def eP(N:Nat)(p0 p1 p2:Int):Option Bool:=
 some (decide (p0>=p1)&&decide (p0<=p2))
def gL(N:Nat)(p0:dU):Option Bool:=
 ((dA N p0.X).bind λj=>bif j then((dA N p0.Y).bind λo=>some o)else some false).bind λaa=>some aa
def cP(N:Nat)(p0:bU):Option aH:=
 some (⟨wrap .i64<|p0.At.X -(wrap .i64<|Int.tdiv p0.dV 2),wrap .i64<|p0.At.Y -(wrap .i64<|Int.tdiv p0.dV 2),wrap .i64<|wrap .i64 (p0.At.X -(wrap .i64<|Int.tdiv p0.dV 2))+p0.dV,wrap .i64<|wrap .i64 (p0.At.Y -(wrap .i64<|Int.tdiv p0.dV 2))+p0.dV⟩:aH)
def iz(N:Nat)(p0:bU):Option Int:=
 ((eP N p0.dV 1 10000).bind λo=>bif(!o)then some true else((gL N p0.At).bind λaa=>some<|!aa)).bind λab=>bif ab then some 1 else((cP N p0).bind λj=>((dA N j.X0).bind λad=>bif(!ad)then some true else((dA N j.Y0).bind λae=>bif(!ae)then some true else((dA N j.X1).bind λaf=>bif(!af)then some true else((dA N j.Y1).bind λag=>some<|!ag)))).bind λah=>bif ah then some 1 else some 0)
def g8(N:Nat)(p0:eV):Option Bool:=
 (iD (λ(o:Int)=>(bif decide (o<(p0.dP.length:Int))then((I9 p0 o).bind λj=>(bif(!(((decide ((j.toNat:Int)>=97)&&decide ((j.toNat:Int)<=122))||(decide ((j.toNat:Int)>=65)&&decide ((j.toNat:Int)<=90)))||(decide ((j.toNat:Int)>=48)&&decide ((j.toNat:Int)<=57))))then((iE N (⟨[95,43,45,35]⟩) (j.toNat:Int)).bind λaa=>some<|decide<|aa<0)else some false).bind λab=>bif ab then some (.rt false)else some (.nx<|wrap .i64<|o+1))else(some<|.br o):Option (Fl Int Bool))) N 0).bind λad=>ad.cs (λ(o:Int)=>(eP N (p0.dP.length:Int) 1 40).bind λae=>some ae)<|λr=>some r
def j8(N:Nat)(p0:eV):Option Bool:=
 (m8 N p0<|⟨[47]⟩).bind λo=>(iD (λ(j:Int)=>(bif decide (j<(o.length:Int))then((idx o j).bind λaa=>(g8 N aa).bind λab=>bif(!ab)then some (.rt false)else some (.nx<|wrap .i64<|j+1))else(some<|.br j):Option (Fl Int Bool))) N 0).bind λad=>ad.cs (λ(j:Int)=>some<|decide<|(p0.dP.length:Int)<=200)<|λr=>some r
def i6(N:Nat)(p0:jO)(p1:Int):Option Int:=
 (idx p0.bV p1).bind λj=>((j8 N j.Part).bind λaa=>bif(!aa)then some true else((g8 N j.fz).bind λab=>some<|!ab)).bind λad=>bif ad then some 5 else(((eP N j.cL 0<|wrap .i64<|(p0.aK.length:Int) - 1).bind λae=>bif(!ae)then some true else((gL N j.At).bind λaf=>some<|!af)).bind λag=>bif ag then some 1 else(bif decide (p1>0)then((idx p0.bV<|wrap .i64<|p1 - 1).bind λo=>bif j.Part.wj o.Part||(j.Part.wi o.Part&&(j.fz.wj o.fz||j.fz.wi o.fz))then some 8 else some 0)else some 0))
def iN(N:Nat)(p0:jO):Option Int:=
 bif(p0.aK.length:Int)==0 then some 9 else(bif decide ((p0.aK.length:Int)>16)then some 2 else((iD (λ(j:Int×Int)=>(bif decide (j.2<(p0.aK.length:Int))then((idx p0.aK j.2).bind λah=>(gk N ah).bind λad=>bif ad != 0 then some (.rt ad)else((idx p0.aK j.2).bind λai=>some<|.nx (wrap .i64<|j.1+(ai.length:Int),wrap .i64<|j.2+1)))else(some<|.br (j.1,j.2)):Option (Fl (Int×Int) Int))) N ((p0.cU.length:Int),0)).bind λaj=>aj.cs (λ(j:Int×Int)=>(gk N p0.cU).bind λae=>bif ae != 0 then some ae else((bif decide (j.1>2000)then some true else some (decide<|(p0.aM.length:Int)>500)).bind λak=>bif ak then some 2 else((iD (λ(o:Int)=>(bif decide (o<(p0.aM.length:Int))then((idx p0.aM o).bind λab=>(iz N ab).bind λaf=>bif af != 0 then some (.rt af)else(((eP N ab.cB 0<|wrap .i64<|(p0.aK.length:Int) - 1).bind λal=>bif(!al)then some true else((eP N ab.To ab.cB<|wrap .i64<|(p0.aK.length:Int) - 1).bind λan=>some<|!an)).bind λao=>bif ao then some (.rt 1)else some (.nx<|wrap .i64<|o+1)))else(some<|.br o):Option (Fl Int Int))) N 0).bind λaq=>aq.cs (λ(o:Int)=>bif decide ((p0.bV.length:Int)>1000)then some 2 else((iD (λ(aa:Int)=>(bif decide (aa<(p0.bV.length:Int))then((i6 N p0 aa).bind λag=>bif ag != 0 then some (.rt ag)else some (.nx<|wrap .i64<|aa+1))else(some<|.br aa):Option (Fl Int Int))) N 0).bind λar=>ar.cs (λ(aa:Int)=>some 0)<|λr=>some r))<|λr=>some r)))<|λr=>some r))
def i7(N:Nat)(p0 p1:bU):Option Bool:=
 some (decide (p0.cB<=p1.To)&&decide (p1.cB<=p0.To))
def gM(N:Nat)(p0 p1:aH):Option Bool:=
 (bif decide ((if p1.X1<p0.X1 then p1.X1 else p0.X1)>(if p0.X0<p1.X0 then p1.X0 else p0.X0))then some (decide<|(if p1.Y1<p0.Y1 then p1.Y1 else p0.Y1)>(if p0.Y0<p1.Y0 then p1.Y0 else p0.Y0))else some false).bind λj=>some j
def fT(N:Nat)(p0:bU)(p1:Int):Option Bool:=
 some (decide (p0.cB<=p1)&&decide (p1<=p0.To))
def g9(N:Nat)(p0:List aF)(p1:Int):Option Bool:=
 (iD (λ(j:Int)=>(bif decide (j<(p0.length:Int))then(((idx p0 j).bind λo=>bif decide (o.from_<=p1)then((idx p0 j).bind λaa=>some<|decide<|p1<aa.to)else some false).bind λab=>bif ab then some (.rt true)else some (.nx<|wrap .i64<|j+1))else(some<|.br j):Option (Fl Int Bool))) N 0).bind λad=>ad.cs (λ(j:Int)=>some false)<|λr=>some r
def kC(N:Nat)(p0:List aF)(p1:List aF)(p2:Int):Option (List aF):=
 (iD (λ(aa:List Int×Int)=>(bif decide (aa.2<(p0.length:Int))then((idx p0 aa.2).bind λab=>(idx p0 aa.2).bind λad=>(fZ N aa.1 ab.from_).bind λae=>(fZ N ae ad.to).bind λaf=>some<|.nx (af,wrap .i64<|aa.2+1))else(some<|.br (aa.1,aa.2)):Option (Fl (List Int×Int) Empty))) N (([]:List Int),0)).bind λag=>ag.cs (λ(aa:List Int×Int)=>(iD (λ(j:List Int×Int)=>(bif decide (j.2<(p1.length:Int))then((idx p1 j.2).bind λah=>(idx p1 j.2).bind λai=>(fZ N j.1 ah.from_).bind λaj=>(fZ N aj ai.to).bind λak=>some<|.nx (ak,wrap .i64<|j.2+1))else(some<|.br (j.1,j.2)):Option (Fl (List Int×Int) Empty))) N (aa.1,0)).bind λal=>al.cs (λ(j:List Int×Int)=>(iD (λ(o:List aF×Int)=>(bif decide (o.2<(j.1.length:Int))then((idx j.1<|wrap .i64<|o.2 - 1).bind λan=>(idx j.1<|wrap .i64<|o.2 - 1).bind λao=>(g9 N p0 an).bind λeN=>(g9 N p1 ao).bind λgh=>(bif(((p2==1)&&(eN||gh))||(((p2==2)&&eN)&&gh))||(((p2==3)&&eN)&&(!gh))then((idx j.1<|wrap .i64<|o.2 - 1).bind λaq=>(idx j.1 o.2).bind λar=>(i5 N o.1 (⟨aq,ar⟩:aF)).bind λau=>some au)else some o.1).bind λav=>some<|.nx (av,wrap .i64<|o.2+1))else(some<|.br (o.1,o.2)):Option (Fl (List aF×Int) Empty))) N (([]:List aF),1)).bind λaw=>aw.cs (λ(o:List aF×Int)=>some o.1)<|λr=>r.elim)<|λr=>r.elim)<|λr=>r.elim
def ir(N:Nat)(p0:List aH)(p1:List aH)(p2:Int):Option (List aH):=
 (app 32 ([]:List aH) p0).bind λaa=>(app 32 aa p1).bind λab=>(iI N ab).bind λo=>(iD (λ(j:List aP×Int)=>(bif decide (j.2<(o.length:Int))then((idx o<|wrap .i64<|j.2 - 1).bind λad=>(idx o j.2).bind λae=>(idx o<|wrap .i64<|j.2 - 1).bind λaf=>(idx o<|wrap .i64<|j.2 - 1).bind λag=>(iF N p0 af).bind λah=>(iF N p1 ag).bind λai=>(kC N ah ai p2).bind λaj=>(gK N j.1 (⟨ad,ae,aj⟩:aP)).bind λak=>some<|.nx (ak,wrap .i64<|j.2+1))else(some<|.br (j.1,j.2)):Option (Fl (List aP×Int) Empty))) N (([]:List aP),1)).bind λal=>al.cs (λ(j:List aP×Int)=>(jP N j.1).bind λan=>some an)<|λr=>r.elim
def lr(N:Nat)(p0:List aH)(p1:List aH):Option (List aH):=
 (ir N p0 p1 3).bind λj=>some j
def gW(N:Nat)(p0:jO)(p1:Int):Option (List aH):=
 (iD (λ(j:List aH×Int)=>(bif decide (j.2<(p0.aM.length:Int))then((idx p0.aM j.2).bind λo=>(fT N o p1).bind λaa=>(bif aa then((idx p0.aM j.2).bind λab=>(cP N ab).bind λad=>(app 32 j.1 ([ad]:List aH)).bind λae=>some ae)else some j.1).bind λaf=>some<|.nx (af,wrap .i64<|j.2+1))else(some<|.br (j.1,j.2)):Option (Fl (List aH×Int) Empty))) N (([]:List aH),0)).bind λag=>ag.cs (λ(j:List aH×Int)=>(idx p0.aK p1).bind λah=>(fY N j.1).bind λai=>(lr N ah ai).bind λaj=>some aj)<|λr=>r.elim
def jF(N:Nat)(p0 p1:aH):Option Bool:=
 some ((decide (wrap .i64 ((if p1.X1<p0.X1 then p1.X1 else p0.X1) -(if p0.X0<p1.X0 then p1.X0 else p0.X0))>0)&&decide (wrap .i64 ((if p1.Y1<p0.Y1 then p1.Y1 else p0.Y1) -(if p0.Y0<p1.Y0 then p1.Y0 else p0.Y0))>=0))||(decide (wrap .i64 ((if p1.X1<p0.X1 then p1.X1 else p0.X1) -(if p0.X0<p1.X0 then p1.X0 else p0.X0))>=0)&&decide (wrap .i64 ((if p1.Y1<p0.Y1 then p1.Y1 else p0.Y1) -(if p0.Y0<p1.Y0 then p1.Y0 else p0.Y0))>0)))
def j9(N:Nat)(p0:List (List aH))(p1:List aH):Option (List<|List aH):=
 (iD (λ(j:Int)=>((bif decide (j>0)then((idx p1 0).bind λo=>(idx p0<|wrap .i64<|j - 1).bind λaa=>(idx aa 0).bind λab=>(iZ N o ab).bind λad=>some ad)else some false).bind λae=>bif ae then some (.nx<|wrap .i64<|j - 1)else(some<|.br j):Option (Fl Int Empty))) N (p0.length:Int)).bind λaf=>af.cs (λ(j:Int)=>(vh p0 0 j).bind λag=>(app 24 ([]:List (List aH)) ag).bind λah=>(app 24 ah ([p1]:List (List aH))).bind λai=>(vh p0 j (p0.length:Int)).bind λaj=>(app 24 ai aj).bind λak=>some ak)<|λr=>r.elim
def gu(N:Nat)(p0:List aH):Option (List<|List aH):=
 (mk 1 (false:Bool) (p0.length:Int)).bind λad=>(iD (λ(o:List Bool×List (List aH)×Int)=>(bif decide (o.2.2<(p0.length:Int))then((idx o.1 o.2.2).bind λae=>bif ae then some (.nx (o.1,o.2.1,wrap .i64<|o.2.2+1))else((idx o.1 o.2.2).bind λaw=>(idx p0 o.2.2).bind λaf=>(iD (λ(aa:List Bool×List aH×Int)=>(bif decide (aa.2.2<(aa.2.1.length:Int))then((iD (λ(j:List Bool×List aH×Int)=>(bif decide (j.2.2<(p0.length:Int))then(((idx j.1 j.2.2).bind λag=>bif(!ag)then((idx j.2.1 aa.2.2).bind λah=>(idx p0 j.2.2).bind λai=>(jF N ah ai).bind λaj=>some aj)else some false).bind λak=>(bif ak then((idx j.1 j.2.2).bind λax=>(idx p0 j.2.2).bind λal=>(app 32 j.2.1 ([al]:List aH)).bind λan=>some (j.1.set (Int.toNat j.2.2) true,an))else some (j.1,j.2.1)).bind λab=>some<|.nx (ab.1,ab.2,wrap .i64<|j.2.2+1))else(some<|.br (j.1,j.2.1,j.2.2)):Option (Fl (List Bool×List aH×Int) Empty))) N (aa.1,aa.2.1,0)).bind λao=>ao.cs (λ(j:List Bool×List aH×Int)=>some<|.nx (j.1,j.2.1,wrap .i64<|aa.2.2+1))<|λr=>r.elim)else(some<|.br (aa.1,aa.2.1,aa.2.2)):Option (Fl (List Bool×List aH×Int) Empty))) N (o.1.set (Int.toNat o.2.2) true,([af]:List aH),0)).bind λaq=>aq.cs (λ(aa:List Bool×List aH×Int)=>(fY N aa.2.1).bind λar=>(j9 N o.2.1 ar).bind λau=>some<|.nx (aa.1,au,wrap .i64<|o.2.2+1))<|λr=>r.elim))else(some<|.br (o.1,o.2.1,o.2.2)):Option (Fl (List Bool×List (List aH)×Int) Empty))) N (ad,([]:List (List aH)),0)).bind λav=>av.cs (λ(o:List Bool×List (List aH)×Int)=>some o.2.1)<|λr=>r.elim
def dB(N:Nat)(p0:jO):Option Int:=
 (iN N p0).bind λab=>bif ab != 0 then some ab else((iD (λ(o:Int)=>(bif decide (o<(p0.aM.length:Int))then((iD (λ(aa:Int)=>(bif decide (aa<o)then(((idx p0.aM o).bind λae=>(idx p0.aM aa).bind λaf=>(i7 N ae af).bind λag=>bif ag then((idx p0.aM o).bind λah=>(idx p0.aM aa).bind λai=>(cP N ah).bind λaj=>(cP N ai).bind λak=>(gM N aj ak).bind λal=>some al)else some false).bind λan=>bif an then some (.rt 12)else some (.nx<|wrap .i64<|aa+1))else(some<|.br aa):Option (Fl Int Int))) N 0).bind λao=>ao.cs (λ(aa:Int)=>some<|.nx<|wrap .i64<|o+1)<|λr=>some<|.rt r)else(some<|.br o):Option (Fl Int Int))) N 0).bind λaq=>aq.cs (λ(o:Int)=>(iD (λ(j:Int×Int)=>(bif decide (j.2<(p0.aK.length:Int))then((gW N p0 j.2).bind λad=>bif decide ((ad.length:Int)>2000)then some (.rt 2)else((gu N ad).bind λar=>some<|.nx (wrap .i64<|j.1+(ar.length:Int),wrap .i64<|j.2+1)))else(some<|.br (j.1,j.2)):Option (Fl (Int×Int) Int))) N (0,0)).bind λau=>au.cs (λ(j:Int×Int)=>bif decide (j.1>2000)then some 2 else some 0)<|λr=>some r)<|λr=>some r)
def lu(N:Nat)(p0 p1 p2:Int):Option Bool:=
 some (decide (p0>=p1)&&decide (p0<=p2))
def jQ(N:Nat)(p0:List aH)(p1:aH):Option Bool:=
 (iD (λ(j:Int)=>(bif decide (j<(p0.length:Int))then((idx p0 j).bind λo=>(idx p0 j).bind λaa=>(idx p0 j).bind λab=>(idx p0 j).bind λad=>bif(decide (wrap .i64 ((if p1.X1<o.X1 then p1.X1 else o.X1) -(if aa.X0<p1.X0 then p1.X0 else aa.X0))>0)&&(wrap .i64 ((if p1.Y1<ab.Y1 then p1.Y1 else ab.Y1) -(if ad.Y0<p1.Y0 then p1.Y0 else ad.Y0))==0))||((wrap .i64 ((if p1.X1<o.X1 then p1.X1 else o.X1) -(if aa.X0<p1.X0 then p1.X0 else aa.X0))==0)&&decide (wrap .i64 ((if p1.Y1<ab.Y1 then p1.Y1 else ab.Y1) -(if ad.Y0<p1.Y0 then p1.Y0 else ad.Y0))>0))then some (.rt true)else some (.nx<|wrap .i64<|j+1))else(some<|.br j):Option (Fl Int Bool))) N 0).bind λae=>ae.cs (λ(j:Int)=>some false)<|λr=>some r
def cN(N:Nat)(p0:List Int)(p1:Int):Option Bool:=
 (iD (λ(j:Int)=>(bif decide (j<(p0.length:Int))then((idx p0 j).bind λo=>bif o==p1 then some (.rt true)else some (.nx<|wrap .i64<|j+1))else(some<|.br j):Option (Fl Int Bool))) N 0).bind λaa=>aa.cs (λ(j:Int)=>some false)<|λr=>some r
def i9(N:Nat)(p0:List Int)(p1:Int):Option (List Int):=
 (iD (λ(j:Int)=>((bif decide (j>0)then((idx p0<|wrap .i64<|j - 1).bind λo=>some<|decide<|o>p1)else some false).bind λaa=>bif aa then some (.nx<|wrap .i64<|j - 1)else(some<|.br j):Option (Fl Int Empty))) N (p0.length:Int)).bind λab=>ab.cs (λ(j:Int)=>(bif decide (j>0)then((idx p0<|wrap .i64<|j - 1).bind λad=>some<|ad==p1)else some false).bind λae=>bif ae then some p0 else((vh p0 0 j).bind λaf=>(app 8 ([]:List Int) af).bind λag=>(app 8 ag ([p1]:List Int)).bind λah=>(vh p0 j (p0.length:Int)).bind λai=>(app 8 ah ai).bind λaj=>some aj))<|λr=>r.elim
def hU(N:Nat)(p0_7:List (List Int))(p1:Int)(p2:List Bool):Option ((List Int×List Int×List fz)×List Bool):=
 (idx p2 p1).bind λax=>(mk 1 (false:Bool) (p0_7.length:Int)).bind λae=>(iD (λ(o:List Bool×List Int×List Int×List Bool×List Int×Int)=>(bif decide (o.2.2.2.2.2<(o.2.2.2.2.1.length:Int))then((iD (λ(j:List Bool×List Int×List Int×List Bool×List Int×Int)=>(bif decide (j.2.2.2.2.2<(p0_7.length:Int))then(((idx j.2.2.2.1 j.2.2.2.2.2).bind λaf=>bif af then some true else((idx p0_7 j.2.2.2.2.2).bind λag=>(idx j.2.2.2.2.1 o.2.2.2.2.2).bind λah=>(cN N ag ah).bind λai=>some<|!ai)).bind λaj=>bif aj then some (.nx (j.1,j.2.1,j.2.2.1,j.2.2.2.1,j.2.2.2.2.1,wrap .i64<|j.2.2.2.2.2+1))else((idx j.2.2.2.1 j.2.2.2.2.2).bind λay=>(i9 N j.2.2.1 j.2.2.2.2.2).bind λak=>(iD (λ(aa:List Bool×List Int×List Int×Int)=>((idx p0_7 j.2.2.2.2.2).bind λal=>bif decide (aa.2.2.2<(al.length:Int))then((idx p0_7 j.2.2.2.2.2).bind λan=>(idx an aa.2.2.2).bind λab=>(idx aa.1 ab).bind λao=>(bif(!ao)then((idx aa.1 ab).bind λaz=>(i9 N aa.2.1 ab).bind λaq=>(app 8 aa.2.2.1 ([ab]:List Int)).bind λar=>some (aa.1.set (Int.toNat ab) true,aq,ar))else some (aa.1,aa.2.1,aa.2.2.1)).bind λad=>some<|.nx (ad.1,ad.2.1,ad.2.2,wrap .i64<|aa.2.2.2+1))else(some<|.br (aa.1,aa.2.1,aa.2.2.1,aa.2.2.2)):Option (Fl (List Bool×List Int×List Int×Int) Empty))) N (j.1,j.2.1,j.2.2.2.2.1,0)).bind λau=>au.cs (λ(aa:List Bool×List Int×List Int×Int)=>some<|.nx (aa.1,aa.2.1,ak,j.2.2.2.1.set (Int.toNat j.2.2.2.2.2) true,aa.2.2.1,wrap .i64<|j.2.2.2.2.2+1))<|λr=>r.elim))else(some<|.br (j.1,j.2.1,j.2.2.1,j.2.2.2.1,j.2.2.2.2.1,j.2.2.2.2.2)):Option (Fl (List Bool×List Int×List Int×List Bool×List Int×Int) Empty))) N (o.1,o.2.1,o.2.2.1,o.2.2.2.1,o.2.2.2.2.1,0)).bind λav=>av.cs (λ(j:List Bool×List Int×List Int×List Bool×List Int×Int)=>some<|.nx (j.1,j.2.1,j.2.2.1,j.2.2.2.1,j.2.2.2.2.1,wrap .i64<|o.2.2.2.2.2+1))<|λr=>r.elim)else(some<|.br (o.1,o.2.1,o.2.2.1,o.2.2.2.1,o.2.2.2.2.1,o.2.2.2.2.2)):Option (Fl (List Bool×List Int×List Int×List Bool×List Int×Int) Empty))) N (p2.set (Int.toNat p1) true,([p1]:List Int),([]:List Int),ae,([p1]:List Int),0)).bind λaw=>aw.cs (λ(o:List Bool×List Int×List Int×List Bool×List Int×Int)=>some ((o.2.1,o.2.2.1,([]:List fz)),o.1))<|λr=>r.elim
def fH(N:Nat)(p0:List aH)(p1:dU):Option Bool:=
 (iF N p0 p1.Y).bind λj=>(g9 N j p1.X).bind λo=>some o
def gl(N:Nat)(p0_2:List bU)(p0_4:List Int)(p0_5:List (List aH))(p1:dE):Option (eC×Bool):=
 (iD (λ(o:Int)=>(bif decide (o<(p0_5.length:Int))then(((idx p0_4 o).bind λaa=>bif aa==p1.cL then((idx p0_5 o).bind λab=>(fH N ab p1.At).bind λad=>some ad)else some false).bind λae=>bif ae then some (.rt ((⟨false,o⟩:eC),true))else some (.nx<|wrap .i64<|o+1))else(some<|.br o):Option (Fl Int<|eC×Bool))) N 0).bind λaf=>af.cs (λ(o:Int)=>(iD (λ(j:Int)=>(bif decide (j<(p0_2.length:Int))then(((idx p0_2 j).bind λag=>bif ag.fD then((idx p0_2 j).bind λah=>(fT N ah p1.cL).bind λai=>bif ai then((idx p0_2 j).bind λaj=>(cP N aj).bind λak=>(fH N ([ak]:List aH) p1.At).bind λal=>some al)else some false)else some false).bind λan=>bif an then some (.rt ((⟨true,j⟩:eC),true))else some (.nx<|wrap .i64<|j+1))else(some<|.br j):Option (Fl Int<|eC×Bool))) N 0).bind λao=>ao.cs (λ(j:Int)=>some ((⟨false,0⟩:eC),false))<|λr=>some r)<|λr=>some r
def dR(N:Nat)(p0_6:List bW)(p1:eC):Option Int:=
 (iD (λ(j:Int)=>(bif decide (j<(p0_6.length:Int))then((bif p1.bU then((idx p0_6 j).bind λo=>(cN N o.aM p1.Number).bind λaa=>bif aa then some true else(bif(!p1.bU)then((idx p0_6 j).bind λab=>(cN N ab.fF p1.Number).bind λad=>some ad)else some false))else(bif(!p1.bU)then((idx p0_6 j).bind λae=>(cN N ae.fF p1.Number).bind λaf=>some af)else some false)).bind λag=>bif ag then some (.rt j)else some (.nx<|wrap .i64<|j+1))else(some<|.br j):Option (Fl Int Int))) N 0).bind λah=>ah.cs (λ(j:Int)=>some<|-1)<|λr=>some r
def fB(N:Nat)(p0_2:List bU)(p0_4:List Int)(p0_5:List (List aH))(p0_6:List bW)(p1:dE):Option Int:=
 (gl N p0_2 p0_4 p0_5 p1).bind λj=>bif(!j.2)then some (-1)else((dR N p0_6 j.1).bind λo=>some o)
def fQ(N:Nat)(p0_2:List bU)(p0_3:List dE)(p0_4:List Int)(p0_5:List (List aH))(p0_7:List (List Int)):Option (List bW):=
 (mk 1 (false:Bool) (p0_5.length:Int)).bind λag=>(iD (λ(j:List bW×List Bool×Int)=>(bif decide (j.2.2<(p0_5.length:Int))then((idx j.2.1 j.2.2).bind λah=>(bif(!ah)then((hU N p0_7 j.2.2 j.2.1).bind λab=>(app 72 j.1 [(⟨ab.1.1,ab.1.2.1,ab.1.2.2⟩:bW)]).bind λai=>some (ai,ab.2))else some (j.1,j.2.1)).bind λaf=>some<|.nx (af.1,af.2,wrap .i64<|j.2.2+1))else(some<|.br (j.1,j.2.1,j.2.2)):Option (Fl (List bW×List Bool×Int) Empty))) N (([]:List bW),ag,0)).bind λaj=>aj.cs (λ(j:List bW×List Bool×Int)=>(iD (λ(aa:List bW×Int)=>(bif decide (aa.2<(p0_7.length:Int))then(((idx p0_2 aa.2).bind λak=>bif ak.fD then((idx p0_7 aa.2).bind λal=>some<|(al.length:Int)==0)else some false).bind λan=>(bif an then((app 72 aa.1 [(⟨([]:List Int),([aa.2]:List Int),([]:List fz)⟩:bW)]).bind λao=>some ao)else some aa.1).bind λaq=>some<|.nx (aq,wrap .i64<|aa.2+1))else(some<|.br (aa.1,aa.2)):Option (Fl (List bW×Int) Empty))) N (j.1,0)).bind λar=>ar.cs (λ(aa:List bW×Int)=>(iD (λ(o:List bW×Int)=>(bif decide (o.2<(p0_3.length:Int))then((idx p0_3 o.2).bind λae=>(fB N p0_2 p0_4 p0_5 o.1 ae).bind λad=>(bif decide (ad>=0)then((idx o.1 ad).bind λau=>(app 32 au.fw ([(⟨ae.Part,ae.fz⟩:fz)]:List fz)).bind λav=>(idx o.1 ad).bind λaw=>some<|o.1.set (Int.toNat ad) {aw with fw:=av})else some o.1).bind λax=>some<|.nx (ax,wrap .i64<|o.2+1))else(some<|.br (o.1,o.2)):Option (Fl (List bW×Int) Empty))) N (aa.1,0)).bind λay=>ay.cs (λ(o:List bW×Int)=>some o.1)<|λr=>r.elim)<|λr=>r.elim)<|λr=>r.elim
def jL(N:Nat)(p0:jO):Option (List (List aH)×List aH×List bU×List dE×List Int×List (List aH)×List bW×List (List Int)):=
 (iD (λ(j:List Int×List (List aH)×Int)=>(bif decide (j.2.2<(p0.aK.length:Int))then((gW N p0 j.2.2).bind λae=>(gu N ae).bind λad=>(iD (λ(o:List Int×List (List aH)×Int)=>(bif decide (o.2.2<(ad.length:Int))then((app 8 o.1 ([j.2.2]:List Int)).bind λaf=>(idx ad o.2.2).bind λag=>(app 24 o.2.1 ([ag]:List (List aH))).bind λah=>some<|.nx (af,ah,wrap .i64<|o.2.2+1))else(some<|.br (o.1,o.2.1,o.2.2)):Option (Fl (List Int×List (List aH)×Int) Empty))) N (j.1,j.2.1,0)).bind λai=>ai.cs (λ(o:List Int×List (List aH)×Int)=>some<|.nx (o.1,o.2.1,wrap .i64<|j.2.2+1))<|λr=>r.elim)else(some<|.br (j.1,j.2.1,j.2.2)):Option (Fl (List Int×List (List aH)×Int) Empty))) N (([]:List Int),([]:List (List aH)),0)).bind λaj=>aj.cs (λ(j:List Int×List (List aH)×Int)=>(iD (λ(aa:List (List Int)×Int)=>(bif decide (aa.2<(p0.aM.length:Int))then((iD (λ(ab:List Int×Int)=>((bif decide (ab.2<(j.2.1.length:Int))then((idx p0.aM aa.2).bind λak=>some ak.fD)else some false).bind λal=>bif al then(((idx p0.aM aa.2).bind λan=>(idx j.1 ab.2).bind λao=>(fT N an ao).bind λaq=>bif aq then((idx j.2.1 ab.2).bind λar=>(idx p0.aM aa.2).bind λau=>(cP N au).bind λav=>(jQ N ar av).bind λaw=>some aw)else some false).bind λax=>(bif ax then((app 8 ab.1 ([ab.2]:List Int)).bind λay=>some ay)else some ab.1).bind λaz=>some<|.nx (az,wrap .i64<|ab.2+1))else(some<|.br (ab.1,ab.2)):Option (Fl (List Int×Int) Empty))) N (([]:List Int),0)).bind λa0=>a0.cs (λ(ab:List Int×Int)=>(app 24 aa.1 ([ab.1]:List (List Int))).bind λa1=>some<|.nx (a1,wrap .i64<|aa.2+1))<|λr=>r.elim)else(some<|.br (aa.1,aa.2)):Option (Fl (List (List Int)×Int) Empty))) N (([]:List (List Int)),0)).bind λa2=>a2.cs (λ(aa:List (List Int)×Int)=>(fQ N p0.aM p0.bV j.1 j.2.1 aa.1).bind λa3=>some (p0.aK,p0.cU,p0.aM,p0.bV,j.1,j.2.1,a3,aa.1))<|λr=>r.elim)<|λr=>r.elim
def jw(N:Nat)(p0_5:List (List aH))(p0_6:List bW):Option (List Int):=
 (mk 8 (0:Int) (p0_5.length:Int)).bind λab=>(iD (λ(j:List Int×Int)=>(bif decide (j.2<(p0_6.length:Int))then((iD (λ(o:List Int×Int)=>((idx p0_6 j.2).bind λad=>bif decide (o.2<(ad.fF.length:Int))then((idx p0_6 j.2).bind λae=>(idx ae.fF o.2).bind λaa=>(idx o.1 aa).bind λah=>some<|.nx (o.1.set (Int.toNat aa) j.2,wrap .i64<|o.2+1))else(some<|.br (o.1,o.2)):Option (Fl (List Int×Int) Empty))) N (j.1,0)).bind λaf=>af.cs (λ(o:List Int×Int)=>some<|.nx (o.1,wrap .i64<|j.2+1))<|λr=>r.elim)else(some<|.br (j.1,j.2)):Option (Fl (List Int×Int) Empty))) N (ab,0)).bind λag=>ag.cs (λ(j:List Int×Int)=>some j.1)<|λr=>r.elim
def eT(N:Nat)(p0_6:List bW)(p1:eC):Option Int:=
 (iD (λ(j:Int)=>(bif decide (j<(p0_6.length:Int))then((bif p1.bU then((idx p0_6 j).bind λo=>(cN N o.aM p1.Number).bind λaa=>bif aa then some true else(bif(!p1.bU)then((idx p0_6 j).bind λab=>(cN N ab.fF p1.Number).bind λad=>some ad)else some false))else(bif(!p1.bU)then((idx p0_6 j).bind λae=>(cN N ae.fF p1.Number).bind λaf=>some af)else some false)).bind λag=>bif ag then some (.rt j)else some (.nx<|wrap .i64<|j+1))else(some<|.br j):Option (Fl Int Int))) N 0).bind λah=>ah.cs (λ(j:Int)=>some<|-1)<|λr=>some r
def ko(N:Nat)(p0 p1:Int)(p2 p3:Int):Option Int:=
 some (if(if 0<(wrap .i64<|p2 -(wrap .i64<|p1 - 1))then wrap .i64 (p2 -(wrap .i64<|p1 - 1))else 0)<(wrap .i64<|p0 -(wrap .i64<|p3 - 1))then wrap .i64 (p0 -(wrap .i64<|p3 - 1))else(if 0<(wrap .i64<|p2 -(wrap .i64<|p1 - 1))then wrap .i64 (p2 -(wrap .i64<|p1 - 1))else 0))
def iu(N:Nat)(p0 p1:aH):Option Int:=
 (ko N p0.X0 p0.X1 p1.X0 p1.X1).bind λj=>(ko N p0.Y0 p0.Y1 p1.Y0 p1.Y1).bind λo=>some (if j<o then o else j)
def iO(N:Nat)(p0:List aH)(p1:List aH):Option Int:=
 (idx p0 0).bind λab=>(idx p1 0).bind λad=>(iu N ab ad).bind λae=>(iD (λ(o:Int×Int)=>(bif decide (o.2<(p0.length:Int))then((iD (λ(j:Int×Int)=>(bif decide (j.2<(p1.length:Int))then((idx p0 o.2).bind λaf=>(idx p1 j.2).bind λag=>(iu N af ag).bind λaa=>some<|.nx ((if aa<j.1 then aa else j.1),wrap .i64<|j.2+1))else(some<|.br (j.1,j.2)):Option (Fl (Int×Int) Empty))) N (o.1,0)).bind λah=>ah.cs (λ(j:Int×Int)=>some<|.nx (j.1,wrap .i64<|o.2+1))<|λr=>r.elim)else(some<|.br (o.1,o.2)):Option (Fl (Int×Int) Empty))) N (ae,0)).bind λai=>ai.cs (λ(o:Int×Int)=>some o.1)<|λr=>r.elim
def iJ(N:Nat)(p0:List aH)(p1:List aH)(p2:Int):Option (dU×Bool):=
 (iD (λ(o:dU×Bool×Int)=>(bif decide (o.2.2<(p0.length:Int))then((iD (λ(j:dU×Bool×Int)=>(bif decide (j.2.2<(p1.length:Int))then((idx p0 o.2.2).bind λad=>(idx p1 j.2.2).bind λae=>(idx p0 o.2.2).bind λaa=>(idx p1 j.2.2).bind λab=>((idx p0 o.2.2).bind λaf=>(idx p1 j.2.2).bind λag=>bif decide ((if ad.X0<(wrap .i64<|ae.X0 - p2)then wrap .i64 (ae.X0 - p2)else ad.X0)> wrap .i64 ((if wrap .i64 (ag.X1+p2)<af.X1 then wrap .i64 (ag.X1+p2)else af.X1) - 1))then some true else((idx p0 o.2.2).bind λah=>(idx p1 j.2.2).bind λai=>some<|decide<|(if aa.Y0<(wrap .i64<|ab.Y0 - p2)then wrap .i64 (ab.Y0 - p2)else aa.Y0)> wrap .i64 ((if wrap .i64 (ai.Y1+p2)<ah.Y1 then wrap .i64 (ai.Y1+p2)else ah.Y1) - 1))).bind λak=>bif ak then some (.nx (j.1,j.2.1,wrap .i64<|j.2.2+1))else((bif((!j.2.1)||decide ((if aa.Y0<(wrap .i64<|ab.Y0 - p2)then wrap .i64 (ab.Y0 - p2)else aa.Y0)<j.1.Y))||(((if aa.Y0<(wrap .i64<|ab.Y0 - p2)then wrap .i64 (ab.Y0 - p2)else aa.Y0)==j.1.Y)&&decide ((if ad.X0<(wrap .i64<|ae.X0 - p2)then wrap .i64 (ae.X0 - p2)else ad.X0)<j.1.X))then some ((⟨(if ad.X0<(wrap .i64<|ae.X0 - p2)then wrap .i64 (ae.X0 - p2)else ad.X0),(if aa.Y0<(wrap .i64<|ab.Y0 - p2)then wrap .i64 (ab.Y0 - p2)else aa.Y0)⟩:dU),true)else some (j.1,j.2.1)).bind λaj=>some<|.nx (aj.1,aj.2,wrap .i64<|j.2.2+1)))else(some<|.br (j.1,j.2.1,j.2.2)):Option (Fl (dU×Bool×Int) Empty))) N (o.1,o.2.1,0)).bind λal=>al.cs (λ(j:dU×Bool×Int)=>some<|.nx (j.1,j.2.1,wrap .i64<|o.2.2+1))<|λr=>r.elim)else(some<|.br (o.1,o.2.1,o.2.2)):Option (Fl (dU×Bool×Int) Empty))) N ((⟨0,0⟩:dU),false,0)).bind λan=>an.cs (λ(o:dU×Bool×Int)=>some (o.1,o.2.1))<|λr=>r.elim
def jG(N:Nat)(p0:List aH)(p1:List aH):Option uP:=
 (iO N p0 p1).bind λo=>(iJ N p0 p1 o).bind λj=>(iJ N p1 ([(⟨j.1.X,j.1.Y,wrap .i64<|j.1.X+1,wrap .i64<|j.1.Y+1⟩:aH)]:List aH) o).bind λaa=>some (⟨0,0,wrap .i64<|o - 1,j.1,aa.1⟩:uP)
def jM(N:Nat)(p0_2:List bU)(p0_4:List Int)(p0_5:List (List aH))(p0_6:List bW)(p1:Int):Option (List bN):=
 (jw N p0_5 p0_6).bind λad=>(iD (λ(ab:List bN×Int)=>(bif decide (ab.2<(p0_5.length:Int))then((idx ad ab.2).bind λae=>(idx p0_6 ae).bind λaf=>(bif decide ((af.fw.length:Int)>=2)then((app 40 ab.1 ([(⟨true,(⟨false,ab.2⟩:eC),0,0⟩:bN)]:List bN)).bind λag=>some ag)else some ab.1).bind λah=>some<|.nx (ah,wrap .i64<|ab.2+1))else(some<|.br (ab.1,ab.2)):Option (Fl (List bN×Int) Empty))) N (([]:List bN),0)).bind λai=>ai.cs (λ(ab:List bN×Int)=>(iD (λ(aa:List bN×Int)=>(bif decide (aa.2<(p0_2.length:Int))then(((idx p0_2 aa.2).bind λaj=>bif aj.fD then((eT N p0_6 (⟨true,aa.2⟩:eC)).bind λak=>(idx p0_6 ak).bind λal=>some<|decide<|(al.fw.length:Int)>=2)else some false).bind λan=>(bif an then((app 40 aa.1 ([(⟨true,(⟨true,aa.2⟩:eC),0,0⟩:bN)]:List bN)).bind λao=>some ao)else some aa.1).bind λaq=>some<|.nx (aq,wrap .i64<|aa.2+1))else(some<|.br (aa.1,aa.2)):Option (Fl (List bN×Int) Empty))) N (ab.1,0)).bind λar=>ar.cs (λ(aa:List bN×Int)=>(iD (λ(j:List bN×Int)=>(bif decide (j.2<(p0_5.length:Int))then((iD (λ(o:List bN×Int)=>(bif decide (o.2<(p0_5.length:Int))then(((idx p0_4 j.2).bind λau=>(idx p0_4 o.2).bind λav=>bif au==av then((idx ad j.2).bind λaw=>(idx ad o.2).bind λax=>bif aw != ax then((idx p0_5 j.2).bind λay=>(idx p0_5 o.2).bind λaz=>(jG N ay az).bind λa0=>some<|decide<|a0.iK<p1)else some false)else some false).bind λa1=>(bif a1 then((app 40 o.1 ([(⟨false,⟨false,0⟩,j.2,o.2⟩:bN)]:List bN)).bind λa2=>some a2)else some o.1).bind λa3=>some<|.nx (a3,wrap .i64<|o.2+1))else(some<|.br (o.1,o.2)):Option (Fl (List bN×Int) Empty))) N (j.1,wrap .i64<|j.2+1)).bind λa4=>a4.cs (λ(o:List bN×Int)=>some<|.nx (o.1,wrap .i64<|j.2+1))<|λr=>r.elim)else(some<|.br (j.1,j.2)):Option (Fl (List bN×Int) Empty))) N (aa.1,0)).bind λa5=>a5.cs (λ(j:List bN×Int)=>some j.1)<|λr=>r.elim)<|λr=>r.elim)<|λr=>r.elim
def gH(N:Nat)(p0:Int)(p1:jO)(p2:Int):Option (Option (List (List aH)×List aH×List bU×List dE×List Int×List (List aH)×List bW×List (List Int))×List bN×Int):=
 bif p0 != 0 then some (none,([]:List bN),p0)else((lu N p2 0 100000).bind λaa=>bif(!aa)then some (none,([]:List bN),1)else((jL N p1).bind λj=>(jM N j.2.2.1 j.2.2.2.2.1 j.2.2.2.2.2.1 j.2.2.2.2.2.2.1 p2).bind λo=>bif decide ((o.length:Int)>20000)then some (none,([]:List bN),2)else some (some (j.1,j.2.1,j.2.2.1,j.2.2.2.1,j.2.2.2.2.1,j.2.2.2.2.2.1,j.2.2.2.2.2.2.1,j.2.2.2.2.2.2.2),o,0)))
def fU(N:Nat)(p0:jO)(p1:Int):Option (List bN×Int):=
 (dB N p0).bind λo=>(gH N o p0 p1).bind λj=>G7 j.1 (some (j.2.1,j.2.2))<|λ(aa:(List (List aH)×List aH×List bU×List dE×List Int×List (List aH)×List bW×List (List Int)))=>some (j.2.1,j.2.2)
def ja(N:Nat)(p0:eC)(p1:Int):Option Int:=
 bif p0.bU then some (wrap .i64<|p1+p0.Number)else some p0.Number
def jR(N:Nat)(p0 p1:Int)(p2_0:List (Int×Bool))(p3h_0:List Int):Option (List Int):=
 (bif(!(fK p2_0 p0 (false:Bool)))then some (!(fK p2_0 p1 (false:Bool)))else some false).bind λj=>(bif j then((fL N p3h_0 p0 p1).bind λo=>some o)else some p3h_0).bind λaa=>some aa
def f9(N:Nat)(p0_2:List bU)(p0_3:List dE)(p0_5:List aD)(p0_6:List (List Int))(p0_10:List Int)(p0_11:List eC)(p1:List bN):Option (List Int):=
 (kR p1.length (λ(aq:Nat)(aa:List (Int×Bool))=>((idx p1 (aq:Int)).bind λaj=>(bif aj.Open then((ja N aj.eC (p0_5.length:Int)).bind λar=>some<|rJ aa ar true)else some aa).bind λau=>some au:Option (List<|Int×Bool))) ([]:List (Int×Bool))).bind λaa=>(kN N<|wrap .i64<|(p0_5.length:Int)+(p0_2.length:Int)).bind λav=>(kR p0_6.length (λ(ak:Nat)(ae:List Int)=>((idx p0_6 (ak:Int)).bind λal=>(kR al.length (λ(aw:Nat)(af:List Int)=>((idx al (aw:Int)).bind λax=>(jR N ax (wrap .i64<|(p0_5.length:Int)+(ak:Int)) aa af).bind λay=>some ay:Option (List Int))) ae).bind λaf=>some af:Option (List Int))) av).bind λae=>(kR p1.length (λ(az:Nat)(ab:List Int)=>((idx p1 (az:Int)).bind λag=>(bif(!ag.Open)then((jR N ag.A ag.B aa ab).bind λa0=>some a0)else some ab).bind λa1=>some a1:Option (List Int))) ae).bind λab=>(mk 8 (0:Int) (p0_3.length:Int)).bind λa2=>(kR p0_11.length (λ(o:Nat)(j:List Int×List (Int×Int)×List Int)=>((idx p0_11 (o:Int)).bind λa3=>(ja N a3 (p0_5.length:Int)).bind λad=>((idx p0_10 (o:Int)).bind λa4=>bif decide (a4<0)then some true else some (fK aa ad (false:Bool))).bind λa5=>bif a5 then((idx j.2.2 (o:Int)).bind λa6=>some (j.1,j.2.1,j.2.2.set (Int.toNat (o:Int))<|-1))else((fG N j.1 ad).bind λah=>(bif(!(lZ j.2.1 ah.1))then((fG N ah.2 ad).bind λan=>some (an.2,rJ j.2.1 an.1 (o:Int)))else some (ah.2,j.2.1)).bind λai=>(fG N ai.1 ad).bind λao=>(idx j.2.2 (o:Int)).bind λa7=>some (ao.2,ai.2,j.2.2.set (Int.toNat (o:Int))<|fK ai.2 ao.1 (0:Int))):Option (List Int×List (Int×Int)×List Int))) (ab,([]:List (Int×Int)),a2)).bind λj=>some j.2.2
def rM(N:Nat)(p0:List Int)(p1:List Int):Option Bool:=
 (vg p0.length (λ(j:Nat)(ab:Unit)=>((idx p0 (j:Int)).bind λo=>(idx p1 (j:Int)).bind λaa=>(bif decide (o<0)then some (j:Int)else some o).bind λad=>(bif decide (aa<0)then some (j:Int)else some aa).bind λae=>bif ad != ae then some (.rt false)else(some<|.nx ()):Option (Fl Unit Bool))) ()).bind λaf=>af.cs (λ(ab:Unit)=>some true)<|λr=>some r
def ka(N:Nat)(p0:jO)(p1:Int):Option (List bN×Int):=
 (gG N p0).bind λaa=>G7 aa.1 (bif aa.2 != 0 then some (([]:List bN),aa.2)else none) (λ(j:(List (List aH)×List aH×List bU×List dE×List (List aA)×List aD×List (List Int)×List bW×List Int×List Int×List Int×List eC))=>bif aa.2 != 0 then some (([]:List bN),aa.2)else((oH N j.1 j.2.1 j.2.2.1 j.2.2.2.1 j.2.2.2.2.1 j.2.2.2.2.2.1 j.2.2.2.2.2.2.1 j.2.2.2.2.2.2.2.1 j.2.2.2.2.2.2.2.2.1 j.2.2.2.2.2.2.2.2.2.1 j.2.2.2.2.2.2.2.2.2.2.1 j.2.2.2.2.2.2.2.2.2.2.2 p1).bind λab=>bif ab.2 != 0 then some (([]:List bN),ab.2)else((f9 N j.2.2.1 j.2.2.2.1 j.2.2.2.2.2.1 j.2.2.2.2.2.2.1 j.2.2.2.2.2.2.2.2.2.2.1 j.2.2.2.2.2.2.2.2.2.2.2 ([]:List bN)).bind λae=>(kR ab.1.length (λ(af:Nat)(o:List Int×List bN)=>((idx ab.1 (af:Int)).bind λad=>(f9 N j.2.2.1 j.2.2.2.1 j.2.2.2.2.2.1 j.2.2.2.2.2.2.1 j.2.2.2.2.2.2.2.2.2.2.1 j.2.2.2.2.2.2.2.2.2.2.2 ([ad]:List bN)).bind λag=>(rM N ag o.1).bind λah=>(bif ah then((app 40 o.2 ([ad]:List bN)).bind λai=>some ai)else some o.2).bind λaj=>some (o.1,aj):Option (List Int×List bN))) (ae,([]:List bN))).bind λo=>some (o.2,0))))
def fV(N:Nat)(p0_5:List (List aH))(p1:eC):Option Int:=
 bif p1.bU then some (wrap .i64<|(p0_5.length:Int)+p1.Number)else some p1.Number
def gS(N:Nat)(p0_7:List (List Int))(p1:Int):Option (List Int):=
 (idx p0_7 p1).bind λj=>some j
def gI(N:Nat)(p0:List Int)(p1 p2:Int):Option (List Int):=
 (idx p0 p1).bind λo=>(idx p0 p2).bind λaa=>(iD (λ(j:List Int×Int)=>(bif decide (j.2<(j.1.length:Int))then((idx j.1 j.2).bind λab=>(bif ab==aa then((idx j.1 j.2).bind λaf=>some<|j.1.set (Int.toNat j.2) o)else some j.1).bind λad=>some<|.nx (ad,wrap .i64<|j.2+1))else(some<|.br (j.1,j.2)):Option (Fl (List Int×Int) Empty))) N (p0,0)).bind λae=>ae.cs (λ(j:List Int×Int)=>some j.1)<|λr=>r.elim
def gj(N:Nat)(p0_2:List bU)(p0_3:List dE)(p0_4:List Int)(p0_5:List (List aH))(p0_7:List (List Int))(p1:List bN):Option (List Int):=
 (mk 1 (false:Bool)<|wrap .i64<|(p0_5.length:Int)+(p0_2.length:Int)).bind λai=>(iD (λ(j:List Bool×Int)=>(bif decide (j.2<(p1.length:Int))then((idx p1 j.2).bind λaj=>(bif aj.Open then((idx p1 j.2).bind λak=>(fV N p0_5 ak.eC).bind λah=>(idx j.1 ah).bind λbp=>some<|j.1.set (Int.toNat ah) true)else some j.1).bind λal=>some<|.nx (al,wrap .i64<|j.2+1))else(some<|.br (j.1,j.2)):Option (Fl (List Bool×Int) Empty))) N (ai,0)).bind λan=>an.cs (λ(j:List Bool×Int)=>(mk 8 (0:Int) (j.1.length:Int)).bind λao=>(iD (λ(aa:List Int×Int)=>(bif decide (aa.2<(aa.1.length:Int))then((idx aa.1 aa.2).bind λbq=>some<|.nx (aa.1.set (Int.toNat aa.2) aa.2,wrap .i64<|aa.2+1))else(some<|.br (aa.1,aa.2)):Option (Fl (List Int×Int) Empty))) N (ao,0)).bind λaq=>aq.cs (λ(aa:List Int×Int)=>(iD (λ(ab:List Int×Int)=>(bif decide (ab.2<(p0_2.length:Int))then((gS N p0_7 ab.2).bind λaf=>(iD (λ(ad:List Int×Int)=>(bif decide (ad.2<(af.length:Int))then(((idx j.1<|wrap .i64<|(p0_5.length:Int)+ab.2).bind λar=>bif(!ar)then((idx af ad.2).bind λau=>(idx j.1 au).bind λav=>some<|!av)else some false).bind λaw=>(bif aw then((idx af ad.2).bind λax=>(gI N ad.1 (wrap .i64<|(p0_5.length:Int)+ab.2) ax).bind λay=>some ay)else some ad.1).bind λaz=>some<|.nx (az,wrap .i64<|ad.2+1))else(some<|.br (ad.1,ad.2)):Option (Fl (List Int×Int) Empty))) N (ab.1,0)).bind λa0=>a0.cs (λ(ad:List Int×Int)=>some<|.nx (ad.1,wrap .i64<|ab.2+1))<|λr=>r.elim)else(some<|.br (ab.1,ab.2)):Option (Fl (List Int×Int) Empty))) N (aa.1,0)).bind λa1=>a1.cs (λ(ab:List Int×Int)=>(iD (λ(o:List Int×Int)=>(bif decide (o.2<(p1.length:Int))then(((idx p1 o.2).bind λa2=>bif(!a2.Open)then((idx p1 o.2).bind λa3=>(idx j.1 a3.A).bind λa4=>bif(!a4)then((idx p1 o.2).bind λa5=>(idx j.1 a5.B).bind λa6=>some<|!a6)else some false)else some false).bind λa7=>(bif a7 then((idx p1 o.2).bind λa8=>(idx p1 o.2).bind λa9=>(gI N o.1 a8.A a9.B).bind λba=>some ba)else some o.1).bind λbb=>some<|.nx (bb,wrap .i64<|o.2+1))else(some<|.br (o.1,o.2)):Option (Fl (List Int×Int) Empty))) N (ab.1,0)).bind λbc=>bc.cs (λ(o:List Int×Int)=>(iD (λ(ae:List Int×Int)=>(bif decide (ae.2<(p0_3.length:Int))then((idx p0_3 ae.2).bind λbd=>(gl N p0_2 p0_4 p0_5 bd).bind λag=>(bif(!ag.2)then some true else((fV N p0_5 ag.1).bind λbf=>(idx j.1 bf).bind λbg=>some bg)).bind λbh=>(bif bh then((app 8 ae.1 ([(-1)]:List Int)).bind λbj=>some bj)else((fV N p0_5 ag.1).bind λbk=>(idx o.1 bk).bind λbl=>(app 8 ae.1 ([bl]:List Int)).bind λbm=>some bm)).bind λbn=>some<|.nx (bn,wrap .i64<|ae.2+1))else(some<|.br (ae.1,ae.2)):Option (Fl (List Int×Int) Empty))) N (([]:List Int),0)).bind λbo=>bo.cs (λ(ae:List Int×Int)=>some ae.1)<|λr=>r.elim)<|λr=>r.elim)<|λr=>r.elim)<|λr=>r.elim)<|λr=>r.elim
def gE(N:Nat)(p0:List Int)(p1 p2:Int):Option Bool:=
 ((idx p0 p1).bind λj=>bif decide (j>=0)then((idx p0 p1).bind λo=>(idx p0 p2).bind λaa=>some<|o==aa)else some false).bind λab=>some ab
def jc(N:Nat)(p0_2:List bU)(p0_3:List dE)(p0_4:List Int)(p0_5:List (List aH))(p0_7:List (List Int))(p1:bN):Option Bool:=
 (gj N p0_2 p0_3 p0_4 p0_5 p0_7 ([]:List bN)).bind λaa=>(gj N p0_2 p0_3 p0_4 p0_5 p0_7 ([p1]:List bN)).bind λab=>(iD (λ(j:List Int×List Int×Int)=>(bif decide (j.2.2<(j.1.length:Int))then((iD (λ(o:Int)=>(bif decide (o<j.2.2)then((gE N j.1 j.2.2 o).bind λad=>(gE N j.2.1 j.2.2 o).bind λae=>bif ad != ae then some (.rt false)else some (.nx<|wrap .i64<|o+1))else(some<|.br o):Option (Fl Int Bool))) N 0).bind λaf=>af.cs (λ(o:Int)=>some<|.nx (j.1,j.2.1,wrap .i64<|j.2.2+1))<|λr=>some<|.rt r)else(some<|.br (j.1,j.2.1,j.2.2)):Option (Fl (List Int×List Int×Int) Bool))) N (aa,ab,0)).bind λag=>ag.cs (λ(j:List Int×List Int×Int)=>some true)<|λr=>some r
def fo(N:Nat)(p0:jO)(p1:Int):Option (List bN×Int):=
 (dB N p0).bind λab=>(gH N ab p0 p1).bind λo=>G7 o.1 (bif o.2.2 != 0 then some (([]:List bN),o.2.2)else((iD (λ(ad:Unit)=>(bif decide (0<(o.2.1.length:Int))then none else(some<|.br ()):Option (Fl Unit Empty))) N ()).bind λae=>ae.cs (λ(ad:Unit)=>some (([]:List bN),0))<|λr=>r.elim)) (λ(aa:(List (List aH)×List aH×List bU×List dE×List Int×List (List aH)×List bW×List (List Int)))=>bif o.2.2 != 0 then some (([]:List bN),o.2.2)else((iD (λ(j:List bN×Int)=>(bif decide (j.2<(o.2.1.length:Int))then((idx o.2.1 j.2).bind λaf=>(jc N aa.2.2.1 aa.2.2.2.1 aa.2.2.2.2.1 aa.2.2.2.2.2.1 aa.2.2.2.2.2.2.2 af).bind λag=>(bif ag then((idx o.2.1 j.2).bind λah=>(app 40 j.1 ([ah]:List bN)).bind λai=>some ai)else some j.1).bind λaj=>some<|.nx (aj,wrap .i64<|j.2+1))else(some<|.br (j.1,j.2)):Option (Fl (List bN×Int) Empty))) N (([]:List bN),0)).bind λak=>ak.cs (λ(j:List bN×Int)=>some (j.1,0))<|λr=>r.elim))
def lS(N:Nat)(p0:List bN)(p1:List bN):Option Bool:=
 bif(p0.length:Int) != (p1.length:Int)then some false else((vg p0.length (λ(j:Nat)(o:Unit)=>((idx p0 (j:Int)).bind λaa=>(idx p1 (j:Int)).bind λab=>bif(!(decide<|aa=ab))then some (.rt false)else(some<|.nx ()):Option (Fl Unit Bool))) ()).bind λad=>ad.cs (λ(o:Unit)=>some true)<|λr=>some r)
def kD(N:Nat)(p0:Int)(p1h_5:List aD):Option Bool:=
 (oG N p0 0<|wrap .i64<|(p1h_5.length:Int) - 1).bind λj=>some j
def qB(N:Nat)(p0:List bN)(p1:bN):Option Int:=
 (vg p0.length (λ(j:Nat)(o:Unit)=>((idx p0 (j:Int)).bind λaa=>bif decide (p1=aa)then some (.rt (j:Int))else(some<|.nx ()):Option (Fl Unit Int))) ()).bind λab=>ab.cs (λ(o:Unit)=>some<|-1)<|λr=>some r
def nX(N:Nat)(p0:List bN)(p1:bN):Option Bool:=
 (qB N p0 p1).bind λj=>some<|decide<|j>=0
def oI(N:Nat)(p0_0:List (List aH))(p0_1:List aH)(p0_2:List bU)(p0_3:List dE)(p0_4:List (List aA))(p0_5:List aD)(p0_6:List (List Int))(p0_7:List bW)(p0_8:List Int)(p0_9:List Int)(p0_10:List Int)(p0_11:List eC)(p1:List bN):Option Int:=
 bif decide ((p1.length:Int)>20)then some 2 else((vg p1.length (λ(o:Nat)(aa:Unit)=>((idx p1 (o:Int)).bind λj=>(bif j.Open&&((j.A != 0)||(j.B != 0))then some true else(bif(!j.Open)then some (!(decide<|j.eC=(⟨false,0⟩:eC)))else some false)).bind λab=>bif ab then some (.rt 3)else(((kD N j.A p0_5).bind λad=>bif ad then((kD N j.B p0_5).bind λae=>some ae)else some false).bind λaf=>(bif j.Open then((kD N j.eC.Number p0_5).bind λag=>some ag)else some af).bind λah=>(bif j.Open&&j.eC.bU then(((oG N j.eC.Number 0<|wrap .i64<|(p0_2.length:Int) - 1).bind λai=>bif ai then((idx p0_2 j.eC.Number).bind λaj=>some aj.fD)else some false).bind λak=>some ak)else some ah).bind λal=>bif(!al)then some (.rt 9)else(bif(!j.Open)&&decide (j.B<=j.A)then some (.rt 8)else((vh p1 0 (o:Int)).bind λan=>(nX N an j).bind λao=>bif ao then some (.rt 7)else some (.nx ())))):Option (Fl Unit Int))) ()).bind λaq=>aq.cs (λ(aa:Unit)=>some 0)<|λr=>some r)
def gT(N:Nat)(p0:List dE)(p1:fz)(p2:dE->fz->Option Int):Option (Int×Bool):=
 (iD (λ(j:Int×Int)=>(bif decide (j.1<j.2)then((idx p0<|wrap .i64<|Int.fdiv (wrap .u64<|wrap .i64<|j.1+j.2) 2).bind λaa=>(p2 aa p1).bind λab=>(bif decide (ab<0)then some (wrap .i64<|wrap .i64 (Int.fdiv (wrap .u64<|wrap .i64<|j.1+j.2) 2)+1,j.2)else some (j.1,wrap .i64<|Int.fdiv (wrap .u64<|wrap .i64<|j.1+j.2) 2)).bind λo=>some<|.nx (o.1,o.2))else(some<|.br (j.1,j.2)):Option (Fl (Int×Int) Empty))) N (0,(p0.length:Int))).bind λad=>ad.cs (λ(j:Int×Int)=>(bif decide (j.1<(p0.length:Int))then((idx p0 j.1).bind λae=>(p2 ae p1).bind λaf=>some<|af==0)else some false).bind λag=>some (j.1,ag))<|λr=>r.elim
def jS(N:Nat)(p0:dE)(p1:fz):Option Int:=
 (mI N p0).bind λj=>(jE N j p1).bind λo=>some o
def m9(N:Nat)(p0:jO)(p1:fz):Option Int:=
 (gT N p0.bV p1<|jS N).bind λj=>bif(!j.2)then some (-1)else some j.1
def kA(N:Nat)(p0:jO)(p1:List bN)(p2 p3:fz):Option (Bool×Int):=
 (gG N p0).bind λo=>G7 o.1 (bif o.2 != 0 then some (false,o.2)else none) (λ(j:(List (List aH)×List aH×List bU×List dE×List (List aA)×List aD×List (List Int)×List bW×List Int×List Int×List Int×List eC))=>bif o.2 != 0 then some (false,o.2)else((oI N j.1 j.2.1 j.2.2.1 j.2.2.2.1 j.2.2.2.2.1 j.2.2.2.2.2.1 j.2.2.2.2.2.2.1 j.2.2.2.2.2.2.2.1 j.2.2.2.2.2.2.2.2.1 j.2.2.2.2.2.2.2.2.2.1 j.2.2.2.2.2.2.2.2.2.2.1 j.2.2.2.2.2.2.2.2.2.2.2 p1).bind λad=>bif ad != 0 then some (false,ad)else((m9 N p0 p2).bind λaa=>(m9 N p0 p3).bind λae=>bif decide (aa<0)||decide (ae<0)then some (false,9)else((f9 N j.2.2.1 j.2.2.2.1 j.2.2.2.2.2.1 j.2.2.2.2.2.2.1 j.2.2.2.2.2.2.2.2.2.2.1 j.2.2.2.2.2.2.2.2.2.2.2 p1).bind λab=>((idx ab aa).bind λaf=>bif decide (af>=0)then((idx ab aa).bind λag=>(idx ab ae).bind λah=>some<|ag==ah)else some false).bind λai=>some (ai,0)))))
def kb(N:Nat):Option Bool:=
 (kA N (⟨([([(⟨0,0,1,1⟩:aH)]:List aH)]:List (List aH)),([]:List aH),([]:List bU),([(⟨⟨[97]⟩,⟨[49]⟩,0,⟨0,0⟩⟩:dE)]:List dE)⟩:jO) ([]:List bN) (⟨⟨[97]⟩,⟨[49]⟩⟩:fz) (⟨⟨[97]⟩,⟨[49]⟩⟩:fz)).bind λj=>some<|(j.2==0)&&j.1
def eK(N:Nat)(p0:jO)(p1:Int):Option Bool:=
 (lR N p0 p1).bind λj=>(fU N p0 p1).bind λo=>(ka N p0 p1).bind λaa=>(fo N p0 p1).bind λab=>((lS N j.1 o.1).bind λad=>bif ad&&(j.2==o.2)then((lS N aa.1 ab.1).bind λae=>bif ae&&(aa.2==ab.2)then((kb N).bind λaf=>some af)else some false)else some false).bind λag=>some ag
end
def wD{R:Type}(m:Nat)(e:Nat->Option R):Option R:=(List.range m).findSome? e
theorem mw{R:Type}{m:Nat}{e:Nat->Option R}:wD m e=none↔∀k,k<m->e k=none:=by
 simp[wD]
theorem oN{R:Type}{m:Nat}{e:Nat->Option R}{r:R}:wD m e=some r↔∃k,k<m/\e k=some r/\∀j,j<k->e j=none:=by
 constructor
 ·intro h;obtain⟨l1,a,l2,hl,ha,hn⟩:=List.findSome?_eq_some_iff.1 h;have hlen:l1.length<m:=by have:=congrArg List.length hl;simp at this;omega
  have hget:∀i,i<l1.length->l1[i]? =some i:=λi hi=>by
   have:=congrArg (·[i]?) hl;simp only[jI hi,List.getElem?_range (show i<m by omega)]at this;exact this.symm
  have hat:a=l1.length:=by
   have:=congrArg (·[l1.length]?) hl;simp[List.getElem?_range hlen]at this;exact this.symm
  refine⟨a,by omega,ha,λj hj=>hn j ?_⟩;exact fR<|hget j (by omega)
 ·rintro⟨k,hk,he,hn⟩;refine List.findSome?_eq_some_iff.2 ⟨List.range k,k,(List.range<|m - k - 1).map (· +(k+1)),?_,he,λx hx=>hn x<|lk.1 hx⟩;refine List.ext_getElem? λi=>?_
  by_cases h1:i<k
  ·rw[jI (by simpa using h1),List.getElem?_range (by omega),List.getElem?_range h1]
  ·rw[jJ (by simpa using h1),List.length_range]
   by_cases h2:i=k
   ·subst h2;simp[List.getElem?_range hk]
   ·obtain⟨d,rfl⟩:∃d,i=k+1+d:=⟨i -(k+1),by omega⟩;rw[show k+1+d - k=d+1 by omega,List.getElem?_cons_succ,il]
    by_cases h3:k+1+d<m
    ·rw[List.getElem?_range h3,List.getElem?_range (by omega)];simp;omega
    ·rw[List.getElem?_eq_none (by simp;omega),List.getElem?_eq_none (by simp;omega)];rfl
section
variable {S R:Type}
def K2(o:Option R)(s:S):Fl S R:=match o with|some r=> .rt r|none=> .nx s
def Jt(o:Option R)(s:S):Fo S R:=match o with|some r=> .rt r|none=> .go s
theorem H3{body:Nat->S->Option (Fl S R)}(F:Nat->S)(e:Nat->Option R)(m:Nat):∀(n k:Nat),k+n=m->
  (∀j,k<=j->j<m->(∀i,k<=i->i<j->e i=none)->body j (F j)=some (K2 (e j)<|F<|j+1))->
  ∃o,F4 body n k (F k)=some o/\((∀j,k<=j->j<m->e j=none)/\o = .go (F m)\/∃j r,k<=j/\j<m/\e j=some r/\(∀i,k<=i->i<j->e i=none)/\o = .rt r)
 | 0,k,hk,_=>⟨_,rfl, .inl ⟨λj h1 h2=>by omega,by rw[show k=m by omega]⟩⟩
 |n+1,k,hk,h=>by
  have hb:=h k (cJ _) (by omega) (λi h1 h2=>by omega);unfold F4;rw[hb]
  cases hx:e k with
  |some r=>exact⟨_,rfl, .inr ⟨k,r,cJ _,by omega,hx,λi h1 h2=>by omega,rfl⟩⟩
  |none=>
   obtain⟨o,ho,hc⟩:=H3 F e m n (k+1) (by omega) (λj h1 h2 h3=>h j (by omega) h2 λi h4 h5=>by
    by_cases h6:i=k
    ·subst h6;exact hx
    ·exact h3 i (by omega) h5)
   refine⟨o,ho,?_⟩
   rcases hc with⟨h1,h2⟩|⟨j,r,h1,h2,h3,h4,h5⟩
   ·refine .inl ⟨λj h3 h4=>?_,h2⟩
    by_cases h6:j=k
    ·subst h6;exact hx
    ·exact h1 j (by omega) h4
   ·refine .inr ⟨j,r,by omega,h2,h3,λi h6 h7=>?_,h5⟩
    by_cases h8:i=k
    ·subst h8;exact hx
    ·exact h4 i (by omega) h7
theorem NF{body:Nat->S->Option (Fl S R)}{m:Nat}{s:S}(F:Nat->S)(e:Nat->Option R)(hm:m<=4611686018427387904)(hs:F 0=s)
  (h:∀k,k<m->(∀i,i<k->e i=none)->body k (F k)=some (K2 (e k)<|F<|k+1)):vg m body s=some (Jt (wD m e)<|F m):=by
 subst hs;unfold vg;rw[aG hm];obtain⟨o,ho,hc⟩:=H3 F e m m 0 (by omega)<|λj _ h2 h3=>h j h2 λi hi=>h3 i (cS _) hi
 rw[ho]
 rcases hc with⟨h1,h2⟩|⟨j,r,_,h2,h3,h4,h5⟩
 ·rw[mw.2 λk hk=>h1 k (cS _) hk,h2];rfl
 ·rw[oN.2 ⟨j,h2,h3,λi hi=>h4 i (cS _) hi⟩,h5];rfl
theorem tI{body:Nat->Unit->Option (Fl Unit R)}{m:Nat}(e:Nat->Option R)(hm:m<=4611686018427387904)
  (h:∀k,k<m->(∀i,i<k->e i=none)->body k ()=some (K2 (e k) ())):vg m body ()=some (Jt (wD m e) ()):=
 NF (λ_=>()) e hm rfl h
theorem H4{body:Nat->S->Option S}(F:Nat->S):∀(n k:Nat),(∀j,k<=j->j<k+n->body j (F j)=some (F<|j+1))->I6 body n k (F k)=some (F<|k+n)
 | 0,_,_=>rfl
 |n+1,k,h=>by
  unfold I6;rw[h k (cJ _) (by omega)];have:=H4 F n (k+1)<|λj h1 h2=>h j (by omega) (by omega)
  rw[show k+(n+1)=k+1+n by omega];exact this
theorem Gq{body:Nat->S->Option S}{m:Nat}{s:S}(F:Nat->S)(hm:m<=4611686018427387904)(hs:F 0=s)
  (h:∀k,k<m->body k (F k)=some (F<|k+1)):kR m body s=some (F m):=by
 subst hs;unfold kR;rw[aG hm];have:=H4 F m 0<|λj _ h2=>h j (by omega)
 rwa[jr]at this
theorem AM{body:S->Option (Fl S R)}(Inv:S->Prop)(μ:S->Nat)(Go:S->Prop)(Rt:R->Prop)
  (h:∀s,Inv s->∃fl,body s=some fl/\match fl with| .nx s'=>Inv s'/\μ s'<μ s| .br s'=>Go s'| .rt r=>Rt r):
  ∀(N:Nat)(s:S),Inv s->μ s<N->∃o,iD body N s=some o/\match o with| .go s'=>Go s'| .rt r=>Rt r
 | 0,s,_,hn=>by omega
 |N+1,s,hi,hn=>by
  obtain⟨fl,hb,hf⟩:=h s hi;unfold iD;rw[hb]
  cases fl with
  |nx s'=>exact AM Inv μ Go Rt h N s' hf.1 (by have:=hf.2;omega)
  |br s'=>exact⟨_,rfl,hf⟩
  |rt r=>exact⟨_,rfl,hf⟩
theorem H5{body:Nat->S->Option (Fl S R)}(Inv:Nat->S->Prop)(Go:S->Prop)(Rt:R->Prop)(m:Nat)
  (h:∀k s,k<m->Inv k s->∃fl,body k s=some fl/\match fl with| .nx s'=>Inv (k+1) s'| .br s'=>Go s'| .rt r=>Rt r) (hg:∀s,Inv m s->Go s):
  ∀(n k:Nat)(s:S),k+n=m->Inv k s->∃o,F4 body n k s=some o/\match o with| .go s'=>Go s'| .rt r=>Rt r
 | 0,k,s,hk,hi=>⟨_,rfl,hg s (by rw[<-hk];exact hi)⟩
 |n+1,k,s,hk,hi=>by
  obtain⟨fl,hb,hf⟩:=h k s (by omega) hi;unfold F4;rw[hb]
  cases fl with
  |nx s'=>exact H5 Inv Go Rt m h hg n (k+1) s' (by omega) hf
  |br s'=>exact⟨_,rfl,hf⟩
  |rt r=>exact⟨_,rfl,hf⟩
theorem NG{body:Nat->S->Option (Fl S R)}{m:Nat}{s:S}(Inv:Nat->S->Prop)(Go:S->Prop)(Rt:R->Prop)(hm:m<=4611686018427387904)(h0:Inv 0 s)
  (h:∀k s,k<m->Inv k s->∃fl,body k s=some fl/\match fl with| .nx s'=>Inv (k+1) s'| .br s'=>Go s'| .rt r=>Rt r) (hg:∀s,Inv m s->Go s):
  ∃o,vg m body s=some o/\match o with| .go s'=>Go s'| .rt r=>Rt r:=by
 unfold vg;rw[aG hm];exact H5 Inv Go Rt m h hg m 0 s (by omega) h0
theorem H6{body:Nat->S->Option S}(Inv:Nat->S->Prop)(m:Nat)(h:∀k s,k<m->Inv k s->∃s',body k s=some s'/\Inv (k+1) s'):
  ∀(n k:Nat)(s:S),k+n=m->Inv k s->∃s',I6 body n k s=some s'/\Inv m s'
 | 0,k,s,hk,hi=>⟨_,rfl,by rw[<-hk];exact hi⟩
 |n+1,k,s,hk,hi=>by
  obtain⟨s',hb,hf⟩:=h k s (by omega) hi;unfold I6;rw[hb];exact H6 Inv m h n (k+1) s' (by omega) hf
theorem C2{body:Nat->S->Option S}{m:Nat}{s:S}(Inv:Nat->S->Prop)(hm:m<=4611686018427387904)(h0:Inv 0 s)
  (h:∀k s,k<m->Inv k s->∃s',body k s=some s'/\Inv (k+1) s'):∃s',kR m body s=some s'/\Inv m s':=by
 unfold kR;rw[aG hm];exact H6 Inv m h m 0 s (by omega) h0
end
section
variable {α β:Type}
theorem aB(x:α)(f:α->Option β):(some x).bind f=f x:=rfl
theorem mc(l:List α)(k:Nat)(h:k<l.length):idx l ((k:Nat):Int)=some l[k]:=by
 unfold idx;rw[aG (by omega),cO,aN h]
theorem cG{l:List α}{k:Nat}{x:α}(h:l[k]? =some x):idx l ((k:Nat):Int)=some x:=by
 unfold idx;rw[aG (by omega),cO,h]
theorem H7(s:eV)(k:Nat)(h:k<s.dP.length):I9 s ((k:Nat):Int)=some s.dP[k]:=by
 unfold I9;rw[aG (by omega),cO,aN h]
theorem jU{k:Nat}(h:0<k)(hk:k<=4611686018427387904):wrap .i64 (((k:Nat):Int) - 1)=((k - 1:Nat):Int):=by
 rw[gq (by omega) (by omega)];omega
theorem tJ(l:List α)(k:Nat)(h:k<=l.length):vh l 0 ((k:Nat):Int)=some (l.take k):=by
 unfold vh;rw[aG ⟨by omega,by omega,by omega⟩];simp only[Int.toNat_zero,List.drop_zero,Int.sub_zero,cO]
theorem rS(l:List α)(k:Nat)(h:k<=l.length):vh l ((k:Nat):Int) ((l.length:Nat):Int)=some (l.drop k):=by
 unfold vh;rw[aG ⟨by omega,by omega,by omega⟩];simp only[cO,Option.some.injEq];rw[mF];rw[l9];omega
theorem kE{b:Nat}{l ys:List α}(h:(l.length+ys.length)*b<=140737488355328):app b l ys=some (l++ys):=by unfold app;rw[aG h]
theorem oO{b:Nat}(z:α){n:Nat}(h:n*b<=140737488355328):mk b z ((n:Nat):Int)=some (List.replicate n z):=by
 unfold mk;have e:((n:Nat):Int)*((b:Nat):Int)=((n*b:Nat):Int):=(Int.natCast_mul n b).symm;rw[e];generalize n*b=q at h ⊢;rw[aG ⟨by omega,by omega⟩,cO]
end
theorem eV.ext'{a b:eV}(h:a.dP=b.dP):a=b:=by cases a;cases b;simp at h;rw[h]
theorem Gr{a b:eV}:a.wi b=true↔a=b:=by
 unfold eV.wi;rw[beq_iff_eq];exact⟨eV.ext',λh=>by rw[h]⟩
theorem Co:∀(a:List UInt8),Op.bytesLess a a=false
 | []=>rfl
 |a::l=>by
  unfold Op.bytesLess;rw[Co l];simp
theorem Dv:∀{a b c:List UInt8},Op.bytesLess a b=true->Op.bytesLess b c=true->Op.bytesLess a c=true
 | [],[],_,h,_=>by simp[Op.bytesLess]at h
 | [],_::_,[],_,h=>by simp[Op.bytesLess]at h
 | [],_::_,_::_,_,_=>rfl
 |_::_,[],_,h,_=>by simp[Op.bytesLess]at h
 |_::_,_::_,[],_,h=>by simp[Op.bytesLess]at h
 |a::l,b::m,c::n,h1,h2=>by
  unfold Op.bytesLess at h1 h2 ⊢;simp only[iB,cQ,cY,beq_iff_eq]at h1 h2 ⊢
  rcases h1 with h1|⟨rfl,h1⟩
  ·rcases h2 with h2|⟨rfl,h2⟩
   ·exact .inl<|UInt8.lt_trans h1 h2
   ·exact .inl h1
  ·rcases h2 with h2|⟨rfl,h2⟩
   ·exact .inl h2
   ·exact .inr ⟨rfl,Dv h1 h2⟩
theorem Dw:∀(a b:List UInt8),Op.bytesLess a b=true\/a=b\/Op.bytesLess b a=true
 | [],[]=> .inr (.inl rfl)
 | [],_::_=> .inl rfl
 |_::_,[]=> .inr (.inr rfl)
 |a::l,b::m=>by
  unfold Op.bytesLess;simp only[iB,cQ,cY,beq_iff_eq]
  by_cases h1:a<b
  ·exact .inl<|.inl h1
  ·by_cases h2:b<a
   ·exact .inr<|.inr<|.inl h2
   ·have e:a=b:=by
     simp only[UInt8.lt_iff_toNat_lt]at h1 h2;exact UInt8.toNat_inj.1 (by omega)
    subst e
    rcases Dw l m with h|h|h
    ·exact .inl<|.inr ⟨rfl,h⟩
    ·exact .inr<|.inl (by rw[h])
    ·exact .inr<|.inr<|.inr ⟨rfl,h⟩
theorem zP:∀(a b:List UInt8),Lib.compareBytes a b<0↔Op.bytesLess a b=true
 | [],[]=>by simp[Lib.compareBytes,Op.bytesLess]
 | [],_::_=>by simp[Lib.compareBytes,Op.bytesLess]
 |_::_,[]=>by simp[Lib.compareBytes,Op.bytesLess]
 |a::l,b::m=>by
  unfold Lib.compareBytes Op.bytesLess;simp only[iB,cQ,cY,beq_iff_eq];split
  ·simp_all
  ·rename_i h1;split
   ·rename_i h2;have h3:a≠b:=λe=>by subst e;exact h1 h2
    simp[h1,h3]
   ·rename_i h2;have e:a=b:=by
     simp only[UInt8.lt_iff_toNat_lt]at h1 h2;exact UInt8.toNat_inj.1 (by omega)
    subst e;rw[zP l m];simp[h1]
theorem Dx:∀(a b:List UInt8),Lib.compareBytes a b=0↔a=b
 | [],[]=>by simp[Lib.compareBytes]
 | [],_::_=>by simp[Lib.compareBytes]
 |_::_,[]=>by simp[Lib.compareBytes]
 |a::l,b::m=>by
  unfold Lib.compareBytes;split
  ·rename_i h1;have h3:a≠b:=λe=>by subst e;exact absurd h1 (by simp)
   simp[h3]
  ·rename_i h1;split
   ·rename_i h2;have h3:a≠b:=λe=>by subst e;exact h1 h2
    simp[h3]
   ·rename_i h2;have e:a=b:=by
     simp only[UInt8.lt_iff_toNat_lt]at h1 h2;exact UInt8.toNat_inj.1 (by omega)
    subst e;rw[Dx l m];simp
def eV.lt(a b:eV):Prop:=a.wj b=true
theorem eV.lt_irrefl(a:eV):¬eV.lt a a:=by unfold eV.lt eV.wj;rw[Co];decide
theorem eV.lt_trans{a b c:eV}(h1:eV.lt a b)(h2:eV.lt b c):eV.lt a c:=Dv h1 h2
theorem eV.H8(a b:eV):eV.lt a b\/a=b\/eV.lt b a:=by
 rcases Dw a.dP b.dP with h|h|h
 ·exact .inl h
 ·exact .inr<|.inl<|eV.ext' h
 ·exact .inr<|.inr h
theorem eV.ON{a b:eV}(h:eV.lt a b):a≠b:=λe=>by subst e;exact eV.lt_irrefl a h
end Go.Gk
namespace Go.Gk
open Go IntKind
class Bk (α:Type)where
 bk:α->Nat
 pos:∀x,1<=bk x
def bk{α:Type}[Bk α](x:α):Nat:=Bk.bk x
theorem Mh{α:Type}[Bk α](x:α):1<=bk x:=Bk.pos x
instance:Bk eV:=⟨λs=>s.dP.length+1,λ_=>by omega⟩
instance:Bk Int:=⟨λ_=>1,λ_=>by omega⟩
instance:Bk Bool:=⟨λ_=>1,λ_=>by omega⟩
instance {α:Type} [Bk α]:Bk (List α):=⟨λl=>(l.map bk).sum+1,λ_=>by omega⟩
theorem Mi{α:Type}[Bk α]:bk ([]:List α)=1:=rfl
theorem Gs{α:Type}[Bk α](x:α)(l:List α):bk (x::l)=bk x+bk l:=by
 show(List.map bk<|x::l).sum+1=bk x+((List.map bk l).sum+1);simp;omega
theorem Ju{α:Type}[Bk α]:∀{l:List α}{x:α},x∈l->bk x+1<=bk l
 |y::l,x,h=>by
  rw[Gs]
  rcases eH.1 h with h|h
  ·subst h;have:=Mh l;omega
  ·have:=Ju h;omega
theorem BN{α:Type}[Bk α]:∀(l:List α),l.length+1<=bk l
 | []=>by rw[Mi];simp
 |x::l=>by rw[Gs,eI];have:=BN l;have:=Mh x;omega
theorem PB(s:eV):bk s=s.dP.length+1:=rfl
section
variable {α R:Type}
theorem K3{l:List α}{e:Nat->Option R}(f:α->Option R)(h:∀k x,l[k]? =some x->e k=f x):wD l.length e=l.findSome? f:=by
 cases hx:wD l.length e with
 |none=>
  refine(List.findSome?_eq_none_iff.2 λx hm=>?_).symm;obtain⟨k,hk⟩:=eE hm;rw[<-h k x hk];exact mw.1 hx k (bQ.1 hk).1
 |some r=>
  obtain⟨k,hk,he,hn⟩:=oN.1 hx;refine(List.findSome?_eq_some_iff.2 ⟨l.take k,l[k],l.drop<|k+1,?_,?_,λy hy=>?_⟩).symm
  ·rw[<-wk hk,List.take_append_drop]
  ·rw[<-h k l[k] (aN hk)];exact he
  ·obtain⟨j,hj⟩:=eE hy;have hjk:j<k:=by have:=(bQ.1 hj).1;rw[dS]at this;omega
   rw[List.getElem?_take_of_lt hjk]at hj;rw[<-h j y hj];exact hn j hjk
theorem Gt(l:List α)(p:α->Bool)(r:R):l.findSome? (λx=>if p x=true then some r else none)=if l.any p=true then some r else none:=by
 induction l with
 |nil=>simp
 |cons x l ih=>
  rw[List.findSome?_cons,List.any_cons]
  cases h:p x <;> simp[ih]
theorem Dy{l:List α}{body:Nat->Unit->Option (Fl Unit R)}(f:α->Option R)(hl:l.length<=4611686018427387904)
  (h:∀k x,l[k]? =some x->body k ()=some (K2 (f x) ())):vg l.length body ()=some (Jt (l.findSome? f) ()):=by
 have h2:=tI (body:=body) (m:=l.length) (λk=>(l[k]?).bind f) hl (λk hk _=>by
  rw[h k l[k] (aN hk),aN hk];rfl)
 rw[h2,K3 f (λk x hx=>by rw[hx];rfl)]
theorem NH{l:List α}{body:Nat->Unit->Option (Fl Unit R)}(p:α->Bool)(r:R)(hl:l.length<=4611686018427387904)
  (h:∀k x,l[k]? =some x->body k ()=some (if p x=true then .rt r else .nx ())):vg l.length body ()=some (if l.any p=true then .rt r else .go ()):=by
 rw[Dy (λx=>if p x=true then some r else none) hl (λk x hx=>by rw[h k x hx];cases p x <;> rfl),Gt]
 cases l.any p <;> rfl
end
theorem NI{β:Type}(b:Bool)(x y:β):(bif b then some x else some y)=some (bif b then x else y):=by cases b <;> rfl
section
variable {α β:Type}
def K4(l:List α)(p:α->Bool):Int:=match l.findIdx? p with|some k=>((k:Nat):Int)|none=> -1
theorem Mj{l:List α}{p:α->Bool}(h:l.any p=false):K4 l p = -1:=by
 unfold K4;rw[List.findIdx?_eq_none_iff.2];intro x hx;rw[<-ma];intro hp;rw[<-ma]at h;exact h<|kJ.2 ⟨x,hx,hp⟩
theorem Mk{l:List α}{p:α->Bool}{k:Nat}{x:α}(hk:l[k]? =some x)(hp:p x=true)(hn:∀j y,j<k->l[j]? =some y->p y=false):K4 l p=((k:Nat):Int):=by
 unfold K4;have hlt:=(bQ.1 hk).1;have:l.findIdx? p=some k:=by
  rw[List.findIdx?_eq_some_iff_getElem];refine⟨hlt,?_,λj hj=>?_⟩
  ·have:=aN hlt;rw[hk]at this;injection this with this;rw[<-this];exact hp
  ·have:=hn j l[j] hj<|aN (by omega);simpa using this
 rw[this]
theorem BO(l:List α)(p:α->Bool):(K4 l p = -1/\∀x∈l,p x=false)\/∃k x,K4 l p=((k:Nat):Int)/\l[k]? =some x/\p x=true/\∀j y,j<k->l[j]? =some y->p y=false:=by
 unfold K4
 cases h:l.findIdx? p with
 |none=>exact .inl ⟨rfl,λx hx=>by have:=List.findIdx?_eq_none_iff.1 h x hx;simpa using this⟩
 |some k=>
  obtain⟨hk,hp,hn⟩:=List.findIdx?_eq_some_iff_getElem.1 h;refine .inr ⟨k,l[k],rfl,aN hk,hp,λj y hj hy=>?_⟩;have:=hn j hj;rw[aN (by omega)]at hy;injection hy with hy
  subst hy;simpa using this
theorem PC(l:List α)(p:α->Bool):decide (K4 l p>=0)=l.any p:=by
 rcases BO l p with⟨h,hn⟩|⟨k,x,h,hx,hp,_⟩
 ·rw[h,List.any_eq_false.2 (λx hx=>by rw[hn x hx];decide)];decide
 ·rw[h,kJ.2 ⟨x,fR hx,hp⟩];simp
def wE(p0:List α)(p1:α->Option Bool):Option Int:=
 (vg p0.length (λ(k1:Nat)(_:Unit)=>((idx p0 ((k1:Nat):Int)).bind λx7=>(p1 x7).bind λx10=>bif x10 then some (.rt ((k1:Nat):Int))else(some<|.nx ()):Option (Fl Unit Int))) ()).bind λo11=>o11.cs (λ(_:Unit)=>some<|-1)<|λr=>some r
theorem zi{l:List α}{φ:α->Option Bool}(p:α->Bool)(hl:l.length<=4611686018427387904)(h:∀x∈l,φ x=some (p x)):wE l φ=some (K4 l p):=by
 unfold wE
 rw[tI (λk=>(l[k]?).bind λx=>if p x=true then some ((k:Nat):Int)else none) hl (λk hk _=>by
  rw[mc l k hk,aB,h _<|cH hk,aB,aN hk]
  cases hp:p l[k] <;> simp[K2,hp]),aB]
 rcases BO l p with⟨h1,h2⟩|⟨k,x,h1,h2,h3,h4⟩
 ·rw[mw.2 (λk hk=>by rw[aN hk];simp[h2 _<|cH hk])];simp[Jt,Fo.cs,h1]
 ·rw[(oN (r:=((k:Nat):Int))).2 ⟨k,(bQ.1 h2).1,by rw[h2];simp[h3],λj hj=>by
   cases hy:l[j]? with
   |none=>rfl
   |some y=>simp[h4 j y hj hy]⟩]
  simp[Jt,Fo.cs,h1]
def uU(p0:List α)(p1:α->Option Bool):Option Bool:=
 (wE p0 p1).bind λx1=>some<|decide<|x1>=0
theorem vz{l:List α}{φ:α->Option Bool}(p:α->Bool)(hl:l.length<=4611686018427387904)(h:∀x∈l,φ x=some (p x)):uU l φ=some (l.any p):=by
 unfold uU;rw[zi p hl h,aB,PC]
def Jv [DecidableEq α](p0 p1:List α):Option Bool:=
 bif((p0.length:Nat):Int) != ((p1.length:Nat):Int)then some false else((vg p0.length (λ(k1:Nat)(_:Unit)=>((idx p0 ((k1:Nat):Int)).bind λx13=>(idx p1 ((k1:Nat):Int)).bind λx16=>bif(!(decide<|x13=x16))then some (.rt false)else(some<|.nx ()):Option (Fl Unit Bool))) ()).bind λo23=>o23.cs (λ(_:Unit)=>some true)<|λr=>some r)
theorem BP [DecidableEq α]{l m:List α}(hl:l.length<=4611686018427387904):Jv l m=some (decide<|l=m):=by
 unfold Jv
 by_cases h:l.length=m.length
 ·have e:(((l.length:Nat):Int) != ((m.length:Nat):Int))=false:=by rw[h];simp
  rw[e,aR]
  rw[tI (λk=>if l[k]? =m[k]? then none else some false) hl (λk hk _=>by
   rw[mc l k hk,aB,mc m k (by omega),aB,aN hk,aN (by omega:k<m.length)]
   by_cases hx:l[k]=m[k] <;> simp[K2,hx]),aB]
  by_cases hx:l=m
  ·subst hx;rw[mw.2<|λk _=>aG rfl];simp[Jt,Fo.cs]
  ·have:∃r,wD l.length (λk=>if l[k]? =m[k]? then none else some false)=some r:=by
    cases hf:wD l.length (λk=>if l[k]? =m[k]? then none else some false)with
    |some r=>exact⟨r,rfl⟩
    |none=>
     exfalso;refine hx<|List.ext_getElem? λi=>?_
     by_cases hi:i<l.length
     ·have:=mw.1 hf i hi
      by_cases h6:l[i]? =m[i]?
      ·exact h6
      ·rw[aI h6]at this;cases this
     ·rw[List.getElem?_eq_none (by omega),List.getElem?_eq_none (by omega)]
   obtain⟨r,hr⟩:=this;have hr2:r=false:=by
    obtain⟨k,_,hk,_⟩:=oN.1 hr;split at hk
    ·cases hk
    ·injection hk with hk;exact hk.symm
   rw[hr,hr2];simp[Jt,Fo.cs,hx]
 ·have e:(((l.length:Nat):Int) != ((m.length:Nat):Int))=true:=by simp;omega
  rw[e,aO,cD<|λh'=>h (by rw[h'])]
def Sorted(key:α->eV)(l:List α):Prop:=∀(i j:Nat)(x y:α),i<j->l[i]? =some x->l[j]? =some y->eV.lt (key x) (key y)
theorem Sorted.inj{key:α->eV}{l:List α}(h:Sorted key l){i j:Nat}{x y:α}(hx:l[i]? =some x)(hy:l[j]? =some y)(e:key x=key y):i=j:=by
 rcases Nat.lt_trichotomy i j with h1|h1|h1
 ·exact absurd e<|eV.ON<|h i j x y h1 hx hy
 ·exact h1
 ·exact absurd e.symm<|eV.ON<|h j i y x h1 hy hx
def Ml(N:Nat)(p0:List α)(p1:β)(p2:α->β->Option Int):Option (Int×Bool):=
 (iD (λ(s2:Int×Int)=>(bif decide (s2.1<s2.2)then((idx p0<|wrap .i64<|Int.fdiv (wrap .u64<|wrap .i64<|s2.1+s2.2) 2).bind λx13=>(p2 x13 p1).bind λx16=>(bif decide (x16<0)then some (wrap .i64<|wrap .i64 (Int.fdiv (wrap .u64<|wrap .i64<|s2.1+s2.2) 2)+1,s2.2)else some (s2.1,wrap .i64<|Int.fdiv (wrap .u64<|wrap .i64<|s2.1+s2.2) 2)).bind λs17=>some<|.nx (s17.1,s17.2))else(some<|.br (s2.1,s2.2)):Option (Fl (Int×Int) Empty))) N (0,((p0.length:Nat):Int))).bind λo29=>o29.cs (λ(s2:Int×Int)=>(bif decide (s2.1<((p0.length:Nat):Int))then((idx p0 s2.1).bind λx25=>(p2 x25 p1).bind λx28=>some<|x28==0)else some false).bind λs23=>some (s2.1,s23))<|λr=>r.elim
theorem K5{a b:Nat}(h:a<b)(hb:b<=4611686018427387904):wrap .i64 (Int.fdiv (wrap .u64<|wrap .i64<|((a:Nat):Int)+((b:Nat):Int)) 2)=(((a+b) / 2:Nat):Int):=by
 rw[gq (x:=((a:Nat):Int)+((b:Nat):Int)) (by omega) (by omega)];have e:wrap .u64 (((a:Nat):Int)+((b:Nat):Int))=((a+b:Nat):Int):=by
  show((a:Int)+b) % 18446744073709551616=_;omega
 rw[e,Int.fdiv_eq_ediv_of_nonneg _ (by omega),gq (by omega) (by omega)];omega
end
end Go.Gk
namespace Go.Gk
open Go IntKind Go.ChangeShapes Go.WideShapes Go.RowKit
structure UB (ub:(H:Type)->DataW H->Nat) (ua:(H:Type)->List (DataW H)->Nat):Prop where
 str:∀(H:Type)(b:List UInt8),ub H (.lit<|.string b)=b.length+1
 pos:∀(H:Type)(d:DataW H),1<=ub H d
 sl:∀(H:Type)(e s:List (DataW H)),ub H (.slice e s)=ua H e+ua H s+1
 ag:∀(H:Type)(l:List (DataW H)),ub H (.agg l)=ua H l+1
 nil:∀(H:Type),ua H []=0
 cons:∀(H:Type)(x:DataW H)(l:List (DataW H)),ua H (x::l)=ub H x+ua H l
def Hw(w:World):eX:=λb=>w.heap[b]?
structure mx (ub:(H:Type)->DataW H->Nat) (P:Program) (T:TypeId) (α:Type) [GT α] [Bk α]:Prop where
 trod:∀{H:Type}{enc:TypeId×Value->H}{w:World}{base:Nat}{spare:Nat->Bool}{held:Bool}{fuel:Nat}{cs:List Value}{d:DataW H×List MemPlace},
  DataW.trod enc P w base spare held fuel T cs=some d->∃x:α,GT.ok (Hw w) cs x/\bk x<=ub H d.1
 RG:∀{w:World}{r:Reach}{base:Nat}{v:Value},Value.okWide P w r base T v->v=xI α v.cells.toList
section
variable {ub:(H:Type)->DataW H->Nat}{ua:(H:Type)->List (DataW H)->Nat}{P:Program}{T e:TypeId}
theorem K6(u:UB ub ua)(ht:P.underlying T=some (.int .i64)):mx ub P T Int where
 trod:=λh=>by
  obtain⟨n,rfl,rfl,_⟩:=DataW.trod_int ht h;exact⟨n,rfl,u.pos _ _⟩
 RG:=λh=>by obtain⟨n,rfl⟩:=okWide_int ht h;rfl
theorem Jw(u:UB ub ua)(ht:P.underlying T=some .bool):mx ub P T Bool where
 trod:=λh=>by
  obtain⟨n,rfl,rfl⟩:=DataW.trod_bool ht h;exact⟨n,rfl,u.pos _ _⟩
 RG:=λh=>by obtain⟨n,rfl⟩:=okWide_bool ht h;rfl
theorem K7(u:UB ub ua)(ht:P.underlying T=some .string):mx ub P T eV where
 trod:=λh=>by
  obtain⟨s,rfl,rfl,_⟩:=DataW.trod_string ht h;refine⟨⟨s.data.toList⟩,?_,?_⟩
  ·show [Value.string s]= [Gk.str ⟨s.data.toList⟩]
   cases s;rfl
  ·rw[u.str];exact cJ _
 RG:=λh=>by obtain⟨n,rfl⟩:=okWide_string ht h;rfl
theorem Cp{α:Type}{R:Nat->α->Prop}:∀(n:Nat),(∀i,i<n->∃x,R i x)->∃l:List α,l.length=n/\∀i x,l[i]? =some x->R i x
 | 0,_=>⟨[],rfl,λi x h=>by simp at h⟩
 |n+1,h=>by
  obtain⟨l,h1,h2⟩:=Cp n<|λi hi=>h i (by omega)
  obtain⟨x,hx⟩:=h n (by omega);refine⟨l++[x],by simp[h1],λi y hy=>?_⟩
  by_cases hi:i<n
  ·rw[jI (by omega)]at hy;exact h2 i y hy
  ·have:=(bQ.1 hy).1;rw[dX]at this;have:i=n:=by simp at this;omega
   subst this;rw[jJ (by omega),h1]at hy;simp at hy;subst hy;exact hx
theorem Fx{H α:Type}[Bk α](u:UB ub ua):∀{l:List α}{es:List (DataW H×List MemPlace)},l.length=es.length->
  (∀(i:Nat)(x:α)(y:DataW H×List MemPlace),l[i]? =some x->es[i]? =some y->bk x<=ub H y.1)->bk l<=ua H (es.map (·.1))+1
 | [],[],_,_=>by rw[Mi];omega
 |x::l,y::es,hl,h=>by
  have h1:=h 0 x y rfl rfl;have h2:=Fx (H:=H) u (l:=l) (es:=es) (by simpa using hl)<|λi x y hx hy=>h (i+1) x y (by simpa using hx) (by simpa using hy)
  rw[Gs,fN,u.cons];omega
theorem H9{w:World}{base:Nat}{a:Addr}{n:Nat}{cs:List Value}(h:w.cells? base a n=some cs):At (Hw w) a cs:=by
 intro j v hv;obtain⟨_,hlen,hc⟩:=World.cells?_some h;have hj:=(bQ.1 hv).1;have h2:=hc j (by omega);rw[hv]at h2;unfold Ah Hw;unfold World.cell? at h2;exact h2
theorem wF{α:Type}[GT α][Bk α](u:UB ub ua)(he:mx ub P e α)(ht:P.underlying T=some (.slice e):=by kernel_rfl)(hc:P.cellsOf e=GT.sz α:=by kernel_rfl):mx ub P T (List α)where
 trod:=λ{H enc w base spare held fuel cs d}h=>by
  rcases DataW.trod_slice ht h with⟨rfl,rfl⟩|⟨a,len,cap,elems,rest,n,_,rfl,rfl,_,hlc,hcm,hlen,hel,_⟩
  ·exact⟨[],⟨_,rfl,none,0,0,rfl,rfl,cJ _,by simp[maxLen],λi x hx=>by simp at hx⟩,u.pos _ _⟩
  ·have each:∀i,i<len->∃x:α,(∃c y,GT.ok (Hw w) c x/\At (Hw w) (a.add<|i*GT.sz α) c/\elems[i]? =some y/\bk x<=ub H y.1):=by
    intro i hi;have h1:=hel i hi;rw[aN (by omega:i<elems.length),Option.bind_eq_some_iff]at h1;obtain⟨c,h2,h3⟩:=h1;obtain⟨x,h4,h5⟩:=he.trod h3;refine⟨x,c,_,h4,?_,aN (by omega),h5⟩;rw[hc]at h2;exact H9 h2
   obtain⟨l,hl,hr⟩:=Cp len each;refine⟨l,⟨_,rfl,some a,len,cap,rfl,hl.symm,hlc,hcm,λi x hx=>?_⟩,?_⟩
   ·obtain⟨c,y,h1,h2,_⟩:=hr i x hx;exact⟨a,c,rfl,h1,h2⟩
   ·have:=Fx (H:=H) u (l:=l) (es:=elems) (by omega) (λi x y hx hy=>by
     obtain⟨c,y',_,_,h3,h4⟩:=hr i x hx
     rw[hy]at h3;injection h3 with h3;subst h3;exact h4)
    rw[u.sl];omega
 RG:=λh=>by obtain⟨a,n,c,rfl⟩:=okWide_slice ht h;rfl
def Kj(ub:(H:Type)->DataW H->Nat)(ua:(H:Type)->List (DataW H)->Nat)(P:Program)(off:Nat)(fs:List Field)(β:Type)[GT β](m:β->Nat):Prop:=
 ∀{H:Type}{enc:TypeId×Value->H}{w:World}{base:Nat}{spare:Nat->Bool}{held:Bool}{n:Nat}{cs:List Value}{ys:List (DataW H×List MemPlace)},
  (∀(i:Nat)(f:Field),fs[i]? =some f->DataW.trod enc P w base spare held n f.type ((cs.drop f.offset).take<|P.cellsOf f.type)=ys[i]?)->ys.length=fs.length->
  cs.length=off+GT.sz β->∃x:β,GT.ok (Hw w) (cs.drop off) x/\m x<=ua H (ys.map (·.1))
theorem vA{β:Type}[GT β][Bk β]{off:Nat}{f:Field}(u:UB ub ua)(h:mx ub P f.type β)(ho:f.offset=off)(hc:P.cellsOf f.type=GT.sz β:=by kernel_rfl):Kj ub ua P off [f] β bk:=by
 intro H enc w base spare held n cs ys hf hl hcs
 match ys,hl with
 | [y],_=>
  have h1:=hf 0 f rfl;rw[ho,hc,mF (by rw[l9];omega)]at h1;obtain⟨x,h2,h3⟩:=h.trod (d:=y) h1;exact⟨x,h2,by rw[fN,u.cons];omega⟩
theorem jB{α β:Type}[GT α][GT β][Bk α]{off off':Nat}{f:Field}{fs:List Field}{m:β->Nat}(u:UB ub ua)(h:mx ub P f.type α)(hr:Kj ub ua P off' fs β m)(ho:f.offset=off:=by exact rfl)(hc:P.cellsOf f.type=GT.sz α:=by kernel_rfl)(hoff:off'=off+GT.sz α:=by exact rfl):Kj ub ua P off (f::fs) (α×β) (λx=>bk x.1+m x.2):=by
 intro H enc w base spare held n cs ys hf hl hcs;have hsz:GT.sz (α×β)=GT.sz α+GT.sz β:=rfl
 match ys,hl with
 |y::ys,hl=>
  have h1:=hf 0 f rfl;rw[ho,hc]at h1;obtain⟨x,h2,h3⟩:=h.trod (d:=y) h1;obtain⟨x',h4,h5⟩:=hr (n:=n) (cs:=cs) (ys:=ys) (λi g hg=>hf (i+1) g hg) (by simpa using hl) (by omega);refine⟨(x,x'),⟨_,_,?_,h2,h4⟩,?_⟩
  ·rw[hoff,<-List.drop_drop,List.take_append_drop]
  ·rw[fN,u.cons];show bk x+m x'<=_;omega
theorem qL{γ β:Type}[GT β][Bk γ]{fs:Array Field}{m:β->Nat}(u:UB ub ua)(f:γ->β)(g:β->γ)(hfg:∀b,f (g b)=b)(ht:P.underlying T=some (.struct fs))(h:Kj ub ua P 0 fs.toList β m)(hm:∀b,bk (g b)<=m b+1)(hc:P.cellsOf T=GT.sz β:=by kernel_rfl): @mx ub P T γ (GT.via f) _:=
 @mx.mk ub P T γ (GT.via f) _
  (λ{H enc w base spare held fuel cs d}hd=>by
   obtain⟨xs,n,_,rfl,hl,hlen,hf⟩:=DataW.trod_struct ht hd;obtain⟨b,h1,h2⟩:=h (n:=n) (cs:=cs) (ys:=xs) (λi g hg=>hf i g (by rw[<-Array.getElem?_toList];exact hg)) (by rw[hlen];simp) (by omega);refine⟨g b,?_,?_⟩
   ·show GT.ok (Hw w) cs (f<|g b);rw[hfg];exact h1
   ·rw[u.ag];have:=hm b;omega)
  (λhv=>by
   obtain⟨cs,rfl,_⟩:=okWide_struct ht hv
   cases cs;rfl)
theorem mx.arg{H:Type}{enc:TypeId×Value->H}{w:World}{base:Nat}{spare:Nat->Bool}{held:Bool}{r:Reach}{b0:Nat}{v:Value}{d:DataW H}{ps:List MemPlace}{α:Type}[GT α][Bk α](o:mx ub P T α)
  (hv:Value.okWide P w r b0 T v) (hd:DataW.Trod enc P w base spare held T v d ps):∃x:α,zz (Hw w) v x/\bk x<=ub H d:=by
 obtain⟨fuel,hf⟩:=hd;obtain⟨x,h1,h2⟩:=o.trod hf;exact⟨x,⟨_,o.RG hv,h1⟩,h2⟩
theorem mx.Tf{H:Type}{enc:TypeId×Value->H}{w:World}{base:Nat}{spare:Nat->Bool}{held:Bool}{r:Reach}{b0:Nat}{v:Value}{d:DataW H}{ps:List MemPlace}{α:Type}[Sc α][Bk α](o:mx ub P T α)
  (hv:Value.okWide P w r b0 T v) (hd:DataW.Trod enc P w base spare held T v d ps):∃x:α,v=Sc.toV x/\bk x<=ub H d:=by
 obtain⟨x,h1,h2⟩:=o.arg hv hd;exact⟨x,FZ.1 h1,h2⟩
end
theorem Calls.fin{P:Program}{f:FuncId}{args:Array Value}{w:World}{R Q:Value->World->Prop}(h:Calls P f args w (fX R))(k:∀v w',R v w'->Q v w'):
  Calls P f args w (λe W'=>∃v,e = .returned v/\Q v W'):=Calls.mono h λ_ w'⟨v,e,hr⟩=>⟨v,e,k v w' hr⟩
def iG(W:World):HP:=⟨λM h=>hle (Hw W) M/\h=uh,λk⟨a,b⟩=>⟨KL a k,b⟩⟩
theorem Holds.begin(W:World):Holds W W [iG W]:=by
 refine⟨Hw W,λ_=>uh,⟨rfl,rfl,rfl,cJ _,λb o h=>h,λi Pr hq=>?_,λ_ _ _ _ h=>(by cases h),λ_ _ _ _ h=>(by cases h),λ_ _ _ _ _ _ _ h=>(by cases h)⟩⟩
 match i,hq with
 | 0,hq=>simp at hq;subst hq;exact⟨LD _,rfl⟩
theorem Holds.RH{α:Type}[GT α]{W:World}{V:List HP}{v:Value}{x:α}(h:Holds W W (V++[iG W]))(hv:Gk.zz (Hw W) v x):Holds W W (rd v x::(V++[iG W])):=
 h.EJ λM hs g=>by
  have h1:=(g.sat V.length (iG W) (by simp)).1;exact⟨hv.mono h1,rfl⟩
theorem Holds.kept{E W w:World}{V:List HP}(h:Holds E w (V++[iG W]))(he:E=W):Below W.heap.size W w:=by
 subst he;obtain⟨M,hs,g⟩:=h;have h1:=(g.sat V.length (iG E) (by simp)).1;have h2:∀k o,E.heap[k]? =some o->w.heap[k]? =some o:=λk o ho=>g.im k o<|h1 k o ho
 refine⟨g.os,g.tape,g.out,?_,λk hk=>?_⟩
 ·by_cases h0:E.heap.size=0
  ·omega
  ·have h3:=h2 (E.heap.size - 1) _<|jY (by omega)
   have:=(Array.getElem?_eq_some_iff.1 h3).1;omega
 ·rw[jY hk];exact h2 k _<|jY hk
section
variable {H:Type}{enc:TypeId×Value->H}{P:Program}
theorem K8{f:Func}{s:ChangeSpec}{apart fresh handsOn again:Bool}{W W':World}{args:Array Value}{v:Value}{ds gs:List (DataW H)}{before pa pv:List MemPlace}
  (hW:DataW.Whole enc P f.params.toList s.vars apart W args.toList ds gs before)
  (hres:∀(b:Nat)(sp:Nat->Bool)(hd:Bool),DataW.TrodAll enc P W' b sp hd f.resultTypes.toList (v.resultList f.resultTypes.size) (s.fn H<|ds++gs).results [])
  (hargs:∀sp:Nat->Bool,(∀p∈before,sp p.block=true)->DataW.TrodAll enc P W' 0 sp true f.params.toList args.toList (s.fn H<|ds++gs).args pa)
  (hvars:∀sp:Nat->Bool,(∀p∈before,sp p.block=true)->DataW.TrodVars enc P W' sp s.vars (s.fn H<|ds++gs).vars pv)
  (hps:before=pa++pv) (hb:Below W.heap.size W W')
  (hok:∀(j:Nat)(t:TypeId)(r:Value),f.resultTypes[j]? =some t->(v.resultList f.resultTypes.size)[j]? =some r->Value.okWide P W' .any 0 t r):
  s.post enc P f apart fresh handsOn again W args v W':=by
 have hlt:∀p∈before,p.block<W.heap.size:=λp hp=>hW.lt p hp;have hold:∀p∈before,(λb=>decide<|b<W.heap.size) p.block=true:=λp hp=>by simpa using hlt p hp
 refine⟨ds,gs,before,[],pa,pv,hW,hres _ _ _,hargs _ hold,hvars _ hold,World.keptBut_mono (λp hp=>⟨hp,?_⟩)<|hb.frame (· ∈before),λ_=>?_⟩
 ·rw[hps,dH]at hp;exact Or.inr hp
 ·obtain⟨_,_,_,_,_,hz,hn⟩:=hW;refine⟨hok,_,_,([]++pa)++pv,⟨[]++pa,pv,trodAll_append (hargs _<|λ_ _=>rfl)<|hres _ _ _,hvars _<|λ_ _=>rfl,rfl,?_,?_⟩,?_⟩
  ·intro b off hp;have hin:MemPlace.cell b off∈before:=by rw[hps];simpa using hp
   rw[hb.frozen<|hlt _ hin];exact hz b off hin
  ·intro ha;have:=hn ha;rw[hps]at this;simpa using this
  ·intro p hp _;rw[hps];simpa using hp
theorem zj{W W':World}(hl:laidOutB P=true)(hb:Below W.heap.size W W'){sp:Nat->Bool}:∀{ts:List TypeId}{vs:List Value}{ds:List (DataW H)}{ps:List MemPlace},
  (∀t∈ts,P.readableRec t=true/\t<P.types.size)->DataW.TrodAll enc P W 0 (λ_=>true) true ts vs ds ps->(∀p∈ps,p.block<W.heap.size)->(∀p∈ps,sp p.block=true)->DataW.TrodAll enc P W' 0 sp true ts vs ds ps
 | [],_,_,_,_,h,_,_=>by
  obtain⟨rfl,rfl,rfl⟩:=trodAll_nil h;rfl
 |t::ts,_,_,_,ht,h,hlt,hsp=>by
  obtain⟨v,vs,d,ds,p,q,rfl,rfl,rfl,h1,h2⟩:=trodAll_cons h;refine⟨p,q,?_,zj hl hb (λt h=>ht t (by simp[h])) h2 (λx hx=>hlt x (by simp[hx]))<|λx hx=>hsp x (by simp[hx]),rfl⟩;exact WideElems.Trod_stays hl (ht t (by simp)).1 (ht t (by simp)).2 h1 (λx hx=>hb.same<|hlt x (by simp[hx]))<|λx hx=>hsp x (by simp[hx])
end
end Go.Gk
namespace Go.Gk
open Go IntKind
instance:Bk aH:=⟨λx=>bk x.X0+bk x.Y0+bk x.X1+bk x.Y1+1,λ_=>by omega⟩
theorem NJ(x:aH):bk x=bk x.X0+bk x.Y0+bk x.X1+bk x.Y1+1:=rfl
instance:Bk dU:=⟨λx=>bk x.X+bk x.Y+1,λ_=>by omega⟩
theorem Mm(x:dU):bk x=bk x.X+bk x.Y+1:=rfl
instance:Bk bU:=⟨λx=>bk x.At+bk x.dV+bk x.cB+bk x.To+bk x.fD+1,λ_=>by omega⟩
theorem NK(x:bU):bk x=bk x.At+bk x.dV+bk x.cB+bk x.To+bk x.fD+1:=rfl
instance:Bk dE:=⟨λx=>bk x.Part+bk x.fz+bk x.cL+bk x.At+1,λ_=>by omega⟩
theorem Kk(x:dE):bk x=bk x.Part+bk x.fz+bk x.cL+bk x.At+1:=rfl
instance:Bk jO:=⟨λx=>bk x.aK+bk x.cU+bk x.aM+bk x.bV+1,λ_=>by omega⟩
theorem Mn(x:jO):bk x=bk x.aK+bk x.cU+bk x.aM+bk x.bV+1:=rfl
instance:Bk aA:=⟨λx=>bk x.Y0+bk x.Y1+bk x.Xs+1,λ_=>by omega⟩
instance:Bk fz:=⟨λx=>bk x.Part+bk x.fz+1,λ_=>by omega⟩
instance:Bk aD:=⟨λx=>bk x.cL+bk x.Set+bk x.dY+1,λ_=>by omega⟩
instance:Bk bW:=⟨λx=>bk x.fF+bk x.aM+bk x.fw+1,λ_=>by omega⟩
instance:Bk eC:=⟨λx=>bk x.bU+bk x.Number+1,λ_=>by omega⟩
instance:Bk bN:=⟨λx=>bk x.Open+bk x.eC+bk x.A+bk x.B+1,λ_=>by omega⟩
instance:Bk uP:=⟨λx=>bk x.A+bk x.B+bk x.iK+bk x.cB+bk x.To+1,λ_=>by omega⟩
instance:Bk aF:=⟨λx=>bk x.from_+bk x.to+1,λ_=>by omega⟩
instance:Bk aP:=⟨λx=>bk x.from_+bk x.to+bk x.jX+1,λ_=>by omega⟩
end Go.Gk
namespace Go.Gk
open Go IntKind Go.Sort
section
variable {α:Type}
theorem Cq{β:Type}(a:Array β){n:Nat}(h:a.size=n):a.extract 0 n=a:=by subst h;exact Array.extract_size
theorem PD{φ:α->α->Option Int}{l:List α}(cf:α->α->Int)(hφ:∀x∈l,∀y∈l,φ x y=some (cf x y))(h1:∀x∈l,¬cf x x<0)
  (h2:∀x∈l,∀y∈l,∀z∈l,cf x y<0->cf y z<0->cf x z<0) (h3:∀x∈l,∀y∈l,∀z∈l,¬cf x y<0->¬cf y z<0->¬cf x z<0):SWO (Nd<|HB φ l):=by
 have hm:∀i:Fin l.length,l[i]∈l:=λi=>cH i.isLt;have e:∀i j:Fin l.length,HB φ l i j=cf l[i] l[j]:=λi j=>by unfold HB;rw[hφ _ (hm i) _<|hm j];rfl
 refine⟨λx=>?_,λx y z=>?_,λx y z=>?_⟩
 ·simp only[Nd,e,decide_eq_false_iff_not];exact h1 _<|hm _
 ·simp only[Nd,e,decide_eq_true_iff];exact h2 _ (hm _) _ (hm _) _<|hm _
 ·simp only[Nd,e,decide_eq_false_iff_not];exact h3 _ (hm _) _ (hm _) _<|hm _
theorem DF{φ:α->α->Option Int}{l:List α}(cf:α->α->Int)(hφ:∀x∈l,∀y∈l,φ x y=some (cf x y))(h1:∀x∈l,¬cf x x<0)
  (h2:∀x∈l,∀y∈l,∀z∈l,cf x y<0->cf y z<0->cf x z<0) (h3:∀x∈l,∀y∈l,∀z∈l,¬cf x y<0->¬cf y z<0->¬cf x z<0) (hl:l.length<4611686018427387904):
  ∃m,Ap φ l=some m/\m.Perm l/\m.Pairwise (λx y=>¬cf y x<0):=by
 have hO:=PD cf hφ h1 h2 h3;have hm:∀i:Fin l.length,l[i]∈l:=λi=>cH i.isLt;have hc:(∀i j:Fin l.length,∃c,φ l[i] l[j]=some c):=λi j=>⟨_,hφ _ (hm i) _<|hm j⟩;refine⟨J9 φ l,by unfold Ap;rw[aG ⟨⟨hc,hO⟩,hl⟩],?_⟩;unfold J9
 by_cases hn:0<l.length
 ·rw[dif_pos hn]
  letI inh:Inhabited (Fin l.length):=⟨⟨0,hn⟩⟩
  have hds:(Array.ofFn λi:Fin l.length=>i).size=l.length:=by simp
  obtain⟨hp,hs⟩:=pdq_sorts (Nd<|HB φ l) hO (Array.ofFn λi:Fin l.length=>i) 0 l.length (Lib.bitLen l.length) true true (cS _) (by rw[hds];exact cJ _)<|Or.inl rfl
  show(List.map (λi=>l[i]) (pdq (Nd<|HB φ l) (Array.ofFn λi:Fin l.length=>i) 0 l.length (Lib.bitLen l.length) true true).toList).Perm l/\_;generalize pdq (Nd<|HB φ l) (Array.ofFn λi:Fin l.length=>i) 0 l.length (Lib.bitLen l.length) true true=d' at hp hs;obtain⟨hz,_,hpm⟩:=hp;have hz':d'.size=l.length:=hz.trans hds;rw[Cq d' hz',Cq _ hds]at hpm;have hof:(Array.ofFn λi:Fin l.length=>i).toList.map (λi=>l[i])=l:=by
   rw[Array.toList_ofFn,List.map_ofFn];exact List.ofFn_getElem
  refine⟨(hpm.map<|λi=>l[i]).trans<|List.Perm.of_eq hof,?_⟩;rw[List.pairwise_map,nz];intro i j hi hj hij;rw[Array.length_toList]at hi hj;have:=hs i j (cS _) hij (by rw[<-hz'];exact hj);rw[getElem!_pos d' i hi,getElem!_pos d' j hj]at this;have hij2:=hφ _ (hm<|d'[j]) _<|hm<|d'[i]
  have hij3:HB φ l d'[j] d'[i]=cf l[d'[j]] l[d'[i]]:=by unfold HB;rw[hij2];rfl
  unfold Nd at this;rw[decide_eq_false_iff_not,hij3]at this;exact this
 ·rw[dif_neg hn];have:l= []:=List.length_eq_zero_iff.1 (by omega);subst this;exact⟨List.Perm.refl _,kg⟩
theorem Fz{φ:α->α->Option Int}{x:α}(h:φ x x=some 0):Ap φ [x]=some [x]:=by
 obtain⟨m,h1,h2,_⟩:=DF (φ:=φ) (l:=[x]) (λ_ _=>0) (λa ha b hb=>by simp at ha hb;rw[ha,hb];exact h) (λ_ _=>by decide) (λ_ _ _ _ _ _ h=>by simp at h) (λ_ _ _ _ _ _ _ _=>by decide) (by simp);rw[h1,List.perm_singleton.1 h2]
theorem EW{l:List Int}(h:l.Pairwise (λx y=>x<=y))(hl:l.length<4611686018427387904):xL l=some l:=by
 unfold xL;rw[aG hl,List.mergeSort_of_pairwise (by simpa using h)]
end
end Go.Gk
namespace Go.Gk
open Go IntKind
def nO(l:List Int)(x:Int):Nat:=l.countP<|λa=>decide<|a<=x
def qU(l:List Int)(x:Int):Bool:=nO l x % 2==1
def j5(l:List Int):Prop:=l.Pairwise (· < ·)
theorem Gv(x:Int):nO [] x=0:=rfl
theorem pD(a:Int)(l:List Int)(x:Int):nO (a::l) x=(if a<=x then 1 else 0)+nO l x:=by
 grind [nO]
theorem DG(l m:List Int)(x:Int):nO (l++m) x=nO l x+nO m x:=List.countP_append
theorem Km{l:List Int}{x:Int}(h:∀a∈l,a<=x):nO l x=l.length:=by
 grind [nO,List.countP_eq_length]
theorem DH{l:List Int}{x:Int}(h:∀a∈l,x<a):nO l x=0:=by
 grind [nO,List.countP_eq_zero]
theorem A0{l:List Int}{x:Int}:qU l x=true↔nO l x % 2=1:=by simp[qU]
theorem A1{l:List Int}{x:Int}(h:∀a∈l,x<a):qU l x=false:=by grind [qU,DH]
theorem j5.head{a:Int}{l:List Int}(h:j5 (a::l)):∀b∈l,a<b:=(pI.1 h).1
theorem j5.tail{a:Int}{l:List Int}(h:j5 (a::l)):j5 l:=(pI.1 h).2
theorem A2{a:Int}{l:List Int}(h:j5 (a::l)):qU (a::l) a=true:=by
 rw[A0,pD,aG<|Int.le_refl _,DH h.head]
theorem DI:∀{l m:List Int},j5 l->j5 m->(∀x,qU l x=qU m x)->l=m
 | [],[],_,_,_=>rfl
 | [],b::m,_,hm,h=>by have:=h b;rw[A2 hm]at this;cases this
 |a::l,[],hl,_,h=>by have:=h a;rw[A2 hl]at this;cases this
 |a::l,b::m,hl,hm,h=>by
  have hab:a=b:=by
   rcases Int.lt_trichotomy a b with h1|h1|h1
   ·have h2:=h a
    rw[A2 hl,A1 (l:=b::m) (λc hc=>by
     rcases eH.1 hc with rfl|hc
     ·exact h1
     ·have:=hm.head c hc;omega)]at h2
    cases h2
   ·exact h1
   ·have h2:=h b
    rw[A2 hm,A1 (l:=a::l) (λc hc=>by
     rcases eH.1 hc with rfl|hc
     ·exact h1
     ·have:=hl.head c hc;omega)]at h2
    cases h2
  subst hab;rw[DI hl.tail hm.tail<|λx=>?_]
  by_cases hx:a<=x
  ·have h2:=h x;unfold qU at h2 ⊢;rw[pD,pD,aG hx]at h2;rw[jq]at h2 ⊢;simp only[beq_iff_eq]at h2 ⊢;omega
  ·rw[A1 (λc hc=>by have:=hl.head c hc;omega),A1 (λc hc=>by have:=hm.head c hc;omega)]
theorem DJ{l:List Int}{a b:Int}(hl:∀c∈l,c<a)(he:l.length % 2=0)(hab:a<b)(x:Int):qU (l++[a,b]) x=(qU l x||(decide (a<=x)&&decide (x<b))):=by
 rw[jq,iB,cQ,cY,cY,A0,A0,DG,pD,pD,Gv]
 grind [nO,Km]
theorem Mr{l:List Int}{s e a b:Int}(hl:∀c∈l,c<s)(he:l.length % 2=0)(hs:s<e)(h1:s<=a)(h2:a<=e)(hab:a<b)(x:Int):qU (l++[s,max e b]) x=(qU (l++[s,e]) x||(decide (a<=x)&&decide (x<b))):=by
 grind [DJ]
theorem j5.snoc{l:List Int}{a b:Int}(h:j5 l)(hl:∀c∈l,c<a)(hab:a<b):j5 (l++[a,b]):=by
 grind [j5]
structure Bd where
 y0:Int
 y1:Int
 xs:List Int
def rowAt:List Bd->Int->List Int
 | [],_=>[]
 |b::s,y=>if b.y0<=y/\y<b.y1 then b.xs else rowAt s y
theorem oe(b:Bd)(s:List Bd)(y:Int):rowAt (b::s) y=if b.y0<=y/\y<b.y1 then b.xs else rowAt s y:=rfl
structure fM (s:List Bd):Prop where
 each:∀b∈s,b.y0<b.y1/\b.xs≠[]/\j5 b.xs/\b.xs.length % 2=0
 ord:s.Pairwise (λb c=>b.y1<=c.y0/\(b.y1=c.y0->b.xs≠c.xs))
theorem fM.nil:fM []:=⟨λb h=>by simp at h,kg⟩
theorem fM.tail{b:Bd}{s:List Bd}(h:fM (b::s)):fM s:=⟨λc hc=>h.each c<|jo _ hc,(pI.1 h.ord).2⟩
theorem mM{s:List Bd}{y:Int}(h:∀b∈s,y<b.y0\/b.y1<=y):rowAt s y= []:=by
 induction s with
 |nil=>rfl
 |cons b s ih=>
  grind [rowAt,jo]
theorem tf(s t:List Bd)(y:Int):rowAt (s++t) y=if(∃b∈s,b.y0<=y/\y<b.y1)then rowAt s y else rowAt t y:=by
 induction s with
 |nil=>simp
 |cons b s ih=>
  rw[List.cons_append,oe,oe]
  by_cases h:b.y0<=y/\y<b.y1
  ·simp_all
  ·rw[aI h,ih]
   by_cases h2:∃c∈s,c.y0<=y/\y<c.y1
   ·simp_all[aG,jo,aI]
   grind
theorem fM.og{b:Bd}{s:List Bd}{y:Int}(h0:b.y0<=y)(h1:y<b.y1):rowAt (b::s) y=b.xs:=by grind [rowAt]
theorem fM.DK{b:Bd}{s:List Bd}(h:fM (b::s)):∀c∈s,b.y1<=c.y0:=λc hc=>((pI.1 h.ord).1 c hc).1
theorem fM.yD{b:Bd}{s:List Bd}(h:fM (b::s)){y:Int}(hy:y<b.y0):rowAt (b::s) y= []:=mM λc hc=>by
 rcases eH.1 hc with rfl|hc
 ·exact .inl hy
 ·have:=h.DK c hc;have:=(h.each b (by simp)).1;exact .inl (by omega)
theorem fM.Kn{b:Bd}{s:List Bd}(h:fM (b::s)):rowAt (b::s) b.y1≠b.xs:=by
 rw[oe,aI (by omega)]
 cases s with
 |nil=>exact λe=>(h.each b (by simp)).2.1 e.symm
 |cons c s=>
  have h1:=(pI.1 h.ord).1 c (by simp)
  by_cases e:b.y1=c.y0
  ·rw[fM.og (by omega) (by have:=(h.tail.each c (by simp)).1;omega)]
   grind
  ·rw[h.tail.yD (by omega)];exact λe=>(h.each b (by simp)).2.1 e.symm
theorem DL:∀{s t:List Bd},fM s->fM t->(∀y,rowAt s y=rowAt t y)->s=t
 | [],[],_,_,_=>rfl
 | [],c::t,_,ht,h=>by
  have hc:=ht.each c (by simp);have:=h c.y0;rw[fM.og (Int.le_refl _) hc.1]at this;exact absurd this.symm hc.2.1
 |b::s,[],hs,_,h=>by
  have hb:=hs.each b (by simp);have:=h b.y0;rw[fM.og (Int.le_refl _) hb.1]at this;exact absurd this hb.2.1
 |b::s,c::t,hs,ht,h=>by
  have hb:=hs.each b (by simp);have hc:=ht.each c (by simp);have e0:b.y0=c.y0:=by
   rcases Int.lt_trichotomy b.y0 c.y0 with h1|h1|h1
   ·have h2:=h b.y0;rw[fM.og (Int.le_refl _) hb.1,ht.yD h1]at h2;exact absurd h2 hb.2.1
   ·exact h1
   ·have h2:=h c.y0;rw[fM.og (Int.le_refl _) hc.1,hs.yD h1]at h2;exact absurd h2.symm hc.2.1
  have ex:b.xs=c.xs:=by
   have h2:=h b.y0;rw[fM.og (Int.le_refl _) hb.1,fM.og (by omega) (by omega)]at h2;exact h2
  have e1:b.y1=c.y1:=by
   rcases Int.lt_trichotomy b.y1 c.y1 with h1|h1|h1
   ·have h2:=h b.y1;rw[fM.og (b:=c) (by omega) h1]at h2;exact absurd (h2.trans ex.symm) hs.Kn
   ·exact h1
   ·have h2:=h c.y1;rw[fM.og (b:=b) (by omega) h1]at h2;exact absurd (h2.symm.trans ex) ht.Kn
  have ebc:b=c:=by cases b;cases c;simp_all
  subst ebc;rw[DL hs.tail ht.tail<|λy=>?_]
  by_cases hy:b.y1<=y
  ·have h2:=h y;unfold rowAt at h2;rw[aI (by omega),aI (by omega)]at h2;exact h2
  ·rw[mM (λd hd=>by have:=hs.DK d hd;omega),mM (λd hd=>by have:=ht.DK d hd;omega)]
def xF(s:List Bd)(x y:Int):Bool:=qU (rowAt s y) x
theorem FA{s:List Bd}(h:∀b∈s,j5 b.xs)(y:Int):j5 (rowAt s y):=by
 induction s with
 |nil=>exact kg
 |cons b s ih=>
  grind [rowAt,jo]
theorem wM{s t:List Bd}(hs:fM s)(ht:fM t)(h:∀x y,xF s x y=xF t x y):s=t:=
 DL hs ht λy=>DI (FA (λb hb=>(hs.each b hb).2.2.1) y) (FA (λb hb=>(ht.each b hb).2.2.1) y) λx=>h x y
def kp(s:List Bd)(b:Bd):List Bd:=
 if b.xs= []\/b.y1<=b.y0 then s else
  match s.getLast? with
  |some c=>if c.y1=b.y0/\c.xs=b.xs then s.dropLast++[⟨c.y0,b.y1,c.xs⟩]else s++[b]
  |none=>[b]
theorem tX{α:Type}{s:List α}{c:α}(h:s.getLast? =some c):s=s.dropLast++[c]:=by
 have hne:s≠[]:=λe=>by grind
 grind [List.getLast?_eq_some_getLast,List.dropLast_concat_getLast]
theorem yE{s:List Bd}{b:Bd}(hs:∀c∈s,c.y1<=b.y0)(hg:∀c∈s,c.y0<c.y1)(hb:b.y1<=b.y0->b.y1=b.y0)(y:Int):rowAt (kp s b) y=if b.y0<=y/\y<b.y1 then b.xs else rowAt s y:=by
 have key:∀(s:List Bd)(c:Bd),(∀d∈s,d.y1<=c.y0)->rowAt (s++[c]) y=if c.y0<=y/\y<c.y1 then c.xs else rowAt s y:=by
  intro s c h;rw[tf]
  by_cases h1:c.y0<=y/\y<c.y1
  ·grind [fM.og]
  ·rw[aI h1]
   by_cases h2:∃d∈s,d.y0<=y/\y<d.y1
   all_goals grind [oe,rowAt,mM]
 unfold kp
 by_cases h0:b.xs= []\/b.y1<=b.y0
 ·grind [mM]
 ·rw[aI h0]
  cases hl:s.getLast? with
  |none=>
   have:s= []:=by simp_all
   subst this;rfl
  |some c=>
   dsimp only;have hsp:=tX hl;have hcm:c∈s:=by rw[hsp];simp
   by_cases h1:c.y1=b.y0/\c.xs=b.xs
   ·rw[aG h1];have hd:∀d∈s.dropLast,d.y1<=c.y0\/True:=λ_ _=> .inr trivial;rw[tf];have hrow:rowAt s y=if(∃d∈s.dropLast,d.y0<=y/\y<d.y1)then rowAt s.dropLast y else(if c.y0<=y/\y<c.y1 then c.xs else []):=by
     conv=>lhs;rw[hsp]
     rw[tf];rfl
    rw[hrow];have hcg:=hg c hcm
    by_cases h2:∃d∈s.dropLast,d.y0<=y/\y<d.y1
    ·obtain⟨d,hd,hd2⟩:=h2;have:=hs d<|List.dropLast_subset _ hd
     have he:∃d∈s.dropLast,d.y0<=y/\y<d.y1:=⟨d,hd,hd2⟩;rw[aG he,aG he,aI (by omega)]
    ·rw[aI h2,aI h2];show(if c.y0<=y/\y<b.y1 then c.xs else [])=_
     by_cases h3:b.y0<=y/\y<b.y1
     ·rw[aG h3,aG ⟨by omega,h3.2⟩,h1.2]
     ·rw[aI h3]
      by_cases h4:c.y0<=y/\y<c.y1
      ·rw[aG h4,aG ⟨h4.1,by omega⟩]
      ·rw[aI h4,aI (by omega)]
   ·rw[aI h1];exact key s b hs
theorem yF{s:List Bd}{b:Bd}(h:fM s)(hs:∀c∈s,c.y1<=b.y0)(hb:j5 b.xs)(he:b.xs.length % 2=0):fM (kp s b):=by
 unfold kp
 by_cases h0:b.xs= []\/b.y1<=b.y0
 ·grind
 ·rw[aI h0];have hbg:b.y0<b.y1/\b.xs≠[]/\j5 b.xs/\b.xs.length % 2=0:=⟨by omega,λe=>h0<|.inl e,hb,he⟩
  cases hl:s.getLast? with
  |none=>exact⟨λc hc=>by grind,List.pairwise_singleton _ _⟩
  |some c=>
   dsimp only;have hsp:=tX hl;have hcm:c∈s:=by rw[hsp];simp
   have hc:=h.each c hcm;have hord:=h.ord;rw[hsp,List.pairwise_append]at hord
   by_cases h1:c.y1=b.y0/\c.xs=b.xs
   ·rw[aG h1];refine⟨λd hd=>?_,?_⟩
    ·rcases dH.1 hd with hd|hd
     ·exact h.each d<|List.dropLast_subset _ hd
     grind
    grind
   ·rw[aI h1];refine⟨λd hd=>?_,?_⟩
    ·rcases dH.1 hd with hd|hd
     ·exact h.each d hd
     ·simp at hd;subst hd;exact hbg
    ·rw[List.pairwise_append];refine⟨h.ord,List.pairwise_singleton _ _,λd hd e he=>?_⟩;simp at he;subst he;refine⟨hs d hd,λe1 e2=>?_⟩;rw[hsp]at hd
     rcases dH.1 hd with hd|hd
     ·have h2:=(hord.2.2 d hd c (by simp)).1;have:=hs c hcm;omega
     ·simp at hd;subst hd;exact h1 ⟨e1,e2⟩
theorem yG{s:List Bd}{b:Bd}(hs:∀c∈s,c.y1<=b.y0)(hb:b.y0<=b.y1):∀c∈kp s b,c.y1<=b.y1:=by
 grind [kp,List.dropLast_subset]
section
variable {N:Nat}
def cK(b:aA):Bd:=⟨b.Y0,b.Y1,b.Xs⟩
def small(a:Int):Prop:= -1099511627776<=a/\a<=1099511627776
structure EH (r:aH):Prop where
 x:r.X0<r.X1
 y:r.Y0<r.Y1
 s1:small r.X0
 s2:small r.X1
 s3:small r.Y0
 s4:small r.Y1
def Jz(l:List aH)(x:Int):Bool:=l.any<|λr=>decide (r.X0<=x)&&decide (x<r.X1)
def uH(l:List aH)(x y:Int):Bool:=l.any<|λr=>(decide (r.X0<=x)&&decide (x<r.X1))&&(decide (r.Y0<=y)&&decide (y<r.Y1))
theorem DM{l:List aH}{x:Int}:Jz l x=true↔∃r∈l,r.X0<=x/\x<r.X1:=by unfold Jz;simp[kJ]
theorem kq{l:List aH}{x y:Int}:uH l x y=true↔∃r∈l,(r.X0<=x/\x<r.X1)/\r.Y0<=y/\y<r.Y1:=by unfold uH;simp[kJ]
theorem wrap_small{a b:Int}(ha:small a)(hb:small b):wrap .i64 (a - b)=a - b:=by unfold small at *;exact gq (by omega) (by omega)
theorem DN{n:Nat}(h:0<n)(hn:n<=4611686018427387904):wrap .i64 (((n:Nat):Int) - 1)=((n - 1:Nat):Int):=jU h hn
structure Tn (out:List Int) (m:List aH) (k:Nat):Prop where
 row:(k=0/\out= [])\/∃A s e,out=A++[s,e]/\j5 A/\(∀c∈A,c<s)/\A.length % 2=0/\s<e/\∃j r,j<k/\m[j]? =some r/\s=r.X0
 qU:∀x,qU out x=Jz (m.take k) x
 len:out.length<=2*k
 mem:∀c∈out,∃r∈m,c=r.X0\/c=r.X1
theorem BU(l:List aH)(r:aH)(x:Int):Jz (l++[r]) x=(Jz l x||(decide (r.X0<=x)&&decide (x<r.X1))):=by unfold Jz;rw[List.any_append];simp
theorem Gw{l:List aH}(hl:l.length<=268435456)(hok:∀r∈l,EH r):∃row l',ky N l=some (row,l')/\l'.Perm l/\j5 row/\row.length % 2=0/\(∀x,qU row x=Jz l x)/\row.length<=2*l.length/\∀c∈row,∃r∈l,c=r.X0\/c=r.X1:=by
 unfold ky
 obtain⟨m,h1,h2,h3⟩:=DF (φ:=iT N) (l:=l) (λa b=>a.X0 - b.X0) (λa ha b hb=>by
  unfold iT;rw[wrap_small (hok a ha).s1 (hok b hb).s1]) (λa _=>by omega) (λa _ b _ c _ h1 h2=>by omega) (λa _ b _ c _ h1 h2=>by omega) (by omega)
 have hml:m.length=l.length:=h2.length_eq;have hmok:∀r∈m,EH r:=λr hr=>hok r<|h2.subset hr
 rw[h1,aB];obtain⟨out,a1,a2⟩:=C2 (m:=m.length) (s:=([]:List Int)) (body:=λ(k32:Nat)(s33:List Int)=>((idx m (k32:Int)).bind λx79=>(bif decide (wrap .i64 ((s33.length:Int) - 1)>=0)then((idx s33<|wrap .i64<|(s33.length:Int) - 1).bind λx86=>some<|decide<|x79.X0<=x86)else some false).bind λs84=>(bif s84 then((idx s33<|wrap .i64<|(s33.length:Int) - 1).bind λx94=>(idx s33<|wrap .i64<|(s33.length:Int) - 1).bind λx95=>some<|s33.set (Int.toNat<|wrap .i64<|(s33.length:Int) - 1) (if x94<x79.X1 then x79.X1 else x94))else((app 8 s33 ([x79.X0,x79.X1]:List Int)).bind λx97=>some x97)).bind λs92=>some s92:Option (List Int)))
  (λk out=>Tn out m k) (by omega) ⟨.inl ⟨rfl,rfl⟩,λx=>rfl,by simp,λc hc=>by cases hc⟩ (λk out hk⟨i1,i2,i3,i4⟩=>by
   have hx:m[k]? =some m[k]:=aN hk;have hr:=hmok _<|cH hk
   rw[cG hx,aB];have hts:m.take (k+1)=m.take k++[m[k]]:=dQ hk
   rcases i1 with⟨rfl,rfl⟩|⟨A,s,e,rfl,hA,hAs,hAe,hse,j,r,hj,hjr,hsr⟩
   ·rw[show decide (wrap .i64 (((([]:List Int).length:Nat):Int) - 1)>=0)=false by decide,aR,aB,aR,kE (by simp),aB,aB];refine⟨_,rfl, .inr ⟨[],_,_,rfl,kg,λc hc=>by simp at hc,rfl,hr.x,0,m[0],by omega,hx,rfl⟩,λx=>?_,by simp,λc hc=>⟨m[0],cH hk,by simpa using hc⟩⟩;rw[hts,BU,<-i2 x];exact DJ (l:=[]) (λc hc=>by simp at hc) rfl hr.x x
   ·have hlen:(A++[s,e]).length=A.length+2:=by simp
    have hwp:wrap .i64 ((((A++[s,e]).length:Nat):Int) - 1)=((A.length+1:Nat):Int):=by rw[DN (by omega) (by omega),hlen];rfl
    have hlast:(A++[s,e])[A.length+1]? =some e:=by rw[jJ (by omega)];simp
    have hs:s<=m[k].X0:=by
     have:=nz.1 h3 j k (by have:=(bQ.1 hjr).1;omega) hk hj;rw[hsr,<-(bQ.1 hjr).2];omega
    rw[hwp,bY (by omega),aO,cG hlast,aB,aB]
    by_cases hc:m[k].X0<=e
    ·rw[bY hc,aO,aB,aB,aB,cO];have oy:(A++[s,e]).set (A.length+1) (if e<m[k].X1 then m[k].X1 else e)=A++[s,max e m[k].X1]:=by
      rw[List.set_append_right _ _ (by omega)];have:A.length+1 - A.length=1:=by omega
      rw[this,Int.max_def];simp only[List.set_cons_succ,List.set_cons_zero];congr 2;split <;> split <;> simp <;> omega
     rw[oy]
     refine⟨_,rfl, .inr ⟨A,s,_,rfl,hA,hAs,hAe,by omega,j,r,by omega,hjr,hsr⟩,λx=>?_,by simp at i3 ⊢;omega,λc hc=>by
      rcases dH.1 hc with h|h
      ·exact i4 c<|List.mem_append_left _ h
      ·simp at h
       rcases h with h|h
       ·exact i4 c (by simp[h])
       ·rw[Int.max_def]at h;split at h
        ·exact⟨_,cH hk, .inr h⟩
        ·exact i4 c (by simp[h])⟩
     rw[hts,BU,<-i2 x];exact Mr hAs hAe hse hs hc hr.x x
    ·rw[cD hc,aR,kE (by rw[hlen];simp;omega),aB,aB];have hall:∀c∈A++[s,e],c<m[k].X0:=λc hc'=>by
      rcases dH.1 hc' with h|h
      ·have:=hAs c h;omega
      ·simp at h;omega
     refine⟨_,rfl, .inr ⟨A++[s,e],_,_,rfl,hA.snoc hAs hse,hall,by rw[hlen];omega,hr.x,k,m[k],by omega,hx,rfl⟩,λx=>?_,by simp at i3 ⊢;omega,λc hc=>by
      rcases dH.1 hc with h|h
      ·exact i4 c h
      ·exact⟨m[k],cH hk,by simpa using h⟩⟩
     rw[hts,BU,<-i2 x]
     exact DJ hall (by rw[hlen];omega) hr.x x)
 rw[a1,aB];refine⟨out,m,rfl,h2,?_,?_,λx=>?_,by rw[<-hml];exact a2.len,λc hc=>by obtain⟨r,hr,h⟩:=a2.mem c hc;exact⟨r,h2.subset hr,h⟩⟩
 ·rcases a2.row with⟨_,h⟩|⟨A,s,e,rfl,hA,hAs,hAe,hse,_⟩
  ·rw[h];exact kg
  ·exact hA.snoc hAs hse
 ·rcases a2.row with⟨_,h⟩|⟨A,s,e,rfl,hA,hAs,hAe,hse,_⟩
  ·rw[h];rfl
  ·simp;omega
 ·rw[a2.qU x,eM,jq,DM,DM];constructor
  ·rintro⟨r,hr,h⟩;exact⟨r,h2.subset hr,h⟩
  ·rintro⟨r,hr,h⟩;exact⟨r,h2.symm.subset hr,h⟩
theorem K9{l m:List Int}(hl:l.length<=4611686018427387904):oC N l m=some (decide<|l=m):=BP hl
theorem Ko{s:List aA}{b:aA}(hs:s.length<=1048576000)(hx:∀c∈s,c.Xs.length<=1048576000):∃s',j6 N s b=some s'/\s'.map cK=kp (s.map cK) (cK b):=by
 unfold j6 kp
 by_cases h0:b.Xs= []\/b.Y1<=b.Y0
 ·have e:((((b.Xs.length:Nat):Int)==0)||decide (b.Y1<=b.Y0))=true:=by
   rw[iB]
   rcases h0 with h|h
   ·left;rw[h];rfl
   ·right;exact bY h
  rw[e,aO,aG (show(cK b).xs= []\/(cK b).y1<=(cK b).y0 from h0)];exact⟨s,rfl,rfl⟩
 ·have e:((((b.Xs.length:Nat):Int)==0)||decide (b.Y1<=b.Y0))=false:=by
   rw[Bool.or_eq_false_iff];constructor
   ·rw[beq_eq_false_iff_ne];intro h;exact h0<|.inl<|List.eq_nil_of_length_eq_zero (by omega)
   ·exact cD λh=>h0<|.inr h
  rw[e,aR,aI (show ¬((cK b).xs= []\/(cK b).y1<=(cK b).y0)from h0)]
  rcases List.eq_nil_or_concat s with rfl|⟨A,c,hA⟩
  ·rw[show decide (wrap .i64 (((([]:List aA).length:Nat):Int) - 1)>=0)=false by decide,aR,aB,aR,kE (by simp),aB];exact⟨_,rfl,rfl⟩
  ·rw[List.concat_eq_append]at hA;subst hA;have hlen:(A++[c]).length=A.length+1:=by simp
   have hwp:wrap .i64 ((((A++[c]).length:Nat):Int) - 1)=((A.length:Nat):Int):=by rw[DN (by omega) (by omega),hlen];rfl
   have hlast:(A++[c])[A.length]? =some c:=by simp
   rw[hwp,bY (by omega),aO,cG hlast,aB,aB,K9 (by have:=hx c (by simp);omega),aB,aB,cO,kE (by rw[hlen];simp;omega),aB];have hl2:((A++[c]).map cK).getLast? =some (cK c):=by simp
   have hd2:((A++[c]).map cK).dropLast=A.map cK:=by simp
   rw[hl2,hd2];dsimp only
   by_cases h1:c.Y1=b.Y0/\c.Xs=b.Xs
   ·rw[aG (show(cK c).y1=(cK b).y0/\(cK c).xs=(cK b).xs from h1),show(c.Y1==b.Y0)=true by rw[h1.1];simp,aO,bY h1.2,aB,aO];refine⟨_,rfl,?_⟩;rw[List.set_append_right _ _<|cJ _,Nat.sub_self];simp[cK]
   ·rw[aI (show ¬((cK c).y1=(cK b).y0/\(cK c).xs=(cK b).xs)from h1)];have e2:(bif c.Y1==b.Y0 then some (decide<|c.Xs=b.Xs)else some false)=some false:=by
     by_cases h2:c.Y1=b.Y0
     ·rw[show(c.Y1==b.Y0)=true by rw[h2];simp,aO,cD<|λh=>h1 ⟨h2,h⟩]
     ·rw[show(c.Y1==b.Y0)=false by simpa using h2,aR]
    rw[e2,aB,aR];exact⟨_,rfl,by simp⟩
end
def dT(l:List (Int×Int)):List Int:=l.flatMap λs=>[s.1,s.2]
def j3(l:List (Int×Int))(x:Int):Bool:=l.any λs=>decide (s.1<=x)&&decide (x<s.2)
theorem kB(s:Int×Int)(l:List (Int×Int)):dT (s::l)=s.1::s.2::dT l:=rfl
theorem wN(l m:List (Int×Int)):dT (l++m)=dT l++dT m:=List.flatMap_append
theorem kP(l:List (Int×Int)):(dT l).length=2*l.length:=by
 induction l with
 |nil=>rfl
 |cons s l ih=>rw[kB,eI,eI,eI,ih];omega
theorem FB(s:Int×Int)(l:List (Int×Int))(x:Int):j3 (s::l) x=((decide (s.1<=x)&&decide (x<s.2))||j3 l x):=rfl
theorem Cr(l m:List (Int×Int))(x:Int):j3 (l++m) x=(j3 l x||j3 m x):=List.any_append
theorem vR{l:List (Int×Int)}{x:Int}:j3 l x=true↔∃s∈l,s.1<=x/\x<s.2:=by
 unfold j3;simp
theorem Lb{a b:Int}{m:List Int}(h:j5 (a::b::m))(x:Int):qU (a::b::m) x=((decide (a<=x)&&decide (x<b))||qU m x):=by
 have hab:a<b:=h.head b (by simp);have hm:=h.tail.head;rw[jq,iB,cQ,cY,cY,A0,A0,pD,pD]
 by_cases h1:a<=x
 ·rw[aG h1]
  by_cases h2:b<=x
  ·rw[aG h2];omega
  ·rw[aI h2,DH (λc hc=>by have:=hm c hc;omega)];omega
 ·rw[aI h1,aI (by omega)];omega
theorem vS:∀{l:List (Int×Int)},j5 (dT l)->∀x,qU (dT l) x=j3 l x
 | [],_,x=>rfl
 |s::l,h,x=>by
  rw[kB]at h ⊢;rw[Lb h,FB,vS h.tail.tail]
theorem FC:∀{l m:List (Int×Int)},dT l=dT m->l=m
 | [],[],_=>rfl
 | [],s::m,h=>by cases h
 |s::l,[],h=>by cases h
 |(a,b)::l,(c,d)::m,h=>by
  rw[kB,kB]at h;injection h with h1 h2
  injection h2 with h2 h3
  simp only at h1 h2;rw[h1,h2,FC h3]
theorem BV{l:List (Int×Int)}{c:Int}(h:c∈dT l):∃s∈l,c=s.1\/c=s.2:=by
 obtain⟨s,hs,hc⟩:=List.mem_flatMap.1 h;exact⟨s,hs,by simpa using hc⟩
theorem ye{l:List (Int×Int)}(h:j5 (dT l)):∀s∈l,s.1<s.2:=by
 induction l with
 |nil=>intro s hs;cases hs
 |cons a l ih=>
  rw[kB]at h;intro s hs
  rcases eH.1 hs with rfl|hs
  ·exact h.head _ (by simp)
  ·exact ih h.tail.tail s hs
theorem vT{l m:List (Int×Int)}:j5 (dT<|l++m)↔j5 (dT l)/\j5 (dT m)/\∀s∈l,∀t∈m,s.2<t.1:=by
 rw[wN];unfold j5;rw[List.pairwise_append];constructor
 ·rintro⟨h1,h2,h3⟩;exact⟨h1,h2,λs hs t ht=>h3 s.2 (List.mem_flatMap.2 ⟨s,hs,by simp⟩) t.1<|List.mem_flatMap.2 ⟨t,ht,by simp⟩⟩
 ·rintro⟨h1,h2,h3⟩;refine⟨h1,h2,λa ha b hb=>?_⟩;obtain⟨s,hs,ha⟩:=BV ha;obtain⟨t,ht,hb⟩:=BV hb;have h4:=h3 s hs t ht;have h5:=ye (l:=l) h1 s hs;have h6:=ye (l:=m) h2 t ht
  rcases ha with rfl|rfl <;> rcases hb with rfl|rfl <;> omega
def lB(s:Int×Int):List (Int×Int)->(Int×Int)×List (Int×Int)
 | []=>(s,[])
 |a::l=>if a.1<=s.2 then lB (min s.1 a.1,max s.2 a.2) l else(s,a::l)
def mN(l:List (Int×Int))(s:Int×Int):List (Int×Int):=
 l.takeWhile (λa=>decide<|a.2<s.1)++(lB s<|l.dropWhile λa=>decide<|a.2<s.1).1::(lB s<|l.dropWhile λa=>decide<|a.2<s.1).2
theorem Cs:∀(l:List (Int×Int))(s:Int×Int),s.1<s.2->j5 (dT l)->(∀a∈l,s.1<=a.2)->
  (lB s l).1.1<(lB s l).1.2/\((lB s l).1.1=s.1\/∃a∈l,(lB s l).1.1=a.1)/\j5 (dT (lB s l).2)/\(∀t∈(lB s l).2,(lB s l).1.2<t.1)/\
  ∀x,j3 ((lB s l).1::(lB s l).2) x=((decide (s.1<=x)&&decide (x<s.2))||j3 l x)
 | [],s,h,_,_=>⟨h, .inl rfl,kg,λt(ht:t∈([]:List (Int×Int)))=>(by cases ht),λx=>rfl⟩
 |a::l,s,h,hi,hs=>by
  have hsp:=ye hi;have ha:=hsp a (by simp);have hi':=hi;rw[kB]at hi';have hsa:=hs a (by simp);unfold lB
  by_cases hc:a.1<=s.2
  ·rw[aG hc];have hlt:(min s.1 a.1,max s.2 a.2).1<(min s.1 a.1,max s.2 a.2).2:=by dsimp only;omega
   obtain⟨h1,h2,h3,h4,h5⟩:=Cs l (min s.1 a.1,max s.2 a.2) hlt hi'.tail.tail (λb hb=>by
    have:=(vT (l:=[a]) (m:=l)).1 hi;have h6:=this.2.2 a (by simp) b hb;have h7:=hsp b<|jo _ hb
    dsimp only;omega)
   refine⟨h1,?_,h3,h4,λx=>?_⟩
   ·rcases h2 with h2|⟨b,hb,h2⟩
    ·rw[h2]
     rcases Int.le_total s.1 a.1 with h6|h6
     ·exact .inl (by simp only;omega)
     ·exact .inr ⟨a,by simp,by simp only;omega⟩
    ·exact .inr ⟨b,jo _ hb,h2⟩
   ·rw[h5,FB,<-Bool.or_assoc];congr 1;clear h1 h2 h3 h4 h5;rw[jq];simp only[iB,cQ,cY];constructor
    ·intro h6
     by_cases h7:s.1<=x/\x<s.2
     ·exact .inl h7
     ·exact .inr (by omega)
    ·rintro(h6|h6) <;> omega
  ·rw[aI hc];refine⟨h, .inl rfl,hi,λt ht=>?_,λx=>rfl⟩;show s.2<t.1
   rcases eH.1 ht with rfl|ht
   ·omega
   ·have:=((vT (l:=[a]) (m:=l)).1 hi).2.2 a (by simp) t ht;omega
theorem Gx{l:List (Int×Int)}{c:Int}(h:j5 (dT l)):∀a∈l.dropWhile (λa=>decide<|a.2<c),c<=a.2:=by
 induction l with
 |nil=>intro a ha;cases ha
 |cons b l ih=>
  have h':=h;rw[kB]at h';rw[List.dropWhile_cons]
  by_cases hb:b.2<c
  ·rw[aG (by simpa using hb)];exact ih h'.tail.tail
  ·rw[aI (by simpa using hb)];intro a ha
   rcases eH.1 ha with rfl|ha
   ·omega
   ·have h1:=((vT (l:=[b]) (m:=l)).1 h).2.2 b (by simp) a ha;have h2:=ye h a<|jo _ ha
    omega
theorem Gy(l:List (Int×Int))(c:Int):∀a∈l.takeWhile (λa=>decide<|a.2<c),a.2<c:=by
 induction l with
 |nil=>intro a ha;cases ha
 |cons b l ih=>
  rw[List.takeWhile_cons]
  by_cases hb:b.2<c
  ·rw[aG (by simpa using hb)];intro a ha
   rcases eH.1 ha with rfl|ha
   ·exact hb
   ·exact ih a ha
  ·rw[aI (by simpa using hb)];intro a ha;cases ha
theorem A3{l:List (Int×Int)}{s:Int×Int}(h:j5 (dT l))(hs:s.1<s.2):
  j5 (dT<|mN l s)/\∀x,j3 (mN l s) x=((decide (s.1<=x)&&decide (x<s.2))||j3 l x):=by
 have hsplit:=h;rw[<-List.takeWhile_append_dropWhile (p:=λa:Int×Int=>decide<|a.2<s.1) (l:=l),vT]at hsplit;obtain⟨h1,h2,h3⟩:=hsplit;obtain⟨m1,m2,m3,m4,m5⟩:=Cs (l.dropWhile λa=>decide<|a.2<s.1) s hs h2<|Gx h
 unfold mN;refine⟨vT.2 ⟨h1,?_,λa ha t ht=>?_⟩,λx=>?_⟩
 ·rw[kB];have h4:∀c∈dT (lB s<|l.dropWhile λa=>decide<|a.2<s.1).2,(lB s<|l.dropWhile λa=>decide<|a.2<s.1).1.2<c:=λc hc=>by
   obtain⟨t,ht,hc⟩:=BV hc;have:=m4 t ht;have:=ye m3 t ht
   rcases hc with rfl|rfl <;> omega
  exact pI.2 ⟨λc hc=>by
   rcases eH.1 hc with rfl|hc
   ·exact m1
   ·have:=h4 c hc;omega,pI.2 ⟨h4,m3⟩⟩
 ·have ha1:=Gy l s.1 a ha
  rcases eH.1 ht with rfl|ht
  ·rcases m2 with m2|⟨b,hb,m2⟩
   ·rw[m2];exact ha1
   ·rw[m2];exact h3 a ha b hb
  ·have h5:=m4 t ht
   rcases m2 with m2|⟨b,hb,m2⟩
   ·rw[m2]at m1;omega
   ·have:=h3 a ha b hb;rw[m2]at m1;omega
 ·rw[Cr,m5]
  conv=>rhs;rw[<-List.takeWhile_append_dropWhile (p:=λa:Int×Int=>decide<|a.2<s.1) (l:=l),Cr]
  rw[Bool.or_left_comm]
def lC:List Int->List (Int×Int)
 |a::b::l=>(a,b)::lC (b::l)
 |_=>[]
theorem tw:∀{xs:List Int},j5 xs->∀s∈lC xs,s.1∈xs/\s.2∈xs/\s.1<s.2/\∀c∈xs,c<=s.1\/s.2<=c
 | [],_,s,hs=>by cases hs
 | [a],_,s,hs=>by cases hs
 |a::b::l,h,s,hs=>by
  have hab:=h.head b (by simp)
  rcases eH.1 hs with rfl|hs
  ·refine⟨by simp,by simp,hab,λc hc=>?_⟩
   rcases eH.1 hc with rfl|hc
   ·exact .inl<|Int.le_refl _
   ·rcases eH.1 hc with rfl|hc
    ·exact .inr<|Int.le_refl _
    ·exact .inr (by have:=h.tail.head c hc;show b<=c;omega)
  ·obtain⟨h1,h2,h3,h4⟩:=tw h.tail s hs;refine⟨jo _ h1,jo _ h2,h3,λc hc=>?_⟩
   rcases eH.1 hc with rfl|hc
   ·exact .inl (by have:=h.head s.1 h1;omega)
   ·exact h4 c hc
theorem zY:∀{xs:List Int},j5 xs->∀x,(∃s∈lC xs,s.1<=x/\x<s.2)\/(∀c∈xs,x<c)\/(∀c∈xs,c<=x)
 | [],_,x=> .inr (.inl λc hc=>by cases hc)
 | [a],_,x=>by
  by_cases h:x<a
  ·exact .inr (.inl λc hc=>by simp at hc;omega)
  ·exact .inr (.inr λc hc=>by simp at hc;omega)
 |a::b::l,h,x=>by
  have hab:=h.head b (by simp)
  rcases zY h.tail x with⟨s,hs,h1⟩|h1|h1
  ·exact .inl ⟨s,jo _ hs,h1⟩
  ·by_cases h2:x<a
   ·exact .inr (.inl λc hc=>by
     rcases eH.1 hc with rfl|hc
     ·exact h2
     ·exact h1 c hc)
   ·exact .inl ⟨(a,b),by simp[lC],by show a<=x;omega,h1 b (by simp)⟩
  ·exact .inr (.inr λc hc=>by
    rcases eH.1 hc with rfl|hc
    ·have:=h1 b (by simp);omega
    ·exact h1 c hc)
def Ends(a:List (Int×Int))(xs:List Int):Prop:=∀s∈a,s.1∈xs/\s.2∈xs
theorem C3{a:List (Int×Int)}{xs:List Int}(he:Ends a xs)(hx:j5 xs){s:Int×Int}(hs:s∈lC xs){x:Int}(h1:s.1<=x)(h2:x<s.2):j3 a x=j3 a s.1:=by
 obtain⟨_,_,h3,h4⟩:=tw hx s hs;rw[jq,vR,vR];constructor
 ·rintro⟨t,ht,h5,h6⟩;have:=h4 _ (he t ht).1;exact⟨t,ht,by omega,by omega⟩
 ·rintro⟨t,ht,h5,h6⟩;have:=h4 _ (he t ht).2;exact⟨t,ht,by omega,by omega⟩
theorem Kp{a:List (Int×Int)}{xs:List Int}(he:Ends a xs){x:Int}(h:(∀c∈xs,x<c)\/(∀c∈xs,c<=x)):j3 a x=false:=by
 rw[<-ma,vR];rintro⟨t,ht,h5,h6⟩;obtain⟨e1,e2⟩:=he t ht
 rcases h with h|h
 ·have:=h _ e1;omega
 ·have:=h _ e2;omega
def np(iG:Bool->Bool->Bool)(a b:List (Int×Int))(ss:List (Int×Int))(out:List (Int×Int)):List (Int×Int):=
 ss.foldl (λout s=>if iG (j3 a s.1) (j3 b s.1)=true then mN out s else out) out
theorem yf(iG:Bool->Bool->Bool)(a b:List (Int×Int)):∀(ss out:List (Int×Int)),j5 (dT out)->(∀s∈ss,s.1<s.2)->
  j5 (dT<|np iG a b ss out)/\∀x,j3 (np iG a b ss out) x=(j3 out x||ss.any λs=>iG (j3 a s.1) (j3 b s.1)&&(decide (s.1<=x)&&decide (x<s.2)))
 | [],out,h,_=>⟨h,λx=>by simp[np]⟩
 |s::ss,out,h,hs=>by
  have h0:=hs s (by simp);unfold np;rw[List.foldl_cons]
  by_cases hk:iG (j3 a s.1) (j3 b s.1)=true
  ·rw[aG hk];obtain⟨j1,j2⟩:=A3 h h0;obtain⟨m1,m2⟩:=yf iG a b ss (mN out s) j1<|λt ht=>hs t<|jo _ ht
   refine⟨m1,λx=>?_⟩;rw[show j3 (List.foldl _ (mN out s) ss) x=_ from m2 x,j2,List.any_cons,hk,Bool.true_and]
   cases j3 out x <;> simp
  ·rw[aI hk];obtain⟨m1,m2⟩:=yf iG a b ss out h<|λt ht=>hs t<|jo _ ht
   refine⟨m1,λx=>?_⟩;rw[show j3 (List.foldl _ out ss) x=_ from m2 x,List.any_cons,eq_false_of_ne_true hk,Bool.false_and,Bool.false_or]
theorem Ib{iG:Bool->Bool->Bool}(hk:iG false false=false){a b:List (Int×Int)}{xs:List Int}(hx:j5 xs)(ha:Ends a xs)(hb:Ends b xs):
  j5 (dT<|np iG a b (lC xs) [])/\∀x,j3 (np iG a b (lC xs) []) x=iG (j3 a x) (j3 b x):=by
 obtain⟨m1,m2⟩:=yf iG a b (lC xs) [] kg<|λs hs=>(tw hx s hs).2.2.1
 refine⟨m1,λx=>?_⟩;rw[m2,show j3 [] x=false from rfl,Bool.false_or]
 rcases zY hx x with⟨s,hs,h1,h2⟩|h
 ·rw[jq,kJ];constructor
  ·rintro⟨t,ht,h3⟩;rw[cQ,cQ,cY,cY]at h3;rw[C3 ha hx ht h3.2.1 h3.2.2,C3 hb hx ht h3.2.1 h3.2.2];exact h3.1
  ·intro h3;rw[C3 ha hx hs h1 h2,C3 hb hx hs h1 h2]at h3;exact⟨s,hs,by rw[h3,bY h1,bY h2];rfl⟩
 ·rw[Kp ha h,Kp hb h,hk,<-ma,kJ];rintro⟨t,ht,h3⟩;rw[cQ,cQ,cY,cY]at h3;obtain⟨e1,e2,_⟩:=tw hx t ht
  rcases h with h|h
  ·have:=h _ e1;omega
  ·have:=h _ e2;omega
def nu(f:Int->List Int)(ss:List (Int×Int))(out:List Bd):List Bd:=ss.foldl (λout s=>kp out ⟨s.1,s.2,f s.1⟩) out
theorem Ct(f:Int->List Int)(hf:∀y,j5 (f y)/\(f y).length % 2=0):∀(ys:List Int)(out:List Bd),j5 ys->fM out->(∀c∈out,∀y∈ys,c.y1<=y)->
  fM (nu f (lC ys) out)/\∀y,rowAt (nu f (lC ys) out) y=match(lC ys).find? (λs=>decide (s.1<=y)&&decide (y<s.2))with|some s=>f s.1|none=>rowAt out y
 | [],out,_,h,_=>⟨h,λy=>rfl⟩
 | [a],out,_,h,_=>⟨h,λy=>rfl⟩
 |a::b::l,out,hi,h,ho=>by
  have hab:=hi.head b (by simp);have ho1:∀c∈out,c.y1<=(⟨a,b,f a⟩:Bd).y0:=λc hc=>ho c hc a (by simp);have hc:=yF (b:=⟨a,b,f a⟩) h ho1 (hf a).1 (hf a).2;have htop:=yG (b:=⟨a,b,f a⟩) ho1 (by show a<=b;omega)
  obtain⟨m1,m2⟩:=Ct f hf (b::l) (kp out ⟨a,b,f a⟩) hi.tail hc (λc hc' y hy=>by
   have h1:=htop c hc';have h2:b<=y:=by
    rcases eH.1 hy with rfl|hy
    ·exact Int.le_refl _
    ·have:=hi.tail.head y hy;omega
   have h3:c.y1<=b:=h1
   omega)
  refine⟨m1,λy=>?_⟩;show rowAt (nu f (lC<|b::l)<|kp out ⟨a,b,f a⟩) y=_;rw[m2 y,show lC (a::b::l)=(a,b)::lC (b::l)from rfl,List.find?_cons];have hrow:=yE (s:=out) (b:=⟨a,b,f a⟩) ho1 (λc hc=>(h.each c hc).1) (λh=>absurd h (by show ¬b<=a;omega)) y
  by_cases hy:a<=y/\y<b
  ·have e:(decide (a<=y)&&decide (y<b))=true:=by rw[bY hy.1,bY hy.2];rfl
   have hn:(lC<|b::l).find? (λs=>decide (s.1<=y)&&decide (y<s.2))=none:=by
    rw[List.find?_eq_none];intro s hs;have:=(tw hi.tail s hs).1;have h5:b<=s.1:=by
     rcases eH.1 this with h6|h6
     ·omega
     ·have:=hi.tail.head _ h6;omega
    simp;omega
   rw[hn];show rowAt (kp out ⟨a,b,f a⟩) y=_;rw[hrow,aG hy,e]
  ·have e:(decide (a<=y)&&decide (y<b))=false:=by
    rw[Bool.and_eq_false_iff,decide_eq_false_iff_not,decide_eq_false_iff_not];omega
   rw[e]
   cases(lC<|b::l).find? (λs=>decide (s.1<=y)&&decide (y<s.2))with
   |some s=>rfl
   |none=>
    show rowAt (kp out ⟨a,b,f a⟩) y=rowAt out y;rw[hrow,aI hy]
theorem Cu{f:Int->List Int}(hf:∀y,j5 (f y)/\(f y).length % 2=0){ys:List Int}(hy:j5 ys)(h1:∀s∈lC ys,∀y,s.1<=y->y<s.2->f y=f s.1)(h2:∀y,((∀c∈ys,y<c)\/(∀c∈ys,c<=y))->f y= []):
  fM (nu f (lC ys) [])/\∀y,rowAt (nu f (lC ys) []) y=f y:=by
 obtain⟨m1,m2⟩:=Ct f hf ys [] hy fM.nil (λc hc=>by cases hc);refine⟨m1,λy=>?_⟩;rw[m2 y]
 cases PZ:(lC ys).find? (λs=>decide (s.1<=y)&&decide (y<s.2))with
 |some s=>
  have h3:=List.find?_some PZ;rw[cQ,cY,cY]at h3;exact(h1 s (List.mem_of_find?_eq_some PZ) y h3.1 h3.2).symm
 |none=>
  show rowAt [] y=f y
  rcases zY hy y with⟨s,hs,h3,h4⟩|h3
  ·have:=List.find?_eq_none.1 PZ s hs;rw[bY h3,bY h4]at this;exact absurd rfl this
  ·rw[h2 y h3];rfl
def Ok{β:Type}(o:Option β)(P:β->Prop):Prop:=∃r,o=some r/\P r
section
variable {α β S R:Type}{P:α->Prop}{Q:β->Prop}
theorem OF{x:β}(h:Q x):Ok (some x) Q:=⟨x,rfl,h⟩
theorem WV{o:Option β}{x:β}(h:o=some x)(hq:Q x):Ok o Q:=⟨x,h,hq⟩
theorem Ok.mono{o:Option α}{P':α->Prop}(h:Ok o P)(k:∀x,P x->P' x):Ok o P':=by obtain⟨x,h1,h2⟩:=h;exact⟨x,h1,k x h2⟩
theorem TZ{o:Option α}{f:α->Option β}(h:Ok o P)(k:∀x,P x->Ok (f x) Q):Ok (o.bind f) Q:=by
 obtain⟨x,h1,h2⟩:=h;grind
theorem IT{o:Option α}{f:α->Option β}{x:α}(h:o=some x)(k:Ok (f x) Q):Ok (o.bind f) Q:=by grind
theorem Uv{b:Bool}{x y:Option β}(ht:b=true->Ok x Q)(hf:b=false->Ok y Q):Ok (bif b then x else y) Q:=by
 grind
theorem UU{o:Option β}{x:β}(h:Ok o (λr=>r=x)):o=some x:=by obtain⟨r,h1,h2⟩:=h;rw[h1,h2]
def RM(Go:S->Prop)(Rt:R->Prop):Fo S R->Prop| .go s=>Go s| .rt r=>Rt r
def Nf(Nx Br:S->Prop)(Rt:R->Prop):Fl S R->Prop| .nx s=>Nx s| .br s=>Br s| .rt r=>Rt r
theorem Uh{Nx Br:S->Prop}{Rt:R->Prop}{s:S}(h:Nx s):Ok (some<|Fl.nx s) (Nf Nx Br Rt):=⟨_,rfl,h⟩
theorem Un{Nx Br:S->Prop}{Rt:R->Prop}{s:S}(h:Br s):Ok (some<|Fl.br s) (Nf Nx Br Rt):=⟨_,rfl,h⟩
theorem UZ{Nx Br:S->Prop}{Rt:R->Prop}{r:R}(h:Rt r):Ok (some (Fl.rt r:Fl S R)) (Nf Nx Br Rt):=⟨_,rfl,h⟩
theorem Uo{Go:S->Prop}{Rt:R->Prop}{o:Fo S R}{f:S->Option β}{g:R->Option β}(h:RM Go Rt o)(hf:∀s,Go s->Ok (f s) Q)(hg:∀r,Rt r->Ok (g r) Q):Ok (o.cs f g) Q:=by
 cases o with
 |go s=>exact hf s h
 |rt r=>exact hg r h
theorem UX{body:Nat->S->Option S}{m:Nat}{s:S}(Inv:Nat->S->Prop)(hm:m<=4611686018427387904)(h0:Inv 0 s)(h:∀k s,k<m->Inv k s->Ok (body k s) (Inv<|k+1)):Ok (kR m body s) (Inv m):=
 C2 Inv hm h0 h
theorem V6{body:Nat->S->Option (Fl S R)}{m:Nat}{s:S}(Inv:Nat->S->Prop){Go:S->Prop}{Rt:R->Prop}(hm:m<=4611686018427387904)(h0:Inv 0 s)
  (h:∀k s,k<m->Inv k s->Ok (body k s) (Nf (Inv<|k+1) Go Rt)) (hg:∀s,Inv m s->Go s):Ok (vg m body s) (RM Go Rt):=by
 obtain⟨o,h1,h2⟩:=NG (R:=R) Inv Go Rt hm h0 (λk s hk hi=>by
  obtain⟨fl,a1,a2⟩:=h k s hk hi
  exact⟨fl,a1,by cases fl <;> exact a2⟩) hg
 exact⟨o,h1,by cases o <;> exact h2⟩
theorem U5{body:S->Option (Fl S R)}{N:Nat}{s:S}(Inv:S->Prop)(μ:S->Nat){Go:S->Prop}{Rt:R->Prop}
  (h:∀s,Inv s->Ok (body s) (Nf (λs'=>Inv s'/\μ s'<μ s) Go Rt)) (hi:Inv s) (hn:μ s<N):Ok (iD body N s) (RM Go Rt):=by
 obtain⟨o,h1,h2⟩:=AM (R:=R) Inv μ Go Rt (λs hi=>by
  obtain⟨fl,a1,a2⟩:=h s hi
  exact⟨fl,a1,by cases fl <;> exact a2⟩) N s hi hn
 exact⟨o,h1,by cases o <;> exact h2⟩
theorem UJ{b:Nat}{l ys:List α}{f:List α->Option β}(h:(l.length+ys.length)*b<=140737488355328)(k:Ok (f<|l++ys) Q):Ok ((Go.Gk.app b l ys).bind f) Q:=by grind [kE]
theorem UW{l:List α}{i:Nat}{f:α->Option β}(h:i<l.length)(k:Ok (f l[i]) Q):Ok ((Go.Gk.idx l ((i:Nat):Int)).bind f) Q:=by grind [mc]
theorem T6{l:List α}{i:Nat}{x:α}{f:α->Option β}(h:l[i]? =some x)(k:Ok (f x) Q):Ok ((Go.Gk.idx l ((i:Nat):Int)).bind f) Q:=by grind [cG]
end
theorem Ic{n:Nat}(h:n<=4611686018427387904):wrap .i64 ((n:Nat):Int)=((n:Nat):Int):=by grind [gq]
theorem wrap_add{n m:Nat}(h:n+m<=4611686018427387904):wrap .i64 (((n:Nat):Int)+((m:Nat):Int))=((n+m:Nat):Int):=by grind [gq]
theorem bE{n:Nat}(h:n+1<=4611686018427387904):wrap .i64 (((n:Nat):Int)+1)=((n+1:Nat):Int):=by grind [gq]
theorem FD{n:Nat}(h:n+2<=4611686018427387904):wrap .i64 (((n:Nat):Int)+2)=((n+2:Nat):Int):=by grind [gq]
theorem gA{α:Type}[DecidableEq α]:∀{l m:List α},l.Nodup->(∀x∈l,x∈m)->l.length<=m.length
 | [],m,_,_=>cS _
 |a::l,m,hn,hs=>by
  have ha:a∈m:=hs a (by simp);have hn':=List.nodup_cons.1 hn
  have:=gA (l:=l) (m:=m.erase a) hn'.2 (λx hx=>by
   grind)
  rw[List.length_erase_of_mem ha]at this;have:=List.length_pos_of_mem ha;simp;omega
section
variable {α:Type}{N:Nat}
def RN(z:α)(N:Nat)(p0:List α)(p1:α->Option Bool):Option (List α):=
 (wE p0 p1).bind λx31=>bif x31==(-1)then some p0 else((iD (λ(s33:List α×Int×Int)=>(bif decide (s33.2.2<(s33.1.length:Int))then((idx s33.1 s33.2.2).bind λx54=>(p1 x54).bind λx58=>(bif(!x58)then((idx s33.1 s33.2.1).bind λx63=>some (s33.1.set (Int.toNat s33.2.1) x54,wrap .i64<|s33.2.1+1))else some (s33.1,s33.2.1)).bind λs61=>some<|.nx (s61.1,s61.2,wrap .i64<|s33.2.2+1))else(some<|.br (s33.1,s33.2.1,s33.2.2)):Option (Fl (List α×Int×Int) Empty))) N (p0,x31,wrap .i64<|x31+1)).bind λo67=>o67.cs (λ(s33:List α×Int×Int)=>(vh s33.1 s33.2.1 (s33.1.length:Int)).bind λx64=>(vh (s33.1.take (Int.toNat s33.2.1)++List.replicate (s33.1.length - Int.toNat s33.2.1) z) 0 s33.2.1).bind λx65=>some x65)<|λr=>r.elim)
theorem Ms{z:α}{l:List α}{φ:α->Option Bool}(p:α->Bool)(hφ:∀x∈l,φ x=some (p x))(hl:l.length<=4611686018427387000)(hN:l.length<N):RN z N l φ=some (l.filter<|λx=> !p x):=by
 unfold RN;rw[zi p (by omega) hφ,aB]
 rcases BO l p with⟨h1,h2⟩|⟨k,x,h1,h2,h3,h4⟩
 ·grind [List.filter_eq_self]
 ·rw[h1,show(((k:Nat):Int)== -1)=false by simp,aR];have hk:=(bQ.1 h2).1;have hpre:(l.take k).filter (λx=> !p x)=l.take k:=List.filter_eq_self.2 λa ha=>by
   grind [eE,bQ,dS,List.getElem?_take_of_lt]
  have hst:l.take (k+1)=l.take k++[x]:=by
   rw[dQ hk];grind
  have hk1:wrap .i64 (((k:Nat):Int)+1)=((k+1:Nat):Int):=by grind [gq]
  rw[hk1];obtain⟨o,a1,a2⟩:=AM (S:=List α×Int×Int) (R:=Empty) (body:=λ(s33:List α×Int×Int)=>(bif decide (s33.2.2<(s33.1.length:Int))then((idx s33.1 s33.2.2).bind λx54=>(φ x54).bind λx58=>(bif(!x58)then((idx s33.1 s33.2.1).bind λx63=>some (s33.1.set (Int.toNat s33.2.1) x54,wrap .i64<|s33.2.1+1))else some (s33.1,s33.2.1)).bind λs61=>some<|.nx (s61.1,s61.2,wrap .i64<|s33.2.2+1))else(some<|.br (s33.1,s33.2.1,s33.2.2)):Option (Fl (List α×Int×Int) Empty)))
   (λs=>∃i j:Nat,s.2.1=((i:Nat):Int)/\s.2.2=((j:Nat):Int)/\i<j/\j<=l.length/\s.1.length=l.length/\s.1.take i=(l.take j).filter (λx=> !p x)/\∀m,j<=m->s.1[m]? =l[m]?)
   (λs=>l.length - s.2.2.toNat) (λs=>∃i:Nat,s.2.1=((i:Nat):Int)/\i<=l.length/\s.1.length=l.length/\s.1.take i=l.filter (λx=> !p x)) (λ_=>True) (λs⟨i,j,e1,e2,hij,hj,hlen,ht,hd⟩=>by
    obtain⟨s,a,b⟩:=s;dsimp only at e1 e2 hlen ht hd ⊢;subst e1;subst e2
    by_cases hlt:j<l.length
    ·rw[bY (by omega),aO];have hx:s[j]? =some l[j]:=by grind
     have w1:wrap .i64 (((j:Nat):Int)+1)=((j+1:Nat):Int):=by grind [gq]
     have w2:wrap .i64 (((i:Nat):Int)+1)=((i+1:Nat):Int):=by grind [gq]
     have hs2:l.take (j+1)=l.take j++[l[j]]:=dQ hlt;rw[cG hx,aB,hφ _<|cH hlt,aB,w1]
     cases hp:p l[j]with
     |true=>
      refine⟨.nx (s,((i:Nat):Int),((j+1:Nat):Int)),by rfl,⟨i,j+1,rfl,rfl,by omega,by omega,hlen,?_,λm hm=>hd m (by omega)⟩,?_⟩
      ·grind
      grind
     |false=>
      refine⟨.nx (s.set i l[j],((i+1:Nat):Int),((j+1:Nat):Int)),by rw[kh,aO,mc _ _ (by omega),aB,cO,w2,aB],⟨i+1,j+1,rfl,rfl,by omega,by omega,by simp[hlen],?_,λm hm=>?_⟩,?_⟩
      ·rw[hs2,List.filter_append,<-ht];have:(s.set i l[j]).take (i+1)=s.take i++[l[j]]:=by
        rw[dQ (by simp;omega),List.take_set_of_le<|cJ _];simp
       rw[this];simp[hp]
      ·rw[ll,aI (by omega)];exact hd m (by omega)
      ·simp only[cO];omega
    ·rw[cD (by rw[hlen];omega),aR];have hje:j=l.length:=by omega
     subst hje;rw[eM]at ht
     exact⟨.br (s,((i:Nat):Int),((l.length:Nat):Int)),rfl,i,rfl,by omega,hlen,ht⟩)
   N (l,((k:Nat):Int),((k+1:Nat):Int)) ⟨k,k+1,rfl,rfl,by omega,by omega,rfl,by rw[hst,List.filter_append,hpre];simp[h3],λ_ _=>rfl⟩ (by simp only[cO];omega)
  rw[a1,aB]
  cases o with
  |rt r=>exact r.elim
  |go s=>
   obtain⟨i,e1,hi,hlen,ht⟩:=a2;obtain⟨s,a,b⟩:=s;dsimp only at e1 hlen ht;subst e1;simp only[Fo.cs];rw[rS _ _ (by omega),aB,cO,tJ _ _ (by simp;omega),aB,List.take_append_of_le_length (by simp;omega),List.take_take,Nat.min_self,ht]
end
section
variable {κ ν:Type}[DecidableEq κ]
theorem lG(m:List (κ×ν))(k k':κ)(x z:ν):fK (rJ m k x) k' z=if k'=k then x else fK m k' z:=by
 induction m with
 |nil=>grind [rJ,fK]
 |cons p m ih=>
  grind [rJ,fK,cD,bY]
theorem oR(m:List (κ×ν))(k k':κ)(x:ν):lZ (rJ m k x) k'=(decide (k'=k)||lZ m k'):=by
 induction m with
 |nil=>rfl
 |cons p m ih=>
  unfold rJ
  grind [lZ,cD,decide]
end
section
variable {N:Nat}
theorem DO(l:List Int)(a b:Nat)(h:a+b<l.length):Jf l ((a:Nat):Int) ((b:Nat):Int)=some l[a+b]:=by
 unfold Jf;rw[aG (by omega),show((a:Nat):Int)+((b:Nat):Int)=((a+b:Nat):Int)by omega,mc _ _ h]
theorem j5.Mt{l:List Int}{a:Int}(h:j5 l)(hl:∀c∈l,c<a):j5 (l++[a]):=by
 grind [j5]
theorem j5.last{l:List Int}{a:Int}(h:j5 l)(hl:l.getLast? =some a):∀c∈l,c<=a:=by
 intro c hc;have hs:=tX hl;rw[hs]at h hc
 rcases dH.1 hc with h1|h1
 ·have:=(List.pairwise_append.1 h).2.2 c h1 a (by simp);omega
 grind
theorem Gz{l:List Int}(hs:l.Pairwise (λx y=>x<=y))(hl:l.length<=4611686018427387000)(hN:l.length<N):
  Ok (iS N l) (λm=>j5 m/\∀c,c∈m↔c∈l):=by
 unfold iS;refine Uv (λh2=>OF ⟨?_,λc=>Iff.rfl⟩)<|λh2=>?_
 ·have h2:=of_decide_eq_true h2
  match l,h2 with
  | [],_=>exact kg
  | [a],_=>exact List.pairwise_singleton _ _
  |a::b::l,h2=>grind
 ·have h2:=of_decide_eq_false h2;have le:∀(i j:Nat)(x y:Int),i<j->l[i]? =some x->l[j]? =some y->x<=y:=λi j x y hij hx hy=>by
   grind [nz,bQ]
  refine TZ (U5 (Go:=λ_=>j5 l) (Rt:=λm=>j5 m/\∀c,c∈m↔c∈l) (λs=>∃k:Nat,s=((k:Nat):Int)/\1<=k/\k<=l.length/\j5 (l.take k)) (λs=>l.length - s.toNat) ?_ ⟨1,rfl,cJ _,by omega,?_⟩ (by simp;omega)) ?_
  ·rintro s⟨k,rfl,hk1,hkl,hinc⟩;refine Uv (λh=>?_)<|λh=>Un ?_
   ·have hk:k<l.length:=by grind
    refine UW hk ?_;rw[jU hk1 (by omega)];refine UW (by omega) ?_;refine Uv (λhe=>?_)<|λhe=>?_
    ·have he:l[k]=l[k - 1]:=by grind
     refine IT (rS l k hkl) ?_
     refine TZ (U5 (Go:=λs=>∃i:Nat,s.2.1=((i:Nat):Int)/\i<=l.length/\s.1.length=l.length/\j5 (s.1.take i)/\∀c,c∈s.1.take i↔c∈l) (Rt:=λ_=>True)
      (λs=>∃i j:Nat,s.2.1=((i:Nat):Int)/\s.2.2=((j:Nat):Int)/\1<=j/\k+j<=l.length/\i<=k+j - 1/\s.1.length=l.length/\j5 (s.1.take i)/\(s.1.take i).getLast? =l[k+j - 1]? /\
       (∀c,c∈s.1.take i↔c∈l.take (k+j))/\∀m,k+j - 1<=m->s.1[m]? =l[m]?) (λs=>l.length - s.2.2.toNat) ?_ ?_ (by simp;omega)) ?_
     ·rintro⟨u,a,b⟩⟨i,j,e1,e2,hj,hjl,hij,hlen,hi,hlast,hmem,hrest⟩;dsimp only at e1 e2 hlen hi hlast hmem hrest ⊢;subst e1;subst e2;rw[cO];refine Uv (λh=>?_)<|λh=>Un ?_
      ·have hlt:k+j<l.length:=by have:=of_decide_eq_true h;omega
       have hx:u[k+j]'(by omega)=l[k+j]:=by have:=hrest (k+j) (by omega);rw[aN (by omega),aN hlt]at this;injection this
       have hy:u[k+(j - 1)]'(by omega)=l[k+(j - 1)]:=by have:=hrest (k+(j - 1)) (by omega);rw[aN (by omega),aN (by omega)]at this;injection this
       refine IT (DO u k j (by omega)) ?_;rw[jU hj (by omega)];refine IT (DO u k (j - 1) (by omega)) ?_;rw[hx,hy];have hts:l.take (k+j+1)=l.take (k+j)++[l[k+j]]:=dQ hlt;have hlast':(u.take i).getLast? =some l[k+(j - 1)]:=by rw[hlast,show k+j - 1=k+(j - 1)by omega,aN (by omega)]
       have hxy:l[k+(j - 1)]<=l[k+j]:=le (k+(j - 1)) (k+j) _ _ (by omega) (aN _)<|aN _
       refine TZ (P:=λs'=>s'.1.length=l.length/\∃i':Nat,s'.2=((i':Nat):Int)/\i'<=k+j/\j5 (s'.1.take i')/\(s'.1.take i').getLast? =l[k+j]? /\(∀c,c∈s'.1.take i'↔c∈l.take (k+j+1))/\∀m,k+j<=m->s'.1[m]? =l[m]?) ?_ ?_
       ·refine Uv (λhne=>?_)<|λhne=>OF ?_
        ·have hne:l[k+j]≠l[k+(j - 1)]:=by simpa using hne
         refine IT (DO u k j (by omega)) ?_;rw[hx];refine UW (by omega)<|OF ⟨by simp[hlen],i+1,?_,by omega,?_⟩
         ·rw[bE (by omega)]
         ·dsimp only;rw[cO];have ht:(u.set i l[k+j]).take (i+1)=u.take i++[l[k+j]]:=by
           rw[dQ (by simp;omega),List.take_set_of_le<|cJ _];simp
          rw[ht];refine⟨hi.Mt λc hc=>?_,by simp[aN hlt],λc=>?_,λm hm=>?_⟩
          ·have:=hi.last hlast' c hc;omega
          ·rw[hts,dH,dH,hmem]
          ·rw[ll,aI (by omega)];exact hrest m (by omega)
        ·have he:l[k+j]=l[k+(j - 1)]:=by simpa using hne
         refine⟨hlen,i,rfl,by omega,hi,?_,λc=>?_,λm hm=>hrest m (by omega)⟩
         ·dsimp only;rw[hlast',aN hlt,he]
         ·rw[hts,dH,<-hmem];constructor
          ·exact .inl
          ·rintro(h|h)
           ·exact h
           ·simp at h;subst h;rw[he];exact List.mem_of_getLast? hlast'
       ·rintro⟨v,a⟩⟨g1,i',g2,g3,g4,g5,g6,g7⟩;dsimp only at g1 g2 g4 g5 g6 g7 ⊢;refine Uh ⟨⟨i',j+1,g2,?_,by omega,by omega,by omega,g1,g4,?_,g6,λm hm=>g7 m (by omega)⟩,?_⟩
        ·rw[bE (by omega)]
        ·rw[show k+(j+1) - 1=k+j by omega];exact g5
        ·rw[bE (by omega)];simp only[cO];omega
      ·have hge:k+j=l.length:=by have:=of_decide_eq_false h;omega
       refine⟨i,rfl,by omega,hlen,hi,λc=>?_⟩;rw[hmem,hge,eM]
     ·refine⟨k,1,rfl,rfl,cJ _,by omega,by omega,rfl,hinc,?_,λc=>?_,λm _=>rfl⟩
      ·dsimp only;rw[show k+1 - 1=k by omega,aN hk,he,List.getLast?_eq_getElem?,dS,Nat.min_eq_left hkl,List.getElem?_take_of_lt (by omega),aN (by omega)]
      ·dsimp only;rw[dQ hk,dH];constructor
       ·exact .inl
       ·rintro(h|h)
        ·exact h
        ·simp at h;subst h;rw[he];refine fR (i:=k - 1) ?_;rw[List.getElem?_take_of_lt (by omega),aN (by omega)]
     ·rintro o ho;refine Uo ho ?_<|λr=>r.elim
      rintro⟨u,a,b⟩⟨i,e1,hi,hlen,hinc',hmem⟩;dsimp only at e1 hlen hinc' hmem ⊢;subst e1;refine IT (rS u i (by omega)) ?_;rw[cO];refine IT (tJ _ i (by simp;omega))<|UZ ?_
      rw[List.take_append_of_le_length (by simp;omega),List.take_take,Nat.min_self];exact⟨hinc',hmem⟩
    ·have he:l[k]≠l[k - 1]:=by simpa using he
     refine Uh ⟨⟨k+1,by rw[bE (by omega)],by omega,by omega,?_⟩,by rw[bE (by omega)];simp only[cO];omega⟩;rw[dQ hk];refine hinc.Mt λc hc=>?_;have hlast:(l.take k).getLast? =some l[k - 1]:=by
      rw[List.getLast?_eq_getElem?,dS,Nat.min_eq_left hkl,List.getElem?_take_of_lt (by omega),aN (by omega)]
     have h3:=hinc.last hlast c hc;have h4:=le (k - 1) k _ _ (by omega) (aN (by omega:k - 1<l.length))<|aN hk
     omega
   ·have hge:k=l.length:=by have:=of_decide_eq_false h;omega
    subst hge;rw[eM]at hinc;exact hinc
  ·match l,h2 with
   | [],h2=>simp at h2
   |a::l,_=>exact List.pairwise_singleton _ _
  ·rintro o ho;exact Uo ho (λs h=>OF ⟨h,λc=>Iff.rfl⟩)<|λr h=>OF h
def vU(l:List aH):List Int:=l.flatMap λr=>[r.X0,r.X1]
def j4(l:List aH):List Int:=l.flatMap λr=>[r.Y0,r.Y1]
theorem vV{l:List aH}{c:Int}:c∈vU l↔∃r∈l,c=r.X0\/c=r.X1:=by simp[vU,List.mem_flatMap]
theorem oh{l:List aH}{c:Int}:c∈j4 l↔∃r∈l,c=r.Y0\/c=r.Y1:=by simp[j4,List.mem_flatMap]
theorem tY(l:List aH):(vU l).length=2*l.length:=by
 induction l with
 |nil=>rfl
 |cons r l ih=>grind [vU]
theorem mW(l:List aH):(j4 l).length=2*l.length:=by
 induction l with
 |nil=>rfl
 |cons r l ih=>grind [j4]
def Ag(X Y:List Int)(s:List Bd):Prop:=∀b∈s,b.y0∈Y/\b.y1∈Y/\∀c∈b.xs,c∈X
theorem Ag.push{X Y:List Int}{s:List Bd}{b:Bd}(h:Ag X Y s)(h0:b.y0∈Y)(h1:b.y1∈Y)(h2:∀c∈b.xs,c∈X):Ag X Y (kp s b):=by
 intro c hc;unfold kp at hc;split at hc
 ·exact h c hc
 ·split at hc
  ·rename_i d hd;have hdm:d∈s:=List.mem_of_getLast? hd;split at hc
   ·rcases dH.1 hc with hc|hc
    ·exact h c<|List.dropLast_subset _ hc
    ·simp at hc;subst hc;exact⟨(h d hdm).1,h1,(h d hdm).2.2⟩
   ·rcases dH.1 hc with hc|hc
    ·exact h c hc
    grind
  grind
theorem j5.nodup{l:List Int}(h:j5 l):l.Nodup:=List.Pairwise.imp (λh=>by omega) h
theorem Ag.row{X Y:List Int}{s:List Bd}(h:Ag X Y s)(hc:fM s){b:Bd}(hb:b∈s):b.xs.length<=X.length:=gA (hc.each b hb).2.2.1.nodup (h b hb).2.2
theorem Ag.len{X Y:List Int}{s:List Bd}(h:Ag X Y s)(hc:fM s):s.length<=Y.length:=by
 have hn:(s.map Bd.y0).Nodup:=by
  unfold List.Nodup;rw[List.pairwise_map];refine List.Pairwise.imp_of_mem (λ{a b}ha hb hab=>?_) hc.ord;have:=(hc.each a ha).1;omega
 have:=gA hn (m:=Y) (λx hx=>by
  obtain⟨b,hb,rfl⟩:=dO.1 hx
  exact(h b hb).1)
 grind
theorem Ag.mono{X Y X' Y':List Int}{s:List Bd}(h:Ag X Y s)(hx:∀c∈X,c∈X')(hy:∀c∈Y,c∈Y'):Ag X' Y' s:=λb hb=>⟨hy _ (h b hb).1,hy _ (h b hb).2.1,λc hc=>hx c<|(h b hb).2.2 c hc⟩
theorem Lc(s:List Bd)(b:Bd):(kp s b).length<=s.length+1:=by
 grind [kp,tX]
theorem j5.lt{l:List Int}(h:j5 l){i j:Nat}{x y:Int}(hij:i<j)(hx:l[i]? =some x)(hy:l[j]? =some y):x<y:=by
 have:=nz.1 h i j (bQ.1 hx).1 (bQ.1 hy).1 hij
 grind
theorem j5.next{l:List Int}(h:j5 l){k:Nat}{x y c:Int}(hx:l[k]? =some x)(hy:l[k+1]? =some y)(hc:c∈l)(hxc:x<c):y<=c:=by
 obtain⟨j,hj⟩:=eE hc
 rcases Nat.lt_trichotomy j (k+1)with h1|h1|h1
 ·exfalso
  by_cases e:j=k
  ·grind
  ·have:=h.lt (show j<k by omega) hj hx;omega
 ·grind
 ·have:=h.lt h1 hy hj;omega
theorem zZ{l:List aH}{φ:aH->Option Bool}(p:aH->Bool)(hφ:∀x∈l,φ x=some (p x))(hl:l.length<=4611686018427387000)(hN:l.length<N):jt N l φ=some (l.filter<|λx=> !p x):=
 Ms (z:=(⟨0,0,0,0⟩:aH)) p hφ hl hN
theorem EX{l:List aH}(hl:l.length<=268435456):kj N l=some l:=by
 grind [kj,kE,aB]
structure RP (l m:List aH) (ys:List Int) (k:Nat) (out:List aA) (now:List aH) (nx:Nat):Prop where
 can:fM (out.map cK)
 top:∀c∈out,∀y,ys[k]? =some y->c.Y1<=y
 cover:∀x y,xF (out.map cK) x y=(uH l x y&&decide (∀a,ys[k]? =some a->y<a))
 lim:Ag (vU l) (j4 l) (out.map cK)
 TP:∀r∈now,r∈m.take nx
 TQ:∀r∈m.take nx,∀y,ys[k]? =some y->y<r.Y1->r∈now
 len:now.length<=nx
 Tp:nx<=m.length
 rest:∀(j:Nat)r y,nx<=j->m[j]? =some r->ys[k]? =some y->y<=r.Y0
 low:∀r∈now,∀y,ys[k]? =some y->r.Y0<=y
theorem NN{l m:List aH}(h:∀r,r∈l↔r∈m)(x y:Int):uH l x y=uH m x y:=by
 grind [kq]
structure tZ (l:List aH) (s:List aA):Prop where
 can:fM (s.map cK)
 cover:∀x y,xF (s.map cK) x y=uH l x y
 lim:Ag (vU l) (j4 l) (s.map cK)
theorem rp{l:List aH}(hl:l.length<=134217728)(hok:∀r∈l,EH r)(hN:4294967296<=N):Ok (iX N l) (tZ l):=by
 unfold iX;refine IT (EX (by omega)) ?_
 obtain⟨m,h1,h2,h3⟩:=DF (φ:=kT N) (l:=l) (λa b=>a.Y0 - b.Y0) (λa ha b hb=>by
  unfold kT;rw[wrap_small (hok a ha).s3 (hok b hb).s3]) (λa _=>by omega) (λa _ b _ c _ h1 h2=>by omega) (λa _ b _ c _ h1 h2=>by omega) (by omega)
 refine IT h1 ?_;have hml:m.length=l.length:=h2.length_eq;have hmem:∀r,r∈m↔r∈l:=λr=>h2.mem_iff;refine TZ (UX (λk s=>s=j4 (m.take k)) (by omega) rfl<|λk s hk e=>?_) ?_
 ·grind [UW,UJ,OF,mW,dQ,j4]
 rintro s rfl;rw[eM];have hgs:xL (j4 m)=some ((j4 m).mergeSort<|λx y=>decide<|x<=y):=by grind [xL,mW]
 refine IT hgs ?_;have hsp:((j4 m).mergeSort<|λx y=>decide<|x<=y).Pairwise (λx y=>x<=y):=by
  grind [List.pairwise_mergeSort,decide,j4,List.Pairwise.imp]
 have hsm:∀c,c∈(j4 m).mergeSort (λx y=>decide<|x<=y)↔c∈j4 m:=λc=>List.mem_mergeSort;have hsl:((j4 m).mergeSort<|λx y=>decide<|x<=y).length=2*m.length:=by rw[List.length_mergeSort,mW]
 generalize (j4 m).mergeSort (λx y=>decide<|x<=y)=sy at hsp hsm hsl;refine TZ (Gz (N:=N) hsp (by omega) (by omega)) ?_;rintro ys⟨hy,hym⟩;have hyl:ys.length<=2*m.length:=by
  have:=gA hy.nodup (m:=sy)<|λc hc=>(hym c).1 hc
  omega
 have y0m:∀r∈m,r.Y0∈ys:=λr hr=>(hym _).2<|(hsm _).2<|oh.2 ⟨r,hr, .inl rfl⟩
 have y1m:∀r∈m,r.Y1∈ys:=λr hr=>(hym _).2<|(hsm _).2<|oh.2 ⟨r,hr, .inr rfl⟩
 have yml:∀c∈ys,c∈j4 l:=λc hc=>by
  grind [oh]
 refine TZ (U5 (Go:=λs=>tZ l s.1) (Rt:=λ_=>True) (λs=>∃k nx:Nat,s.2.2.2=((k:Nat):Int)/\s.2.2.1=((nx:Nat):Int)/\(k<ys.length\/k=0)/\RP l m ys k s.1 s.2.1 nx) (λs=>ys.length - s.2.2.2.toNat) ?_ ?_ (by simp;omega)) ?_
 ·rintro⟨out,now,a,b⟩⟨k,nx,e1,e2,hk,I⟩;dsimp only at e1 e2 I ⊢;subst e1;subst e2;rw[bE (by omega)];refine Uv (λh=>?_)<|λh=>Un ?_
  ·have hk1:k+1<ys.length:=by grind
   have hyk:ys[k]? =some ys[k]:=aN _;have hyk1:ys[k+1]? =some ys[k+1]:=aN hk1;have hlt:=hy.lt (Nat.lt_succ_self k) hyk hyk1;have hcov:=I.cover;simp only[hyk,Option.some.injEq,forall_eq']at hcov;refine IT (zZ (λr=>decide<|r.Y1<=ys[k]) (λr _=>by grind [qz,mc,aB]) (by have:=I.len;have:=I.Tp;omega) (by have:=I.len;have:=I.Tp;omega)) ?_;have hfl:=nA (λr:aH=> !decide (r.Y1<=ys[k])) now;have hIl:=I.len;have hIn:=I.Tp
   refine TZ (U5 (Go:=λs=>∃nx':Nat,s.2=((nx':Nat):Int)/\nx'<=m.length/\s.1.length<=nx'/\(∀r∈s.1,r∈m.take nx')/\(∀r∈m.take nx',ys[k]<r.Y1->r∈s.1)/\(∀r∈s.1,r.Y0<=ys[k]/\ys[k]<r.Y1)/\(∀(j:Nat)r,nx'<=j->m[j]? =some r->ys[k]<r.Y0)) (Rt:=λ_=>True)
    (λs=>∃nx':Nat,s.2=((nx':Nat):Int)/\nx<=nx'/\nx'<=m.length/\s.1.length<=nx'/\(∀r∈s.1,r∈m.take nx')/\(∀r∈m.take nx',ys[k]<r.Y1->r∈s.1)/\(∀r∈s.1,r.Y0<=ys[k]/\ys[k]<r.Y1)) (λs=>m.length - s.2.toNat) ?_ ?_ (by simp;omega)) ?_
   ·rintro⟨nw,b⟩⟨nx',e1,g0,g1,g2,g3,g4,g5⟩;dsimp only at e1 g2 g3 g4 g5 ⊢;subst e1;refine TZ (P:=λb=>b=true↔∃h:nx'<m.length,m[nx'].Y0<=ys[k]) ?_ ?_
    ·refine Uv (λh=>?_)<|λh=>OF ?_
     ·have hlt:nx'<m.length:=by have:=of_decide_eq_true h;omega
      refine UW hlt<|UW (by omega)<|OF ?_
      rw[cY];exact⟨λh=>⟨hlt,h⟩,λ⟨_,h⟩=>h⟩
     ·have:=of_decide_eq_false h;constructor
      ·intro h;cases h
      ·rintro⟨h,_⟩;omega
    ·intro bb hbb;refine Uv (λh=>?_)<|λh=>Un ?_
     ·obtain⟨hlt,h0⟩:=hbb.1 h;have hts:m.take (nx'+1)=m.take nx'++[m[nx']]:=dQ hlt;refine UW hlt<|UJ (by simp;omega)<|Uh ⟨⟨nx'+1,by rw[bE (by omega)],by omega,by omega,by simp;omega,λr hr=>?_,λr hr hr2=>?_,λr hr=>?_⟩,by rw[bE (by omega)];simp only[cO];omega⟩
      ·rw[hts]
       rcases dH.1 hr with h|h
       ·exact List.mem_append_left _<|g3 r h
       ·exact List.mem_append_right _ h
      ·rw[hts]at hr
       rcases dH.1 hr with h|h
       ·exact List.mem_append_left _<|g4 r h hr2
       ·exact List.mem_append_right _ h
      ·rcases dH.1 hr with h|h
       ·exact g5 r h
       ·simp at h;subst h;refine⟨h0,?_⟩;have:=(hok m[nx']<|(hmem _).1<|cH hlt).y;have:=I.rest nx' _ ys[k] g0 (aN hlt) hyk;omega
     ·refine⟨nx',rfl,g1,g2,g3,g4,g5,λj r hj hr=>?_⟩;have hjl:=(bQ.1 hr).1;have hlt:nx'<m.length:=by omega
      have h0:¬m[nx'].Y0<=ys[k]:=λh0=>by rw[hbb.2 ⟨hlt,h0⟩]at h;cases h
      by_cases e:nx'=j
      ·subst e;rw[aN hlt]at hr;injection hr with hr;subst hr;omega
      ·have:=nz.1 h3 nx' j hlt hjl (by omega);have hr':=(bQ.1 hr).2;rw[hr']at this;omega
   ·refine⟨nx,rfl,cJ _,hIn,by dsimp only;omega,λr hr=>I.TP r (lj.1 hr).1,λr hr h=>lj.2 ⟨I.TQ r hr ys[k] hyk h,by simpa using h⟩,λr hr=>?_⟩;have hr:=lj.1 hr;have hr2:ys[k]<r.Y1:=by simpa using hr.2
    exact⟨I.low r hr.1 ys[k] hyk,hr2⟩
   ·rintro o ho;refine Uo ho ?_<|λr=>r.elim
    rintro⟨nw,b⟩⟨nx',e1,g1,g2,g3,g4,g5,g6⟩;dsimp only at e1 g2 g3 g4 g5 ⊢;subst e1;refine UW (by omega)<|UW hk1 ?_
    have hnm:∀r∈nw,r∈l:=λr hr=>(hmem r).1<|List.take_subset _ _<|g3 r hr
    obtain⟨row,nw',s1,s2,s3,s4,s5,s6,s7⟩:=Gw (N:=N) (l:=nw) (by omega)<|λr hr=>hok r<|hnm r hr
    refine IT s1 ?_;have hlimx:∀c∈row,c∈vU l:=λc hc=>by
     obtain⟨r,hr,h⟩:=s7 c hc;exact vV.2 ⟨r,hnm r hr,h⟩
    have hol:out.length<=2*l.length:=by have:=I.lim.len I.can;rw[mW,eB]at this;exact this
    have hox:∀c∈out,c.Xs.length<=2*l.length:=λc hc=>by
     have:=I.lim.row I.can (b:=cK c)<|dO.2 ⟨c,hc,rfl⟩
     rw[tY]at this;exact this
    obtain⟨out',p1,p2⟩:=Ko (N:=N) (s:=out) (b:=⟨ys[k],ys[k+1],row⟩) (by omega) (λc hc=>by have:=hox c hc;omega);refine IT p1 ?_;have htop:∀c∈out.map cK,c.y1<=(cK ⟨ys[k],ys[k+1],row⟩).y0:=λc hc=>by
     obtain⟨d,hd,rfl⟩:=dO.1 hc;exact I.top d hd ys[k] hyk
    have hcan:=yF I.can htop s3 s4;refine Uh ⟨⟨k+1,nx',rfl,rfl, .inl hk1,⟨by dsimp only;rw[p2];exact hcan,λc hc y hy1=>?_,λx y=>?_,?_,λr hr=>g3 r<|s2.subset hr,λr hr y hy1 h=>?_,by rw[s2.length_eq];exact g2,g1,λj r y hj hr hy1=>?_,λr hr y hy1=>?_⟩⟩,by simp only[cO];omega⟩
    ·rw[hyk1]at hy1;injection hy1 with hy1;subst hy1
     have hm':cK c∈kp (out.map cK) (cK ⟨ys[k],ys[k+1],row⟩):=by rw[<-p2];exact dO.2 ⟨c,hc,rfl⟩
     exact yG htop (by show ys[k]<=ys[k+1];omega) _ hm'
    ·simp only[hyk1,Option.some.injEq,forall_eq'];unfold xF;rw[p2,yE htop (λc hc=>(I.can.each c hc).1)<|λh=>absurd h (by show ¬ys[k+1]<=ys[k];omega)]
     by_cases hyy:ys[k]<=y/\y<ys[k+1]
     ·rw[aG (show(cK ⟨ys[k],ys[k+1],row⟩).y0<=y/\y<(cK ⟨ys[k],ys[k+1],row⟩).y1 from hyy),bY hyy.2,Bool.and_true];show qU row x=_;rw[s5,jq,DM,kq];constructor
      ·rintro⟨r,hr,h⟩;have hrm:=List.take_subset _ _<|g3 r hr
       have h5:=g5 r hr;have:=hy.next hyk hyk1 (y1m r hrm) h5.2;exact⟨r,hnm r hr,h,by omega,by omega⟩
      ·rintro⟨r,hr,h,h7,h8⟩;have hrm:=(hmem r).2 hr;have h9:r.Y0<=ys[k]:=by
        by_cases h10:r.Y0<=ys[k]
        ·exact h10
        ·have:=hy.next hyk hyk1 (y0m r hrm) (by omega);omega
       have h11:r∈m.take nx':=by
        obtain⟨j,hj⟩:=eE hrm
        by_cases h12:j<nx'
        ·exact fR (i:=j) (by rw[List.getElem?_take_of_lt h12];exact hj)
        ·have:=g6 j r (by omega) hj;omega
       exact⟨r,g4 r h11 (by omega),h⟩
     ·rw[aI (show ¬((cK ⟨ys[k],ys[k+1],row⟩).y0<=y/\y<(cK ⟨ys[k],ys[k+1],row⟩).y1)from hyy)];show xF (out.map cK) x y=_;rw[hcov]
      by_cases h1:y<ys[k]
      ·rw[bY h1,bY (show y<ys[k+1]by omega)]
      ·rw[cD h1,cD (show ¬y<ys[k+1]by omega)]
    ·show Ag (vU l) (j4 l) (out'.map cK);rw[p2];exact I.lim.push (yml _<|cH _) (yml _<|cH _) hlimx
    ·rw[hyk1]at hy1;injection hy1 with hy1;subst hy1
     exact s2.symm.subset<|g4 r hr (by omega)
    ·rw[hyk1]at hy1;injection hy1 with hy1;subst hy1
     exact hy.next hyk hyk1 (y0m r<|fR hr)<|g6 j r hj hr
    ·rw[hyk1]at hy1;injection hy1 with hy1;subst hy1
     have:=(g5 r<|s2.subset hr).1;omega
  ·have hge:¬k+1<ys.length:=by have:=of_decide_eq_false h;omega
   refine⟨I.can,λx y=>?_,I.lim⟩;rw[I.cover]
   by_cases hyn:ys= []
   ·have:uH l x y=false:=by
     rw[<-ma,kq];rintro⟨r,hr,_⟩;have:=y0m r<|(hmem r).2 hr
     rw[hyn]at this;cases this
    rw[this];rfl
   ·have hkl:k<ys.length:=by
     rcases hk with h|h
     ·exact h
     ·subst h;exact List.length_pos_iff.2 hyn
    rw[aN hkl];simp only[Option.some.injEq,forall_eq']
    cases hc:uH l x y with
    |false=>rfl
    |true=>
     obtain⟨r,hr,_,h7,h8⟩:=kq.1 hc;have:=y1m r<|(hmem r).2 hr
     obtain⟨j,hj⟩:=eE this;have hjl:=(bQ.1 hj).1;have:r.Y1<=ys[k]:=by
      by_cases e:j=k
      ·subst e;rw[aN hkl]at hj;injection hj with hj;omega
      ·have:=hy.lt (show j<k by omega) hj<|aN hkl;omega
     rw[bY (show y<ys[k]by omega)];rfl
 ·refine⟨0,0,rfl,rfl, .inr rfl,?_⟩;show RP l m ys 0 [] [] 0;refine⟨fM.nil,λc hc=>(by cases hc),λx y=>?_,λb hb=>(by cases hb),λr hr=>(by cases hr),λr hr=>(by rw[List.take_zero]at hr;cases hr),cJ _,cS _,λj r y _ hr hy0=>?_,λr hr=>(by cases hr)⟩
  ·show false=_;symm;rw[Bool.and_eq_false_iff]
   cases hc:uH l x y with
   |false=>exact .inl rfl
   |true=>
    right;obtain⟨r,hr,_,h7,h8⟩:=kq.1 hc;have hr0:=y0m r<|(hmem r).2 hr
    have hpos:0<ys.length:=List.length_pos_of_mem hr0;rw[decide_eq_false_iff_not];intro h;have h:=h ys[0]<|aN hpos
    obtain⟨j,hj⟩:=eE hr0
    by_cases e:j=0
    ·subst e;rw[aN hpos]at hj;injection hj with hj;omega
    ·have:=hy.lt (show 0<j by omega) (aN hpos) hj;omega
  ·obtain⟨j',hj'⟩:=eE<|y0m r<|fR hr
   by_cases e:j'=0
   ·subst e;rw[hy0]at hj';injection hj' with hj';omega
   ·have:=hy.lt (show 0<j' by omega) hy0 hj';omega
 ·rintro o ho;refine Uo ho (λs h=>OF h)<|λr=>r.elim
end
section
variable {N:Nat}
def DQ:List Int->List (Int×Int)
 |a::b::l=>(a,b)::DQ l
 |_=>[]
theorem C4:∀(xs:List Int),(DQ xs).length=xs.length / 2
 | []=>rfl
 | [a]=>by simp[DQ]
 |a::b::l=>by unfold DQ;rw[eI,C4 l];simp only[eI];omega
theorem A4:∀(xs:List Int)(j:Nat)(h:2*j+1<xs.length),(DQ xs)[j]? =some (xs[2*j],xs[2*j+1])
 | [],j,h=>by simp at h
 | [a],j,h=>by simp at h
 |a::b::l,0,h=>rfl
 |a::b::l,j+1,h=>by
  have:=A4 l j (by grind);unfold DQ;rw[List.getElem?_cons_succ,this];have e1:(a::b::l)[2*(j+1)]=l[2*j]'(by grind):=by simp[show 2*(j+1)=2*j+1+1 by omega]
  have e2:(a::b::l)[2*(j+1)+1]=l[2*j+1]'(by grind):=by simp[show 2*(j+1)+1=2*j+1+1+1 by omega]
  rw[e1,e2]
theorem DR:∀{xs:List Int},xs.length % 2=0->dT (DQ xs)=xs
 | [],_=>rfl
 | [a],h=>by simp at h
 |a::b::l,h=>by unfold DQ;rw[kB,DR (by grind)]
theorem NO{xs:List Int}(h:j5 xs)(he:xs.length % 2=0)(x:Int):qU xs x=j3 (DQ xs) x:=by
 grind [vS,DQ,DR]
theorem GA{xs:List Int}:∀p∈DQ xs,p.1∈xs/\p.2∈xs:=by
 grind [eE,bQ,C4,A4,cH]
theorem GB{xs:List Int}(h:j5 xs):∀p∈DQ xs,p.1<p.2:=by
 intro p hp;obtain⟨j,hj⟩:=eE hp;have hjl:=(bQ.1 hj).1;rw[C4]at hjl;rw[A4 xs j (by omega)]at hj;injection hj with hj;subst hj
 exact h.lt (show 2*j<2*j+1 by omega) (aN _)<|aN _
def oj(b:aA):List aH:=(DQ b.Xs).map λp=>⟨p.1,b.Y0,p.2,b.Y1⟩
def aV(s:List aA):List aH:=s.flatMap oj
theorem oq(b:aA)(s:List aA):aV (b::s)=oj b++aV s:=rfl
theorem rq(b:aA):(oj b).length=b.Xs.length / 2:=by simp[oj,eB,C4]
theorem pE(s t:List aA):aV (s++t)=aV s++aV t:=List.flatMap_append
theorem BW(s:List aA)(k:Nat):(aV<|s.take k).length<=(aV s).length:=by
 grind [List.take_append_drop,pE,dX]
theorem DS{s:List aA}{A B:Nat}(h1:s.length<=A)(h2:∀b∈s,b.Xs.length<=B):(aV s).length<=A*B:=by
 induction s generalizing A with
 |nil=>simp[aV]
 |cons b s ih=>
  rw[oq,dX,rq];simp at h1;obtain⟨A',rfl⟩:∃A',A=A'+1:=⟨A - 1,by omega⟩
  grind
theorem DT{s:List aA}(he:∀b∈s,b.Xs.length % 2=0)(h1:s.length<=1099511627776)(h2:∀b∈s,b.Xs.length<=1099511627776/\b.Xs.length<N)(h3:(aV s).length<=1099511627776):kz N s=some (aV s):=by
 refine UU ?_;unfold kz;refine TZ (UX (λk t=>t=aV (s.take k)) (by omega) rfl<|λk t hk e=>?_)<|λt e=>OF (by rw[e,eM])
 subst e;refine UW hk ?_;have hm:=cH hk;generalize hb:s[k]=b at hm ⊢;have heb:=he b hm;have hbl:=h2 b hm;have hts:aV (s.take<|k+1)=aV (s.take k)++oj b:=by
  grind [dQ,pE,aV]
 have hle:=BW s<|k+1
 rw[hts,dX,rq]at hle;refine TZ (U5 (Go:=λs'=>s'.1=aV (s.take<|k+1)) (Rt:=λ_=>True) (λs'=>∃j:Nat,s'.2=((2*j:Nat):Int)/\2*j<=b.Xs.length/\s'.1=aV (s.take k)++(oj b).take j) (λs'=>b.Xs.length - s'.2.toNat) ?_ ⟨0,rfl,by omega,by simp⟩ (by simp;omega)) ?_
 ·rintro⟨acc,i⟩⟨j,e1,hj,e2⟩;dsimp only at e1 e2 ⊢;subst e1;subst e2;refine Uv (λh=>?_)<|λh=>Un ?_
  ·have hlt:2*j+1<b.Xs.length:=by grind
   refine UW (by omega) ?_;rw[bE (by omega)];refine UW hlt<|UJ ?_<|Uh ⟨⟨j+1,?_,by omega,?_⟩,?_⟩
   ·grind
   ·rw[FD (by omega)];congr 1
   ·rw[kI];congr 1;have hg:(oj b)[j]? =some ⟨b.Xs[2*j],b.Y0,b.Xs[2*j+1],b.Y1⟩:=by
     grind [oj,A4]
    have hjl:=(bQ.1 hg).1;rw[dQ hjl,(bQ.1 hg).2]
   ·rw[FD (by omega)];simp only[cO];omega
  ·have hge:2*j=b.Xs.length:=by have:=of_decide_eq_false h;omega
   show aV (s.take k)++(oj b).take j=_;rw[hts,mF (l:=oj b) (by rw[rq];omega)]
 ·rintro o ho;exact Uo ho (λs' h=>OF h)<|λr=>r.elim
theorem NP{s:List aA}(h1:s.length<=1099511627776)(h2:∀b∈s,b.Xs.length<=1099511627776)(h3:(aV s).length<=1099511627776):nV N s=some (((aV s).length:Nat):Int):=by
 refine UU ?_;unfold nV;refine TZ (UX (λk t=>t=(((aV<|s.take k).length:Nat):Int)) (by omega) rfl<|λk t hk e=>?_)<|λt e=>OF (by rw[e,eM])
 subst e;refine UW hk<|OF ?_
 have hm:=cH hk;have hbl:=h2 _ hm;have hts:aV (s.take<|k+1)=aV (s.take k)++oj s[k]:=by
  grind [dQ,pE,aV]
 grind [hle,BW,dX,rq,Int.tdiv,Int.ofNat_tdiv,Ic,wrap_add]
theorem JA(l m:List aH)(x y:Int):uH (l++m) x y=(uH l x y||uH m x y):=List.any_append
theorem Mu{b:aA}(h:j5 b.Xs)(he:b.Xs.length % 2=0)(x y:Int):uH (oj b) x y=(qU b.Xs x&&(decide (b.Y0<=y)&&decide (y<b.Y1))):=by
 rw[NO h he,jq,kq,cQ,vR,cQ,cY,cY];unfold oj;constructor
 ·grind
 ·rintro⟨⟨p,hp,h1⟩,h2⟩;exact⟨_,dO.2 ⟨p,hp,rfl⟩,h1,h2⟩
theorem qo:∀{s:List aA},fM (s.map cK)->∀x y,uH (aV s) x y=xF (s.map cK) x y
 | [],_,x,y=>rfl
 |b::s,h,x,y=>by
  rw[oq,JA,qo h.tail x y];have hb:=h.each (cK b) (by simp);rw[Mu hb.2.2.1 hb.2.2.2];unfold xF;rw[fN,oe]
  by_cases hy:b.Y0<=y/\y<b.Y1
  ·rw[aG (show(cK b).y0<=y/\y<(cK b).y1 from hy),mM<|λc hc=> .inl (by have:=h.DK c hc;grind [cK]),bY hy.1,bY hy.2];show(qU b.Xs x&&true||false)=qU b.Xs x;simp
  ·rw[aI (show ¬((cK b).y0<=y/\y<(cK b).y1)from hy)];have:(decide (b.Y0<=y)&&decide (y<b.Y1))=false:=by rw[Bool.and_eq_false_iff,decide_eq_false_iff_not,decide_eq_false_iff_not];omega
   rw[this];simp
theorem ru{s:List aA}{r:aH}(h:r∈aV s):∃b∈s,∃p∈DQ b.Xs,r= ⟨p.1,b.Y0,p.2,b.Y1⟩:=by
 unfold aV oj at h
 grind
theorem DU{s:List aA}{X Y:List Int}(h:fM (s.map cK))(hl:Ag X Y (s.map cK))(hx:∀c∈X,small c)(hy:∀c∈Y,small c):∀r∈aV s,EH r/\(r.X0∈X/\r.X1∈X)/\r.Y0∈Y/\r.Y1∈Y:=by
 intro r hr;obtain⟨b,hb,p,hp,rfl⟩:=ru hr;have hm:cK b∈s.map cK:=dO.2 ⟨b,hb,rfl⟩;have hc:=h.each _ hm;have hll:=hl _ hm;have h1:=GA p hp;have h2:=hll.2.2 p.1 h1.1;have h3:=hll.2.2 p.2 h1.2;exact⟨⟨GB hc.2.2.1 p hp,hc.1,hx _ h2,hx _ h3,hy _ hll.1,hy _ hll.2.1⟩,⟨h2,h3⟩,hll.1,hll.2.1⟩
theorem z5{l:List Int}{x:Int}(h:∀c∈l,c<=x):qU l x=(l.length % 2==1):=by grind [qU,Km]
theorem BX{l:List Int}{a x:Int}(h:x<a):qU (l++[a]) x=qU l x:=by grind [qU,DG,pD,Gv]
def Ld(l:List Int):Bool:=l.length % 2==1
theorem DV(l:List Int)(a:Int):Ld (l++[a]) = !Ld l:=by
 unfold Ld
 grind
structure Ie (iG:Bool->Bool->Bool) (a b a' b' out:List Int) (inA inB is:Bool) (pa pb:List Int):Prop where
 ea:a=pa++a'
 eb:b=pb++b'
 oa:inA=Ld pa
 ob:inB=Ld pb
 oo:is=Ld out
 ok:is=iG inA inB
 low:∀c,(c∈pa\/c∈pb\/c∈out)->∀d,(d∈a'\/d∈b')->c<d
 inc:j5 out
 RQ:∀x,(∀d,(d∈a'\/d∈b')->x<d)->qU out x=iG (qU pa x) (qU pb x)
 mem:∀c∈out,c∈pa\/c∈pb
 len:out.length<=pa.length+pb.length
theorem Ie.step{iG:Bool->Bool->Bool}{a b a' b' out:List Int}{inA inB is:Bool}{pa pb:List Int}(I:Ie iG a b a' b' out inA inB is pa pb)(ha:j5 a)(hb:j5 b)(x:Int)(ta tb:List Int)(wa wb:Bool)
  (h1:a'=(if wa then x::ta else ta)) (h2:b'=(if wb then x::tb else tb)) (hw:wa=true\/wb=true) (hx:∀d,(d∈ta\/d∈tb)->x<d):
  Ie iG a b ta tb (if iG (inA ^^ wa) (inB ^^ wb)=is then out else out++[x]) (inA ^^ wa) (inB ^^ wb) (iG (inA ^^ wa)<|inB ^^ wb) (if wa then pa++[x]else pa) (if wb then pb++[x]else pb):=by
 have hxm:x∈a'\/x∈b':=by
  grind
 have hsub:∀d,(d∈ta\/d∈tb)->d∈a'\/d∈b':=λd hd=>by
  grind
 have hlow:∀c,(c∈pa\/c∈pb\/c∈out)->c<x:=λc hc=>I.low c hc x hxm;have hpa:∀c∈(if wa then pa++[x]else pa),c∈pa\/(wa=true/\c=x):=λc hc=>by
  grind
 have hpb:∀c∈(if wb then pb++[x]else pb),c∈pb\/(wb=true/\c=x):=λc hc=>by
  grind
 have hout:∀c∈(if iG (inA ^^ wa) (inB ^^ wb)=is then out else out++[x]),c∈out\/c=x:=λc hc=>by
  grind
 have ooA:(inA ^^ wa)=Ld (if wa then pa++[x]else pa):=by
  rw[I.oa];grind [DV]
 have ooB:(inB ^^ wb)=Ld (if wb then pb++[x]else pb):=by
  rw[I.ob];grind [DV]
 have ooO:iG (inA ^^ wa) (inB ^^ wb)=Ld (if iG (inA ^^ wa) (inB ^^ wb)=is then out else out++[x]):=by
  split
  ·rename_i h;rw[h];exact I.oo
  ·rename_i h;rw[DV,<-I.oo]
   cases hk:iG (inA ^^ wa) (inB ^^ wb) <;> cases his:is <;> simp_all
 refine⟨?_,?_,ooA,ooB,ooO,rfl,?_,?_,?_,?_,?_⟩
 ·rw[I.ea,h1];grind
 ·rw[I.eb,h2];grind
 ·grind
 ·split
  ·exact I.inc
  ·exact I.inc.Mt λc hc=>hlow c<|.inr<|.inr hc
 ·intro y hy
  by_cases hxy:y<x
  ·have e1:qU (if wa then pa++[x]else pa) y=qU pa y:=by grind [BX]
   have e2:qU (if wb then pb++[x]else pb) y=qU pb y:=by grind [BX]
   have e3:qU (if iG (inA ^^ wa) (inB ^^ wb)=is then out else out++[x]) y=qU out y:=by grind [BX]
   rw[e1,e2,e3];refine I.RQ y λd hd=>?_
   grind
  ·rw[z5 (l:=if wa then pa++[x]else pa),z5 (l:=if wb then pb++[x]else pb),z5]
   ·have e1:=ooA;have e2:=ooB;have e3:=ooO;unfold Ld at e1 e2 e3;rw[<-e1,<-e2,<-e3]
   ·intro c hc
    rcases hout c hc with h|rfl
    ·have:=hlow c<|.inr<|.inr h;omega
    ·omega
   ·intro c hc
    rcases hpb c hc with h|⟨_,rfl⟩
    ·have:=hlow c<|.inr<|.inl h;omega
    ·omega
   ·intro c hc
    rcases hpa c hc with h|⟨_,rfl⟩
    ·have:=hlow c<|.inl h;omega
    ·omega
 ·intro c hc;have m1:∀c,c∈pa->c∈(if wa then pa++[x]else pa):=λc h=>by split;exact List.mem_append_left _ h;exact h
  have m2:∀c,c∈pb->c∈(if wb then pb++[x]else pb):=λc h=>by split;exact List.mem_append_left _ h;exact h
  rcases hout c hc with h|rfl
  ·rcases I.mem c h with h|h
   ·exact .inl<|m1 c h
   ·exact .inr<|m2 c h
  ·rcases hw with h|h
   ·left;rw[aG h];simp
   ·right;rw[aG h];simp
 ·have:=I.len;have h3:(if wa then pa++[x]else pa).length+(if wb then pb++[x]else pb).length>=pa.length+pb.length+1:=by
   rcases hw with h|h
   ·subst h;cases wb <;> simp <;> omega
   ·subst h;cases wa <;> simp <;> omega
  split
  ·omega
  ·simp at h3 ⊢;omega
end
section
variable {N:Nat}
theorem kF(x:Int)(l:List Int):idx (x::l) 0=some x:=rfl
theorem vW{α:Type}(x:α)(l:List α):vh (x::l) 1 (((x::l).length:Nat):Int)=some l:=rS (x::l) 1 (by simp)
theorem lU{α:Type}(x:α)(l:List α):decide ((((x::l).length:Nat):Int)>0)=true:=bY (by simp)
theorem yH{α:Type}(x:α)(l:List α):((((x::l).length:Nat):Int)==0)=false:=by rfl
theorem JB{a b:List Int}(ha:j5 a)(hb:j5 b)(h:a≠[]\/b≠[]):∃x ta tb wa wb,a=(if wa then x::ta else ta)/\b=(if wb then x::tb else tb)/\(wa=true\/wb=true)/\(∀d,(d∈ta\/d∈tb)->x<d):=by
 match a,b,ha,hb,h with
 | [],[],_,_,h=>grind
 |x::ta,[],ha,_,_=>exact⟨x,ta,[],true,false,rfl,rfl, .inl rfl,λd hd=>by rcases hd with h|h;exact ha.head d h;cases h⟩
 | [],y::tb,_,hb,_=>exact⟨y,[],tb,false,true,rfl,rfl, .inr rfl,λd hd=>by rcases hd with h|h;cases h;exact hb.head d h⟩
 |x::ta,y::tb,ha,hb,_=>
  rcases Int.lt_trichotomy x y with h|h|h
  ·refine⟨x,ta,y::tb,true,false,rfl,rfl, .inl rfl,λd hd=>?_⟩
   rcases hd with h1|h1
   ·exact ha.head d h1
   ·rcases eH.1 h1 with rfl|h1
    ·exact h
    ·have:=hb.head d h1;omega
  ·subst h;exact⟨x,ta,tb,true,true,rfl,rfl, .inl rfl,λd hd=>by rcases hd with h|h;exact ha.head d h;exact hb.head d h⟩
  ·refine⟨y,x::ta,tb,false,true,rfl,rfl, .inr rfl,λd hd=>?_⟩
   rcases hd with h1|h1
   ·rcases eH.1 h1 with rfl|h1
    ·exact h
    ·have:=ha.head d h1;omega
   ·exact hb.head d h1
theorem Le{φ:Bool->Bool->Option Bool}{iG:Bool->Bool->Bool}(hφ:∀p q,φ p q=some (iG p q))(hk:iG false false=false){a b:List Int}(ha:j5 a)(hb:j5 b)(hae:a.length % 2=0)(hbe:b.length % 2=0)
  (ri:a.length<=1099511627776) (hbl:b.length<=1099511627776) (hN:a.length+b.length<N):
  Ok (tA N a b φ) (λm=>j5 m/\m.length % 2=0/\(∀x,qU m x=iG (qU a x) (qU b x))/\∀c∈m,c∈a\/c∈b):=by
 unfold tA
 refine TZ (U5 (Go:=λs=>j5 s.2.2.1/\s.2.2.1.length % 2=0/\(∀x,qU s.2.2.1 x=iG (qU a x) (qU b x))/\∀c∈s.2.2.1,c∈a\/c∈b) (Rt:=λ_=>True)
  (λs=>∃pa pb,Ie iG a b s.1 s.2.1 s.2.2.1 s.2.2.2.1 s.2.2.2.2.1 s.2.2.2.2.2 pa pb) (λs=>s.1.length+s.2.1.length) ?_ ?_ hN) ?_
 ·rintro⟨a',b',out,inA,inB,is⟩⟨pa,pb,I⟩;dsimp only at I ⊢;have ha':j5 a':=by have:=ha;rw[I.ea]at this;exact(List.pairwise_append.1 this).2.1
  have hb':j5 b':=by have:=hb;rw[I.eb]at this;exact(List.pairwise_append.1 this).2.1
  have hle:pa.length+a'.length=a.length:=by rw[I.ea];simp
  have hlb:pb.length+b'.length=b.length:=by rw[I.eb];simp
  have hlo:=I.len
  by_cases hne:a'≠[]\/b'≠[]
  ·obtain⟨x,ta,tb,wa,wb,h1,h2,hw,hx⟩:=JB ha' hb' hne;have J:=I.step ha hb x ta tb wa wb h1 h2 hw hx;have fin:∀(sa sb:List Int×Bool),sa=(ta,inA ^^ wa)->sb=(tb,inB ^^ wb)->
     Ok ((φ sa.2 sb.2).bind λx220=>(bif x220 != is then((app 8 out ([x]:List Int)).bind λx227=>some (x227,x220))else some (out,is)).bind λs224=>some<|Fl.nx (sa.1,sb.1,s224.1,sa.2,sb.2,s224.2))
      (Nf (λs':List Int×List Int×List Int×Bool×Bool×Bool=>(∃pa pb,Ie iG a b s'.1 s'.2.1 s'.2.2.1 s'.2.2.2.1 s'.2.2.2.2.1 s'.2.2.2.2.2 pa pb)/\s'.1.length+s'.2.1.length<a'.length+b'.length) (λs=>j5 s.2.2.1/\s.2.2.1.length % 2=0/\(∀x,qU s.2.2.1 x=iG (qU a x) (qU b x))/\∀c∈s.2.2.1,c∈a\/c∈b) (λ_:Empty=>True)):=by
    rintro _ _ rfl rfl;refine IT (hφ _ _) ?_;have hlt:ta.length+tb.length<a'.length+b'.length:=by
     rw[h1,h2]
     rcases hw with h|h
     ·subst h;cases wb <;> simp <;> omega
     ·subst h;cases wa <;> simp <;> omega
    by_cases he:iG (inA ^^ wa) (inB ^^ wb)=is
    ·rw[aG he]at J;refine IT (x:=(out,is)) (by grind) ?_;rw[he]at J;exact Uh ⟨⟨_,_,J⟩,hlt⟩
    ·rw[aI he]at J;refine IT (x:=(out++[x],iG (inA ^^ wa)<|inB ^^ wb)) (by grind [kE,aB])<|Uh ⟨⟨_,_,J⟩,hlt⟩
   rcases hw with rfl|rfl
   ·rw[aG rfl]at h1;subst h1;refine IT (x:=true) (by rw[lU,aO]) ?_;rw[aO];have hle2:(bif((b'.length:Nat):Int)==0 then some true else(bif decide ((((x::ta).length:Nat):Int)>0)then((idx (x::ta) 0).bind λx181=>(idx b' 0).bind λx183=>some<|decide<|x181<=x183)else some false))=some true:=by
     cases b' with
     |nil=>rfl
     |cons y b''=>
      rw[yH,aR,lU,aO,kF,aB,kF,aB];have:x<=y:=by
       cases wb with
       |true=>grind
       |false=>have:=hx y (.inr (by grind));omega
      rw[bY this]
    refine IT hle2 ?_;rw[aO];refine IT (x:=x) (by rw[kF,aB]) ?_;refine IT (x:=true) (by simp[lU,aO,kF,aB]) ?_;refine IT (x:=(ta,!inA)) (by grind [vW,aB]) ?_
    cases wb with
    |true=>
     rw[aG rfl]at h2;subst h2;refine IT (x:=true) (by rw[lU,aO,kF,aB];simp) ?_;refine IT (x:=(tb,!inB)) (by rw[aO,vW,aB]) ?_;exact fin _ _ (by simp) (by simp)
    |false=>
     have h2:b'=tb:=h2;subst h2;refine IT (x:=false) ?_ ?_
     ·cases b' with
      |nil=>rfl
      |cons y b''=>
       have:=hx y<|.inr (by simp)
       rw[lU,aO,kF,aB,show(y==x)=false by rw[beq_eq_false_iff_ne];omega]
     ·refine IT (x:=(b',inB)) (by rw[aR]) ?_;exact fin _ _ (by simp) (by simp)
   ·cases wa with
    |true=>
     rw[aG rfl]at h1 h2;subst h1;subst h2;refine IT (x:=true) (by rw[lU,aO]) ?_;rw[aO];refine IT (x:=true) (by rw[yH,aR,lU,aO,kF,aB,kF,aB];simp) ?_;rw[aO];refine IT (x:=x) (by rw[kF,aB]) ?_;refine IT (x:=true) (by rw[lU,aO,kF,aB];simp) ?_;refine IT (x:=(ta,!inA)) (by rw[aO,vW,aB]) ?_;refine IT (x:=true) (by rw[lU,aO,kF,aB];simp) ?_;refine IT (x:=(tb,!inB)) (by rw[aO,vW,aB]) ?_;exact fin _ _ (by simp) (by simp)
    |false=>
     have h1:a'=ta:=h1;rw[aG rfl]at h2;subst h1;subst h2;refine IT (x:=true) (by rw[lU,NI];simp) ?_;rw[aO];refine IT (x:=false) ?_ ?_
     ·rw[yH,aR]
      cases a' with
      |nil=>rfl
      |cons y a''=>
       have:=hx y<|.inl (by simp)
       rw[lU,aO,kF,aB,kF,aB,cD (by omega)]
     ·rw[aR];refine IT (x:=x) (by rw[kF,aB]) ?_;refine IT (x:=false) ?_ ?_
      ·cases a' with
       |nil=>rfl
       |cons y a''=>
        have:=hx y<|.inl (by simp)
        rw[lU,aO,kF,aB,show(y==x)=false by rw[beq_eq_false_iff_ne];omega]
      ·refine IT (x:=(a',inA)) (by rw[aR]) ?_;refine IT (x:=true) (by rw[lU,aO,kF,aB];simp) ?_;refine IT (x:=(tb,!inB)) (by rw[aO,vW,aB]) ?_;exact fin _ _ (by simp) (by simp)
  ·have ea:a'= []:=Classical.byContradiction λh=>hne<|.inl h
   have eb:b'= []:=Classical.byContradiction λh=>hne<|.inr h
   subst ea;subst eb;refine IT (x:=false) rfl ?_;refine Un ⟨I.inc,?_,λx=>?_,λc hc=>?_⟩
   ·have h1:=I.ea;have h2:=I.eb;rw[ny]at h1 h2;have h3:Ld out=false:=by
     rw[<-I.oo,I.ok,I.oa,I.ob,<-h1,<-h2];unfold Ld;rw[hae,hbe];exact hk
    unfold Ld at h3;rw[beq_eq_false_iff_ne]at h3;dsimp only;omega
   ·have:=I.RQ x (λd hd=>by rcases hd with h|h <;> cases h);have h1:=I.ea;have h2:=I.eb;rw[ny]at h1 h2;rw[h1,h2];exact this
   ·have h1:=I.ea;have h2:=I.eb;rw[ny]at h1 h2;rw[h1,h2];exact I.mem c hc
 ·exact⟨[],[],rfl,rfl,rfl,rfl,rfl,hk.symm,λc hc=>(by rcases hc with h|h|h <;> cases h),kg,λx _=>hk.symm,λc hc=>(by cases hc),cJ _⟩
 ·rintro o ho;exact Uo ho (λs h=>OF h)<|λr=>r.elim
theorem fM.app{s t:List Bd}(h:fM (s++t)):fM t:=⟨λb hb=>h.each b<|List.mem_append_right _ hb,(List.pairwise_append.1 h.ord).2.1⟩
theorem fM.low{b:Bd}{s:List Bd}(h:fM (b::s)):∀c∈b::s,b.y0<=c.y0:=λc hc=>by
 rcases eH.1 hc with rfl|hc
 ·exact Int.le_refl _
 ·have:=h.DK c hc;have:=(h.each b (by simp)).1;omega
theorem fM.high{s:List Bd}{b:Bd}(h:fM (s++[b])):∀c∈s++[b],c.y1<=b.y1:=λc hc=>by
 rcases dH.1 hc with hc|hc
 ·have:=((List.pairwise_append.1 h.ord).2.2 c hc b (by simp)).1;have:=(h.each b (by simp)).1;omega
 ·simp at hc;subst hc;exact Int.le_refl _
def I1(s:List aA)(y e:Int):List Int×Int:=match s with
 | []=>([],e)
 |b::_=>if y<b.Y0 then([],if b.Y0<e then b.Y0 else e)else(b.Xs,if b.Y1<e then b.Y1 else e)
theorem Mv{α:Type}(x:α)(l:List α):idx (x::l) 0=some x:=rfl
theorem OO(s:List aA)(y e:Int):oF N s y e=some (I1 s y e):=by
 unfold oF I1
 cases s with
 |nil=>rfl
 |cons b s=>
  grind [yH,Mv,aB,bY,cD]
theorem Kq{s:List aA}{y e:Int}{X Y:List Int}(hc:fM (s.map cK))(hl:Ag X Y (s.map cK))(hh:∀b t,s=b::t->y<b.Y1)(hy:y<e):
  y<(I1 s y e).2/\(I1 s y e).2<=e/\(∀y',y<=y'->y'<(I1 s y e).2->rowAt (s.map cK) y'=(I1 s y e).1)/\j5 (I1 s y e).1/\(I1 s y e).1.length % 2=0/\((I1 s y e).2=e\/(I1 s y e).2∈Y)/\∀c∈(I1 s y e).1,c∈X:=by
 cases s with
 |nil=>exact⟨hy,Int.le_refl _,λy' _ _=>rfl,kg,rfl, .inl rfl,λc hc=>(by cases hc)⟩
 |cons b t=>
  have hb:=hc.each (cK b) (by simp);have hlb:=hl (cK b) (by simp);have h1:=hh b t rfl;unfold I1;dsimp only
  by_cases h:y<b.Y0
  ·rw[aG h];dsimp only;refine⟨by omega,by omega,λy' h2 h3=>?_,kg,rfl,?_,λc hc=>(by cases hc)⟩
   ·exact hc.yD (by show y'<b.Y0;omega)
   ·split
    ·exact .inr hlb.1
    omega
  grind [fM.og,cK]
theorem FE{y:Int}{a:List aA}(hN:a.length<N){body:List aA->Option (Fl (List aA) Empty)}
  (hb:body=λ(s373:List aA)=>((bif decide ((s373.length:Int)>0)then((idx s373 0).bind λx407=>some<|decide<|x407.Y1<=y)else some false).bind λs405=>bif s405 then((vh s373 1 (s373.length:Int)).bind λx410=>some<|.nx x410)else(some<|.br s373):Option (Fl (List aA) Empty))):
  Ok (iD body N a) (RM (λa'=>∃p,a=p++a'/\(∀c∈p,c.Y1<=y)/\∀b t,a'=b::t->y<b.Y1)<|λ_=>True):=by
 subst hb;refine U5 (λa'=>∃p,a=p++a'/\∀c∈p,c.Y1<=y) List.length ?_ ⟨[],rfl,λc hc=>(by cases hc)⟩ hN;rintro a'⟨p,e,hp⟩
 cases a' with
 |nil=>simp_all[IT,Un]
 |cons b t=>
  refine IT (x:=decide<|b.Y1<=y) (by rw[lU,aO,Mv,aB]) ?_;refine Uv (λh=>?_)<|λh=>Un ⟨p,e,hp,λb' t' h'=>?_⟩
  ·have h:=of_decide_eq_true h;refine IT (vW b t)<|Uh ⟨⟨p++[b],by rw[e];simp,λc hc=>?_⟩,by simp⟩
   grind
  grind
theorem Ig{p a':List Bd}{y y':Int}(hp:∀c∈p,c.y1<=y)(h:y<=y'):rowAt (p++a') y'=rowAt a' y':=by
 grind [tf]
structure GC (iG:Bool->Bool->Bool) (X Y:List Int) (a b s:List aA):Prop where
 can:fM (s.map cK)
 cover:∀x y,xF (s.map cK) x y=iG (xF (a.map cK) x y) (xF (b.map cK) x y)
 lim:Ag X Y (s.map cK)
theorem DW{s:List aA}(hs:s≠[])(hl:s.length<=1099511627776)(hc:fM (s.map cK)):∃f l,idx s 0=some f/\idx s (wrap .i64<|((s.length:Nat):Int) - 1)=some l/\f∈s/\l∈s/\∀c∈s,f.Y0<=c.Y0/\c.Y1<=l.Y1:=by
 cases s with
 |nil=>grind
 |cons f t=>
  rw[jU (by simp) (by omega)];have hlt:(f::t).length - 1<(f::t).length:=by simp
  refine⟨f,(f::t)[(f::t).length - 1],rfl,mc _ _ hlt,by simp,cH _,λc hcm=>⟨?_,?_⟩⟩
  ·exact hc.low (cK c)<|dO.2 ⟨c,hcm,rfl⟩
  ·have e:(f::t)=(f::t).dropLast++[(f::t)[(f::t).length - 1]]:=by
    grind [List.dropLast_concat_getLast]
   generalize (f::t)[(f::t).length - 1]=l at e;have hc2:=hc;rw[e,fW]at hc2;have hm:cK c∈(List.map cK (f::t).dropLast++[cK l]):=by
    grind
   exact fM.high hc2 (cK c) hm
theorem JC{φ:Bool->Bool->Option Bool}{iG:Bool->Bool->Bool}(hφ:∀p q,φ p q=some (iG p q))(hk:iG false false=false){a b:List aA}{X Y:List Int}(ca:fM (a.map cK))(cb:fM (b.map cK))
  (la:Ag X Y (a.map cK)) (lb:Ag X Y (b.map cK)) (hX:X.length<=1048576000) (hY:Y.length<=1048576000) (hs:∀c∈Y,small c) (hN:4398046511104<=N):Ok (rL N a b φ) (GC iG X Y a b):=by
 have ri:a.length<=Y.length:=by have:=la.len ca;grind
 have hbl:b.length<=Y.length:=by have:=lb.len cb;grind
 unfold rL;rw[wrap_add (by omega)];refine Uv (λh=>OF ?_)<|λh=>?_
 ·have h:a.length+b.length=0:=by grind
  have e1:a= []:=List.eq_nil_of_length_eq_zero (by omega);have e2:b= []:=List.eq_nil_of_length_eq_zero (by omega);subst e1;subst e2;exact⟨fM.nil,λx y=>hk.symm,λc hc=>(by cases hc)⟩
 have h0:a≠[]\/b≠[]:=by
  grind
 refine TZ (UX (λk s=>match k with| 0=>True| 1=>a= []\/((∀c∈a,s.1<=c.Y0/\c.Y1<=s.2)/\s.1∈Y/\s.2∈Y)|_=>(∀c∈a,s.1<=c.Y0/\c.Y1<=s.2)/\(∀c∈b,s.1<=c.Y0/\c.Y1<=s.2)/\s.1∈Y/\s.2∈Y) (by simp) trivial<|λk s hk hI=>?_) ?_
 ·obtain⟨y,e⟩:=s;have hk:k=0\/k=1:=by grind
  rcases hk with rfl|rfl
  ·refine T6 (x:=a) rfl ?_
   by_cases ea:a= []
   ·grind [IT,OF]
   ·obtain⟨f,l,f1,f2,f3,f4,f5⟩:=DW ea (by omega) ca;have hpos:decide (((a.length:Nat):Int)>0)=true:=bY (by grind);refine IT (x:=(f.Y0,l.Y1)) ?_<|OF<|.inr ⟨f5,(la _<|dO.2 ⟨f,f3,rfl⟩).1,(la _<|dO.2 ⟨l,f4,rfl⟩).2.1⟩
    grind
  ·refine T6 (x:=b) rfl ?_;have hI:a= []\/((∀c∈a,y<=c.Y0/\c.Y1<=e)/\y∈Y/\e∈Y):=hI
   by_cases eb:b= []
   ·subst eb;refine IT (x:=(y,e)) rfl<|OF ?_
    rcases hI with h|⟨h1,h2,h3⟩
    ·rcases h0 with h'|h'
     ·exact absurd h h'
     ·exact absurd rfl h'
    ·exact⟨h1,λc hc=>(by cases hc),h2,h3⟩
   ·obtain⟨f,l,f1,f2,f3,f4,f5⟩:=DW eb (by omega) cb;have hpos:decide (((b.length:Nat):Int)>0)=true:=bY (by have:=List.length_pos_iff.2 eb;omega);have g1:f.Y0∈Y:=(lb _<|dO.2 ⟨f,f3,rfl⟩).1;have g2:l.Y1∈Y:=(lb _<|dO.2 ⟨l,f4,rfl⟩).2.1
    by_cases ea:a= []
    ·subst ea;refine IT (x:=(f.Y0,l.Y1)) ?_<|OF ⟨λc hc=>(by cases hc),f5,g1,g2⟩
     rw[hpos,aO];show((some true).bind _)=_;rw[aB,aO,f1,aB,f2,aB,aB,aB,aB];simp
    ·obtain⟨h1,h2,h3⟩:=hI.resolve_left ea;refine IT (x:=(if f.Y0<y then f.Y0 else y,if e<l.Y1 then l.Y1 else e)) ?_<|OF ⟨λc hc=>?_,λc hc=>?_,?_,?_⟩
     ·rw[hpos,aO];have ez:(((a.length:Nat):Int)==0)=false:=by rw[beq_eq_false_iff_ne];have:=List.length_pos_iff.2 ea;omega
      rw[ez];show((some false).bind _)=_;rw[aB,aR,aB,f1,aB,f2,aB]
     ·have:=h1 c hc;dsimp only;split <;> split <;> omega
     ·have:=f5 c hc;dsimp only;split <;> split <;> omega
     ·dsimp only;split
      ·exact g1
      ·exact h2
     ·dsimp only;split
      ·exact g2
      ·exact h3
 ·rintro⟨y0,e0⟩hI;have hI:(∀c∈a,y0<=c.Y0/\c.Y1<=e0)/\(∀c∈b,y0<=c.Y0/\c.Y1<=e0)/\y0∈Y/\e0∈Y:=hI;obtain⟨ia,ib,iy,ie⟩:=hI;have sy:=hs _ iy;have se:=hs _ ie;unfold small at sy se;dsimp only
  refine TZ (U5 (Go:=λs=>GC iG X Y a b s.2.2.1) (Rt:=λ_=>True)
   (λs=>∃pa pb,a=pa++s.1/\b=pb++s.2.1/\(∀c∈pa,c.Y1<=s.2.2.2)/\(∀c∈pb,c.Y1<=s.2.2.2)/\y0<=s.2.2.2/\s.2.2.2<=max y0 e0/\s.2.2.2∈Y/\fM (s.2.2.1.map cK)/\Ag X Y (s.2.2.1.map cK)/\(∀c∈s.2.2.1,c.Y1<=s.2.2.2)/\
    ∀x y,xF (s.2.2.1.map cK) x y=(iG (xF (a.map cK) x y) (xF (b.map cK) x y)&&decide (y<s.2.2.2)))
   (λs=>(e0 - s.2.2.2).toNat) ?_ ?_ (by dsimp only;omega)) ?_
  ·rintro⟨a',b',out,y⟩⟨pa,pb,ea,eb,hpa,hpb,hy0,hye,hyY,hcan,hlim,htop,hcov⟩;dsimp only at ea eb hpa hpb hy0 hye hyY hcan hlim htop hcov ⊢;refine Uv (λh=>?_)<|λh=>Un ?_
   ·have hlt:y<e0:=of_decide_eq_true h;have hsl:∀(p s t:List aA),t=p++s->s.length<=t.length:=λp s t e=>by rw[e];simp
    have hal':=hsl _ _ _ ea;have hbl':=hsl _ _ _ eb;refine TZ (FE (y:=y) (a:=a') (by omega) rfl)<|λo ho=>Uo ho ?_<|λr=>r.elim
    rintro a2⟨qa,ea2,hqa,hha⟩;refine TZ (FE (y:=y) (a:=b') (by omega) rfl)<|λo ho=>Uo ho ?_<|λr=>r.elim
    rintro b2⟨qb,eb2,hqb,hhb⟩;have ea3:a=(pa++qa)++a2:=by rw[ea,ea2];simp
    have eb3:b=(pb++qb)++b2:=by rw[eb,eb2];simp
    have hPa:∀c∈pa++qa,c.Y1<=y:=λc hc=>by rcases dH.1 hc with h|h;exact hpa c h;exact hqa c h
    have hPb:∀c∈pb++qb,c.Y1<=y:=λc hc=>by rcases dH.1 hc with h|h;exact hpb c h;exact hqb c h
    have ca2:fM (a2.map cK):=by have:=ca;rw[ea3,fW]at this;exact this.app
    have cb2:fM (b2.map cK):=by have:=cb;rw[eb3,fW]at this;exact this.app
    have la2:Ag X Y (a2.map cK):=λc hc=>la c (by rw[ea3,fW];exact List.mem_append_right _ hc);have lb2:Ag X Y (b2.map cK):=λc hc=>lb c (by rw[eb3,fW];exact List.mem_append_right _ hc);refine IT (OO a2 y e0)<|IT (OO b2 y e0) ?_
    obtain⟨a1,a3,a4,a5,a6,a7,a8⟩:=Kq ca2 la2 hha hlt;obtain⟨b1,b3,b4,b5,b6,b7,b8⟩:=Kq cb2 lb2 hhb hlt;have hal2:(I1 a2 y e0).1.length<=X.length:=gA a5.nodup a8;have hbl2:(I1 b2 y e0).1.length<=X.length:=gA b5.nodup b8;generalize I1 a2 y e0=pa2 at *;generalize I1 b2 y e0=pb2 at *;obtain⟨xa,n⟩:=pa2;obtain⟨xb,m⟩:=pb2;dsimp only at *;refine TZ (Le hφ hk a5 b5 a6 b6 (by omega) (by omega) (by omega)) ?_;rintro row⟨r1,r2,r3,r4⟩;have hnx:∃nx,nx=(if m<n then m else n)/\y<nx/\nx<=e0/\nx<=n/\nx<=m/\nx∈Y:=by
     refine⟨_,rfl,by split <;> omega,by split <;> omega,by split <;> omega,by split <;> omega,?_⟩;split
     ·rcases b7 with h|h
      ·rw[h];exact ie
      ·exact h
     ·rcases a7 with h|h
      ·rw[h];exact ie
      ·exact h
    obtain⟨nx,hnx,n1,n2,n3,n4,n5⟩:=hnx;rw[<-hnx];have hol:out.length<=Y.length:=by have:=hlim.len hcan;rwa[eB]at this
    obtain⟨out',p1,p2⟩:=Ko (N:=N) (s:=out) (b:=⟨y,nx,row⟩) (by omega) (λc hc=>by
     have:=hlim.row hcan (b:=cK c)<|dO.2 ⟨c,hc,rfl⟩
     have e:(cK c).xs=c.Xs:=rfl
     rw[e]at this;omega)
    refine IT p1 ?_;have htop':∀c∈out.map cK,c.y1<=(cK ⟨y,nx,row⟩).y0:=λc hc=>by
     obtain⟨d,hd,rfl⟩:=dO.1 hc;exact htop d hd
    refine Uh ⟨⟨pa++qa,pb++qb,ea3,eb3,λc hc=>by have:=hPa c hc;dsimp only;omega,λc hc=>by have:=hPb c hc;dsimp only;omega,by dsimp only;omega,by dsimp only;omega,n5,by dsimp only;rw[p2];exact yF hcan htop' r1 r2,?_,λc hc=>?_,λx y'=>?_⟩,by dsimp only;omega⟩
    ·dsimp only;rw[p2];refine hlim.push hyY n5<|λc hc=>?_
     rcases r4 c hc with h|h
     ·exact a8 c h
     ·exact b8 c h
    ·have hm':cK c∈kp (out.map cK) (cK ⟨y,nx,row⟩):=by rw[<-p2];exact dO.2 ⟨c,hc,rfl⟩
     exact yG htop' (by show y<=nx;omega) _ hm'
    ·show qU (rowAt (out'.map cK) y') x=_;rw[p2,yE htop' (λc hc=>(hcan.each c hc).1)<|λh=>absurd h (by show ¬nx<=y;omega)]
     by_cases hyy:y<=y'/\y'<nx
     ·rw[aG (show(cK ⟨y,nx,row⟩).y0<=y'/\y'<(cK ⟨y,nx,row⟩).y1 from hyy),bY hyy.2,Bool.and_true];show qU row x=_;have mp:∀p q:List aA,(∀c∈p++q,c.Y1<=y)->∀c∈(p++q).map cK,c.y1<=y:=λp q h c hc=>by
       obtain⟨d,hd,rfl⟩:=dO.1 hc;exact h d hd
      have q1:xF (a.map cK) x y'=qU xa x:=by
       unfold xF;rw[ea3,fW,Ig (mp _ _ hPa) hyy.1,a4 y' hyy.1 (by omega)]
      have q2:xF (b.map cK) x y'=qU xb x:=by
       unfold xF;rw[eb3,fW,Ig (mp _ _ hPb) hyy.1,b4 y' hyy.1 (by omega)]
      rw[r3,q1,q2]
     ·rw[aI (show ¬((cK ⟨y,nx,row⟩).y0<=y'/\y'<(cK ⟨y,nx,row⟩).y1)from hyy)];show xF (out.map cK) x y'=_;rw[hcov]
      by_cases h1:y'<y
      ·rw[bY h1,bY (show y'<nx by omega)]
      ·rw[cD h1,cD (show ¬y'<nx by omega)]
   ·have hge:e0<=y:=by have:=of_decide_eq_false h;omega
    refine⟨hcan,λx y'=>?_,hlim⟩;dsimp only;rw[hcov]
    by_cases h1:y'<y
    ·rw[bY h1,Bool.and_true]
    ·have z:∀s:List aA,(∀c∈s,y0<=c.Y0/\c.Y1<=e0)->xF (s.map cK) x y'=false:=λs h=>by
      unfold xF;rw[mM λc hc=>?_]
      ·rfl
      ·obtain⟨d,hd,rfl⟩:=dO.1 hc;exact .inr (by have:=(h d hd).2;show d.Y1<=y';omega)
     rw[z a ia,z b ib,hk];rfl
  ·refine⟨[],[],rfl,rfl,λc hc=>(by cases hc),λc hc=>(by cases hc),Int.le_refl _,by dsimp only;omega,iy,fM.nil,λc hc=>(by cases hc),λc hc=>(by cases hc),λx y=>?_⟩;dsimp only;show false=_
   by_cases h1:y<y0
   ·have z:∀s:List aA,(∀c∈s,y0<=c.Y0/\c.Y1<=e0)->xF (s.map cK) x y=false:=λs h=>by
     unfold xF;rw[mM λc hc=>?_]
     ·rfl
     ·obtain⟨d,hd,rfl⟩:=dO.1 hc;exact .inl (by have:=(h d hd).1;show y<d.Y0;omega)
    rw[z a ia,z b ib,hk];rfl
   ·rw[cD h1,Bool.and_false]
  ·rintro o ho;exact Uo ho (λs h=>OF h)<|λr=>r.elim
theorem Lg{a b:List aA}{X Y:List Int}(ca:fM (a.map cK))(cb:fM (b.map cK))(la:Ag X Y (a.map cK))(lb:Ag X Y (b.map cK))(hX:X.length<=1048576000)(hY:Y.length<=1048576000)(hs:∀c∈Y,small c)(hN:4398046511104<=N):
  Ok (mm N a b) (GC (λp q=>p&& !q) X Y a b):=by
 unfold mm;exact TZ (JC (iG:=λp q=>p&& !q) (λp q=>rfl) rfl ca cb la lb hX hY hs hN)<|λs h=>OF h
end
section
variable {N:Nat}
structure UF (n:Nat) (up:List Int) (r:Nat->Nat):Prop where
 len:up.length=n
 rt:∀i,i<n->∃u:Nat,up[i]? =some ((u:Nat):Int)/\u<=i/\r u=r i/\(u=i↔r i=i)
theorem UF.le{n:Nat}{up:List Int}{r:Nat->Nat}(h:UF n up r):∀i,i<n->r i<=i:=by
 intro i
 induction i using Nat.strongRecOn with
 |ind i ih=>
  intro hi;obtain⟨u,_,h2,h3,h4⟩:=h.rt i hi
  grind
theorem UF.rr{n:Nat}{up:List Int}{r:Nat->Nat}(h:UF n up r):∀i,i<n->r (r i)=r i:=by
 intro i
 induction i using Nat.strongRecOn with
 |ind i ih=>
  intro hi;obtain⟨u,_,h2,h3,h4⟩:=h.rt i hi
  grind
theorem qR{l:List Int}{j:Nat}{v:Int}{i:Nat}(hj:j<l.length):(l.set j v)[i]? =if i=j then some v else l[i]? :=by
 grind
theorem UF.init(n:Nat)(up:List Int)(h1:up.length=n)(h2:∀i,i<n->up[i]? =some ((i:Nat):Int)):UF n up (λi=>i):=
 ⟨h1,λi hi=>⟨i,h2 i hi,cJ _,rfl,by simp⟩⟩
theorem yg{n:Nat}(hn:n<=1048576000):∃up,kN N ((n:Nat):Int)=some up/\UF n up (λi=>i):=by
 unfold kN;rw[oO 0 (by omega),aB];have h0:(List.replicate n (0:Int)).length=n:=by simp
 obtain⟨s',h1,h2⟩:=C2 (m:=(List.replicate n (0:Int)).length) (s:=List.replicate n (0:Int)) (body:=λ(k34:Nat)(s35:List Int)=>((idx s35 (k34:Int)).bind λx38=>some (s35.set (Int.toNat (k34:Int)) (k34:Int)):Option (List Int)))
  (λk s=>s.length=n/\∀i,i<k->s[i]? =some ((i:Nat):Int)) (by omega) ⟨h0,λi hi=>by omega⟩ (λk s hk⟨hs,hi⟩=>by
   grind [mc,aB,cO,qR])
 grind [aB,UF.init]
theorem sE{n:Nat}{up:List Int}{r:Nat->Nat}(h:UF n up r){i:Nat}(hi:i<n)(hn:n<N):∃up',fG N up ((i:Nat):Int)=some (((r i:Nat):Int),up')/\UF n up' r:=by
 unfold fG;obtain⟨o,h1,h2⟩:=AM (R:=Empty) (body:=λ(s32:List Int×Int)=>((idx s32.1 s32.2).bind λx43=>bif x43 != s32.2 then((idx s32.1 s32.2).bind λx44=>(idx s32.1 x44).bind λx45=>(idx s32.1 s32.2).bind λx46=>(idx (s32.1.set (Int.toNat s32.2) x45) s32.2).bind λx47=>some<|.nx (s32.1.set (Int.toNat s32.2) x45,x47))else(some<|.br (s32.1,s32.2)):Option (Fl (List Int×Int) Empty)))
  (λs=>UF n s.1 r/\∃j:Nat,s.2=((j:Nat):Int)/\j<n/\r j=r i) (λs=>s.2.toNat) (λs=>s.2=((r i:Nat):Int)/\UF n s.1 r) (λ_=>True) (λs⟨hu,j,hj,hjn,hr⟩=>by
   obtain⟨l,y⟩:=s;dsimp only at hu hj ⊢;subst hj;obtain⟨u,a1,a2,a3,a4⟩:=hu.rt j hjn;rw[cG a1,aB]
   by_cases e:u=j
   ·simp_all
   ·obtain⟨v,b1,b2,b3,b4⟩:=hu.rt u (by omega);have hl:=hu.len
    refine⟨.nx (l.set j ((v:Nat):Int),((v:Nat):Int)),by
     grind [aB,cG,cO,qR],⟨⟨by simp[hl],λk hk=>?_⟩,v,rfl,by omega,?_⟩,?_⟩
    ·rw[qR (by omega)]
     by_cases e2:k=j
     ·grind
     ·rw[aI e2];exact hu.rt k hk
    ·omega
    omega)
  N (up,((i:Nat):Int)) ⟨h,i,rfl,hi,rfl⟩ (by omega)
 rw[h1,aB]
 cases o with
 |go s'=>exact⟨s'.1,by rw[<-h2.1];rfl,h2.2⟩
 |rt r=>exact r.elim
def sI(r:Nat->Nat)(a b:Nat):Nat->Nat:=λx=>if r x=max a b then min a b else r x
theorem Mw(a b:Nat):(if((a:Nat):Int)<((b:Nat):Int)then((b:Nat):Int)else((a:Nat):Int))=((max a b:Nat):Int):=by
 omega
theorem Mx(a b:Nat):(if((b:Nat):Int)<((a:Nat):Int)then((b:Nat):Int)else((a:Nat):Int))=((min a b:Nat):Int):=by
 omega
theorem Kr{n:Nat}{up:List Int}{r:Nat->Nat}(h:UF n up r){i k:Nat}(hi:i<n)(hk:k<n)(hn:n<N):
  ∃up',fL N up ((i:Nat):Int) ((k:Nat):Int)=some up'/\UF n up' (sI r (r i)<|r k):=by
 obtain⟨u1,a1,a2⟩:=sE h hi hn;obtain⟨u2,b1,b2⟩:=sE a2 hk hn;have hri:=h.le i hi;have hrk:=h.le k hk;have rri:=h.rr i hi;have rrk:=h.rr k hk;unfold fL;rw[a1,aB,b1,aB];dsimp only;rw[Mw,Mx];have hm:max (r i) (r k)<n:=by omega
 have hl:=b2.len;rw[mc _ _ (by omega),aB,cO];refine⟨_,rfl,by simp[hl],λx hx=>?_⟩;have rmax:r (max (r i)<|r k)=max (r i) (r k):=by grind
 have rmin:r (min (r i)<|r k)=min (r i) (r k):=by grind
 rw[qR (by omega)]
 by_cases e:x=max (r i) (r k)
 ·grind [Min.min,sI]
 ·rw[aI e];obtain⟨u,c1,c2,c3,c4⟩:=b2.rt x hx
  grind [sI,Min.min,Max.max]
def nv(r:Nat->Nat)(E:List (Nat×Nat)):Prop:=∀p∈E,r p.1=r p.2
def xC(n:Nat)(r:Nat->Nat)(E:List (Nat×Nat)):Prop:=∀S:Nat->Prop,(∀p∈E,S p.1↔S p.2)->∀i j,i<n->j<n->r i=r j->S i->S j
theorem nv.join{r:Nat->Nat}{E:List (Nat×Nat)}(h:nv r E)(i k:Nat)(_h2:r (r i)=r i):nv (sI r (r i)<|r k) (E++[(i,k)]):=λp hp=>by
 rcases dH.1 hp with hp|hp
 ·unfold sI;rw[h p hp]
 ·simp at hp;subst hp;unfold sI;dsimp only;split <;> split <;> omega
theorem xC.join{n:Nat}{r:Nat->Nat}{E:List (Nat×Nat)}(h:xC n r E){i k:Nat}(hi:i<n)(hk:k<n):xC n (sI r (r i)<|r k) (E++[(i,k)]):=λS hS x y hx hy hr hSx=>by
 have hE:∀p∈E,S p.1↔S p.2:=λp hp=>hS p<|List.mem_append_left _ hp
 have hik:S i↔S k:=hS (i,k) (by simp);have key:=h S hE;unfold sI at hr
 by_cases h1:r x=r y
 ·exact key x y hx hy h1 hSx
 ·have:(r x=r i/\r y=r k)\/(r x=r k/\r y=r i):=by
   split at hr <;> split at hr <;> omega
  rcases this with⟨e1,e2⟩|⟨e1,e2⟩
  ·exact key k y hk hy e2.symm<|hik.1<|key x i hx hi e1 hSx
  ·exact key i y hi hy e2.symm<|hik.2<|key x k hx hk e1 hSx
theorem xC.id(n:Nat):xC n (λi=>i) []:=λS _ i j _ _ h hs=>by
 have h:i=j:=h;subst h;exact hs
theorem nv.id:nv (λi=>i) []:=λp hp=>by simp at hp
def bP(n:Nat)(r:Nat->Nat):List Nat:=(List.range n).filter<|λk=>decide<|r k=k
def cls(n:Nat)(r:Nat->Nat)(k:Nat):List Nat:=(List.range n).filter<|λi=>decide<|r i=k
theorem ij(n:Nat)(r:Nat->Nat):bP (n+1) r=if r n=n then bP n r++[n]else bP n r:=by
 grind [bP,List.range_succ]
theorem yh(n:Nat)(r:Nat->Nat)(k:Nat):cls (n+1) r k=if r n=k then cls n r k++[n]else cls n r k:=by
 grind [cls,List.range_succ]
theorem lH(n:Nat)(r:Nat->Nat):(bP n r).length<=n:=by
 have:=nA (λk=>decide<|r k=k)<|List.range n
 rw[List.length_range]at this;exact this
theorem A5(n:Nat)(r:Nat->Nat)(k:Nat):(cls n r k).length<=n:=by
 have:=nA (λi=>decide<|r i=k)<|List.range n
 rw[List.length_range]at this;exact this
theorem iw{n k:Nat}{r:Nat->Nat}:k∈bP n r↔k<n/\r k=k:=by simp[bP]
theorem mE(n:Nat)(r:Nat->Nat):(bP n r).Nodup:=List.Nodup.sublist List.filter_sublist List.nodup_range
def t7(n:Nat)(r:Nat->Nat):List (List Int):=(bP n r).map<|λk=>(cls n r k).map<|λi=>((i:Nat):Int)
theorem Ks{n k:Nat}{r:Nat->Nat}(h:∀i,i<n->r i<=i)(hk:n<=k):cls n r k= []:=by
 grind [cls,List.filter_eq_nil_iff]
theorem yi{α β:Type}(f g:α->β)(l:List α)(j:Nat)(a:α)(hn:l.Nodup)(hj:l[j]? =some a)(hf:∀b,b∈l->b≠a->f b=g b):(l.map f).set j (g a)=l.map g:=by
 apply List.ext_getElem?;intro i;have hjl:=(bQ.1 hj).1;rw[ll,eB,il,il]
 grind [bQ,List.getElem_inj,fR]
def RR(n:Nat)(r:Nat->Nat)(m:List (Int×Int)):Prop:=∀(j k:Nat),(bP n r)[j]? =some k->fK m ((k:Nat):Int) 0=((j:Nat):Int)
theorem NQ{n:Nat}{up:List Int}{r:Nat->Nat}(h:UF n up r)(hn:n<N)(hn2:n<=1048576000):∃up',kW N up=some (t7 n r,up')/\UF n up' r:=by
 unfold kW;have hlen:=h.len;have hle:=h.le;have hrr:=h.rr;obtain⟨s',h1,h2⟩:=C2 (m:=up.length) (s:=(up,([]:List (List Int)),([]:List (Int×Int))))
  (body:=λ(k32:Nat)(s33:List Int×List (List Int)×List (Int×Int))=>((fG N s33.1 (k32:Int)).bind λx117=>(bif x117.1==(k32:Int)then((app 24 s33.2.1 [([]:List Int)]).bind λx126=>some (x126,rJ s33.2.2 (k32:Int) (s33.2.1.length:Int)))else some (s33.2.1,s33.2.2)).bind λs122=>(idx s122.1<|fK s122.2 x117.1 (0:Int)).bind λx128=>(app 8 x128 ([(k32:Int)]:List Int)).bind λx134=>(idx s122.1<|fK s122.2 x117.1 (0:Int)).bind λx136=>some (x117.2,s122.1.set (Int.toNat<|fK s122.2 x117.1 (0:Int)) x134,s122.2):Option (List Int×List (List Int)×List (Int×Int))))
  (λk s=>UF n s.1 r/\s.2.1=t7 k r/\RR k r s.2.2) (by omega) ⟨h,rfl,λj k hj=>by grind [bP]⟩ (λk s hk⟨hu,hs,hm⟩=>by
   obtain⟨l,ss,m⟩:=s;dsimp only at hu hs hm ⊢;subst hs;rw[hlen]at hk;obtain⟨u',a1,a2⟩:=sE hu hk hn;rw[a1,aB];dsimp only;have hhl:=lH k r;have hsl:(t7 k r).length=(bP k r).length:=by simp[t7]
   have hrk:=hle k hk
   by_cases e:r k=k
   ·
    rw[show(((r k:Nat):Int)==((k:Nat):Int))=true by rw[e];simp,aO,kE (by grind),aB,aB];dsimp only;rw[e,lG,aG rfl,hsl];have hi:(t7 k r++[([]:List Int)])[(bP k r).length]? =some []:=by grind
    rw[cG hi,aB,kE (by simp),aB,aB,cO];refine⟨_,rfl,a2,?_,λj q hj=>?_⟩
    ·dsimp only;rw[<-hsl,List.set_append_right _ _<|cJ _,Nat.sub_self];unfold t7;rw[ij,aG e,fW];congr 1
     ·grind [List.map_congr_left,iw,yh]
     grind [yh,Ks,hle]
    ·dsimp only;rw[ij,aG e]at hj;rw[lG]
     by_cases e2:j<(bP k r).length
     ·rw[jI e2]at hj;have:=(iw.1<|fR hj).1;rw[aI (by omega)];exact hm j q hj
     ·rw[jJ (by omega)]at hj;have hj0:j -(bP k r).length=0:=by
       have:=(bQ.1 hj).1;simp at this;omega
      rw[hj0]at hj;simp at hj;subst hj;rw[aG rfl];congr 1;omega
   ·rw[show(((r k:Nat):Int)==((k:Nat):Int))=false by simp;omega,aR,aB];dsimp only;have hh:r k∈bP k r:=iw.2 ⟨by omega,hrr k hk⟩;obtain⟨j,hj⟩:=eE hh;rw[hm j (r k) hj];have hcl:=A5 k r<|r k
    have hi:(t7 k r)[j]? =some ((cls k r<|r k).map<|λi=>((i:Nat):Int)):=by unfold t7;rw[il,hj];rfl
    rw[cG hi,aB,kE (by simp;omega),aB,aB,cO];refine⟨_,rfl,a2,?_,λj' q hj'=>?_⟩
    ·unfold t7;rw[ij,aI e]
     have:=yi (λa=>(cls k r a).map (λi=>((i:Nat):Int))) (λa=>(cls (k+1) r a).map (λi=>((i:Nat):Int))) (bP k r) j (r k) (mE k r) hj (λb hb hne=>by
      rw[yh,aI (λh=>hne h.symm)])
     rw[yh,aG rfl,fW]at this;exact this
    ·rw[ij,aI e]at hj';exact hm j' q hj')
 rw[h1,aB];obtain⟨l,ss,m⟩:=s';dsimp only at h2;rw[hlen]at h2;refine⟨l,?_,h2.1⟩;rw[<-h2.2.1]
end
section
variable {N:Nat}
theorem GD{n:Nat}{up:List Int}{r:Nat->Nat}(h:UF n up r){i:Nat}(hi:i<n)(hn:n<N):∃up',gr N ((i:Nat):Int) up=some (((r i:Nat):Int),up')/\UF n up' r:=by
 unfold gr
 have:=TZ (β:=Int×List Int) (Q:=λx=>x.1=((r i:Nat):Int)/\UF n x.2 r) (U5 (body:=λ(s32:Int×(List Int))=>((idx s32.2 s32.1).bind λx43=>bif(x43 != s32.1)then((idx s32.2 s32.1).bind λx44=>(idx s32.2 x44).bind λx45=>(idx s32.2 s32.1).bind λx46=>(idx (s32.2.set (Int.toNat s32.1) x45) s32.1).bind λx47=>some (.nx (x47,(s32.2.set (Int.toNat s32.1) x45))))else(some (.br (s32.1,s32.2))):Option (Fl (Int×(List Int)) Empty)))
  (N:=N) (s:=(((i:Nat):Int),up)) (Go:=λs=>s.1=((r i:Nat):Int)/\UF n s.2 r) (Rt:=λ_=>True) (λs=>UF n s.2 r/\∃j:Nat,s.1=((j:Nat):Int)/\j<n/\r j=r i) (λs=>s.1.toNat) (by
   rintro⟨y,l⟩⟨hu,j,hj,hjn,hr⟩;dsimp only at hu hj ⊢;subst hj;obtain⟨u,a1,a2,a3,a4⟩:=hu.rt j hjn;refine T6 a1 ?_
   by_cases e:u=j
   ·grind [Un]
   ·obtain⟨v,b1,b2,b3,b4⟩:=hu.rt u (by omega);have hl:=hu.len;rw[show(((u:Nat):Int) != ((j:Nat):Int))=true by simp;omega,aO];refine T6 a1<|T6 b1<|T6 a1<|T6 (x:=((v:Nat):Int)) (by grind)<|Uh ⟨⟨⟨by simp[hl],λk hk=>?_⟩,v,rfl,by omega,?_⟩,?_⟩
    ·rw[cO,qR (by omega)]
     by_cases e2:k=j
     ·grind
     ·rw[aI e2];exact hu.rt k hk
    ·omega
    omega)
  ⟨h,i,rfl,hi,rfl⟩ (by omega))
  (λo ho=>Uo (f:=λ(s32:Int×List Int)=>some (s32.1,s32.2)) (g:=λr:Empty=>r.elim) ho (λs h=>OF h)<|λr=>r.elim)
 obtain⟨⟨x,up'⟩,h1,h2,h3⟩:=this
 grind
theorem My{n:Nat}{up:List Int}{r:Nat->Nat}(h:UF n up r){i k:Nat}(hi:i<n)(hk:k<n){f:List Int->Option (List Int)}(hn:n<N):
  ∃up',((gr N ((i:Nat):Int) up).bind λx840=>(gr N ((k:Nat):Int) x840.2).bind λx842=>(idx x842.2 (if x840.1<x842.1 then x842.1 else x840.1)).bind λx844=>some<|x842.2.set (Int.toNat (if x840.1<x842.1 then x842.1 else x840.1)) (if x842.1<x840.1 then x842.1 else x840.1))=some up'/\UF n up' (sI r (r i)<|r k):=by
 obtain⟨u1,a1,a2⟩:=GD h hi hn;obtain⟨u2,b1,b2⟩:=GD a2 hk hn;obtain⟨v1,c1,c2⟩:=sE h hi hn;have hri:=h.le i hi;have hrk:=h.le k hk;have rri:=h.rr i hi;have rrk:=h.rr k hk;rw[a1,aB,b1,aB];dsimp only;rw[Mw,Mx];have hm:max (r i) (r k)<n:=by omega
 have hl:=b2.len;rw[mc _ _ (by omega),aB,cO];refine⟨_,rfl,by simp[hl],λx hx=>?_⟩;have rmax:r (max (r i)<|r k)=max (r i) (r k):=by grind
 have rmin:r (min (r i)<|r k)=min (r i) (r k):=by grind
 rw[qR (by omega)]
 by_cases e:x=max (r i) (r k)
 ·grind [Min.min,sI]
 ·rw[aI e];obtain⟨u,c1,c2,c3,c4⟩:=b2.rt x hx
  grind [sI,Max.max]
def kd(s:List aA)(k:Nat):Nat:=(aV<|s.take k).length
theorem BZ{s:List aA}{k:Nat}(h:k<s.length):kd s (k+1)=kd s k+s[k].Xs.length / 2:=by
 grind [kd,dQ,pE,dX,aV,oj,rq]
theorem B0{s:List aA}{k m:Nat}(h:k<=m):kd s k<=kd s m:=by
 unfold kd;have:=BW (s.take m) k
 grind
theorem Ih(s:List aA):kd s s.length=(aV s).length:=by simp[kd,eM]
theorem NR{s:List aA}{k t:Nat}(h:k<s.length)(ht:2*t+1<s[k].Xs.length):(aV s)[kd s k+t]? =some ⟨s[k].Xs[2*t],s[k].Y0,s[k].Xs[2*t+1],s[k].Y1⟩:=by
 have e:aV s=aV (s.take k)++(oj s[k]++aV (s.drop<|k+1)):=by
  grind [List.take_append_drop,wk,pE,oq]
 grind [kd,jJ,Nat.add_sub_cancel_left,jI,rq,oj,A4]
theorem Kt{s:List aA}{i:Nat}(h:i<(aV s).length):∃k,k<s.length/\kd s k<=i/\i<kd s (k+1):=by
 have key:∀m,m<=s.length->i<kd s m->∃k,k<m/\kd s k<=i/\i<kd s (k+1):=by
  intro m
  induction m with
  |zero=>simp[kd,aV]
  |succ m ih=>
   grind
 grind [Ih]
def GF(a c:aH):Prop:=a.Y1=c.Y0/\a.X0<c.X1/\c.X0<a.X1
def Bp(all:List aH)(i j:Nat):Prop:=∃a c,all[i]? =some a/\all[j]? =some c/\GF a c
theorem yI{s:List aA}(he:∀b∈s,b.Xs.length % 2=0){k i:Nat}(hk:k<s.length)(h1:kd s k<=i)(h2:i<kd s (k+1)):∃t,i=kd s k+t/\∃h:2*t+1<s[k].Xs.length,(aV s)[i]? =some ⟨s[k].Xs[2*t],s[k].Y0,s[k].Xs[2*t+1],s[k].Y1⟩:=by
 rw[BZ hk]at h2;have:=he _<|cH hk
 refine⟨i - kd s k,by omega,by omega,?_⟩;have h3:=NR (t:=i - kd s k) hk (by omega)
 grind
theorem DX{s:List aA}(hc:fM (s.map cK)){p q:Nat}(hp:p<s.length)(hq:q<s.length)(h:p<q):s[p].Y1<=s[q].Y0:=by
 have:=nz.1 hc.ord p q (by simp;omega) (by simp;omega) h;simp only[List.getElem_map]at this;exact this.1
theorem DY{s:List aA}(hc:fM (s.map cK)){p:Nat}(hp:p<s.length):s[p].Y0<s[p].Y1:=(hc.each (cK s[p])<|dO.2 ⟨_,cH hp,rfl⟩).1
theorem vX{s:List aA}(hc:fM (s.map cK)):∀b∈s,b.Xs.length % 2=0:=λb hb=>(hc.each (cK b)<|dO.2 ⟨b,hb,rfl⟩).2.2.2
theorem Ku{s:List aA}(hc:fM (s.map cK)):∀b∈s,j5 b.Xs:=λb hb=>(hc.each (cK b)<|dO.2 ⟨b,hb,rfl⟩).2.2.1
theorem Ii{s:List aA}(hc:fM (s.map cK)){i j q:Nat}(hq:q<s.length)(h1:kd s q<=j)(h2:j<kd s (q+1))(ht:Bp (aV s) i j):∃hq0:0<q,s[q - 1].Y1=s[q].Y0/\kd s (q - 1)<=i/\i<kd s q:=by
 obtain⟨a,c,ha,hb,e1,e2,e3⟩:=ht;obtain⟨t,e4,ht,hj⟩:=yI (vX hc) hq h1 h2;rw[hj]at hb;injection hb with hb;subst hb
 have hil:=(bQ.1 ha).1;obtain⟨p,hp,p1,p2⟩:=Kt hil;obtain⟨u,e5,hu,hi⟩:=yI (vX hc) hp p1 p2;rw[hi]at ha;injection ha with ha;subst ha
 have e1:s[p].Y1=s[q].Y0:=e1;have hpp:=DY hc hp;have hqq:=DY hc hq;have hpq:p+1=q:=by
  rcases Nat.lt_trichotomy p q with h|h|h
  ·by_cases h':p+1=q
   ·exact h'
   ·have h3:=DX hc hp (show p+1<s.length by omega) (by omega);have h4:=DX hc (show p+1<s.length by omega) hq (by omega);have h5:=DY hc (show p+1<s.length by omega);omega
  ·grind
  ·have:=DX hc hq hp h;omega
 grind
structure PJ (all:List aH) (n:Nat) (up:List Int) (r:Nat->Nat) (E:List (Nat×Nat)):Prop where
 uf:UF n up r
 co:nv r E
 fi:xC n r E
 so:∀p∈E,Bp all p.1 p.2
theorem PJ.join{all:List aH}{n:Nat}{up up':List Int}{r:Nat->Nat}{E:List (Nat×Nat)}(h:PJ all n up r E){i j:Nat}(hi:i<n)(hj:j<n)(hu:UF n up' (sI r (r i)<|r j))(ht:Bp all i j):PJ all n up' (sI r (r i)<|r j) (E++[(i,j)]):=
 ⟨hu,h.co.join i j (h.uf.rr i hi),h.fi.join hi hj,λp hp=>by
  rcases dH.1 hp with hp|hp
  ·exact h.so p hp
  grind⟩
structure Joined (all:List aH) (r:Nat->Nat):Prop where
 le:∀i,i<all.length->r i<=i
 rr:∀i,i<all.length->r (r i)=r i
 co:∀i j,Bp all i j->r i=r j
 fi:∀S:Nat->Prop,(∀i j,Bp all i j->(S i↔S j))->∀i j,i<all.length->j<all.length->r i=r j->S i->S j
def ot(all:List aH)(n:Nat)(r:Nat->Nat)(h:Nat):List aH:=(cls n r h).filterMap<|λi=>all[i]?
theorem DZ(all:List aH)(n:Nat)(r:Nat->Nat)(h:Nat):(ot all n r h).length<=n:=by
 grind [List.length_filterMap_le,cls,A5,ot]
theorem yJ{all:List aH}{n:Nat}{r:Nat->Nat}(h:Nat){x:aH}(hx:all[n]? =some x):ot all (n+1) r h=if r n=h then ot all n r h++[x]else ot all n r h:=by
 grind [ot,yh]
theorem mz{all:List aH}{n:Nat}{r:Nat->Nat}{h:Nat}{x:aH}:x∈ot all n r h↔∃i,i<n/\r i=h/\all[i]? =some x:=by
 unfold ot cls
 grind
structure uI (s:List aA) (r:Nat->Nat) (ps:List (List aA)):Prop where
 join:Joined (aV s) r
 len:ps.length=(bP (aV s).length r).length
 each:∀(j h:Nat)(p:List aA),(bP (aV s).length r)[j]? =some h->ps[j]? =some p->tZ (ot (aV s) (aV s).length r h) p
def Tq(n:Nat)(r:Nat->Nat)(m:List (Int×Int)):Prop:=(∀(j k:Nat),(bP n r)[j]? =some k->fK m ((k:Nat):Int) 0=((j:Nat):Int))/\∀k:Nat,lZ m ((k:Nat):Int)=decide (k∈bP n r)
theorem JD{s:List aA}{X Y:List Int}(hc:fM (s.map cK))(hl:Ag X Y (s.map cK))(hX:∀c∈X,small c)(hY:∀c∈Y,small c)(h1:s.length<=1073741824)(h2:∀b∈s,b.Xs.length<=1073741824)(h3:(aV s).length<=134217728)(hN:4398046511104<=N):
  Ok (mS N s) (λps=>∃r,uI s r ps):=by
 unfold mS;have hev:=vX hc;have hinc:=Ku hc;refine IT (DT hev (by omega) (λb hb=>by grind) (by omega)) ?_;have hok:=DU hc hl hX hY;have hall:kd s s.length=(aV s).length:=Ih s;generalize hn:(aV s).length=n at *;refine IT (oO 0 (by omega)) ?_;rw[show((List.replicate n (0:Int)).length)=n by simp];refine TZ (UX (λk up=>up.length=n/\∀i,i<k->up[i]? =some ((i:Nat):Int)) (by omega) ⟨by simp,λi hi=>by omega⟩<|λk up hk hI=>?_) ?_
 ·grind [UW,OF,cO,qR]
 rintro up0⟨hu1,hu2⟩
 refine TZ (UX (λk st=>st.2.1=((kd s k:Nat):Int)/\(0<k->st.2.2=((kd s (k - 1):Nat):Int))/\∃r E,PJ (aV s) n st.1 r E/\∀q,q<k->∀i j,kd s q<=j->j<kd s (q+1)->Bp (aV s) i j->(i,j)∈E) (by omega)
  ⟨rfl,λh=>by omega,_,_,⟨UF.init n up0 hu1 hu2,nv.id,xC.id n,λp hp=>(by cases hp)⟩,λq hq=>by omega⟩ (λk st hk hI=>?_)) ?_
 ·obtain⟨up,a,b⟩:=st;obtain⟨e1,e2,r,E,hP,hE⟩:=hI;dsimp only at e1 e2 hP ⊢;subst e1;refine UW hk ?_;have hoff:=BZ hk;have hoffle:kd s (k+1)<=n:=by rw[<-hall];exact B0 hk
  have hkm:=cH hk;have hlen:wrap .i64 (Int.tdiv ((s[k].Xs.length:Nat):Int) 2)=((s[k].Xs.length / 2:Nat):Int):=by
   grind [Int.ofNat_tdiv,Ic]
  rw[hlen,wrap_add (by omega),<-hoff];refine TZ (P:=λc=>c=true↔∃h0:0<k,s[k - 1].Y1=s[k].Y0) ?_<|λc hcc=>?_
  ·grind [OF,jU,UW,of_decide_eq_false]
  refine TZ (P:=λup'=>∃r E,PJ (aV s) n up' r E/\∀q,q<k+1->∀i j,kd s q<=j->j<kd s (q+1)->Bp (aV s) i j->(i,j)∈E) ?_<|λup' hI=>OF ⟨rfl,λ_=>rfl,hI⟩
  refine Uv (λh=>?_)<|λh=>OF ⟨r,E,hP,λq hq i j q1 q2 ht=>?_⟩
  ·obtain⟨hpos,hyy⟩:=hcc.1 h;rw[e2 hpos];have hoffp:=BZ (show k - 1<s.length by omega);rw[show k - 1+1=k by omega]at hoffp
   refine TZ (U5 (Go:=λst=>∃r E,PJ (aV s) n st.1 r E/\∀q,q<k+1->∀i j,kd s q<=j->j<kd s (q+1)->Bp (aV s) i j->(i,j)∈E) (Rt:=λ_=>True)
    (λst=>∃i j:Nat,st.2.1=((i:Nat):Int)/\st.2.2=((j:Nat):Int)/\kd s (k - 1)<=i/\i<=kd s k/\kd s k<=j/\j<=kd s (k+1)/\∃r E,PJ (aV s) n st.1 r E/\(∀q,q<k->∀i j,kd s q<=j->j<kd s (q+1)->Bp (aV s) i j->(i,j)∈E)/\
     ∀i' j',kd s (k - 1)<=i'->i'<kd s k->kd s k<=j'->j'<kd s (k+1)->(i'<i\/j'<j)->Bp (aV s) i' j'->(i',j')∈E)
    (λst=>(n - st.2.1.toNat)+(n - st.2.2.toNat)) ?_ ?_ (by simp only[cO];omega)) (λo ho=>Uo ho (λst h=>OF h) (λr=>r.elim))
   ·rintro⟨up,a,b⟩⟨i,j,e3,e4,i1,i2,j1,j2,r,E,hP,hE,hE2⟩;dsimp only at e3 e4 hP ⊢;subst e3;subst e4;refine Uv (λh=>?_)<|λh=>Un ?_
    ·rw[cQ,cY,cY]at h;have hi:i<kd s k:=by omega
     have hj:j<kd s (k+1):=by omega
     obtain⟨t,et,_,hri⟩:=yI hev (show k - 1<s.length by omega) i1 (by rw[show k - 1+1=k by omega];exact hi);obtain⟨u,eu,_,hrj⟩:=yI hev hk j1 hj;have xi:=hinc _<|cH (show k - 1<s.length by omega)
     have xj:=hinc _ hkm;have farI:∀i' a,i<i'->i'<kd s k->(aV s)[i']? =some a->s[k - 1].Xs[2*t+1]<a.X0:=λi' a h4 h5 h6=>by
      obtain⟨t',et',ht',hr'⟩:=yI hev (show k - 1<s.length by omega) (show kd s (k - 1)<=i' by omega) (by rw[show k - 1+1=k by omega];exact h5);rw[hr']at h6;injection h6 with h6;subst h6
      exact xi.lt (show 2*t+1<2*t' by omega) (aN _)<|aN _
     have farJ:∀j' a,j<j'->j'<kd s (k+1)->(aV s)[j']? =some a->s[k].Xs[2*u+1]<a.X0:=λj' a h4 h5 h6=>by
      obtain⟨u',eu',hu',hr'⟩:=yI hev hk (show kd s k<=j' by omega) h5;rw[hr']at h6;injection h6 with h6;subst h6
      exact xj.lt (show 2*u+1<2*u' by omega) (aN _)<|aN _
     refine TZ (P:=λc=>c=true↔Bp (aV s) i j) ?_<|λc hct=>?_
     ·refine T6 hri<|T6 hrj<|Uv (λh=>T6 hrj<|T6 hri<|OF ?_)<|λh=>OF ?_
      ·rw[cY]at h ⊢;constructor
       ·intro h';exact⟨_,_,hri,hrj,hyy,h,h'⟩
       ·rintro⟨a,c,ha,hc',_,_,h'⟩;rw[hri]at ha;injection ha with ha;subst ha
        rw[hrj]at hc';injection hc' with hc';subst hc'
        exact h'
      ·constructor
       ·intro h;cases h
       ·rintro⟨a,c,ha,hc',_,h',_⟩;rw[hri]at ha;injection ha with ha;subst ha
        rw[hrj]at hc';injection hc' with hc';subst hc'
        rw[decide_eq_false_iff_not]at h;exact absurd h' h
     refine TZ (P:=λup'=>∃r E',PJ (aV s) n up' r E'/\(∀p∈E,p∈E')/\(Bp (aV s) i j->(i,j)∈E')) ?_ ?_
     ·refine Uv (λh=>?_)<|λh=>OF ⟨r,E,hP,λp hp=>hp,λht=>by rw[hct.2 ht]at h;cases h⟩
      obtain⟨up',u1,u2⟩:=My (N:=N) (f:=λx=>some x) hP.uf (i:=i) (k:=j) (by omega) (by omega) (by omega);refine⟨up',u1,_,_,hP.join (by omega) (by omega) u2<|hct.1 h,λp hp=>List.mem_append_left _ hp,λ_=>by simp⟩
     ·rintro up'⟨r',E',hP',hsub,hij⟩;refine T6 hri<|T6 hrj ?_
      dsimp only
      by_cases hx:s[k - 1].Xs[2*t+1]<s[k].Xs[2*u+1]
      ·rw[bY hx,aO];refine IT (x:=(((i+1:Nat):Int),((j:Nat):Int))) (by rw[bE (by omega)])<|Uh ⟨⟨i+1,j,rfl,rfl,by omega,by omega,j1,j2,r',E',hP',λq hq i j q1 q2 ht=>hsub _<|hE q hq i j q1 q2 ht,λi' j' g1 g2 g3 g4 g5 ht=>?_⟩,by simp only[cO];omega⟩
       by_cases h5:i'<i\/j'<j
       ·exact hsub _<|hE2 i' j' g1 g2 g3 g4 h5 ht
       ·have:i'=i:=by omega
        subst this
        by_cases h6:j'=j
        ·subst h6;exact hij ht
        ·exfalso;obtain⟨a,c,ha,hc',_,_,h'⟩:=ht;rw[hri]at ha;injection ha with ha;subst ha
         have:=farJ j' c (by omega) g4 hc';dsimp only at h';omega
      ·rw[cD hx,aR];refine IT (x:=(((i:Nat):Int),((j+1:Nat):Int))) (by rw[bE (by omega)])<|Uh ⟨⟨i,j+1,rfl,rfl,i1,i2,by omega,by omega,r',E',hP',λq hq i j q1 q2 ht=>hsub _<|hE q hq i j q1 q2 ht,λi' j' g1 g2 g3 g4 g5 ht=>?_⟩,by simp only[cO];omega⟩
       by_cases h5:i'<i\/j'<j
       ·exact hsub _<|hE2 i' j' g1 g2 g3 g4 h5 ht
       ·have:j'=j:=by omega
        subst this
        by_cases h6:i'=i
        ·subst h6;exact hij ht
        ·exfalso;obtain⟨a,c,ha,hc',_,h',_⟩:=ht;rw[hrj]at hc';injection hc' with hc';subst hc'
         have:=farI i' a (by omega) g2 ha;dsimp only at h';omega
    ·refine⟨r,E,hP,λq hq i' j' q1 q2 ht=>?_⟩
     by_cases hqk:q<k
     ·exact hE q hqk i' j' q1 q2 ht
     ·have:q=k:=by omega
      subst this;obtain⟨_,_,g1,g2⟩:=Ii hc hk q1 q2 ht;refine hE2 i' j' g1 g2 q1 q2 ?_ ht;rw[Bool.and_eq_false_iff,decide_eq_false_iff_not,decide_eq_false_iff_not]at h;omega
   ·exact⟨kd s<|k - 1,kd s k,rfl,rfl,cJ _,B0 (by omega),cJ _,B0 (by omega),r,E,hP,hE,λi' j' g1 g2 g3 g4 g5=>by omega⟩
  ·by_cases hqk:q<k
   ·exact hE q hqk i j q1 q2 ht
   ·have:q=k:=by omega
    subst this;obtain⟨g0,g1,_⟩:=Ii hc hk q1 q2 ht;rw[hcc.2 ⟨g0,g1⟩]at h;cases h
 ·rintro⟨up,a,b⟩⟨_,_,r,E,hP,hE⟩;dsimp only at hP ⊢;have hEq:∀i j,Bp (aV s) i j->(i,j)∈E:=λi j ht=>by
   have hjl:j<(aV s).length:=by obtain⟨a,c,_,hb,_⟩:=ht;exact(bQ.1 hb).1
   obtain⟨q,hq,q1,q2⟩:=Kt hjl;exact hE q hq i j q1 q2 ht
  have hJ:Joined (aV s) r:=⟨by rw[hn];exact hP.uf.le,by rw[hn];exact hP.uf.rr,λi j ht=>hP.co (i,j) (hEq i j ht),λS hS i j hi hj=>by
   rw[hn]at hi hj
   exact hP.fi S (λp hp=>hS p.1 p.2 (hP.so p hp)) i j hi hj⟩
  refine TZ (UX (λk st=>UF n st.1 r/\Tq k r st.2.1/\st.2.2=(bP k r).map (ot (aV s) k r)) (by omega) ⟨hP.uf,⟨λj k hj=>by simp[bP]at hj,λk=>rfl⟩,rfl⟩<|λk st hk hI=>?_) ?_
  ·obtain⟨l,m,ls⟩:=st;obtain⟨hu,⟨hm1,hm2⟩,hs⟩:=hI;dsimp only at hu hm1 hm2 hs ⊢;subst hs;have hkx:(aV s)[k]? =some ((aV s)[k]'(by omega)):=aN (by omega);refine T6 hkx ?_;obtain⟨u',a1,a2⟩:=GD (N:=N) hu hk (by omega);refine IT a1 ?_;dsimp only;have hhl:=lH k r;have hrk:=hP.uf.le k hk;have hrr:=hP.uf.rr k hk;have hcl:=DZ (aV s) k r<|r k
   have hmap:((bP k r).map<|ot (aV s) k r).length=(bP k r).length:=by simp
   rw[hm2]
   by_cases e:r k=k
   ·have hnot:r k∉bP k r:=λh=>by have:=(iw.1 h).1;omega
    refine IT (x:=(rJ m ((r k:Nat):Int) (((bP k r).length:Nat):Int),(bP k r).map (ot (aV s) k r)++[([]:List aH)],(((bP k r).length:Nat):Int))) ?_ ?_
    ·rw[cD hnot,kh,aO,kE (by simp;omega),aB,hmap]
    ·dsimp only;have hi:((bP k r).map (ot (aV s) k r)++[([]:List aH)])[(bP k r).length]? =some []:=by rw[<-hmap,jJ<|cJ _,Nat.sub_self];rfl
     refine T6 hi<|UJ (by simp)<|T6 hi<|OF ⟨a2,⟨λj q hj=>?_,λq=>?_⟩,?_⟩
     ·dsimp only;rw[ij,aG e]at hj;rw[lG]
      by_cases e2:j<(bP k r).length
      ·rw[jI e2]at hj;have:=(iw.1<|fR hj).1;rw[aI (by omega)];exact hm1 j q hj
      ·rw[jJ (by omega)]at hj;have hj0:j -(bP k r).length=0:=by
        have:=(bQ.1 hj).1;simp at this;omega
       rw[hj0]at hj;simp at hj;subst hj;rw[aG (by rw[e])];congr 1;omega
     ·dsimp only;rw[oR,hm2,ij,aG e,jq];rw[iB,cY,cY,cY,dH,lJ,e];constructor
      ·rintro(h|h)
       ·exact .inr (by omega)
       ·exact .inl h
      ·rintro(h|h)
       ·exact .inr h
       ·exact .inl (by omega)
     ·dsimp only;rw[cO,<-hmap,List.set_append_right _ _<|cJ _,Nat.sub_self,ij,aG e,fW];congr 1
      ·apply List.map_congr_left;intro a ha;have:=(iw.1 ha).1;rw[yJ a hkx,aI (by omega)]
      ·simp only[List.set_cons_zero,fN,List.map_nil,List.nil_append];rw[yJ k hkx,aG e];have:ot (aV s) k r k= []:=by unfold ot;rw[Ks (λi hi=>hP.uf.le i (by omega))<|cJ _];rfl
       rw[this];rfl
   ·have hh:r k∈bP k r:=iw.2 ⟨by omega,hrr⟩;obtain⟨j,hj⟩:=eE hh;refine IT (x:=(m,(bP k r).map<|ot (aV s) k r,((j:Nat):Int))) ?_ ?_
    ·rw[bY hh,ln,aR,hm1 j (r k) hj]
    ·dsimp only;have hi:((bP k r).map<|ot (aV s) k r)[j]? =some (ot (aV s) k r<|r k):=by rw[il,hj];rfl
     refine T6 hi<|UJ (by simp;omega)<|T6 hi<|OF ⟨a2,⟨λj' q hj'=>?_,λq=>?_⟩,?_⟩
     ·rw[ij,aI e]at hj';exact hm1 j' q hj'
     ·rw[ij,aI e];exact hm2 q
     ·dsimp only;rw[cO,ij,aI e]
      have:=yi (ot (aV s) k r) (ot (aV s) (k+1) r) (bP k r) j (r k) (mE k r) hj (λb hb hne=>by
       rw[yJ b hkx,aI (λh=>hne h.symm)])
      rw[yJ (r k) hkx,aG rfl]at this;exact this
  ·rintro⟨l,m,ls⟩⟨_,_,hs⟩;dsimp only at hs ⊢;subst hs;have hhl:=lH n r;refine TZ (UX (λk ps=>ps.length=k/\∀(j h:Nat)(p:List aA),j<k->(bP n r)[j]? =some h->ps[j]? =some p->tZ (ot (aV s) n r h) p) (by simp;omega) ⟨rfl,λj h p hj=>by omega⟩<|λk ps hk hI=>?_) ?_
   ·obtain⟨hp1,hp2⟩:=hI;have hk':k<(bP n r).length:=by simpa using hk
    refine T6 (x:=ot (aV s) n r (bP n r)[k]) (by rw[il,aN hk'];rfl) ?_;have hcl:=DZ (aV s) n r (bP n r)[k];refine TZ (rp (N:=N) (by omega) (λx hx=>?_) (by omega)) ?_
    ·obtain⟨i,_,_,h⟩:=mz.1 hx;exact(hok x<|fR h).1
    ·intro p hp;refine UJ (by rw[hp1];simp;omega)<|OF ⟨by simp[hp1],λj h q hj hh hq=>?_⟩
     by_cases hjk:j<k
     ·rw[jI (by omega)]at hq;exact hp2 j h q hjk hh hq
     ·have:j=k:=by omega
      subst this;rw[jJ (by omega),hp1,Nat.sub_self]at hq;simp at hq;subst hq;rw[aN hk']at hh;injection hh with hh;subst hh
      exact hp
   ·rintro ps⟨hp1,hp2⟩;refine OF ⟨r,hJ,?_,λj h p hh hp=>?_⟩
    ·rw[hp1,hn];simp
    ·rw[hn]at hh ⊢;exact hp2 j h p (by have:=(bQ.1 hp).1;omega) hh hp
end
section
variable {N:Nat}
theorem tg{n:Int}(h: -9223372036854775808<=n/\n<=9223372036854775807):wrap .i64 n=n:=by rw[IntKind.wrap_i64];omega
def gY(n lo hi:Int):Bool:=decide (n>=lo)&&decide (n<=hi)
def ou(n:Int):Bool:=gY n (-1000000) 1000000
def t8(p:dU):Bool:=ou p.X&&ou p.Y
def dJ(r:aH):Bool:=ou r.X0&&(ou r.Y0&&(ou r.X1&&ou r.Y1))
theorem D0(n:Int):mH N n=some (ou n):=rfl
theorem Cv(p:dU):kL N p=some (t8 p):=by
 unfold kL t8;rw[D0,aB,D0]
 cases ou p.X <;> rfl
theorem Cw(p:dU):gL N p=some (t8 p):=by
 have e:∀n,dA N n=some (ou n):=λ_=>rfl;unfold gL t8;rw[e,aB,e]
 cases ou p.X <;> rfl
theorem D1(r:aH):oA N r=some (dJ r):=by
 unfold oA dJ;simp only[D0,aB]
 cases ou r.X0 <;> cases ou r.Y0 <;> cases ou r.X1 <;> rfl
theorem Ij{a b:Int}(h:a≠b):iS (N+4) [a,b]=some [a,b]:=by
 have e:(b==a)=false:=by rw[beq_eq_false_iff_ne];exact λe=>h e.symm
 have w1:wrap .i64 ((1:Int) - 1)=0:=by decide
 have w2:wrap .i64 ((1:Int)+1)=2:=by decide
 unfold iS;have e1:idx [a,b] 1=some b:=rfl;have e2:idx [a,b] 0=some a:=rfl;have l2:(([a,b]:List Int).length:Int)=2:=rfl;rw[l2,show decide ((2:Int)<2)=false by decide,aR];rw[iD.eq_def];dsimp only;rw[show decide ((1:Int)<2)=true by decide,aO,e1,aB,w1,e2,aB,e,aR,aB,w2];dsimp only;rw[iD.eq_def];dsimp only;rw[show decide ((2:Int)<2)=false by decide,aR,aB];rfl
theorem OP(x:Int):wrap .i64 (x - x)=0:=by rw[Int.sub_self];decide
theorem Lh{r:aH}(hx:r.X0<r.X1)(hy:r.Y0<r.Y1):iX (N+16) [r]=some [⟨r.Y0,r.Y1,[r.X0,r.X1]⟩]:=by
 have s1:Ap (kT<|N+16) [r]=some [r]:=Fz (by unfold kT;rw[OP]);have s2:Ap (iT<|N+16) [r]=some [r]:=Fz (by unfold iT;rw[OP]);have s3:xL [r.Y0,r.Y1]=some [r.Y0,r.Y1]:=EW (by simp;omega) (by simp);have c1:kj (N+16) [r]=some [r]:=rfl;have f1:∀φ,jt (N+16) [] φ=some []:=λφ=>rfl;have st:ky (N+16) [r]=some ([r.X0,r.X1],[r]):=by
  unfold ky;rw[s2,aB];rfl
 have pu:∀b:aA,b.Xs= [r.X0,r.X1]->b.Y0<b.Y1->j6 (N+16) [] b=some [b]:=λb h1 h2=>by
  unfold j6;rw[h1,cD (show ¬b.Y1<=b.Y0 by omega)];rfl
 unfold iX;rw[c1,aB,s1,aB];have ys:kR ([r]:List aH).length (λ(k35:Nat)(s36:List Int)=>((idx [r] (k35:Int)).bind λx54=>(app 8 s36 ([x54.Y0,x54.Y1]:List Int)).bind λx58=>some x58:Option (List Int))) ([]:List Int)=some [r.Y0,r.Y1]:=rfl;rw[ys,aB,s3,aB,Ij (N:=N+12) (by omega),aB];have l2:(([r.Y0,r.Y1]:List Int).length:Int)=2:=rfl;have l1:(([r]:List aH).length:Int)=1:=rfl;have w1:wrap .i64 ((0:Int)+1)=1:=by decide
 have w2:wrap .i64 ((1:Int)+1)=2:=by decide
 have i0:idx [r.Y0,r.Y1] 0=some r.Y0:=rfl;have i1:idx [r.Y0,r.Y1] 1=some r.Y1:=rfl;have j0:idx [r] 0=some r:=rfl;have a1:app 32 ([]:List aH) [r]=some [r]:=rfl;rw[l2,l1];rw[iD.eq_def];dsimp only;rw[w1,show decide ((1:Int)<2)=true by decide,aO,f1,aB];rw[iD.eq_def];dsimp only;rw[show decide ((0:Int)<1)=true by decide,aO,j0,aB,i0,aB,aB,show decide (r.Y0<=r.Y0)=true by simp,aO,aB,a1,aB,w1,aB];dsimp only;rw[iD.eq_def];dsimp only;rw[show decide ((1:Int)<1)=false by decide,aR,aB,aR,aB,aB];unfold Fo.cs;dsimp only;rw[aB,i1,aB,st,aB,pu _ rfl hy,aB,aB];dsimp only;rw[iD.eq_def];dsimp only;rw[w2,show decide ((2:Int)<2)=false by decide,aR,aB];rfl
theorem Mz{r:aH}(hx:r.X0<r.X1):nT N [⟨r.Y0,r.Y1,[r.X0,r.X1]⟩]=some (dJ r):=by
 have ar:oD N [⟨r.Y0,r.Y1,[r.X0,r.X1]⟩]=some r:=by
  have e1:(if r.X0<r.X0 then r.X0 else r.X0)=r.X0:=by split <;> rfl
  have e2:(if r.X1<r.X1 then r.X1 else r.X1)=r.X1:=by split <;> rfl
  show some ({X0:=(if r.X0<r.X0 then r.X0 else r.X0),Y0:=r.Y0,X1:=(if r.X1<r.X1 then r.X1 else r.X1),Y1:=r.Y1}:aH)=some r;rw[e1,e2]
 unfold nT;rw[ar,aB,D1];rfl
def yj(b:bU):aH:=⟨b.At.X - b.dV / 2,b.At.Y - b.dV / 2,b.At.X - b.dV / 2+b.dV,b.At.Y - b.dV / 2+b.dV⟩
def sN(b:bU):Bool:=gY b.dV 1 10000&&t8 b.At
def nJ(b:bU):aH×Int:=if sN b&&dJ (yj b)then(yj b,0)else(⟨0,0,0,0⟩,1)
theorem uJ{b:bU}(h:sN b=true):(1<=b.dV/\b.dV<=10000)/\(-1000000<=b.At.X/\b.At.X<=1000000)/\(-1000000<=b.At.Y/\b.At.Y<=1000000):=by
 simp only[sN,gY,t8,ou,cQ,decide_eq_true_iff]at h;omega
theorem ov{b:bU}(h:sN b=true):ik N b=some (yj b):=by
 obtain⟨h1,h2,h3⟩:=uJ h;have t:Int.tdiv b.dV 2=b.dV / 2:=Int.tdiv_eq_ediv_of_nonneg (by omega);unfold ik yj;rw[t,tg (n:=b.dV / 2) (by omega),tg (n:=b.At.X - b.dV / 2) (by omega),tg (n:=b.At.Y - b.dV / 2) (by omega),tg (by omega),tg (by omega)]
theorem B1{b:bU}:m6 (N+16) b=some (nJ b):=by
 have e0:jl (N+16) b.dV 1 10000=some (gY b.dV 1 10000):=rfl;have e1:(bif(!(gY b.dV 1 10000))then some true else some (!(t8 b.At)))=some (!sN b):=by unfold sN;cases gY b.dV 1 10000 <;> rfl
 unfold m6 nJ;rw[e0,aB,Cv,aB,e1,aB]
 cases hf:sN b with
 |false=>rfl
 |true=>
  obtain⟨h1,h2,h3⟩:=uJ hf;have hx:(yj b).X0<(yj b).X1:=by simp only[yj];omega
  have hy:(yj b).Y0<(yj b).Y1:=by simp only[yj];omega
  rw[ln,aR,ov hf,aB,Lh hx hy,aB,Mz hx,aB]
  cases dJ (yj b) <;> rfl
end
section
variable {N:Nat}
def Ik(c:UInt8):Bool:=
 (((decide (((c.toNat:Nat):Int)<65)||decide (((c.toNat:Nat):Int)>90))&&(decide (((c.toNat:Nat):Int)<97)||decide (((c.toNat:Nat):Int)>122)))&&(decide (((c.toNat:Nat):Int)<48)||decide (((c.toNat:Nat):Int)>57)))&&decide (Lib.indexByte [95,43,45,35] c<0)
def isWord(s:eV):Bool:= !s.dP.any Ik&&(decide (1<=s.dP.length)&&decide (s.dP.length<=40))
theorem wO(s:eV)(c:UInt8):iE N s ((c.toNat:Nat):Int)=some (Lib.indexByte s.dP c):=by
 show some (Lib.indexByte s.dP (Int.toNat ((c.toNat:Nat):Int)).toUInt8)=_;simp
theorem JE{R:Type}(b1:Bool)(c:UInt8)(r:R):
  ((bif b1 then((iE N (⟨[95,43,45,35]⟩) ((c.toNat:Nat):Int)).bind λx14=>some<|decide<|x14<0)else some false).bind λs12=>bif s12 then some (.rt r)else(some<|.nx ()):Option (Fl Unit R))=some (if(b1&&decide (Lib.indexByte [95,43,45,35] c<0))=true then .rt r else .nx ()):=by
 rw[wO,aB]
 grind
theorem uK{s:eV}(h:s.dP.length<=2097152):j7 N s=some (isWord s):=by
 unfold j7
 rw[NH Ik false (by omega) (λk x hx=>by
  have hk:=(bQ.1 hx).1;have e:I9 s ((k:Nat):Int)=some x:=by grind [H7,aN]
  rw[e,aB]
  exact JE (R:=Bool) _ x false),aB]
 unfold isWord
 grind [Ik,Fo.cs,kh,Bool.false_eq_true,Option.some.injEq]
def cutAt(c:UInt8):List UInt8->List (List UInt8)
 | []=>[[]]
 |b::l=>if b==c then []::cutAt c l else match cutAt c l with|h::t=>(b::h)::t| []=>[[b]]
theorem D2{c:UInt8}:∀{l:List UInt8},c∉l->cutAt c l= [l]
 | [],_=>rfl
 |b::l,h=>by
  unfold cutAt;have hb:(b==c)=false:=by rw[beq_eq_false_iff_ne];rintro rfl;exact h (by simp)
  rw[hb,D2<|λh'=>h (by simp[h'])];rfl
theorem Il{c:UInt8}:∀{a b:List UInt8},c∉a->cutAt c (a++c::b)=a::cutAt c b
 | [],b,_=>by rw[List.nil_append];show(if(c==c)=true then _ else _)=_;simp
 |x::a,b,h=>by
  have hb:(x==c)=false:=by rw[beq_eq_false_iff_ne];rintro rfl;exact h (by simp)
  have ih:=Il (c:=c) (a:=a) (b:=b)<|λh'=>h (by simp[h'])
  show(if(x==c)=true then []::cutAt c (a++c::b)else match cutAt c (a++c::b)with|h::t=>(x::h)::t| []=>[[x]])=_;rw[hb,ih];rfl
theorem yk:∀(l:List UInt8)(c:UInt8),(Lib.indexByte l c = -1/\c∉l)\/∃a b,l=a++c::b/\c∉a/\Lib.indexByte l c=((a.length:Nat):Int)
 | [],c=> .inl ⟨rfl,by simp⟩
 |x::l,c=>by
  unfold Lib.indexByte
  by_cases hx:x=c
  ·subst hx;exact .inr ⟨[],l,rfl,by simp,by simp⟩
  ·have hb:(x==c)=false:=by rw[beq_eq_false_iff_ne];exact hx
   rcases yk l c with⟨h1,h2⟩|⟨a,b,h1,h2,h3⟩
   ·left;rw[hb,h1];refine⟨by simp,?_⟩;simp[h2];exact λh=>hx h.symm
   ·right;refine⟨x::a,b,by rw[h1];rfl,by grind,?_⟩;rw[hb,h3];have:(((a.length:Nat):Int)== -1)=false:=by rw[beq_eq_false_iff_ne];omega
    rw[this];simp
theorem MA(s:eV)(c:UInt8):m7 N s ⟨[c]⟩=some (Lib.indexByte s.dP c):=by
 show(lP N s ⟨[c]⟩).bind _=_;unfold lP
 by_cases h:eV.wi ⟨[c]⟩ s=true
 ·grind [Gr,Lib.indexByte]
 ·rw[ma]at h;rw[h];show((jK N s ((c.toNat:Nat):Int)).bind _).bind _=_;have:=wO (N:=N) s c
  grind [iE]
theorem MB(s:eV)(c:UInt8):pg N s ⟨[c]⟩=some ((s.dP.count c:Nat):Int):=by
 unfold pg;show(some _:Option Int)=_;simp[Lib.countByte]
theorem Li{s:eV}{k:Nat}(h:k<=s.dP.length):zC s 0 ((k:Nat):Int)=some ⟨s.dP.take k⟩:=by
 unfold zC;grind
theorem Lj{s:eV}{k:Nat}(h:k<=s.dP.length):zC s ((k:Nat):Int) ((s.dP.length:Nat):Int)=some ⟨s.dP.drop k⟩:=by
 grind [zC,cO,mF,l9]
def pR(s:eV)(c:UInt8):List eV:=(cutAt c s.dP).map eV.mk
theorem Im{s:eV}(c:UInt8)(h:s.dP.length<=2097152)(hN:4194304<=N):m8 N s ⟨[c]⟩=some (pR s c):=by
 have hc:s.dP.count c<=s.dP.length:=List.count_le_length;unfold m8 oE;rw[show((-1:Int)==0)=false by decide,aR,show eV.wi ⟨[c]⟩ ⟨[]⟩=false by simp[eV.wi],aR,MB,aB];rw[gq (x:=((s.dP.count c:Nat):Int)+1) (by omega) (by omega),show decide ((-1:Int)<0)=true by decide,aO,aB];rw[gq (x:=((s.dP.length:Nat):Int)+1) (by omega) (by omega)];have e1:(if((s.dP.length:Nat):Int)+1<((s.dP.count c:Nat):Int)+1 then((s.dP.length:Nat):Int)+1 else((s.dP.count c:Nat):Int)+1)=((s.dP.count c+1:Nat):Int):=by
  omega
 rw[e1,oO _ (by omega),aB];rw[gq (x:=((s.dP.count c+1:Nat):Int) - 1) (by omega) (by omega)];have key:=AM (S:=eV×List eV×Int) (R:=Empty) (body:=(λ(s7:eV×List eV×Int)=>(bif decide (s7.2.2<((s.dP.count c+1:Nat):Int) - 1)then((m7 N s7.1 ⟨[c]⟩).bind λx23=>bif decide (x23<0)then some (.br (s7.1,s7.2.1,s7.2.2))else((zC s7.1 0<|wrap .i64<|x23+0).bind λx24=>(idx s7.2.1 s7.2.2).bind λx25=>(zC s7.1 (wrap .i64<|x23+(((⟨[c]⟩:eV).dP.length:Nat):Int)) ((s7.1.dP.length:Nat):Int)).bind λx27=>some<|.nx (x27,s7.2.1.set (Int.toNat s7.2.2) x24,wrap .i64<|s7.2.2+1)))else(some<|.br (s7.1,s7.2.1,s7.2.2)):Option (Fl (eV×List eV×Int) Empty))))
  (λst=>∃ws:List (List UInt8),st.2.2=((ws.length:Nat):Int)/\cutAt c s.dP=ws++cutAt c st.1.dP/\ws.length+st.1.dP.count c=s.dP.count c/\st.1.dP.length<=s.dP.length/\st.2.1=ws.map eV.mk++List.replicate (s.dP.count c+1 - ws.length) ⟨[]⟩)
  (λst=>s.dP.count c+1 - st.2.2.toNat)
  (λst=>∃ws:List (List UInt8),st.2.2=((ws.length:Nat):Int)/\cutAt c s.dP=ws++[st.1.dP]/\ws.length=s.dP.count c/\st.2.1=ws.map eV.mk++[⟨[]⟩])
  (λ_=>True) (by
   rintro⟨r,arr,i⟩⟨ws,h1,h2,h3,h4,h5⟩;simp only at h1 h2 h3 h4 h5;subst h1 h5
   by_cases hlt:ws.length<s.dP.count c
   ·have hd:decide (((ws.length:Nat):Int)<((s.dP.count c+1:Nat):Int) - 1)=true:=by grind
    simp only[hd,aO,MA,aB]
    rcases yk r.dP c with⟨_,hn⟩|⟨a,b,hr,ha,hi⟩
    ·grind
    ·have hrl:r.dP.length=a.length+(b.length+1):=by rw[hr];simp
     rw[hi,cD (by omega),aR];rw[show((a.length:Nat):Int)+0=((a.length:Nat):Int)by omega,gq (x:=((a.length:Nat):Int)) (by omega) (by omega),Li (by omega),aB];rw[mc _ _ (by simp;omega),aB];rw[show((a.length:Nat):Int)+(((⟨[c]⟩:eV).dP.length:Nat):Int)=((a.length+1:Nat):Int)by simp,gq (x:=((a.length+1:Nat):Int)) (by omega) (by omega),Lj (by omega),aB];refine⟨_,rfl,⟨ws++[a],?_,?_,?_,?_,?_⟩,?_⟩
     ·grind [gq]
     ·simp_all[Il]
     ·simp only;rw[hr]at h3 ⊢;simp[List.count_eq_zero_of_not_mem ha]at h3 ⊢;omega
     ·simp;omega
     ·simp only[cO];rw[List.set_append_right _ _ (by simp)];simp only[eB,Nat.sub_self];obtain⟨d,hd'⟩:∃d,s.dP.count c+1 - ws.length=d+1:=⟨s.dP.count c - ws.length,by omega⟩;rw[hd',List.replicate_succ,List.set_cons_zero,show s.dP.count c+1 -(ws++[a]).length=d by simp;omega];simp[hr]
     ·simp only;rw[gq (by omega) (by omega)];omega
   ·have hd:decide (((ws.length:Nat):Int)<((s.dP.count c+1:Nat):Int) - 1)=false:=by rw[decide_eq_false_iff_not];omega
    simp only[hd,aR];refine⟨_,rfl,ws,rfl,?_,by omega,?_⟩
    ·have h0:r.dP.count c=0:=by omega
     rw[h2,D2<|List.count_eq_zero.1 h0]
    ·rw[show s.dP.count c+1 - ws.length=1 by omega];rfl)
  N (s,List.replicate (s.dP.count c+1) ⟨[]⟩,0) ⟨[],rfl,rfl,by simp,cJ _,by simp⟩ (by simp only;omega)
 obtain⟨o,ho,hgo⟩:=key;rw[ho,aB]
 cases o with
 |rt r=>exact r.elim
 |go st=>
  obtain⟨r,arr,i⟩:=st;obtain⟨ws,h1,h2,h3,h4⟩:=hgo;simp only at h1 h2 h3 h4;subst h1 h4;simp only[Fo.cs];rw[mc _ _ (by simp),aB,gq (by omega) (by omega)];rw[show((ws.length:Nat):Int)+1=((ws.length+1:Nat):Int)by omega,tJ _ _ (by simp),aB,aB];unfold pR;rw[h2];rw[cO,List.set_append_right _ _ (by simp),mF (by simp)];simp
def o8(s:eV):Bool:=decide (s.dP.length<=200)&&(pR s 47).all isWord
theorem yK{c:UInt8}:∀{l x:List UInt8},x∈cutAt c l->x.length<=l.length
 | [],x,h=>by simp[cutAt]at h;subst h;simp
 |b::l,x,h=>by
  unfold cutAt at h;split at h
  ·rcases eH.1 h with h|h
   ·subst h;simp
   ·have:=yK h;simp;omega
  ·split at h
   ·rename_i t e
    rcases eH.1 h with h|h
    ·subst h;have:=yK (c:=c) (l:=l) (by rw[e];exact List.mem_cons_self);simp;omega
    ·have:=yK (c:=c) (l:=l) (by rw[e];exact jo _ h);simp;omega
   ·simp at h;subst h;simp
theorem FF(c:UInt8):∀(l:List UInt8),(cutAt c l).length<=l.length+1
 | []=>by simp[cutAt]
 |b::l=>by
  have:=FF c l;unfold cutAt;split
  ·simp;omega
  ·split
   ·rename_i e;rw[e]at this;simp at this ⊢;omega
   ·simp
theorem FG{s x:eV}{c:UInt8}(h:x∈pR s c):x.dP.length<=s.dP.length:=by
 obtain⟨y,hy,rfl⟩:=dO.1 h;exact yK hy
theorem FH(s:eV)(c:UInt8):(pR s c).length<=s.dP.length+1:=by simp[pR,eB,FF]
theorem A6{s:eV}(h:s.dP.length<=2097152)(hN:4194304<=N):nU N s=some (o8 s):=by
 unfold nU o8
 by_cases hl:s.dP.length<=200
 ·rw[bY (by omega),aO,Im 47 h hN,aB]
  have e:=vz (l:=pR s 47) (φ:=jv N) (λx=> !isWord x) (by have:=FH s 47;omega) (λx hx=>by
   unfold jv
   rw[uK (by have:=FG hx;omega)];rfl)
  have e2:ju N (pR s 47) (jv N)=uU (pR s 47) (jv N):=rfl;rw[e2,e,aB,aB,bY hl,Bool.true_and];congr 1;rw[jq];simp
 ·rw[cD (by omega),aR,aB,cD hl,Bool.false_and]
end
end Go.Gk
namespace Go.Gk
open Go IntKind Classical
section
variable {N:Nat}
theorem MC{a b:aA}(h:cK a=cK b):a=b:=by cases a;simp_all[cK]
theorem A7:∀{s t:List aA},s.map cK=t.map cK->s=t
 | [],[],_=>rfl
 | [],_::_,h=>by cases h
 |_::_,[],h=>by cases h
 |a::s,b::t,h=>by
  rw[fN,fN]at h;injection h with h1 h2
  rw[MC h1,A7 h2]
theorem Io{s t:List aA}(hs:fM (s.map cK))(ht:fM (t.map cK))(h:∀x y,xF (s.map cK) x y=xF (t.map cK) x y):s=t:=A7<|wM hs ht h
theorem tZ.unique{l:List aH}{s t:List aA}(hs:tZ l s)(ht:tZ l t):s=t:=Io hs.can ht.can λx y=>by rw[hs.cover,ht.cover]
theorem tZ.Ip{l:List aH}{s:List aA}(h:tZ l s):s.length<=2*l.length/\(∀b∈s,b.Xs.length<=2*l.length)/\(aV s).length<=2*l.length*(2*l.length):=by
 have h1:s.length<=2*l.length:=by have:=h.lim.len h.can;grind [eB,mW]
 have h2:∀b∈s,b.Xs.length<=2*l.length:=λb hb=>by
  have:=h.lim.row h.can (b:=cK b)<|dO.2 ⟨b,hb,rfl⟩
  rwa[tY]at this
 simp_all[DS]
theorem Ll{n:Int}(h:ou n=true): -1000000<=n/\n<=1000000:=by
 unfold ou gY at h
 grind
theorem jg{r:aH}(h:dJ r=true):(-1000000<=r.X0/\r.X0<=1000000)/\(-1000000<=r.Y0/\r.Y0<=1000000)/\(-1000000<=r.X1/\r.X1<=1000000)/\(-1000000<=r.Y1/\r.Y1<=1000000):=by
 unfold dJ at h
 simp_all[cQ,Ll]
theorem D3{r:aH}(h:(-1000000<=r.X0/\r.X0<=1000000)/\(-1000000<=r.Y0/\r.Y0<=1000000)/\(-1000000<=r.X1/\r.X1<=1000000)/\(-1000000<=r.Y1/\r.Y1<=1000000)):dJ r=true:=by
 unfold dJ ou gY
 grind
theorem GG{r:aH}(h:dJ r=true)(hx:r.X0<r.X1)(hy:r.Y0<r.Y1):EH r:=by
 have:=jg h;refine⟨hx,hy,?_,?_,?_,?_⟩ <;> unfold small <;> omega
def mO(r:aH):Option Int:=if dJ r=true then(if r.X1<=r.X0\/r.Y1<=r.Y0 then some 13 else none)else some 1
def mX(l:List aH):Int:=if 2000<l.length then 2 else(l.findSome? mO).getD 0
theorem EY{l:List aH}(hl:l.length<=4611686018427387904):mh N l=some (mX l):=by
 unfold mh mX
 by_cases h:2000<l.length
 ·grind
 ·rw[cD (by omega),aR,aI h,Dy mO hl (λk x hx=>by
   rw[cG hx,aB,D1,aB];unfold mO
   cases hr:dJ x with
   |false=>rfl
   |true=>
    rw[ln,aR,aG rfl]
    by_cases h2:x.X1<=x.X0\/x.Y1<=x.Y0
    ·rw[aG h2,show(decide (x.X1<=x.X0)||decide (x.Y1<=x.Y0))=true by grind];rfl
    ·rw[aI h2,show(decide (x.X1<=x.X0)||decide (x.Y1<=x.Y0))=false by grind];rfl),aB]
  cases l.findSome? mO <;> rfl
theorem A8{r:aH}:mO r=none↔dJ r=true/\r.X0<r.X1/\r.Y0<r.Y1:=by
 grind [mO]
theorem Iq{r:aH}{e:Int}(h:mO r=some e):e≠0:=by
 grind [mO]
theorem va{l:List aH}:mX l=0↔l.length<=2000/\∀r∈l,dJ r=true/\r.X0<r.X1/\r.Y0<r.Y1:=by
 unfold mX
 by_cases h:2000<l.length
 ·omega
 ·rw[aI h]
  cases hf:l.findSome? mO with
  |none=>
   grind [List.findSome?_eq_none_iff,A8]
  |some e=>
   obtain⟨r,hr,he⟩:=List.exists_of_findSome?_eq_some hf
   grind [Iq,A8]
def P3(l:List aH):Prop:=∀(k:Nat)a b,l[k]? =some a->l[k+1]? =some b->¬(b.Y0<a.Y0\/(b.Y0=a.Y0/\b.X0<=a.X0))
def GH(l:List aH):Prop:=∃s,tZ l s/\aV s=l
noncomputable def jW(l:List aH):Int:=if mX l≠0 then mX l else if P3 l then(if GH l then 0 else 3)else 8
theorem D4{l:List aH}(h:mX l=0):l.length<=2000/\∀r∈l,EH r:=by grind [va,GG]
theorem JF{l m:List aH}(hl:l.length<=4611686018427387904):lN N l m=some (decide<|l=m):=by
 have:=BP (l:=l) (m:=m) hl
 grind [Jv,lN,decide,instDecidableEqList]
theorem yl{l:List aH}(hl:l.length<=1073741824)(hN:4398046511104<=N):kl N l=some (jW l):=by
 refine UU ?_;unfold kl;refine IT (EY (by omega)) ?_;unfold jW;refine Uv (λh=>OF ?_)<|λh=>?_
 ·grind
 ·have h0:mX l=0:=by simpa using h
  rw[aI (by omega)];obtain⟨hlen,hok⟩:=D4 h0;refine TZ (U5 (Go:=λ_=>P3 l) (Rt:=λr=>r=8/\¬P3 l) (λs=>∃k:Nat,s=((k:Nat):Int)/\1<=k/\∀(j:Nat)a b,j+1<k->l[j]? =some a->l[j+1]? =some b->¬(b.Y0<a.Y0\/(b.Y0=a.Y0/\b.X0<=a.X0))) (λs=>l.length - s.toNat) ?_ ⟨1,rfl,cJ _,λj a b hj=>by omega⟩ (by simp;omega)) ?_
  ·rintro s⟨k,rfl,hk,hI⟩;refine Uv (λh=>?_)<|λh=>Un λj a b ha hb=>hI j a b ?_ ha hb
   ·have hk2:k<l.length:=by grind
    rw[jU hk (by omega)];refine UW (by omega)<|UW hk2<|Uv (λhb=>UZ ⟨rfl,λhu=>?_⟩)<|λhb=>Uh ⟨⟨k+1,by grind [bE],by omega,λj a b hj ha hb'=>?_⟩,by grind [bE,cO]⟩
    ·refine hu (k - 1) l[k - 1] l[k] (aN _) (by grind) ?_
     grind
    grind
   grind
  ·rintro o ho;refine Uo ho (λs hu=>?_)<|λr hr=>OF (by grind)
   rw[aG hu];refine TZ (rp (N:=N) (by omega) hok (by omega)) ?_;intro s hs;obtain⟨z1,z2,z3⟩:=hs.Ip;have z4:2*l.length*(2*l.length)<=4000*4000:=Nat.mul_le_mul (by omega) (by omega);refine IT (DT (vX hs.can) (by omega) (λb hb=>by grind) (by omega))<|IT (JF (by omega)) ?_
   have hiff:GH l↔aV s=l:=⟨λ⟨t,h1,h2⟩=>by rw[hs.unique h1];exact h2,λh=>⟨s,hs,h⟩⟩
   grind [OF,aV]
theorem r9{l:List aH}:jW l=0↔mX l=0/\P3 l/\GH l:=by
 unfold jW
 grind
theorem z6(n lo hi:Int):jl N n lo hi=some (gY n lo hi):=rfl
theorem Lm{b:bU}(hN:16<=N):m6 N b=some (nJ b):=by
 have:=B1 (N:=N - 16) (b:=b)
 grind
def mP(n:Nat)(b:bU):Option Int:=if(nJ b).2≠0 then some (nJ b).2 else if gY b.cB 0 (((n:Nat):Int) - 1)=true/\gY b.To b.cB (((n:Nat):Int) - 1)=true then none else some 1
def jC(a:jO):Int:=if 500<a.aM.length then 2 else(a.aM.findSome?<|mP a.aK.length).getD 0
theorem EZ{a:jO}(h1:a.aK.length<=4611686018427387904)(h2:a.aM.length<=4611686018427387904)(hN:16<=N):lO N a=some (jC a):=by
 unfold lO jC
 by_cases h:500<a.aM.length
 ·grind
 ·have hw:wrap .i64 (((a.aK.length:Nat):Int) - 1)=((a.aK.length:Nat):Int) - 1:=gq (by omega) (by omega)
  rw[cD (by omega),aR,aI h,Dy (mP a.aK.length) h2 (λk x hx=>by
   rw[cG hx,aB,Lm hN,aB];unfold mP
   by_cases h0:(nJ x).2=0
   ·rw[aI (by omega),h0,show((0:Int) != 0)=false by rfl,aR,hw,z6,aB,z6,aB]
    cases h3:gY x.cB 0 (((a.aK.length:Nat):Int) - 1) <;> cases h4:gY x.To x.cB (((a.aK.length:Nat):Int) - 1) <;> rfl
   ·rw[aG h0,show((nJ x).2 != 0)=true by grind];rfl),aB]
  cases a.aM.findSome? (mP a.aK.length) <;> rfl
theorem Ir{b:bU}(h:(nJ b).2=0):sN b=true/\dJ (yj b)=true:=by
 unfold nJ at h
 grind
theorem ng{a:jO}(h:jC a=0):a.aM.length<=500/\∀b∈a.aM,sN b=true/\dJ (yj b)=true/\0<=b.cB/\b.cB<=b.To/\b.To<((a.aK.length:Nat):Int):=by
 unfold jC at h;split at h
 ·omega
 ·refine⟨by omega,λb hb=>?_⟩;have hn:mP a.aK.length b=none:=by
   cases hf:a.aM.findSome? (mP a.aK.length)with
   |none=>grind
   |some e=>
    rw[hf]at h;obtain⟨c,hc,he⟩:=List.exists_of_findSome?_eq_some hf
    grind [mP]
  unfold mP at hn;split at hn
  ·cases hn
  ·rename_i h0;split at hn
   ·rename_i h1;have h0:(nJ b).2=0:=by omega
    have:=Ir h0;unfold gY at h1
    grind
   ·cases hn
theorem OQ{b:bU}(h1:sN b=true)(h2:dJ (yj b)=true):EH (yj b):=by
 have hf:=uJ h1;refine GG h2 ?_ ?_
 ·show b.At.X - b.dV / 2<b.At.X - b.dV / 2+b.dV;omega
 ·show b.At.Y - b.dV / 2<b.At.Y - b.dV / 2+b.dV;omega
def kr(p q:fz):Int:=if Lib.compareBytes p.Part.dP q.Part.dP≠0 then Lib.compareBytes p.Part.dP q.Part.dP else Lib.compareBytes p.fz.dP q.fz.dP
theorem xk(p q:fz):jE N p q=some (kr p q):=by
 unfold jE kr;show(bif Lib.compareBytes p.Part.dP q.Part.dP != 0 then _ else _)=_
 by_cases h:Lib.compareBytes p.Part.dP q.Part.dP=0
 ·rw[h,aI (by simp)];rfl
 ·rw[aG h,show(Lib.compareBytes p.Part.dP q.Part.dP != 0)=true by simpa using h];rfl
def l8(l:dE):fz:=⟨l.Part,l.fz⟩
theorem B2(l:dE):mI N l=some (l8 l):=rfl
def lx(a:jO)(k:Nat):Option Int:=(a.bV[k]?).bind λx=>
 if(o8 x.Part&&isWord x.fz)=true then
  if(gY x.cL 0 (((a.aK.length:Nat):Int) - 1)&&t8 x.At)=true then
   if 0<k/\(∃y,a.bV[k - 1]? =some y/\kr (l8 x) (l8 y)<=0)then some 8 else none
  else some 1
 else some 5
noncomputable def mY(a:jO):Int:=if 1000<a.bV.length then 2 else(wD a.bV.length<|lx a).getD 0
end
section
variable {N:Nat}
def D5(a:jO):Prop:=∀x∈a.bV,x.Part.dP.length<=2097152/\x.fz.dP.length<=2097152
theorem E0{a:jO}(h1:a.aK.length<=1073741824)(h2:a.bV.length<=1073741824)(h3:D5 a)(hN:4194304<=N):lQ N a=some (mY a):=by
 unfold lQ mY
 by_cases h:1000<a.bV.length
 ·grind
 ·have hw:wrap .i64 (((a.aK.length:Nat):Int) - 1)=((a.aK.length:Nat):Int) - 1:=gq (by omega) (by omega)
  rw[cD (by omega),aR,aI h,tI (lx a) (by omega) (λk hk _=>by
   have hx:a.bV[k]? =some a.bV[k]:=aN hk;have hs:=h3 _<|cH hk
   rw[cG hx,aB,A6 hs.1 hN,aB]
   have hle:lx a k=(if(o8 a.bV[k].Part&&isWord a.bV[k].fz)=true then
     if(gY a.bV[k].cL 0 (((a.aK.length:Nat):Int) - 1)&&t8 a.bV[k].At)=true then
      if 0<k/\(∃y,a.bV[k - 1]? =some y/\kr (l8 a.bV[k]) (l8 y)<=0)then some 8 else none
     else some 1
    else some 5):=by unfold lx;rw[hx];rfl
   rw[hle];have e1:((bif(!o8 a.bV[k].Part)then some true else((j7 N a.bV[k].fz).bind λx225=>some<|!x225)):Option Bool)=some (!(o8 a.bV[k].Part&&isWord a.bV[k].fz)):=by
    grind [uK,aB,o8]
   have e2:((jl N a.bV[k].cL 0<|wrap .i64<|((a.aK.length:Nat):Int) - 1).bind λx318=>bif(!x318)then some true else((kL N a.bV[k].At).bind λx321=>some<|!x321))=some (!(gY a.bV[k].cL 0 (((a.aK.length:Nat):Int) - 1)&&t8 a.bV[k].At)):=by
    grind [z6,aB,Cv]
   show((bif(!o8 a.bV[k].Part)then some true else((j7 N a.bV[k].fz).bind λx225=>some<|!x225)):Option Bool).bind _=_;rw[e1,aB]
   cases h4:(o8 a.bV[k].Part&&isWord a.bV[k].fz)with
   |false=>rfl
   |true=>
    rw[ln,aR,aG rfl];show(((jl N a.bV[k].cL 0<|wrap .i64<|((a.aK.length:Nat):Int) - 1).bind λx318=>bif(!x318)then some true else((kL N a.bV[k].At).bind λx321=>some<|!x321))).bind _=_;rw[e2,aB]
    cases h5:(gY a.bV[k].cL 0 (((a.aK.length:Nat):Int) - 1)&&t8 a.bV[k].At)with
    |false=>rfl
    |true=>
     rw[ln,aR,aG rfl]
     by_cases h0:0<k
     ·rw[bY (by omega),aO,jU h0 (by omega),mc _ _ (by omega)];simp only[B2,aB,xk]
      by_cases h6:kr (l8 a.bV[k]) (l8 a.bV[k - 1])<=0
      ·rw[bY h6,aG ⟨h0,_,aN (by omega),h6⟩];rfl
      ·rw[cD h6,aI (by
        grind)];rfl
     ·rw[cD (by omega),aI (λh=>h0 h.1)];rfl),aB]
  cases wD a.bV.length (lx a) <;> rfl
def mA(b:bU)(k:Int):Bool:=decide (b.cB<=k)&&decide (k<=b.To)
theorem D6(b:bU)(k:Int):ml N b k=some (mA b k):=rfl
def k9(bs:List bU)(k:Int):List aH:=(bs.filter<|λb=>mA b k).map yj
structure kQ (bs:List bU):Prop where
 len:bs.length<=500
 ok:∀b∈bs,sN b=true/\dJ (yj b)=true
structure wP (r hs:List aH) (s:List aA):Prop where
 can:fM (s.map cK)
 cover:∀x y,xF (s.map cK) x y=(uH r x y&& !uH hs x y)
 lim:Ag (vU r++vU hs) (j4 r++j4 hs) (s.map cK)
theorem B3{bs:List bU}(h:kQ bs)(k:Int):(k9 bs k).length<=500:=by
 unfold k9;rw[eB];have:=nA (λb=>mA b k) bs;have:=h.len;omega
theorem t9{bs:List bU}(h:kQ bs)(k:Int):∀r∈k9 bs k,EH r/\dJ r=true:=by
 intro r hr;unfold k9 at hr;obtain⟨b,hb,rfl⟩:=dO.1 hr;have:=h.ok b (lj.1 hb).1
 grind [OQ]
theorem wP.small{r hs:List aH}{s:List aA}(h:wP r hs s)(h1:∀x∈r,EH x)(h2:∀x∈hs,EH x):(∀c∈vU r++vU hs,small c)/\∀c∈j4 r++j4 hs,small c:=by
 constructor
 ·intro c hc
  rcases dH.1 hc with h|h
  ·obtain⟨x,hx,rfl|rfl⟩:=vV.1 h
   ·exact(h1 x hx).s1
   ·exact(h1 x hx).s2
  ·obtain⟨x,hx,rfl|rfl⟩:=vV.1 h
   ·exact(h2 x hx).s1
   ·exact(h2 x hx).s2
 ·intro c hc
  rcases dH.1 hc with h|h
  ·obtain⟨x,hx,rfl|rfl⟩:=oh.1 h
   ·exact(h1 x hx).s3
   ·exact(h1 x hx).s4
  ·obtain⟨x,hx,rfl|rfl⟩:=oh.1 h
   ·exact(h2 x hx).s3
   ·exact(h2 x hx).s4
theorem yL{s:List aA}{X Y:List Int}{A:Nat}(hc:fM (s.map cK))(h:Ag X Y (s.map cK))(hX:X.length<=A)(hY:Y.length<=A):s.length<=A/\(∀b∈s,b.Xs.length<=A)/\(aV s).length<=A*A:=by
 have h1:s.length<=A:=by have:=h.len hc;grind
 have h2:∀b∈s,b.Xs.length<=A:=λb hb=>by
  have:=h.row hc (b:=cK b)<|dO.2 ⟨b,hb,rfl⟩
  grind [cK]
 simp_all[DS]
theorem E1{r hs:List aH}(h1:r.length<=2000)(h2:∀x∈r,EH x)(h3:hs.length<=500)(h4:∀x∈hs,EH x)(hN:4398046511104<=N){β:Type}{f:List aA->Option β}{Q:β->Prop}(k:∀s,wP r hs s->Ok (f s) Q):
  Ok ((iX N r).bind λx378=>(iX N hs).bind λx380=>(mm N x378 x380).bind f) Q:=by
 refine TZ (rp (N:=N) (by omega) h2 (by omega))<|λs hs1=>?_
 refine TZ (rp (N:=N) (by omega) h4 (by omega))<|λt ht=>?_
 have hz:∀c∈j4 r++j4 hs,small c:=by
  intro c hc
  rcases dH.1 hc with h|h
  ·obtain⟨x,hx,rfl|rfl⟩:=oh.1 h
   ·exact(h2 x hx).s3
   ·exact(h2 x hx).s4
  ·obtain⟨x,hx,rfl|rfl⟩:=oh.1 h
   ·exact(h4 x hx).s3
   ·exact(h4 x hx).s4
 refine TZ (Lg (X:=vU r++vU hs) (Y:=j4 r++j4 hs) hs1.can ht.can (hs1.lim.mono (λc h=>List.mem_append_left _ h) (λc h=>List.mem_append_left _ h)) (ht.lim.mono (λc h=>List.mem_append_right _ h) (λc h=>List.mem_append_right _ h))
  (by grind [dX,tY]) (by grind [dX,mW]) hz hN) (λu hu=>?_)
 exact k u ⟨hu.can,λx y=>by rw[hu.cover,hs1.cover,ht.cover],hu.lim⟩
def bM:Nat->List (List<|List aA)->List aD
 |_,[]=>[]
 |k,ps::r=>ps.map (λp=>⟨((k:Nat):Int),p,aV p⟩)++bM (k+1) r
theorem wQ(ps:List (List aA)):∀(r:List (List<|List aA))(k:Nat),bM k (r++[ps])=bM k r++ps.map (λp=>⟨((k+r.length:Nat):Int),p,aV p⟩)
 | [],k=>by unfold bM;simp[bM]
 |q::r,k=>by
  show _++bM (k+1) (r++[ps])=(_++bM (k+1) r)++_;rw[wQ ps r<|k+1,kI];congr 3;simp only[eI];rw[show k+(r.length+1)=k+1+r.length by omega]
theorem D7{s p:List aA}{ps:List (List aA)}{r:Nat->Nat}{X Y:List Int}(h:uI s r ps)(hc:fM (s.map cK))(hl:Ag X Y (s.map cK))(hX:∀c∈X,small c)(hY:∀c∈Y,small c)(hp:p∈ps):
  ∃j k:Nat,ps[j]? =some p/\(bP (aV s).length r)[j]? =some k/\tZ (ot (aV s) (aV s).length r k) p/\Ag X Y (p.map cK):=by
 obtain⟨j,hj⟩:=eE hp;have hjl:=(bQ.1 hj).1;rw[h.len]at hjl;have hh:(bP (aV s).length r)[j]? =some (bP (aV s).length r)[j]:=aN hjl;have hs:=h.each j _ p hh hj;refine⟨j,_,hj,hh,hs,hs.lim.mono (λc hcx=>?_)<|λc hcx=>?_⟩
 ·obtain⟨x,hx,hxc⟩:=vV.1 hcx;obtain⟨i,_,_,hi⟩:=mz.1 hx;have:=DU hc hl hX hY x<|fR hi
  grind
 ·obtain⟨x,hx,hxc⟩:=oh.1 hcx;obtain⟨i,_,_,hi⟩:=mz.1 hx;have:=DU hc hl hX hY x<|fR hi
  grind
structure ym (cs:List (List aH)) (bs:List bU) (k:Nat) (ke:List (List aA)) (cX:List (List (List aA))):Prop where
 len:ke.length=k
 B4:cX.length=k
 dr:∀(i:Nat)r s,i<k->cs[i]? =some r->ke[i]? =some s->wP r (k9 bs ((i:Nat):Int)) s
 pt:∀(i:Nat)s ps,i<k->ke[i]? =some s->cX[i]? =some ps->∃u,uI s u ps
 xG:(bM 0 cX).length<=k*25000000
theorem uI.xG{s:List aA}{u:Nat->Nat}{ps:List (List aA)}(h:uI s u ps):ps.length<=(aV s).length:=by
 rw[h.len];exact lH _ _
theorem JG{cs:List (List aH)}{bs:List bU}(hcs:cs.length<=16)(hc:∀r∈cs,r.length<=2000/\∀x∈r,EH x)(hb:kQ bs)(hN:4398046511104<=N):
  Ok (kU N cs bs [] []) (λx=>∃cX,ym cs bs cs.length x.2.1 cX/\x.2.2=bM 0 cX/\(x.1=true↔(∀s∈x.2.1,(aV s).length<=2000)/\x.2.2.length<=2000)):=by
 unfold kU
 refine TZ (P:=λ(st:List (List aA)×List aD×Bool)=>∃cX,ym cs bs cs.length st.1 cX/\st.2.1=bM 0 cX/\(st.2.2=true↔∀s∈st.1,(aV s).length<=2000)) (UX (λ(k:Nat)(st:List (List aA)×List aD×Bool)=>∃cX,ym cs bs k st.1 cX/\st.2.1=bM 0 cX/\(st.2.2=true↔∀s∈st.1,(aV s).length<=2000)) (by omega)
  ⟨[],⟨rfl,rfl,λi r s hi=>by omega,λi s ps hi=>by omega,by simp[bM]⟩,rfl,by simp⟩ (λk st hk hI=>?_)) ?_
 ·obtain⟨ke,pcs,okk⟩:=st;obtain⟨cX,D,e1,e2⟩:=hI;dsimp only at D e1 e2 ⊢;subst e1;have hkx:cs[k]? =some cs[k]:=aN hk;obtain⟨hr1,hr2⟩:=hc _<|cH hk
  refine T6 hkx ?_;refine TZ (P:=λt=>t=k9 bs ((k:Nat):Int)) (Ok.mono (UX (λj t=>t=k9 (bs.take j) ((k:Nat):Int)) (by have:=hb.len;omega) rfl<|λj t hj e=>?_) (λt e=>by rw[e,eM]))<|λt e=>?_
  ·subst e;refine UW hj<|IT (D6 _ _) ?_
   have hts:bs.take (j+1)=bs.take j++[bs[j]]:=dQ hj;have hgb:=hb.ok _<|cH hj
   have hl:(k9 (bs.take j) ((k:Nat):Int)).length<=500:=by
    unfold k9;rw[eB];have:=nA (λb=>mA b ((k:Nat):Int))<|bs.take j
    rw[dS]at this;have:=hb.len;omega
   cases ht:mA bs[j] ((k:Nat):Int)with
   |false=>
    grind [IT,OF,k9]
   |true=>
    rw[aO]
    grind [IT,k9,ov,aB,kE,OF]
  ·subst e;have hho:=t9 hb ((k:Nat):Int);have hhl:=B3 hb ((k:Nat):Int);refine E1 hr1 hr2 hhl (λx hx=>(hho x hx).1) hN<|λs hs=>?_
   obtain⟨sx,sy⟩:=hs.small hr2<|λx hx=>(hho x hx).1
   obtain⟨z1,z2,z3⟩:=yL (A:=5000) hs.can hs.lim (by grind [dX,tY]) (by grind [dX,mW]);have hmany:=NP (N:=N) (s:=s) (by omega) (λb hb=>by grind) (by omega);refine IT (x:=(okk&&decide ((aV s).length<=2000),s)) ?_ ?_
   ·grind [aB,decide,aV]
   dsimp only;refine UJ (by rw[D.len];simp;omega) ?_;refine TZ (JD (N:=N) hs.can hs.lim sx sy (by omega) (λb hb=>by grind) (by omega) hN) ?_;rintro ps⟨u,hu⟩;have hfew:=hu.xG;have hk16:k*25000000<=16*25000000:=Nat.mul_le_mul_right _ (by omega);have hDf:=D.xG;refine TZ (P:=λt=>t=bM 0 cX++ps.map (λp=>(⟨((k:Nat):Int),p,aV p⟩:aD))) (Ok.mono (UX (λj t=>t=bM 0 cX++(ps.take j).map (λp=>(⟨((k:Nat):Int),p,aV p⟩:aD))) (by omega) (by simp)<|λj t hj e=>?_) (λt e=>by rw[e,eM]))<|λt e=>OF ?_
   ·subst e;have hjx:ps[j]? =some ps[j]:=aN hj;refine T6 hjx ?_;obtain⟨_,_,_,_,oy,hpl⟩:=D7 hu hs.can hs.lim sx sy<|cH hj
    obtain⟨y1,y2,y3⟩:=yL (A:=5000) oy.can hpl (by grind [dX,tY]) (by grind [dX,mW]);refine IT (DT (vX oy.can) (by omega) (λb hb=>by grind) (by omega))<|UJ ?_<|OF ?_
    ·grind
    grind [dQ,kI]
   ·subst e;refine⟨cX++[ps],⟨by simp[D.len],by simp[D.B4],λi r s' hi hr hs'=>?_,λi s' ps' hi hs' hps'=>?_,?_⟩,?_,?_⟩
    ·dsimp only at hs'
     by_cases hik:i<k
     ·rw[jI (by rw[D.len];exact hik)]at hs';exact D.dr i r s' hik hr hs'
     ·have:i=k:=by omega
      subst this;rw[jJ (by rw[D.len];omega),D.len,Nat.sub_self]at hs';simp at hs';subst hs';rw[hkx]at hr;injection hr with hr;subst hr
      exact hs
    ·dsimp only at hs'
     by_cases hik:i<k
     ·rw[jI (by rw[D.len];exact hik)]at hs';rw[jI (by rw[D.B4];exact hik)]at hps';exact D.pt i s' ps' hik hs' hps'
     ·have:i=k:=by omega
      subst this;rw[jJ (by rw[D.len];omega),D.len,Nat.sub_self]at hs';rw[jJ (by rw[D.B4];omega),D.B4,Nat.sub_self]at hps';simp at hs' hps';subst hs';subst hps';exact⟨u,hu⟩
    ·rw[wQ,dX,eB];omega
    ·dsimp only;rw[wQ,D.B4,jr]
    ·dsimp only;rw[cQ,e2,cY];constructor
     ·rintro⟨h1,h2⟩s' hs'
      rcases dH.1 hs' with h|h
      ·exact h1 s' h
      ·simp at h;subst h;exact h2
     ·intro h;exact⟨λs' hs'=>h s'<|List.mem_append_left _ hs',h s (by simp)⟩
 ·rintro⟨ke,pcs,okk⟩⟨cX,D,e1,e2⟩;dsimp only at D e1 e2 ⊢;subst e1;refine TZ (P:=λb=>b=true↔(∀s∈ke,(aV s).length<=2000)/\(bM 0 cX).length<=2000) (Uv (λh=>OF ?_)<|λh=>OF ?_)<|λb hb=>OF ⟨cX,D,rfl,hb⟩
  ·rw[cY];constructor
   ·intro h';exact⟨e2.1 h,by omega⟩
   ·rintro⟨_,h'⟩;omega
  ·constructor
   ·intro h';cases h'
   ·rintro⟨h',_⟩;rw[e2.2 h']at h;cases h
end
end Go.Gk
