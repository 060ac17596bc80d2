/-
  Helping texts: plain functions and plain laws. No statement of the seed is proved here.
-/
import Derived.Test.YthjjhaommlojiaaGreatDoorA1
import Derived.ChangeShapes
import Derived.ChangeSame
import Derived.Carry
import Derived.RowKit
import Derived.Test.YthjjhaommlojiaaGreatDoorA2
set_option linter.unusedVariables false
set_option linter.unusedSimpArgs false
set_option linter.unusedSectionVars false
namespace Go.Gk
open Go IntKind
noncomputable section
structure aH where
 X0:Int
 Y0:Int
 X1:Int
 Y1:Int
 deriving DecidableEq,Inhabited
structure jS where
 X:Int
 Y:Int
 deriving DecidableEq,Inhabited
structure cD where
 At:jS
 dY:Int
 cV:Int
 To:Int
 gw:Bool
 deriving DecidableEq,Inhabited
structure eP where
 Part:fz
 eE:fz
 dL:Int
 At:jS
 deriving DecidableEq,Inhabited
structure jT where
 aJ:List (List aH)
 cM:List aH
 aL:List cD
 bN:List eP
 deriving DecidableEq,Inhabited
structure eE where
 Part:fz
 eE:fz
 deriving DecidableEq,Inhabited
structure aA where
 Y0:Int
 Y1:Int
 Xs:List Int
 deriving DecidableEq,Inhabited
structure aI where
 dL:Int
 Set:List aA
 gI:List aH
 deriving DecidableEq,Inhabited
structure cP where
 kD:List Int
 aL:List Int
 gH:List eE
 deriving DecidableEq,Inhabited
structure cL where
 cD:Bool
 Number:Int
 deriving DecidableEq,Inhabited
structure aG where
 from_:Int
 to:Int
 deriving DecidableEq,Inhabited
structure aN where
 from_:Int
 to:Int
 jB:List aG
 deriving DecidableEq,Inhabited
def uL(N:Nat)(p0 p1 p2:Int):Option Bool:=
 some (decide (p0>=p1)&&decide (p0<=p2))
def mj(N:Nat)(p0:Int):Option Bool:=
 (uL N p0 (-1000000) 1000000).bind λj=>some j
def nP(N:Nat)(p0:aH):Option Bool:=
 ((mj N p0.X0).bind λj=>bif j then((mj N p0.Y0).bind λo=>bif o then((mj N p0.X1).bind λaa=>bif aa then((mj N p0.Y1).bind λab=>some ab)else some false)else some false)else some false).bind λad=>some ad
def lK(N:Nat)(p0:List aH):Option Int:=
 bif decide ((p0.length:Int)>2000)then some 2 else((uH p0.length (λ(o:Nat)(aa:Unit)=>((idx p0 (o:Int)).bind λj=>(nP N j).bind λab=>bif(!ab)then some (.rt 1)else(bif decide (j.X1<=j.X0)||decide (j.Y1<=j.Y0)then some (.rt 13)else some (.nx ())):Option (Fl Unit Int))) ()).bind λad=>ad.cs (λ(aa:Unit)=>some 0)<|λr=>some r)
def kb(N:Nat)(p0:List aH):Option (List aH):=
 (app 32 ([]:List aH) p0).bind λj=>some j
def kE(N:Nat)(p0 p1:aH):Option Int:=
 some (wrap .i64<|p0.Y0 - p1.Y0)
def iQ(N:Nat)(p0:List Int):Option (List Int):=
 bif decide ((p0.length:Int)<2)then some p0 else((iC (λ(o:Int)=>(bif decide (o<(p0.length:Int))then((idx p0 o).bind λab=>(idx p0<|wrap .i64<|o - 1).bind λad=>bif ab==ad then((sY p0 o (p0.length:Int)).bind λak=>(iC (λ(j:List Int×Int×Int)=>(bif decide (j.2.2<(((j.1.length - Int.toNat o):Nat):Int))then((GO j.1 o j.2.2).bind λae=>(GO j.1 o<|wrap .i64<|j.2.2 - 1).bind λaf=>(bif ae != af then((GO j.1 o j.2.2).bind λag=>(idx j.1 j.2.1).bind λal=>some (j.1.set (Int.toNat j.2.1) ag,wrap .i64<|j.2.1+1))else some (j.1,j.2.1)).bind λaa=>some<|.nx (aa.1,aa.2,wrap .i64<|j.2.2+1))else(some<|.br (j.1,j.2.1,j.2.2)):Option (Fl (List Int×Int×Int) Empty))) N (p0,o,1)).bind λah=>ah.cs (λ(j:List Int×Int×Int)=>(sY j.1 j.2.1 (j.1.length:Int)).bind λan=>(sY (j.1.take (Int.toNat j.2.1)++List.replicate (j.1.length - Int.toNat j.2.1) (0:Int)) 0 j.2.1).bind λai=>some<|.rt ai)<|λr=>r.elim)else some (.nx<|wrap .i64<|o+1))else(some<|.br o):Option (Fl Int<|List Int))) N 1).bind λaj=>aj.cs (λ(o:Int)=>some p0)<|λr=>some r)
def pz(N:Nat)(p0:aH)(p1:List Int)(p2:Int):Option Bool:=
 (idx p1 p2).bind λj=>some<|decide<|p0.Y1<=j
def mQ(N:Nat)(p0:List aH)(p1:aH->Option Bool):Option Int:=
 (uH p0.length (λ(j:Nat)(o:Unit)=>((idx p0 (j:Int)).bind λaa=>(p1 aa).bind λab=>bif ab then some (.rt (j:Int))else(some<|.nx ()):Option (Fl Unit Int))) ()).bind λad=>ad.cs (λ(o:Unit)=>some<|-1)<|λr=>some r
def lA(N:Nat)(p0:List aH)(p1:aH->Option Bool):Option Int:=
 (uH p0.length (λ(j:Nat)(o:Unit)=>((idx p0 (j:Int)).bind λaa=>(p1 aa).bind λab=>bif ab then some (.rt (j:Int))else(some<|.nx ()):Option (Fl Unit Int))) ()).bind λad=>ad.cs (λ(o:Unit)=>some<|-1)<|λr=>some r
def ju(N:Nat)(p0:List aH)(p1:aH->Option Bool):Option (List aH):=
 (lA N p0 p1).bind λo=>bif o==(-1)then some p0 else((iC (λ(j:List aH×Int×Int)=>(bif decide (j.2.2<(j.1.length:Int))then((idx j.1 j.2.2).bind λaa=>(p1 aa).bind λad=>(bif(!ad)then((idx j.1 j.2.1).bind λag=>some (j.1.set (Int.toNat j.2.1) aa,wrap .i64<|j.2.1+1))else some (j.1,j.2.1)).bind λab=>some<|.nx (ab.1,ab.2,wrap .i64<|j.2.2+1))else(some<|.br (j.1,j.2.1,j.2.2)):Option (Fl (List aH×Int×Int) Empty))) N (p0,o,wrap .i64<|o+1)).bind λae=>ae.cs (λ(j:List aH×Int×Int)=>(sY j.1 j.2.1 (j.1.length:Int)).bind λah=>(sY (j.1.take (Int.toNat j.2.1)++List.replicate (j.1.length - Int.toNat j.2.1) (⟨0,0,0,0⟩:aH)) 0 j.2.1).bind λaf=>some af)<|λr=>r.elim)
def iR(N:Nat)(p0 p1:aH):Option Int:=
 some (wrap .i64<|p0.X0 - p1.X0)
def kj(N:Nat)(p0:List aH):Option (List Int×List aH):=
 (yK (iR N) p0).bind λaa=>(my aa.length (λ(ad:Nat)(j:List Int)=>((idx aa (ad:Int)).bind λo=>(bif decide (wrap .i64 ((j.length:Int) - 1)>=0)then((idx j<|wrap .i64<|(j.length:Int) - 1).bind λae=>some<|decide<|o.X0<=ae)else some false).bind λaf=>(bif af then((idx j<|wrap .i64<|(j.length:Int) - 1).bind λab=>(idx j<|wrap .i64<|(j.length:Int) - 1).bind λai=>some<|j.set (Int.toNat<|wrap .i64<|(j.length:Int) - 1) (if ab<o.X1 then o.X1 else ab))else((app 8 j ([o.X0,o.X1]:List Int)).bind λag=>some ag)).bind λah=>some ah:Option (List Int))) ([]:List Int)).bind λj=>some (j,aa)
def nQ(N:Nat)(p0:List Int)(p1:List Int):Option Bool:=
 bif(p0.length:Int) != (p1.length:Int)then some false else((uH p0.length (λ(j:Nat)(o:Unit)=>((idx p0 (j:Int)).bind λaa=>(idx p1 (j:Int)).bind λab=>bif aa != ab then some (.rt false)else(some<|.nx ()):Option (Fl Unit Bool))) ()).bind λad=>ad.cs (λ(o:Unit)=>some true)<|λr=>some r)
def jZ(N:Nat)(p0:List aA)(p1:aA):Option (List aA):=
 bif((p1.Xs.length:Int)==0)||decide (p1.Y1<=p1.Y0)then some p0 else((bif decide (wrap .i64 ((p0.length:Int) - 1)>=0)then((idx p0<|wrap .i64<|(p0.length:Int) - 1).bind λj=>bif j.Y1==p1.Y0 then((idx p0<|wrap .i64<|(p0.length:Int) - 1).bind λo=>(nQ N o.Xs p1.Xs).bind λaa=>some aa)else some false)else some false).bind λab=>bif ab then((idx p0<|wrap .i64<|(p0.length:Int) - 1).bind λad=>some<|p0.set (Int.toNat<|wrap .i64<|(p0.length:Int) - 1)<|{ad with Y1:=p1.Y1})else((app 40 p0 ([p1]:List aA)).bind λae=>some ae))
def iY(N:Nat)(p0:List aH):Option (List aA):=
 (kb N p0).bind λag=>(yK (kE N) ag).bind λaa=>(my aa.length (λ(ah:Nat)(ad:List Int)=>((idx aa (ah:Int)).bind λae=>(app 8 ad ([ae.Y0,ae.Y1]:List Int)).bind λai=>some ai:Option (List Int))) ([]:List Int)).bind λad=>(vS ad).bind λaj=>(iQ N aj).bind λab=>(iC (λ(j:List aA×List aH×Int×Int)=>(bif decide (wrap .i64 (j.2.2.2+1)<(ab.length:Int))then((ju N j.2.1<|λy0=>pz N y0 ab j.2.2.2).bind λak=>(iC (λ(o:List aH×Int)=>((bif decide (o.2<(aa.length:Int))then((idx aa o.2).bind λal=>(idx ab j.2.2.2).bind λan=>some<|decide<|al.Y0<=an)else some false).bind λao=>bif ao then((idx aa o.2).bind λaq=>(app 32 o.1 ([aq]:List aH)).bind λar=>some<|.nx (ar,wrap .i64<|o.2+1))else(some<|.br (o.1,o.2)):Option (Fl (List aH×Int) Empty))) N (ak,j.2.2.1)).bind λau=>au.cs (λ(o:List aH×Int)=>(idx ab j.2.2.2).bind λav=>(idx ab<|wrap .i64<|j.2.2.2+1).bind λaw=>(kj N o.1).bind λaf=>(jZ N j.1 (⟨av,aw,af.1⟩:aA)).bind λax=>some<|.nx (ax,af.2,o.2,wrap .i64<|j.2.2.2+1))<|λr=>r.elim)else(some<|.br (j.1,j.2.1,j.2.2.1,j.2.2.2)):Option (Fl (List aA×List aH×Int×Int) Empty))) N (([]:List aA),([]:List aH),0,0)).bind λay=>ay.cs (λ(j:List aA×List aH×Int×Int)=>some j.1)<|λr=>r.elim
def kl(N:Nat)(p0:List aA):Option (List aH):=
 (my p0.length (λ(ab:Nat)(aa:List aH)=>((idx p0 (ab:Int)).bind λo=>(iC (λ(j:List aH×Int)=>(bif decide (j.2<(o.Xs.length:Int))then((idx o.Xs j.2).bind λyL=>(idx o.Xs<|wrap .i64<|j.2+1).bind λad=>(app 32 j.1 ([(⟨yL,o.Y0,ad,o.Y1⟩:aH)]:List aH)).bind λae=>some<|.nx (ae,wrap .i64<|j.2+2))else(some<|.br (j.1,j.2)):Option (Fl (List aH×Int) Empty))) N (aa,0)).bind λaf=>af.cs (λ(j:List aH×Int)=>some j.1) (λr=>r.elim):Option (List aH))) ([]:List aH)).bind λaa=>some aa
def lh(N:Nat)(p0:List aH)(p1:List aH):Option Bool:=
 bif(p0.length:Int) != (p1.length:Int)then some false else((uH p0.length (λ(j:Nat)(o:Unit)=>((idx p0 (j:Int)).bind λaa=>(idx p1 (j:Int)).bind λab=>bif(!(decide<|aa=ab))then some (.rt false)else(some<|.nx ()):Option (Fl Unit Bool))) ()).bind λad=>ad.cs (λ(o:Unit)=>some true)<|λr=>some r)
def kc(N:Nat)(p0:List aH):Option Int:=
 (lK N p0).bind λab=>bif ab != 0 then some ab else((iC (λ(j:Int)=>(bif decide (j<(p0.length:Int))then((idx p0<|wrap .i64<|j - 1).bind λo=>(idx p0 j).bind λaa=>bif decide (aa.Y0<o.Y0)||((aa.Y0==o.Y0)&&decide (aa.X0<=o.X0))then some (.rt 8)else some (.nx<|wrap .i64<|j+1))else(some<|.br j):Option (Fl Int Int))) N 1).bind λad=>ad.cs (λ(j:Int)=>(iY N p0).bind λae=>(kl N ae).bind λaf=>(lh N af p0).bind λag=>bif(!ag)then some 3 else some 0)<|λr=>some r)
def jm(N:Nat)(p0 p1 p2:Int):Option Bool:=
 some (decide (p0>=p1)&&decide (p0<=p2))
def ky(N:Nat)(p0:jS):Option Bool:=
 ((mj N p0.X).bind λj=>bif j then((mj N p0.Y).bind λo=>some o)else some false).bind λaa=>some aa
def gY(N:Nat)(p0:cD):Option aH:=
 some (⟨wrap .i64<|p0.At.X -(wrap .i64<|Int.tdiv p0.dY 2),wrap .i64<|p0.At.Y -(wrap .i64<|Int.tdiv p0.dY 2),wrap .i64<|wrap .i64 (p0.At.X -(wrap .i64<|Int.tdiv p0.dY 2))+p0.dY,wrap .i64<|wrap .i64 (p0.At.Y -(wrap .i64<|Int.tdiv p0.dY 2))+p0.dY⟩:aH)
def nR(N:Nat)(p0:List aA):Option aH:=
 (idx p0 0).bind λad=>(idx ad.Xs 0).bind λae=>(idx p0 0).bind λaf=>(idx p0 0).bind λag=>(idx ag.Xs 1).bind λah=>(idx p0<|wrap .i64<|(p0.length:Int) - 1).bind λai=>(my p0.length (λ(aj:Nat)(j:aH)=>((idx p0 (aj:Int)).bind λo=>(idx o.Xs 0).bind λaa=>(idx o.Xs<|wrap .i64<|(o.Xs.length:Int) - 1).bind λab=>some ({{j with X0:=(if aa<j.X0 then aa else j.X0)}with X1:=(if j.X1<ab then ab else j.X1)}):Option aH)) (⟨ae,af.Y0,ah,ai.Y1⟩:aH)).bind λj=>some j
def ni(N:Nat)(p0:List aA):Option Bool:=
 (bif(p0.length:Int)==0 then some true else((nR N p0).bind λj=>(nP N j).bind λo=>some o)).bind λaa=>some aa
def lB(N:Nat)(p0:cD):Option (aH×Int):=
 ((jm N p0.dY 1 10000).bind λo=>bif(!o)then some true else((ky N p0.At).bind λaa=>some<|!aa)).bind λab=>bif ab then some ((⟨0,0,0,0⟩:aH),1)else((gY N p0).bind λj=>(iY N ([j]:List aH)).bind λad=>(ni N ad).bind λae=>bif(!ae)then some ((⟨0,0,0,0⟩:aH),1)else some (j,0))
def lj(N:Nat)(p0:jT):Option Int:=
 bif decide ((p0.aL.length:Int)>500)then some 2 else((uH p0.aL.length (λ(aa:Nat)(ab:Unit)=>((idx p0.aL (aa:Int)).bind λj=>(lB N j).bind λo=>bif o.2 != 0 then some (.rt o.2)else(((jm N j.cV 0<|wrap .i64<|(p0.aJ.length:Int) - 1).bind λad=>bif(!ad)then some true else((jm N j.To j.cV<|wrap .i64<|(p0.aJ.length:Int) - 1).bind λae=>some<|!ae)).bind λaf=>bif af then some (.rt 1)else some (.nx ())):Option (Fl Unit Int))) ()).bind λag=>ag.cs (λ(ab:Unit)=>some 0)<|λr=>some r)
def jD(N:Nat)(p0:fz)(p1:Int):Option Int:=
 some (Lib.indexByte p0.dP (Int.toNat p1).toUInt8)
def lk(N:Nat)(p0 p1:fz):Option Int:=
 bif((p1.dP.length:Int)==0)||p1.rT p0 then some 0 else(bif(p1.dP.length:Int)==1 then((GI p1 0).bind λj=>(jD N p0 (j.toNat:Int)).bind λo=>some o)else(bif decide ((p1.dP.length:Int)>=(p0.dP.length:Int))then some (-1)else none))
def mH(N:Nat)(p0 p1:fz):Option Int:=
 (lk N p0 p1).bind λj=>some j
def oq(N:Nat)(p0 p1:fz):Option Int:=
 bif(p1.dP.length:Int)==0 then none else(bif(p1.dP.length:Int)==1 then((GI p1 0).bind λaa=>some ((Lib.countByte p0.dP (Int.toNat (aa.toNat:Int)).toUInt8:Nat):Int))else((iC (λ(j:fz×Int)=>((mH N j.1 p1).bind λo=>bif o==(-1)then some (.rt j.2)else((xU j.1 (wrap .i64<|o+(p1.dP.length:Int)) (j.1.dP.length:Int)).bind λab=>some<|.nx (ab,wrap .i64<|j.2+1)):Option (Fl (fz×Int) Int))) N (p0,0)).bind λad=>ad.cs (λ(j:fz×Int)=>some 0)<|λr=>some r))
def nS(N:Nat)(p0 p1:fz)(p2 p3:Int):Option (List fz):=
 bif p3==0 then some ([]:List fz)else(bif p1.rT (⟨[]⟩)then none else((bif decide (p3<0)then((oq N p0 p1).bind λab=>some<|wrap .i64<|ab+1)else some p3).bind λo=>(mk 16 (⟨[]⟩:fz) (if wrap .i64 ((p0.dP.length:Int)+1)<o then wrap .i64 ((p0.dP.length:Int)+1)else o)).bind λad=>(iC (λ(j:fz×List fz×Int)=>(bif decide (j.2.2< wrap .i64 ((if wrap .i64 ((p0.dP.length:Int)+1)<o then wrap .i64 ((p0.dP.length:Int)+1)else o) - 1))then((mH N j.1 p1).bind λaa=>bif decide (aa<0)then some (.br (j.1,j.2.1,j.2.2))else((xU j.1 0<|wrap .i64<|aa+p2).bind λae=>(idx j.2.1 j.2.2).bind λai=>(xU j.1 (wrap .i64<|aa+(p1.dP.length:Int)) (j.1.dP.length:Int)).bind λaf=>some<|.nx (af,j.2.1.set (Int.toNat j.2.2) ae,wrap .i64<|j.2.2+1)))else(some<|.br (j.1,j.2.1,j.2.2)):Option (Fl (fz×List fz×Int) Empty))) N (p0,ad,0)).bind λag=>ag.cs (λ(j:fz×List fz×Int)=>(idx j.2.1 j.2.2).bind λaj=>(sY (j.2.1.set (Int.toNat j.2.2) j.1) 0<|wrap .i64<|j.2.2+1).bind λah=>some ah)<|λr=>r.elim))
def mI(N:Nat)(p0 p1:fz):Option (List fz):=
 (nS N p0 p1 0<|-1).bind λj=>some j
def lL(N:Nat)(p0:List fz)(p1:fz->Option Bool):Option Int:=
 (uH p0.length (λ(j:Nat)(o:Unit)=>((idx p0 (j:Int)).bind λaa=>(p1 aa).bind λab=>bif ab then some (.rt (j:Int))else(some<|.nx ()):Option (Fl Unit Int))) ()).bind λad=>ad.cs (λ(o:Unit)=>some<|-1)<|λr=>some r
def jv(N:Nat)(p0:List fz)(p1:fz->Option Bool):Option Bool:=
 (lL N p0 p1).bind λj=>some<|decide<|j>=0
def iu(N:Nat)(p0:fz)(p1:Int):Option Int:=
 (jD N p0 p1).bind λj=>some j
def j3(N:Nat)(p0:fz):Option Bool:=
 (uH p0.dP.length (λ(o:Nat)(aa:Unit)=>((GI p0 (o:Int)).bind λj=>(bif((decide ((j.toNat:Int)<65)||decide ((j.toNat:Int)>90))&&(decide ((j.toNat:Int)<97)||decide ((j.toNat:Int)>122)))&&(decide ((j.toNat:Int)<48)||decide ((j.toNat:Int)>57))then((iu N (⟨[95,43,45,35]⟩) (j.toNat:Int)).bind λab=>some<|decide<|ab<0)else some false).bind λad=>bif ad then some (.rt false)else(some<|.nx ()):Option (Fl Unit Bool))) ()).bind λae=>ae.cs (λ(aa:Unit)=>some<|decide ((p0.dP.length:Int)>=1)&&decide ((p0.dP.length:Int)<=40))<|λr=>some r
def jw(N:Nat)(p0:fz):Option Bool:=
 (j3 N p0).bind λj=>some<|!j
def nj(N:Nat)(p0:fz):Option Bool:=
 (bif decide ((p0.dP.length:Int)<=200)then((mI N p0<|⟨[47]⟩).bind λj=>(jv N j<|jw N).bind λo=>some<|!o)else some false).bind λaa=>some aa
def ml(N:Nat)(p0:eP):Option eE:=
 some (⟨p0.Part,p0.eE⟩:eE)
def mR(N:Nat)(p0 p1:fz):Option Int:=
 some (Lib.compareBytes p0.dP p1.dP)
def oM(N:Nat)(p0 p1:fz):Option Int:=
 (mR N p0 p1).bind λj=>some j
def jz(N:Nat)(p0 p1:eE):Option Int:=
 (oM N p0.Part p1.Part).bind λj=>bif j != 0 then some j else((oM N p0.eE p1.eE).bind λo=>some o)
def ll(N:Nat)(p0:jT):Option Int:=
 bif decide ((p0.bN.length:Int)>1000)then some 2 else((uH p0.bN.length (λ(o:Nat)(aa:Unit)=>((idx p0.bN (o:Int)).bind λj=>((nj N j.Part).bind λab=>bif(!ab)then some true else((j3 N j.eE).bind λad=>some<|!ad)).bind λae=>bif ae then some (.rt 5)else(((jm N j.dL 0<|wrap .i64<|(p0.aJ.length:Int) - 1).bind λaf=>bif(!af)then some true else((ky N j.At).bind λag=>some<|!ag)).bind λah=>bif ah then some (.rt 1)else((bif decide ((o:Int)>0)then((idx p0.bN<|wrap .i64<|(o:Int) - 1).bind λai=>(ml N j).bind λaj=>(ml N ai).bind λak=>(jz N aj ak).bind λal=>some<|decide<|al<=0)else some false).bind λan=>bif an then some (.rt 8)else some (.nx ()))):Option (Fl Unit Int))) ()).bind λao=>ao.cs (λ(aa:Unit)=>some 0)<|λr=>some r)
def mJ(N:Nat)(p0 p1:Int)(p2 p3:Int):Option Int:=
 some (if(if 0<(wrap .i64<|wrap .i64 (p2 - p1)+1)then wrap .i64 (wrap .i64 (p2 - p1)+1)else 0)<(wrap .i64<|wrap .i64 (p0 - p3)+1)then wrap .i64 (wrap .i64 (p0 - p3)+1)else(if 0<(wrap .i64<|wrap .i64 (p2 - p1)+1)then wrap .i64 (wrap .i64 (p2 - p1)+1)else 0))
def tM(N:Nat)(p0 p1:aH):Option Int:=
 (mJ N p0.X0 p0.X1 p1.X0 p1.X1).bind λj=>(mJ N p0.Y0 p0.Y1 p1.Y0 p1.Y1).bind λo=>some (if j<o then o else j)
def lM(N:Nat)(p0:cD)(p1:Int):Option Bool:=
 some (decide (p0.cV<=p1)&&decide (p1<=p0.To))
def nT(N:Nat)(p0:List aA)(p1 p2:Int):Option (List Int×Int):=
 bif(p0.length:Int)==0 then some (([]:List Int),p2)else((idx p0 0).bind λaa=>bif decide (p1<aa.Y0)then((idx p0 0).bind λj=>some (([]:List Int),(if j.Y0<p2 then j.Y0 else p2)))else((idx p0 0).bind λab=>(idx p0 0).bind λo=>some (ab.Xs,(if o.Y1<p2 then o.Y1 else p2))))
def rV(N:Nat)(p0:List Int)(p1:List Int)(p2:Bool->Bool->Option Bool):Option (List Int):=
 (iC (λ(j:List Int×List Int×List Int×Bool×Bool×Bool)=>((bif decide ((j.1.length:Int)>0)then some true else some (decide<|(j.2.1.length:Int)>0)).bind λaf=>bif af then((bif(j.2.1.length:Int)==0 then some true else(bif decide ((j.1.length:Int)>0)then((idx j.1 0).bind λag=>(idx j.2.1 0).bind λah=>some<|decide<|ag<=ah)else some false)).bind λai=>(bif ai then((idx j.1 0).bind λaj=>some aj)else((idx j.2.1 0).bind λak=>some ak)).bind λo=>(bif decide ((j.1.length:Int)>0)then((idx j.1 0).bind λal=>some<|al==o)else some false).bind λan=>(bif an then((sY j.1 1 (j.1.length:Int)).bind λao=>some (ao,(!j.2.2.2.1)))else some (j.1,j.2.2.2.1)).bind λaa=>(bif decide ((j.2.1.length:Int)>0)then((idx j.2.1 0).bind λaq=>some<|aq==o)else some false).bind λar=>(bif ar then((sY j.2.1 1 (j.2.1.length:Int)).bind λau=>some (au,(!j.2.2.2.2.1)))else some (j.2.1,j.2.2.2.2.1)).bind λab=>(p2 aa.2 ab.2).bind λad=>(bif ad != j.2.2.2.2.2 then((app 8 j.2.2.1 ([o]:List Int)).bind λav=>some (av,ad))else some (j.2.2.1,j.2.2.2.2.2)).bind λae=>some<|.nx (aa.1,ab.1,ae.1,aa.2,ab.2,ae.2))else(some<|.br (j.1,j.2.1,j.2.2.1,j.2.2.2.1,j.2.2.2.2.1,j.2.2.2.2.2)):Option (Fl (List Int×List Int×List Int×Bool×Bool×Bool) Empty))) N (p0,p1,([]:List Int),false,false,false)).bind λaw=>aw.cs (λ(j:List Int×List Int×List Int×Bool×Bool×Bool)=>some j.2.2.1)<|λr=>r.elim
def qy(N:Nat)(p0:List aA)(p1:List aA)(p2:Bool->Bool->Option Bool):Option (List aA):=
 bif wrap .i64 ((p0.length:Int)+(p1.length:Int))==0 then some ([]:List aA)else((my (([p0,p1]:List (List aA)).length) (λ(ah:Nat)(o:Int×Int)=>((idx ([p0,p1]:List (List aA)) (ah:Int)).bind λad=>(bif decide ((ad.length:Int)>0)then((bif(ah:Int)==0 then some true else some ((p0.length:Int)==0)).bind λal=>(bif al then((idx ad 0).bind λyL=>(idx ad<|wrap .i64<|(ad.length:Int) - 1).bind λan=>some (yL.Y0,an.Y1))else some (o.1,o.2)).bind λag=>(idx ad 0).bind λai=>(idx ad<|wrap .i64<|(ad.length:Int) - 1).bind λaj=>some ((if ai.Y0<ag.1 then ai.Y0 else ag.1),(if ag.2<aj.Y1 then aj.Y1 else ag.2)))else some (o.1,o.2)).bind λak=>some (ak.1,ak.2):Option (Int×Int))) (0,0)).bind λo=>(iC (λ(j:List aA×List aA×List aA×Int)=>(bif decide (j.2.2.2<o.2)then((iC (λ(aa:List aA)=>((bif decide ((aa.length:Int)>0)then((idx aa 0).bind λao=>some<|decide<|ao.Y1<=j.2.2.2)else some false).bind λaq=>bif aq then((sY aa 1 (aa.length:Int)).bind λar=>some<|.nx ar)else(some<|.br aa):Option (Fl (List aA) Empty))) N j.1).bind λau=>au.cs (λ(aa:List aA)=>(iC (λ(ab:List aA)=>((bif decide ((ab.length:Int)>0)then((idx ab 0).bind λav=>some<|decide<|av.Y1<=j.2.2.2)else some false).bind λaw=>bif aw then((sY ab 1 (ab.length:Int)).bind λax=>some<|.nx ax)else(some<|.br ab):Option (Fl (List aA) Empty))) N j.2.1).bind λay=>ay.cs (λ(ab:List aA)=>(nT N aa j.2.2.2 o.2).bind λae=>(nT N ab j.2.2.2 o.2).bind λaf=>(rV N ae.1 af.1 p2).bind λaz=>(jZ N j.2.2.1 (⟨j.2.2.2,(if af.2<ae.2 then af.2 else ae.2),az⟩:aA)).bind λa0=>some<|.nx (aa,ab,a0,(if af.2<ae.2 then af.2 else ae.2)))<|λr=>r.elim)<|λr=>r.elim)else(some<|.br (j.1,j.2.1,j.2.2.1,j.2.2.2)):Option (Fl (List aA×List aA×List aA×Int) Empty))) N (p0,p1,([]:List aA),o.1)).bind λa1=>a1.cs (λ(j:List aA×List aA×List aA×Int)=>some j.2.2.1)<|λr=>r.elim)
def pA(N:Nat)(p0 p1:Bool):Option Bool:=
 some (p0&&(!p1))
def lN(N:Nat)(p0:List aA)(p1:List aA):Option (List aA):=
 (qy N p0 p1<|pA N).bind λj=>some j
def nk(N:Nat)(p0:List aA):Option Int:=
 (my p0.length (λ(o:Nat)(j:Int)=>((idx p0 (o:Int)).bind λaa=>some (wrap .i64<|j+ wrap .i64 (Int.tdiv (aa.Xs.length:Int) 2)):Option Int)) 0).bind λj=>some j
def gj(N:Nat)(p0:Int)(p1_0:List Int):Option (Int×List Int):=
 (iC (λ(j:Int×List Int)=>((idx j.2 j.1).bind λaa=>bif aa != j.1 then((idx j.2 j.1).bind λab=>(idx j.2 ab).bind λo=>(idx j.2 j.1).bind λaf=>(idx (j.2.set (Int.toNat j.1) o) j.1).bind λad=>some<|.nx (ad,j.2.set (Int.toNat j.1) o))else(some<|.br (j.1,j.2)):Option (Fl (Int×List Int) Empty))) N (p0,p1_0)).bind λae=>ae.cs (λ(j:Int×List Int)=>some (j.1,j.2))<|λr=>r.elim
def mz(N:Nat)(p0:List aA):Option (List<|List aA):=
 (kl N p0).bind λab=>(mk 8 (0:Int) (ab.length:Int)).bind λan=>(my an.length (λ(ai:Nat)(ag:List Int)=>((idx ag (ai:Int)).bind λbd=>some (ag.set (Int.toNat (ai:Int)) (ai:Int)):Option (List Int))) an).bind λag=>(my p0.length (λ(aj:Nat)(aa:List Int×Int×Int)=>((idx p0 (aj:Int)).bind λak=>(bif decide ((aj:Int)>0)then((idx p0<|wrap .i64<|(aj:Int) - 1).bind λar=>some<|ar.Y1==ak.Y0)else some false).bind λau=>(bif au then((iC (λ(j:List Int×Int×Int)=>(bif decide (j.2.1<aa.2.1)&&decide (j.2.2< wrap .i64 (aa.2.1+ wrap .i64 (Int.tdiv (ak.Xs.length:Int) 2)))then(((idx ab j.2.1).bind λav=>(idx ab j.2.2).bind λaw=>bif decide (av.X0<aw.X1)then((idx ab j.2.2).bind λax=>(idx ab j.2.1).bind λay=>some<|decide<|ax.X0<ay.X1)else some false).bind λaz=>(bif az then((gj N j.2.1 j.1).bind λae=>(gj N j.2.2 ae.2).bind λad=>(idx ad.2 (if ae.1<ad.1 then ad.1 else ae.1)).bind λbf=>some<|ad.2.set (Int.toNat (if ae.1<ad.1 then ad.1 else ae.1)) (if ad.1<ae.1 then ad.1 else ae.1))else some j.1).bind λa0=>(idx ab j.2.1).bind λa1=>(idx ab j.2.2).bind λa2=>(bif decide (a1.X1<a2.X1)then some (wrap .i64<|j.2.1+1,j.2.2)else some (j.2.1,wrap .i64<|j.2.2+1)).bind λao=>some<|.nx (a0,ao.1,ao.2))else(some<|.br (j.1,j.2.1,j.2.2)):Option (Fl (List Int×Int×Int) Empty))) N (aa.1,aa.2.2,aa.2.1)).bind λa3=>a3.cs (λ(j:List Int×Int×Int)=>some j.1)<|λr=>r.elim)else some aa.1).bind λa4=>some (a4,wrap .i64<|aa.2.1+ wrap .i64 (Int.tdiv (ak.Xs.length:Int) 2),aa.2.1):Option (List Int×Int×Int))) (ag,0,0)).bind λaa=>(my ab.length (λ(aq:Nat)(o:List Int×List (Int×Int)×List (List aH))=>((idx ab (aq:Int)).bind λa5=>(gj N (aq:Int) o.1).bind λah=>(bif(!(gZ o.2.1 ah.1))then((app 24 o.2.2 [([]:List aH)]).bind λa6=>some (om o.2.1 ah.1 (o.2.2.length:Int),a6,(o.2.2.length:Int)))else some (o.2.1,o.2.2,eX o.2.1 ah.1 (0:Int))).bind λaf=>(idx af.2.1 af.2.2).bind λa7=>(app 32 a7 ([a5]:List aH)).bind λa8=>(idx af.2.1 af.2.2).bind λbg=>some (ah.2,af.1,af.2.1.set (Int.toNat af.2.2) a8):Option (List Int×List (Int×Int)×List (List aH)))) (aa.1,([]:List (Int×Int)),([]:List (List aH)))).bind λo=>(my o.2.2.length (λ(a9:Nat)(al:List (List aA))=>((idx o.2.2 (a9:Int)).bind λba=>(iY N ba).bind λbb=>(app 24 al ([bb]:List (List aA))).bind λbc=>some bc:Option (List<|List aA))) ([]:List (List aA))).bind λal=>some al
def kF(N:Nat)(p0_0:List (List aH))(p0_2:List cD)(p0_4:List (List aA))(p0_5:List aI):Option (Bool×List (List aA)×List aI):=
 (my p0_0.length (λ(aa:Nat)(j:List (List aA)×List aI×Bool)=>((idx p0_0 (aa:Int)).bind λai=>(my p0_2.length (λ(aj:Nat)(o:List aH)=>((idx p0_2 (aj:Int)).bind λaf=>(lM N af (aa:Int)).bind λak=>(bif ak then((gY N af).bind λal=>(app 32 o ([al]:List aH)).bind λan=>some an)else some o).bind λao=>some ao:Option (List aH))) ([]:List aH)).bind λo=>(iY N ai).bind λaq=>(iY N o).bind λar=>(lN N aq ar).bind λab=>(bif j.2.2 then((nk N ab).bind λau=>some (decide<|au<=2000,ab))else some (false,ab)).bind λad=>(app 24 j.1 ([ad.2]:List (List aA))).bind λav=>(mz N ad.2).bind λag=>(my ag.length (λ(aw:Nat)(ae:List aI)=>((idx ag (aw:Int)).bind λah=>(kl N ah).bind λax=>(app 56 ae ([(⟨(aa:Int),ah,ax⟩:aI)]:List aI)).bind λay=>some ay:Option (List aI))) j.2.1).bind λae=>some (av,ae,ad.1):Option (List (List aA)×List aI×Bool))) (p0_4,p0_5,true)).bind λj=>(bif j.2.2 then some (decide<|(j.2.1.length:Int)<=2000)else some false).bind λaz=>some (az,j.1,j.2.1)
def tq(N:Nat)(p0 p1:aH):Option Bool:=
 some (((decide (p0.X0<p1.X1)&&decide (p1.X0<p0.X1))&&((p0.Y1==p1.Y0)||(p1.Y1==p0.Y0)))||((decide (p0.Y0<p1.Y1)&&decide (p1.Y0<p0.Y1))&&((p0.X1==p1.X0)||(p1.X1==p0.X0))))
def kS(N:Nat)(p0:aH)(p1:cD):Option Bool:=
 (gY N p1).bind λj=>(tq N p0 j).bind λo=>some o
def iJ(N:Nat)(p0:List aH)(p1:aH->Option Bool):Option Bool:=
 (mQ N p0 p1).bind λj=>some<|decide<|j>=0
def kG(N:Nat)(p0_2:List cD)(p0_5:List aI)(p0_6:List (List Int)):Option (List<|List Int):=
 (my p0_2.length (λ(ae:Nat)(o:List (List Int))=>((idx p0_2 (ae:Int)).bind λaa=>(my p0_5.length (λ(ab:Nat)(j:List Int)=>((idx p0_5 (ab:Int)).bind λad=>(bif aa.gw then((lM N aa ad.dL).bind λaf=>bif af then((iJ N ad.gI<|λy0=>kS N y0 aa).bind λag=>some ag)else some false)else some false).bind λah=>(bif ah then((app 8 j ([(ab:Int)]:List Int)).bind λai=>some ai)else some j).bind λaj=>some aj:Option (List Int))) ([]:List Int)).bind λj=>(app 24 o ([j]:List (List Int))).bind λak=>some ak:Option (List<|List Int))) p0_6).bind λo=>some o
def lO(N:Nat)(p0:Int):Option (List Int):=
 (mk 8 (0:Int) p0).bind λaa=>(my aa.length (λ(o:Nat)(j:List Int)=>((idx j (o:Int)).bind λab=>some (j.set (Int.toNat (o:Int)) (o:Int)):Option (List Int))) aa).bind λj=>some j
def iv(N:Nat)(p0_0:List Int)(p1:Int):Option (Int×List Int):=
 (iC (λ(j:List Int×Int)=>((idx j.1 j.2).bind λaa=>bif aa != j.2 then((idx j.1 j.2).bind λab=>(idx j.1 ab).bind λo=>(idx j.1 j.2).bind λaf=>(idx (j.1.set (Int.toNat j.2) o) j.2).bind λad=>some<|.nx (j.1.set (Int.toNat j.2) o,ad))else(some<|.br (j.1,j.2)):Option (Fl (List Int×Int) Empty))) N (p0_0,p1)).bind λae=>ae.cs (λ(j:List Int×Int)=>some (j.2,j.1))<|λr=>r.elim
def iS(N:Nat)(p0_0:List Int)(p1 p2:Int):Option (List Int):=
 (iv N p0_0 p1).bind λo=>(iv N o.2 p2).bind λj=>(idx j.2 (if o.1<j.1 then j.1 else o.1)).bind λaa=>some<|j.2.set (Int.toNat (if o.1<j.1 then j.1 else o.1)) (if j.1<o.1 then j.1 else o.1)
def kH(N:Nat)(p0_0:List Int):Option (List (List Int)×List Int):=
 (my p0_0.length (λ(ab:Nat)(j:List Int×List (List Int)×List (Int×Int))=>((iv N j.1 (ab:Int)).bind λaa=>(bif aa.1==(ab:Int)then((app 24 j.2.1 [([]:List Int)]).bind λad=>some (ad,om j.2.2 (ab:Int) (j.2.1.length:Int)))else some (j.2.1,j.2.2)).bind λo=>(idx o.1<|eX o.2 aa.1 (0:Int)).bind λae=>(app 8 ae ([(ab:Int)]:List Int)).bind λaf=>(idx o.1<|eX o.2 aa.1 (0:Int)).bind λag=>some (aa.2,o.1.set (Int.toNat<|eX o.2 aa.1 (0:Int)) af,o.2):Option (List Int×List (List Int)×List (Int×Int)))) (p0_0,([]:List (List Int)),([]:List (Int×Int)))).bind λj=>some (j.2.1,j.1)
def mm(N:Nat)(p0:aH)(p1:jS):Option Bool:=
 (bif decide (p1.X>=p0.X0)then(bif decide (p1.X<p0.X1)then(bif decide (p1.Y>=p0.Y0)then some (decide<|p1.Y<p0.Y1)else some false)else some false)else some false).bind λj=>some j
def k6(N:Nat)(p0:List aH)(p1:jS):Option Bool:=
 (iJ N p0<|λy0=>mm N y0 p1).bind λj=>some j
def kI(N:Nat)(p0_2:List cD)(p0_5:List aI)(p1:eP):Option (cL×Bool):=
 (uH p0_2.length (λ(o:Nat)(ad:Unit)=>((idx p0_2 (o:Int)).bind λj=>(bif j.gw then((lM N j p1.dL).bind λae=>bif ae then((gY N j).bind λaf=>(k6 N ([af]:List aH) p1.At).bind λag=>some ag)else some false)else some false).bind λah=>bif ah then some (.rt ((⟨true,(o:Int)⟩:cL),true))else(some<|.nx ()):Option (Fl Unit<|cL×Bool))) ()).bind λai=>ai.cs (λ(ad:Unit)=>(uH p0_5.length (λ(aa:Nat)(aj:Unit)=>((idx p0_5 (aa:Int)).bind λab=>(bif ab.dL==p1.dL then((k6 N ab.gI p1.At).bind λak=>some ak)else some false).bind λal=>bif al then some (.rt ((⟨false,(aa:Int)⟩:cL),true))else(some<|.nx ()):Option (Fl Unit<|cL×Bool))) ()).bind λan=>an.cs (λ(aj:Unit)=>some ((⟨false,0⟩:cL),false))<|λr=>some r)<|λr=>some r
def iZ(N:Nat)(p0_8:List Int)(p0_9:List Int)(p1:cL):Option Int:=
 bif p1.cD then((idx p0_9 p1.Number).bind λj=>some j)else((idx p0_8 p1.Number).bind λo=>some o)
def gM(N:Nat)(p0_2:List cD)(p0_3:List eP)(p0_5:List aI)(p0_6:List (List Int))(p0_8:List Int)(p0_9:List Int)(p0_10:List Int)(p0_11:List cL):Option (List cP×List Int×List Int×List Int×List cL):=
 (lO N<|wrap .i64<|(p0_5.length:Int)+(p0_2.length:Int)).bind λar=>(my p0_6.length (λ(ai:Nat)(af:List Int)=>((idx p0_6 (ai:Int)).bind λaj=>(my aj.length (λ(au:Nat)(ag:List Int)=>((idx aj (au:Int)).bind λav=>(iS N ag av<|wrap .i64<|(p0_5.length:Int)+(ai:Int)).bind λaw=>some aw:Option (List Int))) af).bind λag=>some ag:Option (List Int))) ar).bind λaf=>(mk 8 (0:Int) (p0_5.length:Int)).bind λax=>(mk 8 (0:Int) (p0_2.length:Int)).bind λay=>(kH N af).bind λak=>(my ak.1.length (λ(az:Nat)(aa:List cP×List Int×List Int)=>((idx ak.1 (az:Int)).bind λal=>(my al.length (λ(a0:Nat)(j:List Int×List Int×List Int×List Int)=>((idx al (a0:Int)).bind λab=>(bif decide (ab<(p0_5.length:Int))then((idx j.1 ab).bind λbd=>(app 8 j.2.2.1 ([ab]:List Int)).bind λa1=>some (j.1.set (Int.toNat ab) (aa.1.length:Int),j.2.1,a1,j.2.2.2))else((idx p0_2<|wrap .i64<|ab -(p0_5.length:Int)).bind λa2=>(bif a2.gw then((idx j.2.1<|wrap .i64<|ab -(p0_5.length:Int)).bind λbf=>(app 8 j.2.2.2 ([wrap .i64<|ab -(p0_5.length:Int)]:List Int)).bind λa3=>some (j.2.1.set (Int.toNat<|wrap .i64<|ab -(p0_5.length:Int)) (aa.1.length:Int),a3))else((idx j.2.1<|wrap .i64<|ab -(p0_5.length:Int)).bind λbg=>some (j.2.1.set (Int.toNat<|wrap .i64<|ab -(p0_5.length:Int))<|-1,j.2.2.2))).bind λan=>some (j.1,an.1,j.2.2.1,an.2))).bind λad=>some (ad.1,ad.2.1,ad.2.2.1,ad.2.2.2):Option (List Int×List Int×List Int×List Int))) (aa.2.1,aa.2.2,([]:List Int),([]:List Int))).bind λj=>(bif decide (wrap .i64 ((j.2.2.1.length:Int)+(j.2.2.2.length:Int))>0)then((app 72 aa.1 [(⟨j.2.2.1,j.2.2.2,([]:List eE)⟩:cP)]).bind λa4=>some a4)else some aa.1).bind λa5=>some (a5,j.1,j.2.1):Option (List cP×List Int×List Int))) (([]:List cP),ax,ay)).bind λaa=>(my p0_3.length (λ(a6:Nat)(o:List cP×List Int×List Int×List Int×List cL)=>((idx p0_3 (a6:Int)).bind λao=>(kI N p0_2 p0_5 ao).bind λah=>(bif ah.2 then((iZ N o.2.1 o.2.2.1 ah.1).bind λae=>(idx o.1 ae).bind λa7=>(ml N ao).bind λa8=>(app 32 a7.gH ([a8]:List eE)).bind λa9=>(idx o.1 ae).bind λba=>some (o.1.set (Int.toNat ae) {ba with gH:=a9},ae))else some (o.1,(-1))).bind λaq=>(app 8 o.2.2.2.1 ([aq.2]:List Int)).bind λbb=>(app 16 o.2.2.2.2 ([ah.1]:List cL)).bind λbc=>some (aq.1,o.2.1,o.2.2.1,bb,bc):Option (List cP×List Int×List Int×List Int×List cL))) (aa.1,aa.2.1,aa.2.2,p0_10,p0_11)).bind λo=>some (o.1,o.2.1,o.2.2.1,o.2.2.2.1,o.2.2.2.2)
def i5(N:Nat)(p0:jT):Option (Option (List (List aH)×List aH×List cD×List eP×List (List aA)×List aI×List (List Int)×List cP×List Int×List Int×List Int×List cL)×Int):=
 bif(p0.aJ.length:Int)==0 then some (none,9)else(bif decide ((p0.aJ.length:Int)>16)then some (none,2)else((uH p0.aJ.length (λ(an:Nat)(aa:Int)=>((idx p0.aJ (an:Int)).bind λae=>(kc N ae).bind λaf=>bif af != 0 then some (.rt (none,af))else(some<|.nx<|wrap .i64<|aa+(ae.length:Int)):Option (Fl Int<|Option (List (List aH)×List aH×List cD×List eP×List (List aA)×List aI×List (List Int)×List cP×List Int×List Int×List Int×List cL)×Int))) (p0.cM.length:Int)).bind λao=>ao.cs (λ(aa:Int)=>(kc N p0.cM).bind λag=>bif ag != 0 then some (none,ag)else(bif decide (aa>2000)then some (none,2)else((lj N p0).bind λah=>bif ah != 0 then some (none,ah)else((ll N p0).bind λai=>bif ai != 0 then some (none,ai)else((uH p0.aL.length (λ(aj:Nat)(aq:Unit)=>((idx p0.aL (aj:Int)).bind λab=>(sY p0.aL 0 (aj:Int)).bind λak=>(uH ak.length (λ(ar:Nat)(au:Unit)=>((idx ak (ar:Int)).bind λad=>(bif decide (ab.cV<=ad.To)&&decide (ad.cV<=ab.To)then((gY N ab).bind λav=>(gY N ad).bind λaw=>(tM N av aw).bind λax=>some<|ax==0)else some false).bind λay=>bif ay then some (.rt (none,12))else(some<|.nx ()):Option (Fl Unit<|Option (List (List aH)×List aH×List cD×List eP×List (List aA)×List aI×List (List Int)×List cP×List Int×List Int×List Int×List cL)×Int))) ()).bind λaz=>az.cs (λ(au:Unit)=>some<|.nx ()) (λr=>some<|.rt r):Option (Fl Unit<|Option (List (List aH)×List aH×List cD×List eP×List (List aA)×List aI×List (List Int)×List cP×List Int×List Int×List Int×List cL)×Int))) ()).bind λa0=>a0.cs (λ(aq:Unit)=>(kF N p0.aJ p0.aL ([]:List (List aA)) ([]:List aI)).bind λj=>bif(!j.1)then some (none,2)else((kG N p0.aL j.2.2 ([]:List (List Int))).bind λal=>(gM N p0.aL p0.bN j.2.2 al ([]:List Int) ([]:List Int) ([]:List Int) ([]:List cL)).bind λo=>some (some (p0.aJ,p0.cM,p0.aL,p0.bN,j.2.1,j.2.2,al,o.1,o.2.1,o.2.2.1,o.2.2.2.1,o.2.2.2.2),0)))<|λr=>some r)))))<|λr=>some r))
def gD(N:Nat)(p0:List eP)(p1:eE)(p2:eP->eE->Option Int):Option (Int×Bool):=
 (iC (λ(j:Int×Int)=>(bif decide (j.1<j.2)then((idx p0<|wrap .i64<|Int.fdiv (wrap .u64<|wrap .i64<|j.1+j.2) 2).bind λaa=>(p2 aa p1).bind λab=>(bif decide (ab<0)then some (wrap .i64<|wrap .i64 (Int.fdiv (wrap .u64<|wrap .i64<|j.1+j.2) 2)+1,j.2)else some (j.1,wrap .i64<|Int.fdiv (wrap .u64<|wrap .i64<|j.1+j.2) 2)).bind λo=>some<|.nx (o.1,o.2))else(some<|.br (j.1,j.2)):Option (Fl (Int×Int) Empty))) N (0,(p0.length:Int))).bind λad=>ad.cs (λ(j:Int×Int)=>(bif decide (j.1<(p0.length:Int))then((idx p0 j.1).bind λae=>(p2 ae p1).bind λaf=>some<|af==0)else some false).bind λag=>some (j.1,ag))<|λr=>r.elim
def jH(N:Nat)(p0:eP)(p1:eE):Option Int:=
 (ml N p0).bind λj=>(jz N j p1).bind λo=>some o
def lC(N:Nat)(p0:jT)(p1:eE):Option Int:=
 (gD N p0.bN p1<|jH N).bind λj=>bif(!j.2)then some (-1)else some j.1
def iw(N:Nat)(p0_0:List (List aH))(p0_1:List aH)(p0_2:List cD)(p0_3:List eP)(p0_10:List Int)(p0_11:List cL)(p1 p2:eE):Option (cL×cL×Bool×Int):=
 (lC N (⟨p0_0,p0_1,p0_2,p0_3⟩:jT) p1).bind λj=>(lC N (⟨p0_0,p0_1,p0_2,p0_3⟩:jT) p2).bind λo=>bif decide (j<0)||decide (o<0)then some ((⟨false,0⟩:cL),(⟨false,0⟩:cL),false,9)else(((idx p0_11 j).bind λab=>(idx p0_11 o).bind λad=>(idx p0_10 j).bind λae=>bif decide (ae>=0)then((idx p0_10 o).bind λaf=>some (ab,ad,decide<|af>=0))else some (ab,ad,false)).bind λaa=>some (aa.1,aa.2.1,aa.2.2,0))
def ot(N:Nat)(p0:Int):Option Bool:=
 some (p0 != p0)
def pB(N:Nat)(p0 p1:Int):Option Bool:=
 ((ot N p0).bind λj=>bif j then((ot N p1).bind λo=>some<|(!o)||decide (p0<p1))else some (decide<|p0<p1)).bind λaa=>some aa
def lP(N:Nat)(p0:Int):Option Bool:=
 some (p0 != p0)
def i6(N:Nat)(p0:List Int)(p1:Int):Option (Int×Bool):=
 (iC (λ(j:Int×Int)=>(bif decide (j.1<j.2)then((idx p0<|wrap .i64<|Int.fdiv (wrap .u64<|wrap .i64<|j.1+j.2) 2).bind λaa=>(pB N aa p1).bind λab=>(bif ab then some (wrap .i64<|wrap .i64 (Int.fdiv (wrap .u64<|wrap .i64<|j.1+j.2) 2)+1,j.2)else some (j.1,wrap .i64<|Int.fdiv (wrap .u64<|wrap .i64<|j.1+j.2) 2)).bind λo=>some<|.nx (o.1,o.2))else(some<|.br (j.1,j.2)):Option (Fl (Int×Int) Empty))) N (0,(p0.length:Int))).bind λad=>ad.cs (λ(j:Int×Int)=>(bif decide (j.1<(p0.length:Int))then((idx p0 j.1).bind λae=>bif ae==p1 then some true else((idx p0 j.1).bind λaf=>(lP N af).bind λag=>bif ag then((lP N p1).bind λah=>some ah)else some false))else some false).bind λai=>some (j.1,ai))<|λr=>r.elim
def iz(N:Nat)(p0_6:List (List Int))(p1:cL):Option (List cL):=
 bif p1.cD then((idx p0_6 p1.Number).bind λaa=>(my aa.length (λ(ad:Nat)(o:List cL)=>((idx aa (ad:Int)).bind λae=>(app 16 o ([(⟨false,ae⟩:cL)]:List cL)).bind λaf=>some af:Option (List cL))) ([]:List cL)).bind λo=>some o)else((my p0_6.length (λ(ab:Nat)(j:List cL)=>((idx p0_6 (ab:Int)).bind λag=>(i6 N ag p1.Number).bind λah=>(bif ah.2 then((app 16 j ([(⟨true,(ab:Int)⟩:cL)]:List cL)).bind λai=>some ai)else some j).bind λaj=>some aj:Option (List cL))) ([]:List cL)).bind λj=>some j)
def ln(N:Nat)(p0_6:List (List Int))(p1:cL):Option (List<|cL×Int):=
 (iC (λ(o:List (cL×Int)×List cL)=>(bif decide ((o.2.length:Int)>0)then((idx o.2 0).bind λae=>(iz N p0_6 ae).bind λab=>(my ab.length (λ(af:Nat)(j:List (cL×Int)×List cL)=>((idx ab (af:Int)).bind λaa=>(bif(!(gZ j.1 aa))then some true else some false).bind λag=>(bif ag then((idx j.2 0).bind λah=>(app 16 j.2 ([aa]:List cL)).bind λai=>some (om j.1 aa<|wrap .i64<|eX j.1 ah (0:Int)+1,ai))else some (j.1,j.2)).bind λad=>some (ad.1,ad.2):Option (List (cL×Int)×List cL))) (o.1,o.2)).bind λj=>(sY j.2 1 (j.2.length:Int)).bind λaj=>some<|.nx (j.1,aj))else(some<|.br (o.1,o.2)):Option (Fl (List (cL×Int)×List cL) Empty))) N (om ([]:List (cL×Int)) p1 0,([p1]:List cL))).bind λak=>ak.cs (λ(o:List (cL×Int)×List cL)=>some o.1)<|λr=>r.elim
def i7(N:Nat)(p0_6:List (List Int))(p1 p2:cL):Option (List cL×Bool):=
 (ln N p0_6 p2).bind λaa=>bif(!(gZ aa p1))then some (([]:List cL),false)else((iC (λ(j:List cL×cL)=>(bif(!(decide<|j.2=p2))then((iz N p0_6 j.2).bind λad=>(uH ad.length (λ(ae:Nat)(o:cL)=>((idx ad (ae:Int)).bind λab=>(bif gZ aa ab then some (eX aa ab (0:Int)==wrap .i64 (eX aa o (0:Int) - 1))else some false).bind λaf=>bif af then some (.br ab)else(some<|.nx o):Option (Fl cL Empty))) j.2).bind λag=>ag.cs (λ(o:cL)=>(app 16 j.1 ([o]:List cL)).bind λah=>some<|.nx (ah,o))<|λr=>r.elim)else(some<|.br (j.1,j.2)):Option (Fl (List cL×cL) Empty))) N (([p1]:List cL),p1)).bind λai=>ai.cs (λ(j:List cL×cL)=>some (j.1,true))<|λr=>r.elim)
def jI(N:Nat)(p0:jT)(p1 p2:eE):Option (List cL×Bool×Int):=
 (i5 N p0).bind λo=>GQ o.1 (bif o.2 != 0 then some (([]:List cL),false,o.2)else none) (λ(j:(List (List aH)×List aH×List cD×List eP×List (List aA)×List aI×List (List Int)×List cP×List Int×List Int×List Int×List cL))=>bif o.2 != 0 then some (([]:List cL),false,o.2)else((iw N j.1 j.2.1 j.2.2.1 j.2.2.2.1 j.2.2.2.2.2.2.2.2.2.2.1 j.2.2.2.2.2.2.2.2.2.2.2 p1 p2).bind λaa=>bif(aa.2.2.2 != 0)||(!aa.2.2.1)then some (([]:List cL),false,aa.2.2.2)else((i7 N j.2.2.2.2.2.2.1 aa.1 aa.2.1).bind λab=>some (ab.1,ab.2,0))))
def nn(N:Nat)(p0 p1 p2:Int):Option Bool:=
 some (decide (p0>=p1)&&decide (p0<=p2))
def cY(N:Nat)(p0:Int):Option Bool:=
 (nn N p0 (-1000000) 1000000).bind λj=>some j
def iK(N:Nat)(p0:List aH):Option Int:=
 bif decide ((p0.length:Int)>2000)then some 2 else((iC (λ(o:Int)=>(bif decide (o<(p0.length:Int))then((idx p0 o).bind λj=>((cY N j.X0).bind λaa=>bif(!aa)then some true else((cY N j.Y0).bind λab=>bif(!ab)then some true else((cY N j.X1).bind λad=>bif(!ad)then some true else((cY N j.Y1).bind λae=>some<|!ae)))).bind λaf=>bif af then some (.rt 1)else(bif decide (j.X1<=j.X0)||decide (j.Y1<=j.Y0)then some (.rt 13)else some (.nx<|wrap .i64<|o+1)))else(some<|.br o):Option (Fl Int Int))) N 0).bind λag=>ag.cs (λ(o:Int)=>some 0)<|λr=>some r)
def i9(N:Nat)(p0 p1:aH):Option Bool:=
 some (decide (p0.Y0<p1.Y0)||((p0.Y0==p1.Y0)&&decide (p0.X0<p1.X0)))
def fX(N:Nat)(p0:List Int)(p1:Int):Option (List Int):=
 (iC (λ(j:Int×Int)=>(bif decide (j.1<j.2)then((idx p0<|wrap .i64<|Int.tdiv (wrap .i64<|j.1+j.2) 2).bind λaa=>(bif decide (aa<p1)then some (wrap .i64<|wrap .i64 (Int.tdiv (wrap .i64<|j.1+j.2) 2)+1,j.2)else some (j.1,wrap .i64<|Int.tdiv (wrap .i64<|j.1+j.2) 2)).bind λo=>some<|.nx (o.1,o.2))else(some<|.br (j.1,j.2)):Option (Fl (Int×Int) Empty))) N (0,(p0.length:Int))).bind λab=>ab.cs (λ(j:Int×Int)=>(bif decide (j.1<(p0.length:Int))then((idx p0 j.1).bind λad=>some<|ad==p1)else some false).bind λae=>bif ae then some p0 else((sY p0 0 j.1).bind λaf=>(app 8 ([]:List Int) af).bind λag=>(app 8 ag ([p1]:List Int)).bind λah=>(sY p0 j.1 (p0.length:Int)).bind λai=>(app 8 ah ai).bind λaj=>some aj))<|λr=>r.elim
def iF(N:Nat)(p0:List aH):Option (List Int):=
 (iC (λ(j:List Int×Int)=>(bif decide (j.2<(p0.length:Int))then((idx p0 j.2).bind λo=>(idx p0 j.2).bind λaa=>(fX N j.1 o.Y0).bind λab=>(fX N ab aa.Y1).bind λad=>some<|.nx (ad,wrap .i64<|j.2+1))else(some<|.br (j.1,j.2)):Option (Fl (List Int×Int) Empty))) N (([]:List Int),0)).bind λae=>ae.cs (λ(j:List Int×Int)=>some j.1)<|λr=>r.elim
def ja(N:Nat)(p0:List aG)(p1:aG):Option (List aG):=
 (iC (λ(o:List aG×Int)=>((bif decide (o.2<(p0.length:Int))then((idx p0 o.2).bind λad=>some<|decide<|ad.to<p1.from_)else some false).bind λae=>bif ae then((idx p0 o.2).bind λaf=>(app 16 o.1 ([af]:List aG)).bind λag=>some<|.nx (ag,wrap .i64<|o.2+1))else(some<|.br (o.1,o.2)):Option (Fl (List aG×Int) Empty))) N (([]:List aG),0)).bind λah=>ah.cs (λ(o:List aG×Int)=>(iC (λ(j:aG×Int)=>((bif decide (j.2<(p0.length:Int))then((idx p0 j.2).bind λai=>some<|decide<|ai.from_<=j.1.to)else some false).bind λaj=>bif aj then((idx p0 j.2).bind λaa=>(idx p0 j.2).bind λab=>some<|.nx ({{j.1 with from_:=(if aa.from_<j.1.from_ then aa.from_ else j.1.from_)}with to:=(if j.1.to<ab.to then ab.to else j.1.to)},wrap .i64<|j.2+1))else(some<|.br (j.1,j.2)):Option (Fl (aG×Int) Empty))) N (p1,o.2)).bind λak=>ak.cs (λ(j:aG×Int)=>(app 16 o.1 ([j.1]:List aG)).bind λal=>(sY p0 j.2 (p0.length:Int)).bind λan=>(app 16 al an).bind λao=>some ao)<|λr=>r.elim)<|λr=>r.elim
def iA(N:Nat)(p0:List aH)(p1:Int):Option (List aG):=
 (iC (λ(j:List aG×Int)=>(bif decide (j.2<(p0.length:Int))then(((idx p0 j.2).bind λo=>bif decide (o.Y0<=p1)then((idx p0 j.2).bind λaa=>some<|decide<|p1<aa.Y1)else some false).bind λab=>(bif ab then((idx p0 j.2).bind λad=>(idx p0 j.2).bind λae=>(ja N j.1 (⟨ad.X0,ae.X1⟩:aG)).bind λaf=>some af)else some j.1).bind λag=>some<|.nx (ag,wrap .i64<|j.2+1))else(some<|.br (j.1,j.2)):Option (Fl (List aG×Int) Empty))) N (([]:List aG),0)).bind λah=>ah.cs (λ(j:List aG×Int)=>some j.1)<|λr=>r.elim
def kd(N:Nat)(p0:List aG)(p1:List aG):Option Bool:=
 bif(p0.length:Int) != (p1.length:Int)then some false else((iC (λ(j:Int)=>(bif decide (j<(p0.length:Int))then((idx p0 j).bind λo=>(idx p1 j).bind λaa=>bif(!(decide<|o=aa))then some (.rt false)else some (.nx<|wrap .i64<|j+1))else(some<|.br j):Option (Fl Int Bool))) N 0).bind λab=>ab.cs (λ(j:Int)=>some true)<|λr=>some r)
def gx(N:Nat)(p0:List aN)(p1:aN):Option (List aN):=
 bif(p1.jB.length:Int)==0 then some p0 else((bif decide ((p0.length:Int)>0)then((idx p0<|wrap .i64<|(p0.length:Int) - 1).bind λj=>bif j.to==p1.from_ then((idx p0<|wrap .i64<|(p0.length:Int) - 1).bind λo=>(kd N o.jB p1.jB).bind λaa=>some aa)else some false)else some false).bind λab=>bif ab then((idx p0<|wrap .i64<|(p0.length:Int) - 1).bind λad=>some<|p0.set (Int.toNat<|wrap .i64<|(p0.length:Int) - 1)<|{ad with to:=p1.to})else((app 40 p0 ([p1]:List aN)).bind λae=>some ae))
def jJ(N:Nat)(p0:List aN):Option (List aH):=
 (iC (λ(j:List aH×Int)=>(bif decide (j.2<(p0.length:Int))then((iC (λ(o:List aH×Int)=>((idx p0 j.2).bind λaa=>bif decide (o.2<(aa.jB.length:Int))then((idx p0 j.2).bind λab=>(idx ab.jB o.2).bind λad=>(idx p0 j.2).bind λae=>(idx p0 j.2).bind λaf=>(idx af.jB o.2).bind λag=>(idx p0 j.2).bind λah=>(app 32 o.1 ([(⟨ad.from_,ae.from_,ag.to,ah.to⟩:aH)]:List aH)).bind λai=>some<|.nx (ai,wrap .i64<|o.2+1))else(some<|.br (o.1,o.2)):Option (Fl (List aH×Int) Empty))) N (j.1,0)).bind λaj=>aj.cs (λ(o:List aH×Int)=>some<|.nx (o.1,wrap .i64<|j.2+1))<|λr=>r.elim)else(some<|.br (j.1,j.2)):Option (Fl (List aH×Int) Empty))) N (([]:List aH),0)).bind λak=>ak.cs (λ(j:List aH×Int)=>some j.1)<|λr=>r.elim
def fU(N:Nat)(p0:List aH):Option (List aH):=
 (iF N p0).bind λo=>(iC (λ(j:List aN×Int)=>(bif decide (j.2<(o.length:Int))then((idx o<|wrap .i64<|j.2 - 1).bind λaa=>(idx o j.2).bind λab=>(idx o<|wrap .i64<|j.2 - 1).bind λad=>(iA N p0 ad).bind λae=>(gx N j.1 (⟨aa,ab,ae⟩:aN)).bind λaf=>some<|.nx (af,wrap .i64<|j.2+1))else(some<|.br (j.1,j.2)):Option (Fl (List aN×Int) Empty))) N (([]:List aN),1)).bind λag=>ag.cs (λ(j:List aN×Int)=>(jJ N j.1).bind λah=>some ah)<|λr=>r.elim
def ke(N:Nat)(p0:List aH)(p1:List aH):Option Bool:=
 bif(p0.length:Int) != (p1.length:Int)then some false else((iC (λ(j:Int)=>(bif decide (j<(p0.length:Int))then((idx p0 j).bind λo=>(idx p1 j).bind λaa=>bif(!(decide<|o=aa))then some (.rt false)else some (.nx<|wrap .i64<|j+1))else(some<|.br j):Option (Fl Int Bool))) N 0).bind λab=>ab.cs (λ(j:Int)=>some true)<|λr=>some r)
def fZ(N:Nat)(p0:List aH):Option Int:=
 (iK N p0).bind λo=>bif o != 0 then some o else((iC (λ(j:Int)=>(bif decide (j<(p0.length:Int))then((idx p0<|wrap .i64<|j - 1).bind λaa=>(idx p0 j).bind λab=>(i9 N aa ab).bind λad=>bif(!ad)then some (.rt 8)else some (.nx<|wrap .i64<|j+1))else(some<|.br j):Option (Fl Int Int))) N 1).bind λae=>ae.cs (λ(j:Int)=>(fU N p0).bind λaf=>(ke N p0 af).bind λag=>bif(!ag)then some 3 else some 0)<|λr=>some r)
def eO(N:Nat)(p0 p1 p2:Int):Option Bool:=
 some (decide (p0>=p1)&&decide (p0<=p2))
def gz(N:Nat)(p0:jS):Option Bool:=
 ((cY N p0.X).bind λj=>bif j then((cY N p0.Y).bind λo=>some o)else some false).bind λaa=>some aa
def cO(N:Nat)(p0:cD):Option aH:=
 some (⟨wrap .i64<|p0.At.X -(wrap .i64<|Int.tdiv p0.dY 2),wrap .i64<|p0.At.Y -(wrap .i64<|Int.tdiv p0.dY 2),wrap .i64<|wrap .i64 (p0.At.X -(wrap .i64<|Int.tdiv p0.dY 2))+p0.dY,wrap .i64<|wrap .i64 (p0.At.Y -(wrap .i64<|Int.tdiv p0.dY 2))+p0.dY⟩:aH)
def ij(N:Nat)(p0:cD):Option Int:=
 ((eO N p0.dY 1 10000).bind λo=>bif(!o)then some true else((gz N p0.At).bind λaa=>some<|!aa)).bind λab=>bif ab then some 1 else((cO N p0).bind λj=>((cY N j.X0).bind λad=>bif(!ad)then some true else((cY N j.Y0).bind λae=>bif(!ae)then some true else((cY N j.X1).bind λaf=>bif(!af)then some true else((cY N j.Y1).bind λag=>some<|!ag)))).bind λah=>bif ah then some 1 else some 0)
def gN(N:Nat)(p0:fz):Option Bool:=
 (iC (λ(o:Int)=>(bif decide (o<(p0.dP.length:Int))then((GI p0 o).bind λj=>(bif(!(((decide ((j.toNat:Int)>=97)&&decide ((j.toNat:Int)<=122))||(decide ((j.toNat:Int)>=65)&&decide ((j.toNat:Int)<=90)))||(decide ((j.toNat:Int)>=48)&&decide ((j.toNat:Int)<=57))))then((iu N (⟨[95,43,45,35]⟩) (j.toNat:Int)).bind λaa=>some<|decide<|aa<0)else some false).bind λab=>bif ab then some (.rt false)else some (.nx<|wrap .i64<|o+1))else(some<|.br o):Option (Fl Int Bool))) N 0).bind λad=>ad.cs (λ(o:Int)=>(eO N (p0.dP.length:Int) 1 40).bind λae=>some ae)<|λr=>some r
def j4(N:Nat)(p0:fz):Option Bool:=
 (mI N p0<|⟨[47]⟩).bind λo=>(iC (λ(j:Int)=>(bif decide (j<(o.length:Int))then((idx o j).bind λaa=>(gN N aa).bind λab=>bif(!ab)then some (.rt false)else some (.nx<|wrap .i64<|j+1))else(some<|.br j):Option (Fl Int Bool))) N 0).bind λad=>ad.cs (λ(j:Int)=>some<|decide<|(p0.dP.length:Int)<=200)<|λr=>some r
def jc(N:Nat)(p0:jT)(p1:Int):Option Int:=
 (idx p0.bN p1).bind λj=>((j4 N j.Part).bind λaa=>bif(!aa)then some true else((gN N j.eE).bind λab=>some<|!ab)).bind λad=>bif ad then some 5 else(((eO N j.dL 0<|wrap .i64<|(p0.aJ.length:Int) - 1).bind λae=>bif(!ae)then some true else((gz N j.At).bind λaf=>some<|!af)).bind λag=>bif ag then some 1 else(bif decide (p1>0)then((idx p0.bN<|wrap .i64<|p1 - 1).bind λo=>bif j.Part.uG o.Part||(j.Part.rT o.Part&&(j.eE.uG o.eE||j.eE.rT o.eE))then some 8 else some 0)else some 0))
def iL(N:Nat)(p0:jT):Option Int:=
 bif(p0.aJ.length:Int)==0 then some 9 else(bif decide ((p0.aJ.length:Int)>16)then some 2 else((iC (λ(j:Int×Int)=>(bif decide (j.2<(p0.aJ.length:Int))then((idx p0.aJ j.2).bind λah=>(fZ N ah).bind λad=>bif ad != 0 then some (.rt ad)else((idx p0.aJ j.2).bind λai=>some<|.nx (wrap .i64<|j.1+(ai.length:Int),wrap .i64<|j.2+1)))else(some<|.br (j.1,j.2)):Option (Fl (Int×Int) Int))) N ((p0.cM.length:Int),0)).bind λaj=>aj.cs (λ(j:Int×Int)=>(fZ N p0.cM).bind λae=>bif ae != 0 then some ae else((bif decide (j.1>2000)then some true else some (decide<|(p0.aL.length:Int)>500)).bind λak=>bif ak then some 2 else((iC (λ(o:Int)=>(bif decide (o<(p0.aL.length:Int))then((idx p0.aL o).bind λab=>(ij N ab).bind λaf=>bif af != 0 then some (.rt af)else(((eO N ab.cV 0<|wrap .i64<|(p0.aJ.length:Int) - 1).bind λal=>bif(!al)then some true else((eO N ab.To ab.cV<|wrap .i64<|(p0.aJ.length:Int) - 1).bind λan=>some<|!an)).bind λao=>bif ao then some (.rt 1)else some (.nx<|wrap .i64<|o+1)))else(some<|.br o):Option (Fl Int Int))) N 0).bind λaq=>aq.cs (λ(o:Int)=>bif decide ((p0.bN.length:Int)>1000)then some 2 else((iC (λ(aa:Int)=>(bif decide (aa<(p0.bN.length:Int))then((jc N p0 aa).bind λag=>bif ag != 0 then some (.rt ag)else some (.nx<|wrap .i64<|aa+1))else(some<|.br aa):Option (Fl Int Int))) N 0).bind λar=>ar.cs (λ(aa:Int)=>some 0)<|λr=>some r))<|λr=>some r)))<|λr=>some r))
def jd(N:Nat)(p0 p1:cD):Option Bool:=
 some (decide (p0.cV<=p1.To)&&decide (p1.cV<=p0.To))
def gA(N:Nat)(p0 p1:aH):Option Bool:=
 (bif decide ((if p1.X1<p0.X1 then p1.X1 else p0.X1)>(if p0.X0<p1.X0 then p1.X0 else p0.X0))then some (decide<|(if p1.Y1<p0.Y1 then p1.Y1 else p0.Y1)>(if p0.Y0<p1.Y0 then p1.Y0 else p0.Y0))else some false).bind λj=>some j
def fN(N:Nat)(p0:cD)(p1:Int):Option Bool:=
 some (decide (p0.cV<=p1)&&decide (p1<=p0.To))
def gO(N:Nat)(p0:List aG)(p1:Int):Option Bool:=
 (iC (λ(j:Int)=>(bif decide (j<(p0.length:Int))then(((idx p0 j).bind λo=>bif decide (o.from_<=p1)then((idx p0 j).bind λaa=>some<|decide<|p1<aa.to)else some false).bind λab=>bif ab then some (.rt true)else some (.nx<|wrap .i64<|j+1))else(some<|.br j):Option (Fl Int Bool))) N 0).bind λad=>ad.cs (λ(j:Int)=>some false)<|λr=>some r
def ko(N:Nat)(p0:List aG)(p1:List aG)(p2:Int):Option (List aG):=
 (iC (λ(aa:List Int×Int)=>(bif decide (aa.2<(p0.length:Int))then((idx p0 aa.2).bind λae=>(idx p0 aa.2).bind λaf=>(fX N aa.1 ae.from_).bind λag=>(fX N ag af.to).bind λah=>some<|.nx (ah,wrap .i64<|aa.2+1))else(some<|.br (aa.1,aa.2)):Option (Fl (List Int×Int) Empty))) N (([]:List Int),0)).bind λai=>ai.cs (λ(aa:List Int×Int)=>(iC (λ(j:List Int×Int)=>(bif decide (j.2<(p1.length:Int))then((idx p1 j.2).bind λaj=>(idx p1 j.2).bind λak=>(fX N j.1 aj.from_).bind λal=>(fX N al ak.to).bind λan=>some<|.nx (an,wrap .i64<|j.2+1))else(some<|.br (j.1,j.2)):Option (Fl (List Int×Int) Empty))) N (aa.1,0)).bind λao=>ao.cs (λ(j:List Int×Int)=>(iC (λ(o:List aG×Int)=>(bif decide (o.2<(j.1.length:Int))then((idx j.1<|wrap .i64<|o.2 - 1).bind λaq=>(idx j.1<|wrap .i64<|o.2 - 1).bind λar=>(gO N p0 aq).bind λab=>(gO N p1 ar).bind λad=>(bif(((p2==1)&&(ab||ad))||(((p2==2)&&ab)&&ad))||(((p2==3)&&ab)&&(!ad))then((idx j.1<|wrap .i64<|o.2 - 1).bind λau=>(idx j.1 o.2).bind λav=>(ja N o.1 (⟨au,av⟩:aG)).bind λaw=>some aw)else some o.1).bind λax=>some<|.nx (ax,wrap .i64<|o.2+1))else(some<|.br (o.1,o.2)):Option (Fl (List aG×Int) Empty))) N (([]:List aG),1)).bind λay=>ay.cs (λ(o:List aG×Int)=>some o.1)<|λr=>r.elim)<|λr=>r.elim)<|λr=>r.elim
def hU(N:Nat)(p0:List aH)(p1:List aH)(p2:Int):Option (List aH):=
 (app 32 ([]:List aH) p0).bind λaa=>(app 32 aa p1).bind λab=>(iF N ab).bind λo=>(iC (λ(j:List aN×Int)=>(bif decide (j.2<(o.length:Int))then((idx o<|wrap .i64<|j.2 - 1).bind λad=>(idx o j.2).bind λae=>(idx o<|wrap .i64<|j.2 - 1).bind λaf=>(idx o<|wrap .i64<|j.2 - 1).bind λag=>(iA N p0 af).bind λah=>(iA N p1 ag).bind λai=>(ko N ah ai p2).bind λaj=>(gx N j.1 (⟨ad,ae,aj⟩:aN)).bind λak=>some<|.nx (ak,wrap .i64<|j.2+1))else(some<|.br (j.1,j.2)):Option (Fl (List aN×Int) Empty))) N (([]:List aN),1)).bind λal=>al.cs (λ(j:List aN×Int)=>(jJ N j.1).bind λan=>some an)<|λr=>r.elim
def kT(N:Nat)(p0:List aH)(p1:List aH):Option (List aH):=
 (hU N p0 p1 3).bind λj=>some j
def gJ(N:Nat)(p0:jT)(p1:Int):Option (List aH):=
 (iC (λ(j:List aH×Int)=>(bif decide (j.2<(p0.aL.length:Int))then((idx p0.aL j.2).bind λo=>(fN N o p1).bind λaa=>(bif aa then((idx p0.aL j.2).bind λab=>(cO N ab).bind λad=>(app 32 j.1 ([ad]:List aH)).bind λae=>some ae)else some j.1).bind λaf=>some<|.nx (af,wrap .i64<|j.2+1))else(some<|.br (j.1,j.2)):Option (Fl (List aH×Int) Empty))) N (([]:List aH),0)).bind λag=>ag.cs (λ(j:List aH×Int)=>(idx p0.aJ p1).bind λah=>(fU N j.1).bind λai=>(kT N ah ai).bind λaj=>some aj)<|λr=>r.elim
def jA(N:Nat)(p0 p1:aH):Option Bool:=
 some ((decide (wrap .i64 ((if p1.X1<p0.X1 then p1.X1 else p0.X1) -(if p0.X0<p1.X0 then p1.X0 else p0.X0))>0)&&decide (wrap .i64 ((if p1.Y1<p0.Y1 then p1.Y1 else p0.Y1) -(if p0.Y0<p1.Y0 then p1.Y0 else p0.Y0))>=0))||(decide (wrap .i64 ((if p1.X1<p0.X1 then p1.X1 else p0.X1) -(if p0.X0<p1.X0 then p1.X0 else p0.X0))>=0)&&decide (wrap .i64 ((if p1.Y1<p0.Y1 then p1.Y1 else p0.Y1) -(if p0.Y0<p1.Y0 then p1.Y0 else p0.Y0))>0)))
def j5(N:Nat)(p0:List (List aH))(p1:List aH):Option (List<|List aH):=
 (iC (λ(j:Int)=>((bif decide (j>0)then((idx p1 0).bind λo=>(idx p0<|wrap .i64<|j - 1).bind λaa=>(idx aa 0).bind λab=>(i9 N o ab).bind λad=>some ad)else some false).bind λae=>bif ae then some (.nx<|wrap .i64<|j - 1)else(some<|.br j):Option (Fl Int Empty))) N (p0.length:Int)).bind λaf=>af.cs (λ(j:Int)=>(sY p0 0 j).bind λag=>(app 24 ([]:List (List aH)) ag).bind λah=>(app 24 ah ([p1]:List (List aH))).bind λai=>(sY p0 j (p0.length:Int)).bind λaj=>(app 24 ai aj).bind λak=>some ak)<|λr=>r.elim
def gk(N:Nat)(p0:List aH):Option (List<|List aH):=
 (mk 1 (false:Bool) (p0.length:Int)).bind λad=>(iC (λ(o:List Bool×List (List aH)×Int)=>(bif decide (o.2.2<(p0.length:Int))then((idx o.1 o.2.2).bind λae=>bif ae then some (.nx (o.1,o.2.1,wrap .i64<|o.2.2+1))else((idx o.1 o.2.2).bind λaw=>(idx p0 o.2.2).bind λaf=>(iC (λ(aa:List Bool×List aH×Int)=>(bif decide (aa.2.2<(aa.2.1.length:Int))then((iC (λ(j:List Bool×List aH×Int)=>(bif decide (j.2.2<(p0.length:Int))then(((idx j.1 j.2.2).bind λag=>bif(!ag)then((idx j.2.1 aa.2.2).bind λah=>(idx p0 j.2.2).bind λai=>(jA N ah ai).bind λaj=>some aj)else some false).bind λak=>(bif ak then((idx j.1 j.2.2).bind λax=>(idx p0 j.2.2).bind λal=>(app 32 j.2.1 ([al]:List aH)).bind λan=>some (j.1.set (Int.toNat j.2.2) true,an))else some (j.1,j.2.1)).bind λab=>some<|.nx (ab.1,ab.2,wrap .i64<|j.2.2+1))else(some<|.br (j.1,j.2.1,j.2.2)):Option (Fl (List Bool×List aH×Int) Empty))) N (aa.1,aa.2.1,0)).bind λao=>ao.cs (λ(j:List Bool×List aH×Int)=>some<|.nx (j.1,j.2.1,wrap .i64<|aa.2.2+1))<|λr=>r.elim)else(some<|.br (aa.1,aa.2.1,aa.2.2)):Option (Fl (List Bool×List aH×Int) Empty))) N (o.1.set (Int.toNat o.2.2) true,([af]:List aH),0)).bind λaq=>aq.cs (λ(aa:List Bool×List aH×Int)=>(fU N aa.2.1).bind λar=>(j5 N o.2.1 ar).bind λau=>some<|.nx (aa.1,au,wrap .i64<|o.2.2+1))<|λr=>r.elim))else(some<|.br (o.1,o.2.1,o.2.2)):Option (Fl (List Bool×List (List aH)×Int) Empty))) N (ad,([]:List (List aH)),0)).bind λav=>av.cs (λ(o:List Bool×List (List aH)×Int)=>some o.2.1)<|λr=>r.elim
def eN(N:Nat)(p0:jT):Option Int:=
 (iL N p0).bind λab=>bif ab != 0 then some ab else((iC (λ(o:Int)=>(bif decide (o<(p0.aL.length:Int))then((iC (λ(aa:Int)=>(bif decide (aa<o)then(((idx p0.aL o).bind λae=>(idx p0.aL aa).bind λaf=>(jd N ae af).bind λag=>bif ag then((idx p0.aL o).bind λah=>(idx p0.aL aa).bind λai=>(cO N ah).bind λaj=>(cO N ai).bind λak=>(gA N aj ak).bind λal=>some al)else some false).bind λan=>bif an then some (.rt 12)else some (.nx<|wrap .i64<|aa+1))else(some<|.br aa):Option (Fl Int Int))) N 0).bind λao=>ao.cs (λ(aa:Int)=>some<|.nx<|wrap .i64<|o+1)<|λr=>some<|.rt r)else(some<|.br o):Option (Fl Int Int))) N 0).bind λaq=>aq.cs (λ(o:Int)=>(iC (λ(j:Int×Int)=>(bif decide (j.2<(p0.aJ.length:Int))then((gJ N p0 j.2).bind λad=>bif decide ((ad.length:Int)>2000)then some (.rt 2)else((gk N ad).bind λar=>some<|.nx (wrap .i64<|j.1+(ar.length:Int),wrap .i64<|j.2+1)))else(some<|.br (j.1,j.2)):Option (Fl (Int×Int) Int))) N (0,0)).bind λau=>au.cs (λ(j:Int×Int)=>bif decide (j.1>2000)then some 2 else some 0)<|λr=>some r)<|λr=>some r)
def jK(N:Nat)(p0:jT)(p1:eE):Option Int:=
 (iC (λ(j:Int)=>(bif decide (j<(p0.bN.length:Int))then(((idx p0.bN j).bind λo=>bif o.Part.rT p1.Part then((idx p0.bN j).bind λaa=>some<|aa.eE.rT p1.eE)else some false).bind λab=>bif ab then some (.rt j)else some (.nx<|wrap .i64<|j+1))else(some<|.br j):Option (Fl Int Int))) N 0).bind λad=>ad.cs (λ(j:Int)=>some<|-1)<|λr=>some r
def fP(N:Nat)(p0:jT)(p1 p2:eE):Option (Int×Int×Int):=
 (eN N p0).bind λj=>bif j != 0 then some (0,0,j)else((jK N p0 p1).bind λo=>(jK N p0 p2).bind λaa=>bif decide (o<0)||decide (aa<0)then some (0,0,9)else some (o,aa,0))
def jL(N:Nat)(p0:List aH)(p1:aH):Option Bool:=
 (iC (λ(j:Int)=>(bif decide (j<(p0.length:Int))then((idx p0 j).bind λo=>(idx p0 j).bind λaa=>(idx p0 j).bind λab=>(idx p0 j).bind λad=>bif(decide (wrap .i64 ((if p1.X1<o.X1 then p1.X1 else o.X1) -(if aa.X0<p1.X0 then p1.X0 else aa.X0))>0)&&(wrap .i64 ((if p1.Y1<ab.Y1 then p1.Y1 else ab.Y1) -(if ad.Y0<p1.Y0 then p1.Y0 else ad.Y0))==0))||((wrap .i64 ((if p1.X1<o.X1 then p1.X1 else o.X1) -(if aa.X0<p1.X0 then p1.X0 else aa.X0))==0)&&decide (wrap .i64 ((if p1.Y1<ab.Y1 then p1.Y1 else ab.Y1) -(if ad.Y0<p1.Y0 then p1.Y0 else ad.Y0))>0))then some (.rt true)else some (.nx<|wrap .i64<|j+1))else(some<|.br j):Option (Fl Int Bool))) N 0).bind λae=>ae.cs (λ(j:Int)=>some false)<|λr=>some r
def cU(N:Nat)(p0:List Int)(p1:Int):Option Bool:=
 (iC (λ(j:Int)=>(bif decide (j<(p0.length:Int))then((idx p0 j).bind λo=>bif o==p1 then some (.rt true)else some (.nx<|wrap .i64<|j+1))else(some<|.br j):Option (Fl Int Bool))) N 0).bind λaa=>aa.cs (λ(j:Int)=>some false)<|λr=>some r
def je(N:Nat)(p0:List Int)(p1:Int):Option (List Int):=
 (iC (λ(j:Int)=>((bif decide (j>0)then((idx p0<|wrap .i64<|j - 1).bind λo=>some<|decide<|o>p1)else some false).bind λaa=>bif aa then some (.nx<|wrap .i64<|j - 1)else(some<|.br j):Option (Fl Int Empty))) N (p0.length:Int)).bind λab=>ab.cs (λ(j:Int)=>(bif decide (j>0)then((idx p0<|wrap .i64<|j - 1).bind λad=>some<|ad==p1)else some false).bind λae=>bif ae then some p0 else((sY p0 0 j).bind λaf=>(app 8 ([]:List Int) af).bind λag=>(app 8 ag ([p1]:List Int)).bind λah=>(sY p0 j (p0.length:Int)).bind λai=>(app 8 ah ai).bind λaj=>some aj))<|λr=>r.elim
def gQ(N:Nat)(p0_7:List (List Int))(p1:Int)(p2:List Bool):Option ((List Int×List Int×List eE)×List Bool):=
 (idx p2 p1).bind λax=>(mk 1 (false:Bool) (p0_7.length:Int)).bind λae=>(iC (λ(o:List Bool×List Int×List Int×List Bool×List Int×Int)=>(bif decide (o.2.2.2.2.2<(o.2.2.2.2.1.length:Int))then((iC (λ(j:List Bool×List Int×List Int×List Bool×List Int×Int)=>(bif decide (j.2.2.2.2.2<(p0_7.length:Int))then(((idx j.2.2.2.1 j.2.2.2.2.2).bind λaf=>bif af then some true else((idx p0_7 j.2.2.2.2.2).bind λag=>(idx j.2.2.2.2.1 o.2.2.2.2.2).bind λah=>(cU N ag ah).bind λai=>some<|!ai)).bind λaj=>bif aj then some (.nx (j.1,j.2.1,j.2.2.1,j.2.2.2.1,j.2.2.2.2.1,wrap .i64<|j.2.2.2.2.2+1))else((idx j.2.2.2.1 j.2.2.2.2.2).bind λay=>(je N j.2.2.1 j.2.2.2.2.2).bind λak=>(iC (λ(aa:List Bool×List Int×List Int×Int)=>((idx p0_7 j.2.2.2.2.2).bind λal=>bif decide (aa.2.2.2<(al.length:Int))then((idx p0_7 j.2.2.2.2.2).bind λan=>(idx an aa.2.2.2).bind λab=>(idx aa.1 ab).bind λao=>(bif(!ao)then((idx aa.1 ab).bind λaz=>(je N aa.2.1 ab).bind λaq=>(app 8 aa.2.2.1 ([ab]:List Int)).bind λar=>some (aa.1.set (Int.toNat ab) true,aq,ar))else some (aa.1,aa.2.1,aa.2.2.1)).bind λad=>some<|.nx (ad.1,ad.2.1,ad.2.2,wrap .i64<|aa.2.2.2+1))else(some<|.br (aa.1,aa.2.1,aa.2.2.1,aa.2.2.2)):Option (Fl (List Bool×List Int×List Int×Int) Empty))) N (j.1,j.2.1,j.2.2.2.2.1,0)).bind λau=>au.cs (λ(aa:List Bool×List Int×List Int×Int)=>some<|.nx (aa.1,aa.2.1,ak,j.2.2.2.1.set (Int.toNat j.2.2.2.2.2) true,aa.2.2.1,wrap .i64<|j.2.2.2.2.2+1))<|λr=>r.elim))else(some<|.br (j.1,j.2.1,j.2.2.1,j.2.2.2.1,j.2.2.2.2.1,j.2.2.2.2.2)):Option (Fl (List Bool×List Int×List Int×List Bool×List Int×Int) Empty))) N (o.1,o.2.1,o.2.2.1,o.2.2.2.1,o.2.2.2.2.1,0)).bind λav=>av.cs (λ(j:List Bool×List Int×List Int×List Bool×List Int×Int)=>some<|.nx (j.1,j.2.1,j.2.2.1,j.2.2.2.1,j.2.2.2.2.1,wrap .i64<|o.2.2.2.2.2+1))<|λr=>r.elim)else(some<|.br (o.1,o.2.1,o.2.2.1,o.2.2.2.1,o.2.2.2.2.1,o.2.2.2.2.2)):Option (Fl (List Bool×List Int×List Int×List Bool×List Int×Int) Empty))) N (p2.set (Int.toNat p1) true,([p1]:List Int),([]:List Int),ae,([p1]:List Int),0)).bind λaw=>aw.cs (λ(o:List Bool×List Int×List Int×List Bool×List Int×Int)=>some ((o.2.1,o.2.2.1,([]:List eE)),o.1))<|λr=>r.elim
def fF(N:Nat)(p0:List aH)(p1:jS):Option Bool:=
 (iA N p0 p1.Y).bind λj=>(gO N j p1.X).bind λo=>some o
def eG(N:Nat)(p0_2:List cD)(p0_4:List Int)(p0_5:List (List aH))(p1:eP):Option (cL×Bool):=
 (iC (λ(o:Int)=>(bif decide (o<(p0_5.length:Int))then(((idx p0_4 o).bind λaa=>bif aa==p1.dL then((idx p0_5 o).bind λab=>(fF N ab p1.At).bind λad=>some ad)else some false).bind λae=>bif ae then some (.rt ((⟨false,o⟩:cL),true))else some (.nx<|wrap .i64<|o+1))else(some<|.br o):Option (Fl Int<|cL×Bool))) N 0).bind λaf=>af.cs (λ(o:Int)=>(iC (λ(j:Int)=>(bif decide (j<(p0_2.length:Int))then(((idx p0_2 j).bind λag=>bif ag.gw then((idx p0_2 j).bind λah=>(fN N ah p1.dL).bind λai=>bif ai then((idx p0_2 j).bind λaj=>(cO N aj).bind λak=>(fF N ([ak]:List aH) p1.At).bind λal=>some al)else some false)else some false).bind λan=>bif an then some (.rt ((⟨true,j⟩:cL),true))else some (.nx<|wrap .i64<|j+1))else(some<|.br j):Option (Fl Int<|cL×Bool))) N 0).bind λao=>ao.cs (λ(j:Int)=>some ((⟨false,0⟩:cL),false))<|λr=>some r)<|λr=>some r
def eI(N:Nat)(p0_6:List cP)(p1:cL):Option Int:=
 (iC (λ(j:Int)=>(bif decide (j<(p0_6.length:Int))then((bif p1.cD then((idx p0_6 j).bind λo=>(cU N o.aL p1.Number).bind λaa=>bif aa then some true else(bif(!p1.cD)then((idx p0_6 j).bind λab=>(cU N ab.kD p1.Number).bind λad=>some ad)else some false))else(bif(!p1.cD)then((idx p0_6 j).bind λae=>(cU N ae.kD p1.Number).bind λaf=>some af)else some false)).bind λag=>bif ag then some (.rt j)else some (.nx<|wrap .i64<|j+1))else(some<|.br j):Option (Fl Int Int))) N 0).bind λah=>ah.cs (λ(j:Int)=>some<|-1)<|λr=>some r
def fu(N:Nat)(p0_2:List cD)(p0_4:List Int)(p0_5:List (List aH))(p0_6:List cP)(p1:eP):Option Int:=
 (eG N p0_2 p0_4 p0_5 p1).bind λj=>bif(!j.2)then some (-1)else((eI N p0_6 j.1).bind λo=>some o)
def fL(N:Nat)(p0_2:List cD)(p0_3:List eP)(p0_4:List Int)(p0_5:List (List aH))(p0_7:List (List Int)):Option (List cP):=
 (mk 1 (false:Bool) (p0_5.length:Int)).bind λag=>(iC (λ(j:List cP×List Bool×Int)=>(bif decide (j.2.2<(p0_5.length:Int))then((idx j.2.1 j.2.2).bind λah=>(bif(!ah)then((gQ N p0_7 j.2.2 j.2.1).bind λab=>(app 72 j.1 [(⟨ab.1.1,ab.1.2.1,ab.1.2.2⟩:cP)]).bind λai=>some (ai,ab.2))else some (j.1,j.2.1)).bind λaf=>some<|.nx (af.1,af.2,wrap .i64<|j.2.2+1))else(some<|.br (j.1,j.2.1,j.2.2)):Option (Fl (List cP×List Bool×Int) Empty))) N (([]:List cP),ag,0)).bind λaj=>aj.cs (λ(j:List cP×List Bool×Int)=>(iC (λ(aa:List cP×Int)=>(bif decide (aa.2<(p0_7.length:Int))then(((idx p0_2 aa.2).bind λak=>bif ak.gw then((idx p0_7 aa.2).bind λal=>some<|(al.length:Int)==0)else some false).bind λan=>(bif an then((app 72 aa.1 [(⟨([]:List Int),([aa.2]:List Int),([]:List eE)⟩:cP)]).bind λao=>some ao)else some aa.1).bind λaq=>some<|.nx (aq,wrap .i64<|aa.2+1))else(some<|.br (aa.1,aa.2)):Option (Fl (List cP×Int) Empty))) N (j.1,0)).bind λar=>ar.cs (λ(aa:List cP×Int)=>(iC (λ(o:List cP×Int)=>(bif decide (o.2<(p0_3.length:Int))then((idx p0_3 o.2).bind λae=>(fu N p0_2 p0_4 p0_5 o.1 ae).bind λad=>(bif decide (ad>=0)then((idx o.1 ad).bind λau=>(app 32 au.gH ([(⟨ae.Part,ae.eE⟩:eE)]:List eE)).bind λav=>(idx o.1 ad).bind λaw=>some<|o.1.set (Int.toNat ad) {aw with gH:=av})else some o.1).bind λax=>some<|.nx (ax,wrap .i64<|o.2+1))else(some<|.br (o.1,o.2)):Option (Fl (List cP×Int) Empty))) N (aa.1,0)).bind λay=>ay.cs (λ(o:List cP×Int)=>some o.1)<|λr=>r.elim)<|λr=>r.elim)<|λr=>r.elim
def iG(N:Nat)(p0:jT):Option (List (List aH)×List aH×List cD×List eP×List Int×List (List aH)×List cP×List (List Int)):=
 (iC (λ(j:List Int×List (List aH)×Int)=>(bif decide (j.2.2<(p0.aJ.length:Int))then((gJ N p0 j.2.2).bind λae=>(gk N ae).bind λad=>(iC (λ(o:List Int×List (List aH)×Int)=>(bif decide (o.2.2<(ad.length:Int))then((app 8 o.1 ([j.2.2]:List Int)).bind λaf=>(idx ad o.2.2).bind λag=>(app 24 o.2.1 ([ag]:List (List aH))).bind λah=>some<|.nx (af,ah,wrap .i64<|o.2.2+1))else(some<|.br (o.1,o.2.1,o.2.2)):Option (Fl (List Int×List (List aH)×Int) Empty))) N (j.1,j.2.1,0)).bind λai=>ai.cs (λ(o:List Int×List (List aH)×Int)=>some<|.nx (o.1,o.2.1,wrap .i64<|j.2.2+1))<|λr=>r.elim)else(some<|.br (j.1,j.2.1,j.2.2)):Option (Fl (List Int×List (List aH)×Int) Empty))) N (([]:List Int),([]:List (List aH)),0)).bind λaj=>aj.cs (λ(j:List Int×List (List aH)×Int)=>(iC (λ(aa:List (List Int)×Int)=>(bif decide (aa.2<(p0.aL.length:Int))then((iC (λ(ab:List Int×Int)=>((bif decide (ab.2<(j.2.1.length:Int))then((idx p0.aL aa.2).bind λak=>some ak.gw)else some false).bind λal=>bif al then(((idx p0.aL aa.2).bind λan=>(idx j.1 ab.2).bind λao=>(fN N an ao).bind λaq=>bif aq then((idx j.2.1 ab.2).bind λar=>(idx p0.aL aa.2).bind λau=>(cO N au).bind λav=>(jL N ar av).bind λaw=>some aw)else some false).bind λax=>(bif ax then((app 8 ab.1 ([ab.2]:List Int)).bind λay=>some ay)else some ab.1).bind λaz=>some<|.nx (az,wrap .i64<|ab.2+1))else(some<|.br (ab.1,ab.2)):Option (Fl (List Int×Int) Empty))) N (([]:List Int),0)).bind λa0=>a0.cs (λ(ab:List Int×Int)=>(app 24 aa.1 ([ab.1]:List (List Int))).bind λa1=>some<|.nx (a1,wrap .i64<|aa.2+1))<|λr=>r.elim)else(some<|.br (aa.1,aa.2)):Option (Fl (List (List Int)×Int) Empty))) N (([]:List (List Int)),0)).bind λa2=>a2.cs (λ(aa:List (List Int)×Int)=>(fL N p0.aL p0.bN j.1 j.2.1 aa.1).bind λa3=>some (p0.aJ,p0.cM,p0.aL,p0.bN,j.1,j.2.1,a3,aa.1))<|λr=>r.elim)<|λr=>r.elim
def fV(N:Nat)(p0_5:List (List aH))(p1:cL):Option Int:=
 bif p1.cD then some (wrap .i64<|(p0_5.length:Int)+p1.Number)else some p1.Number
def eW(N:Nat)(p0_5:List (List aH))(p0_7:List (List Int))(p1:Int):Option (List Int):=
 bif decide (p1>=(p0_5.length:Int))then((idx p0_7<|wrap .i64<|p1 -(p0_5.length:Int)).bind λo=>(app 8 ([]:List Int) o).bind λaa=>some aa)else((iC (λ(j:List Int×Int)=>(bif decide (j.2<(p0_7.length:Int))then((idx p0_7 j.2).bind λab=>(cU N ab p1).bind λad=>(bif ad then((app 8 j.1 ([wrap .i64<|(p0_5.length:Int)+j.2]:List Int)).bind λae=>some ae)else some j.1).bind λaf=>some<|.nx (af,wrap .i64<|j.2+1))else(some<|.br (j.1,j.2)):Option (Fl (List Int×Int) Empty))) N (([]:List Int),0)).bind λag=>ag.cs (λ(j:List Int×Int)=>some j.1)<|λr=>r.elim)
def dK(N:Nat)(p0_5:List (List aH))(p0_7:List (List Int))(p1 p2:Int):Option (List Int):=
 (mk 8 (0:Int)<|wrap .i64<|(p0_5.length:Int)+(p0_7.length:Int)).bind λaf=>(iC (λ(o:List Int×Int)=>(bif decide (o.2<(o.1.length:Int))then((idx o.1 o.2).bind λaw=>some<|.nx (o.1.set (Int.toNat o.2)<|-1,wrap .i64<|o.2+1))else(some<|.br (o.1,o.2)):Option (Fl (List Int×Int) Empty))) N (af,0)).bind λag=>ag.cs (λ(o:List Int×Int)=>bif p1==p2 then some o.1 else((idx o.1 p1).bind λax=>(iC (λ(aa:List Int×List Int×Int)=>(bif decide (aa.2.2<(aa.2.1.length:Int))then((idx aa.2.1 aa.2.2).bind λah=>(eW N p0_5 p0_7 ah).bind λab=>(iC (λ(j:List Int×List Int×Int)=>(bif decide (j.2.2<(ab.length:Int))then(((idx ab j.2.2).bind λai=>bif ai != p2 then((idx ab j.2.2).bind λaj=>(idx j.1 aj).bind λak=>some<|decide<|ak<0)else some false).bind λal=>(bif al then((idx ab j.2.2).bind λad=>(idx j.2.1 aa.2.2).bind λan=>(idx j.1 an).bind λao=>(idx j.1 ad).bind λay=>(idx ab j.2.2).bind λaq=>(app 8 j.2.1 ([aq]:List Int)).bind λar=>some (j.1.set (Int.toNat ad)<|wrap .i64<|ao+1,ar))else some (j.1,j.2.1)).bind λae=>some<|.nx (ae.1,ae.2,wrap .i64<|j.2.2+1))else(some<|.br (j.1,j.2.1,j.2.2)):Option (Fl (List Int×List Int×Int) Empty))) N (aa.1,aa.2.1,0)).bind λau=>au.cs (λ(j:List Int×List Int×Int)=>some<|.nx (j.1,j.2.1,wrap .i64<|aa.2.2+1))<|λr=>r.elim)else(some<|.br (aa.1,aa.2.1,aa.2.2)):Option (Fl (List Int×List Int×Int) Empty))) N (o.1.set (Int.toNat p1) 0,([p1]:List Int),0)).bind λav=>av.cs (λ(aa:List Int×List Int×Int)=>some aa.1)<|λr=>r.elim))<|λr=>r.elim
def eF(N:Nat)(p0_2:List cD)(p0_3:List eP)(p0_4:List Int)(p0_5:List (List aH))(p0_7:List (List Int))(p1 p2:Int):Option (List Int):=
 (idx p0_3 p1).bind λag=>(eG N p0_2 p0_4 p0_5 ag).bind λae=>(idx p0_3 p2).bind λah=>(eG N p0_2 p0_4 p0_5 ah).bind λaf=>bif(!ae.2)||(!af.2)then some ([]:List Int)else((fV N p0_5 af.1).bind λai=>(dK N p0_5 p0_7 ai<|-1).bind λaa=>(fV N p0_5 ae.1).bind λad=>(idx aa ad).bind λaj=>bif decide (aj<0)then some ([]:List Int)else((iC (λ(o:Int×List Int)=>((idx aa o.1).bind λak=>bif decide (ak>0)then((eW N p0_5 p0_7 o.1).bind λab=>(iC (λ(j:Int×Int)=>(bif decide (j.2<(ab.length:Int))then(((idx ab j.2).bind λal=>(idx aa al).bind λan=>(idx aa o.1).bind λao=>bif an==wrap .i64 (ao - 1)then(bif decide (j.1<0)then some true else((idx ab j.2).bind λaq=>some<|decide<|aq<j.1))else some false).bind λar=>(bif ar then((idx ab j.2).bind λau=>some au)else some j.1).bind λav=>some<|.nx (av,wrap .i64<|j.2+1))else(some<|.br (j.1,j.2)):Option (Fl (Int×Int) Empty))) N ((-1),0)).bind λaw=>aw.cs (λ(j:Int×Int)=>(app 8 o.2 ([j.1]:List Int)).bind λax=>some<|.nx (j.1,ax))<|λr=>r.elim)else(some<|.br (o.1,o.2)):Option (Fl (Int×List Int) Empty))) N (ad,([ad]:List Int))).bind λay=>ay.cs (λ(o:Int×List Int)=>some o.2)<|λr=>r.elim))
def jf(N:Nat)(p0_5:List (List aH))(p1:Int):Option cL:=
 bif decide (p1<(p0_5.length:Int))then some (⟨false,p1⟩:cL)else some (⟨true,wrap .i64<|p1 -(p0_5.length:Int)⟩:cL)
def fH(N:Nat)(p0_5:List (List aH))(p1:List Int):Option (List cL):=
 (iC (λ(j:List cL×Int)=>(bif decide (j.2<(p1.length:Int))then((idx p1 j.2).bind λo=>(jf N p0_5 o).bind λaa=>(app 16 j.1 ([aa]:List cL)).bind λab=>some<|.nx (ab,wrap .i64<|j.2+1))else(some<|.br (j.1,j.2)):Option (Fl (List cL×Int) Empty))) N (([]:List cL),0)).bind λad=>ad.cs (λ(j:List cL×Int)=>some j.1)<|λr=>r.elim
def iB(N:Nat)(p0:jT)(p1 p2:eE):Option (List cL×Bool×Int):=
 (fP N p0 p1 p2).bind λo=>bif o.2.2 != 0 then some (([]:List cL),false,o.2.2)else((iG N p0).bind λj=>(eF N j.2.2.1 j.2.2.2.1 j.2.2.2.2.1 j.2.2.2.2.2.1 j.2.2.2.2.2.2.2 o.1 o.2.1).bind λaa=>(fH N j.2.2.2.2.2.1 aa).bind λab=>some (ab,decide<|(aa.length:Int)>0,0))
def nU(N:Nat)(p0_6:List (List Int))(p1 p2:cL):Option (List<|cL×Int):=
 (iC (λ(o:List (cL×Int)×List cL)=>(bif decide ((o.2.length:Int)>0)then((idx o.2 0).bind λae=>(iz N p0_6 ae).bind λab=>(my ab.length (λ(af:Nat)(j:List (cL×Int)×List cL)=>((idx ab (af:Int)).bind λaa=>(bif(!(gZ j.1 aa))then some (!(decide<|aa=p2))else some false).bind λag=>(bif ag then((idx j.2 0).bind λah=>(app 16 j.2 ([aa]:List cL)).bind λai=>some (om j.1 aa<|wrap .i64<|eX j.1 ah (0:Int)+1,ai))else some (j.1,j.2)).bind λad=>some (ad.1,ad.2):Option (List (cL×Int)×List cL))) (o.1,o.2)).bind λj=>(sY j.2 1 (j.2.length:Int)).bind λaj=>some<|.nx (j.1,aj))else(some<|.br (o.1,o.2)):Option (Fl (List (cL×Int)×List cL) Empty))) N (om ([]:List (cL×Int)) p1 0,([p1]:List cL))).bind λak=>ak.cs (λ(o:List (cL×Int)×List cL)=>some o.1)<|λr=>r.elim
def fG(N:Nat)(p0:jT)(p1 p2:eE):Option (List cL×Int):=
 (i5 N p0).bind λaa=>GQ aa.1 (bif aa.2 != 0 then some (([]:List cL),aa.2)else none) (λ(o:(List (List aH)×List aH×List cD×List eP×List (List aA)×List aI×List (List Int)×List cP×List Int×List Int×List Int×List cL))=>bif aa.2 != 0 then some (([]:List cL),aa.2)else((iw N o.1 o.2.1 o.2.2.1 o.2.2.2.1 o.2.2.2.2.2.2.2.2.2.2.1 o.2.2.2.2.2.2.2.2.2.2.2 p1 p2).bind λj=>bif j.2.2.2 != 0 then some (([]:List cL),j.2.2.2)else((bif j.2.2.1 then((i7 N o.2.2.2.2.2.2.1 j.1 j.2.1).bind λaf=>some (af.1,af.2))else some (([]:List cL),false)).bind λae=>bif(!ae.2)then some (([]:List cL),9)else((my ae.1.length (λ(ag:Nat)(ab:List cL)=>((idx ae.1 (ag:Int)).bind λad=>(nU N o.2.2.2.2.2.2.1 j.2.1 ad).bind λah=>(bif decide (ad=j.1)then some true else some (decide (ad=j.2.1)||(!(gZ ah j.1)))).bind λai=>(bif ai then((app 16 ab ([ad]:List cL)).bind λaj=>some aj)else some ab).bind λak=>some ak:Option (List cL))) ([]:List cL)).bind λab=>some (ab,0)))))
def fO(N:Nat)(p0:jT)(p1 p2:eE):Option (List cL×Int):=
 (fP N p0 p1 p2).bind λab=>bif ab.2.2 != 0 then some (([]:List cL),ab.2.2)else((iG N p0).bind λo=>(eF N o.2.2.1 o.2.2.2.1 o.2.2.2.2.1 o.2.2.2.2.2.1 o.2.2.2.2.2.2.2 ab.1 ab.2.1).bind λaa=>bif(aa.length:Int)==0 then some (([]:List cL),9)else((iC (λ(j:List Int×Int)=>(bif decide (j.2<(aa.length:Int))then((idx aa 0).bind λad=>(idx aa j.2).bind λae=>(dK N o.2.2.2.2.2.1 o.2.2.2.2.2.2.2 ad ae).bind λaf=>(idx aa<|wrap .i64<|(aa.length:Int) - 1).bind λag=>(idx af ag).bind λah=>(bif decide (ah<0)then((idx aa j.2).bind λai=>(app 8 j.1 ([ai]:List Int)).bind λaj=>some aj)else some j.1).bind λak=>some<|.nx (ak,wrap .i64<|j.2+1))else(some<|.br (j.1,j.2)):Option (Fl (List Int×Int) Empty))) N (([]:List Int),0)).bind λal=>al.cs (λ(j:List Int×Int)=>(fH N o.2.2.2.2.2.1 j.1).bind λan=>some (an,0))<|λr=>r.elim))
def lQ(N:Nat)(p0:List cL)(p1:List cL):Option Bool:=
 bif(p0.length:Int) != (p1.length:Int)then some false else((uH p0.length (λ(j:Nat)(o:Unit)=>((idx p0 (j:Int)).bind λaa=>(idx p1 (j:Int)).bind λab=>bif(!(decide<|aa=ab))then some (.rt false)else(some<|.nx ()):Option (Fl Unit Bool))) ()).bind λad=>ad.cs (λ(o:Unit)=>some true)<|λr=>some r)
def iq(N:Nat):Option Bool:=
 (lB N (⟨⟨0,0⟩,2,0,0,false⟩:cD)).bind λj=>(bif j.2==0 then some (decide<|j.1=(⟨(-1),(-1),1,1⟩:aH))else some false).bind λo=>some o
def gE(N:Nat)(p0:jT)(p1 p2:eE):Option Bool:=
 (jI N p0 p1 p2).bind λj=>(iB N p0 p1 p2).bind λo=>(fG N p0 p1 p2).bind λaa=>(fO N p0 p1 p2).bind λab=>((lQ N j.1 o.1).bind λad=>bif ad then(bif(j.2.1==o.2.1)&&(j.2.2==o.2.2)then((lQ N aa.1 ab.1).bind λae=>bif ae&&(aa.2==ab.2)then((iq N).bind λaf=>some af)else some false)else some false)else some false).bind λag=>some ag
end
def xh{R:Type}(m:Nat)(e:Nat->Option R):Option R:=(List.range m).findSome? e
theorem o9{R:Type}{m:Nat}{e:Nat->Option R}:xh m e=none↔∀k,k<m->e k=none:=by
 simp[xh]
theorem qg{R:Type}{m:Nat}{e:Nat->Option R}{r:R}:xh m e=some r↔∃k,k<m/\e k=some r/\∀j,j<k->e j=none:=by
 constructor
 ·intro h;obtain⟨l1,a,l2,hl,ha,hn⟩:=List.findSome?_eq_some_iff.1 h;have hlen:l1.length<m:=by have:=congrArg List.length hl;simp at this;omega
  have hget:∀i,i<l1.length->l1[i]? =some i:=λi hi=>by
   have:=congrArg (·[i]?) hl;simp only[gp hi,List.getElem?_range (show i<m by omega)]at this;exact this.symm
  have hat:a=l1.length:=by
   have:=congrArg (·[l1.length]?) hl;simp[List.getElem?_range hlen]at this;exact this.symm
  refine⟨a,by omega,ha,λj hj=>hn j ?_⟩;exact eL<|hget j (by omega)
 ·rintro⟨k,hk,he,hn⟩;refine List.findSome?_eq_some_iff.2 ⟨List.range k,k,(List.range<|m - k - 1).map (· +(k+1)),?_,he,λx hx=>hn x<|oH.1 hx⟩;refine List.ext_getElem? λi=>?_
  by_cases h1:i<k
  ·rw[gp (by simpa using h1),List.getElem?_range (by omega),List.getElem?_range h1]
  ·rw[g9 (by simpa using h1),List.length_range]
   by_cases h2:i=k
   ·subst h2;simp[List.getElem?_range hk]
   ·obtain⟨d,rfl⟩:∃d,i=k+1+d:=⟨i -(k+1),by omega⟩;rw[show k+1+d - k=d+1 by omega,List.getElem?_cons_succ,eR]
    by_cases h3:k+1+d<m
    ·rw[List.getElem?_range h3,List.getElem?_range (by omega)];simp;omega
    ·rw[List.getElem?_eq_none (by simp;omega),List.getElem?_eq_none (by simp;omega)];rfl
section
variable {S R:Type}
def II(o:Option R)(s:S):Fl S R:=match o with|some r=> .rt r|none=> .nx s
def GY(o:Option R)(s:S):Fo S R:=match o with|some r=> .rt r|none=> .go s
theorem FD{body:Nat->S->Option (Fl S R)}(F:Nat->S)(e:Nat->Option R)(m:Nat):∀(n k:Nat),k+n=m->
  (∀j,k<=j->j<m->(∀i,k<=i->i<j->e i=none)->body j (F j)=some (II (e j)<|F<|j+1))->
  ∃o,DW body n k (F k)=some o/\((∀j,k<=j->j<m->e j=none)/\o = .go (F m)\/∃j r,k<=j/\j<m/\e j=some r/\(∀i,k<=i->i<j->e i=none)/\o = .rt r)
 | 0,k,hk,_=>⟨_,rfl, .inl ⟨λj h1 h2=>by omega,by rw[show k=m by omega]⟩⟩
 |n+1,k,hk,h=>by
  have hb:=h k (bV _) (by omega) (λi h1 h2=>by omega);unfold DW;rw[hb]
  cases hx:e k with
  |some r=>exact⟨_,rfl, .inr ⟨k,r,bV _,by omega,hx,λi h1 h2=>by omega,rfl⟩⟩
  |none=>
   obtain⟨o,ho,hc⟩:=FD F e m n (k+1) (by omega) (λj h1 h2 h3=>h j (by omega) h2 λi h4 h5=>by
    by_cases h6:i=k
    ·subst h6;exact hx
    ·exact h3 i (by omega) h5)
   refine⟨o,ho,?_⟩
   rcases hc with⟨h1,h2⟩|⟨j,r,h1,h2,h3,h4,h5⟩
   ·refine .inl ⟨λj h3 h4=>?_,h2⟩
    by_cases h6:j=k
    ·subst h6;exact hx
    ·exact h1 j (by omega) h4
   ·refine .inr ⟨j,r,by omega,h2,h3,λi h6 h7=>?_,h5⟩
    by_cases h8:i=k
    ·subst h8;exact hx
    ·exact h4 i (by omega) h7
theorem KY{body:Nat->S->Option (Fl S R)}{m:Nat}{s:S}(F:Nat->S)(e:Nat->Option R)(hm:m<=4611686018427387904)(hs:F 0=s)
  (h:∀k,k<m->(∀i,i<k->e i=none)->body k (F k)=some (II (e k)<|F<|k+1)):uH m body s=some (GY (xh m e)<|F m):=by
 subst hs;unfold uH;rw[aC hm];obtain⟨o,ho,hc⟩:=FD F e m m 0 (by omega)<|λj _ h2 h3=>h j h2 λi hi=>h3 i (dJ _) hi
 rw[ho]
 rcases hc with⟨h1,h2⟩|⟨j,r,_,h2,h3,h4,h5⟩
 ·rw[o9.2 λk hk=>h1 k (dJ _) hk,h2];rfl
 ·rw[qg.2 ⟨j,h2,h3,λi hi=>h4 i (dJ _) hi⟩,h5];rfl
theorem tS{body:Nat->Unit->Option (Fl Unit R)}{m:Nat}(e:Nat->Option R)(hm:m<=4611686018427387904)
  (h:∀k,k<m->(∀i,i<k->e i=none)->body k ()=some (II (e k) ())):uH m body ()=some (GY (xh m e) ()):=
 KY (λ_=>()) e hm rfl h
theorem FE{body:Nat->S->Option S}(F:Nat->S):∀(n k:Nat),(∀j,k<=j->j<k+n->body j (F j)=some (F<|j+1))->GF body n k (F k)=some (F<|k+n)
 | 0,_,_=>rfl
 |n+1,k,h=>by
  unfold GF;rw[h k (bV _) (by omega)];have:=FE F n (k+1)<|λj h1 h2=>h j (by omega) (by omega)
  rw[show k+(n+1)=k+1+n by omega];exact this
theorem KZ{body:Nat->S->Option S}{m:Nat}{s:S}(F:Nat->S)(hm:m<=4611686018427387904)(hs:F 0=s)
  (h:∀k,k<m->body k (F k)=some (F<|k+1)):my m body s=some (F m):=by
 subst hs;unfold my;rw[aC hm];have:=FE F m 0<|λj _ h2=>h j (by omega)
 rwa[iO]at this
theorem y6{body:S->Option (Fl S R)}(Inv:S->Prop)(μ:S->Nat)(Go:S->Prop)(Rt:R->Prop)
  (h:∀s,Inv s->∃fl,body s=some fl/\match fl with| .nx s'=>Inv s'/\μ s'<μ s| .br s'=>Go s'| .rt r=>Rt r):
  ∀(N:Nat)(s:S),Inv s->μ s<N->∃o,iC body N s=some o/\match o with| .go s'=>Go s'| .rt r=>Rt r
 | 0,s,_,hn=>by omega
 |N+1,s,hi,hn=>by
  obtain⟨fl,hb,hf⟩:=h s hi;unfold iC;rw[hb]
  cases fl with
  |nx s'=>exact y6 Inv μ Go Rt h N s' hf.1 (by have:=hf.2;omega)
  |br s'=>exact⟨_,rfl,hf⟩
  |rt r=>exact⟨_,rfl,hf⟩
theorem FF{body:Nat->S->Option (Fl S R)}(Inv:Nat->S->Prop)(Go:S->Prop)(Rt:R->Prop)(m:Nat)
  (h:∀k s,k<m->Inv k s->∃fl,body k s=some fl/\match fl with| .nx s'=>Inv (k+1) s'| .br s'=>Go s'| .rt r=>Rt r) (hg:∀s,Inv m s->Go s):
  ∀(n k:Nat)(s:S),k+n=m->Inv k s->∃o,DW body n k s=some o/\match o with| .go s'=>Go s'| .rt r=>Rt r
 | 0,k,s,hk,hi=>⟨_,rfl,hg s (by rw[<-hk];exact hi)⟩
 |n+1,k,s,hk,hi=>by
  obtain⟨fl,hb,hf⟩:=h k s (by omega) hi;unfold DW;rw[hb]
  cases fl with
  |nx s'=>exact FF Inv Go Rt m h hg n (k+1) s' (by omega) hf
  |br s'=>exact⟨_,rfl,hf⟩
  |rt r=>exact⟨_,rfl,hf⟩
theorem K0{body:Nat->S->Option (Fl S R)}{m:Nat}{s:S}(Inv:Nat->S->Prop)(Go:S->Prop)(Rt:R->Prop)(hm:m<=4611686018427387904)(h0:Inv 0 s)
  (h:∀k s,k<m->Inv k s->∃fl,body k s=some fl/\match fl with| .nx s'=>Inv (k+1) s'| .br s'=>Go s'| .rt r=>Rt r) (hg:∀s,Inv m s->Go s):
  ∃o,uH m body s=some o/\match o with| .go s'=>Go s'| .rt r=>Rt r:=by
 unfold uH;rw[aC hm];exact FF Inv Go Rt m h hg m 0 s (by omega) h0
theorem FG{body:Nat->S->Option S}(Inv:Nat->S->Prop)(m:Nat)(h:∀k s,k<m->Inv k s->∃s',body k s=some s'/\Inv (k+1) s'):
  ∀(n k:Nat)(s:S),k+n=m->Inv k s->∃s',GF body n k s=some s'/\Inv m s'
 | 0,k,s,hk,hi=>⟨_,rfl,by rw[<-hk];exact hi⟩
 |n+1,k,s,hk,hi=>by
  obtain⟨s',hb,hf⟩:=h k s (by omega) hi;unfold GF;rw[hb];exact FG Inv m h n (k+1) s' (by omega) hf
theorem Bl{body:Nat->S->Option S}{m:Nat}{s:S}(Inv:Nat->S->Prop)(hm:m<=4611686018427387904)(h0:Inv 0 s)
  (h:∀k s,k<m->Inv k s->∃s',body k s=some s'/\Inv (k+1) s'):∃s',my m body s=some s'/\Inv m s':=by
 unfold my;rw[aC hm];exact FG Inv m h m 0 s (by omega) h0
end
section
variable {α β:Type}
theorem aB(x:α)(f:α->Option β):(some x).bind f=f x:=rfl
theorem lH(l:List α)(k:Nat)(h:k<l.length):idx l ((k:Nat):Int)=some l[k]:=by
 unfold idx;rw[aC (by omega),cB,aQ h]
theorem dC{l:List α}{k:Nat}{x:α}(h:l[k]? =some x):idx l ((k:Nat):Int)=some x:=by
 unfold idx;rw[aC (by omega),cB,h]
theorem FH(s:fz)(k:Nat)(h:k<s.dP.length):GI s ((k:Nat):Int)=some s.dP[k]:=by
 unfold GI;rw[aC (by omega),cB,aQ h]
theorem iH{k:Nat}(h:0<k)(hk:k<=4611686018427387904):wrap .i64 (((k:Nat):Int) - 1)=((k - 1:Nat):Int):=by
 rw[fJ (by omega) (by omega)];omega
theorem r6(l:List α)(k:Nat)(h:k<=l.length):sY l 0 ((k:Nat):Int)=some (l.take k):=by
 unfold sY;rw[aC ⟨by omega,by omega,by omega⟩];simp only[Int.toNat_zero,List.drop_zero,Int.sub_zero,cB]
theorem pL(l:List α)(k:Nat)(h:k<=l.length):sY l ((k:Nat):Int) ((l.length:Nat):Int)=some (l.drop k):=by
 unfold sY;rw[aC ⟨by omega,by omega,by omega⟩];simp only[cB,Option.some.injEq];rw[mh];rw[gC];omega
theorem j6{b:Nat}{l ys:List α}(h:(l.length+ys.length)*b<=140737488355328):app b l ys=some (l++ys):=by unfold app;rw[aC h]
theorem qo{b:Nat}(z:α){n:Nat}(h:n*b<=140737488355328):mk b z ((n:Nat):Int)=some (List.replicate n z):=by
 unfold mk;have e:((n:Nat):Int)*((b:Nat):Int)=((n*b:Nat):Int):=(Int.natCast_mul n b).symm;rw[e];generalize n*b=q at h ⊢;rw[aC ⟨by omega,by omega⟩,cB]
end
theorem fz.ext'{a b:fz}(h:a.dP=b.dP):a=b:=by cases a;cases b;simp at h;rw[h]
theorem Bm{a b:fz}:a.rT b=true↔a=b:=by
 unfold fz.rT;rw[beq_iff_eq];exact⟨fz.ext',λh=>by rw[h]⟩
theorem HU(a b:fz):a.rT b=decide (a=b):=by rw[eT,Bm];simp
theorem AB:∀(a:List UInt8),Op.bytesLess a a=false
 | []=>rfl
 |a::l=>by
  unfold Op.bytesLess;rw[AB l];simp
theorem BZ:∀{a b c:List UInt8},Op.bytesLess a b=true->Op.bytesLess b c=true->Op.bytesLess a c=true
 | [],[],_,h,_=>by simp[Op.bytesLess]at h
 | [],_::_,[],_,h=>by simp[Op.bytesLess]at h
 | [],_::_,_::_,_,_=>rfl
 |_::_,[],_,h,_=>by simp[Op.bytesLess]at h
 |_::_,_::_,[],_,h=>by simp[Op.bytesLess]at h
 |a::l,b::m,c::n,h1,h2=>by
  unfold Op.bytesLess at h1 h2 ⊢;simp only[dS,bY,bP,beq_iff_eq]at h1 h2 ⊢
  rcases h1 with h1|⟨rfl,h1⟩
  ·rcases h2 with h2|⟨rfl,h2⟩
   ·exact .inl<|UInt8.lt_trans h1 h2
   ·exact .inl h1
  ·rcases h2 with h2|⟨rfl,h2⟩
   ·exact .inl h2
   ·exact .inr ⟨rfl,BZ h1 h2⟩
theorem B0:∀(a b:List UInt8),Op.bytesLess a b=true\/a=b\/Op.bytesLess b a=true
 | [],[]=> .inr (.inl rfl)
 | [],_::_=> .inl rfl
 |_::_,[]=> .inr (.inr rfl)
 |a::l,b::m=>by
  unfold Op.bytesLess;simp only[dS,bY,bP,beq_iff_eq]
  by_cases h1:a<b
  ·exact .inl<|.inl h1
  ·by_cases h2:b<a
   ·exact .inr<|.inr<|.inl h2
   ·have e:a=b:=by
     simp only[UInt8.lt_iff_toNat_lt]at h1 h2;exact UInt8.toNat_inj.1 (by omega)
    subst e
    rcases B0 l m with h|h|h
    ·exact .inl<|.inr ⟨rfl,h⟩
    ·exact .inr<|.inl (by rw[h])
    ·exact .inr<|.inr<|.inr ⟨rfl,h⟩
theorem ya:∀(a b:List UInt8),Lib.compareBytes a b<0↔Op.bytesLess a b=true
 | [],[]=>by simp[Lib.compareBytes,Op.bytesLess]
 | [],_::_=>by simp[Lib.compareBytes,Op.bytesLess]
 |_::_,[]=>by simp[Lib.compareBytes,Op.bytesLess]
 |a::l,b::m=>by
  unfold Lib.compareBytes Op.bytesLess;simp only[dS,bY,bP,beq_iff_eq];split
  ·simp_all
  ·rename_i h1;split
   ·rename_i h2;have h3:a≠b:=λe=>by subst e;exact h1 h2
    simp[h1,h3]
   ·rename_i h2;have e:a=b:=by
     simp only[UInt8.lt_iff_toNat_lt]at h1 h2;exact UInt8.toNat_inj.1 (by omega)
    subst e;rw[ya l m];simp[h1]
theorem yb:∀(a b:List UInt8),Lib.compareBytes a b=0↔a=b
 | [],[]=>by simp[Lib.compareBytes]
 | [],_::_=>by simp[Lib.compareBytes]
 |_::_,[]=>by simp[Lib.compareBytes]
 |a::l,b::m=>by
  unfold Lib.compareBytes;split
  ·rename_i h1;have h3:a≠b:=λe=>by subst e;exact absurd h1 (by simp)
   simp[h3]
  ·rename_i h1;split
   ·rename_i h2;have h3:a≠b:=λe=>by subst e;exact h1 h2
    simp[h3]
   ·rename_i h2;have e:a=b:=by
     simp only[UInt8.lt_iff_toNat_lt]at h1 h2;exact UInt8.toNat_inj.1 (by omega)
    subst e;rw[yb l m];simp
def fz.lt(a b:fz):Prop:=a.uG b=true
theorem fz.lt_irrefl(a:fz):¬fz.lt a a:=by unfold fz.lt fz.uG;rw[AB];decide
theorem fz.lt_trans{a b c:fz}(h1:fz.lt a b)(h2:fz.lt b c):fz.lt a c:=BZ h1 h2
theorem fz.FI(a b:fz):fz.lt a b\/a=b\/fz.lt b a:=by
 rcases B0 a.dP b.dP with h|h|h
 ·exact .inl h
 ·exact .inr<|.inl<|fz.ext' h
 ·exact .inr<|.inr h
theorem fz.L0{a b:fz}(h:fz.lt a b):a≠b:=λe=>by subst e;exact fz.lt_irrefl a h
end Go.Gk
namespace Go.Gk
open Go IntKind
class Bk (α:Type)where
 bk:α->Nat
 pos:∀x,1<=bk x
def bk{α:Type}[Bk α](x:α):Nat:=Bk.bk x
theorem JR{α:Type}[Bk α](x:α):1<=bk x:=Bk.pos x
instance:Bk fz:=⟨λs=>s.dP.length+1,λ_=>by omega⟩
instance:Bk Int:=⟨λ_=>1,λ_=>by omega⟩
instance:Bk Bool:=⟨λ_=>1,λ_=>by omega⟩
instance {α:Type} [Bk α]:Bk (List α):=⟨λl=>(l.map bk).sum+1,λ_=>by omega⟩
theorem JS{α:Type}[Bk α]:bk ([]:List α)=1:=rfl
theorem Ee{α:Type}[Bk α](x:α)(l:List α):bk (x::l)=bk x+bk l:=by
 show(List.map bk<|x::l).sum+1=bk x+((List.map bk l).sum+1);simp;omega
theorem GZ{α:Type}[Bk α]:∀{l:List α}{x:α},x∈l->bk x+1<=bk l
 |y::l,x,h=>by
  rw[Ee]
  rcases dM.1 h with h|h
  ·subst h;have:=JR l;omega
  ·have:=GZ h;omega
theorem zY{α:Type}[Bk α]:∀(l:List α),l.length+1<=bk l
 | []=>by rw[JS];simp
 |x::l=>by rw[Ee,cS];have:=zY l;have:=JR x;omega
theorem JT(s:fz):bk s=s.dP.length+1:=rfl
section
variable {α R:Type}
theorem IJ{l:List α}{e:Nat->Option R}(f:α->Option R)(h:∀k x,l[k]? =some x->e k=f x):xh l.length e=l.findSome? f:=by
 cases hx:xh l.length e with
 |none=>
  refine(List.findSome?_eq_none_iff.2 λx hm=>?_).symm;obtain⟨k,hk⟩:=dN hm;rw[<-h k x hk];exact o9.1 hx k (aZ.1 hk).1
 |some r=>
  obtain⟨k,hk,he,hn⟩:=qg.1 hx;refine(List.findSome?_eq_some_iff.2 ⟨l.take k,l[k],l.drop<|k+1,?_,?_,λy hy=>?_⟩).symm
  ·rw[<-sW hk,List.take_append_drop]
  ·rw[<-h k l[k] (aQ hk)];exact he
  ·obtain⟨j,hj⟩:=dN hy;have hjk:j<k:=by have:=(aZ.1 hj).1;rw[cQ]at this;omega
   rw[List.getElem?_take_of_lt hjk]at hj;rw[<-h j y hj];exact hn j hjk
theorem Ef(l:List α)(p:α->Bool)(r:R):l.findSome? (λx=>if p x=true then some r else none)=if l.any p=true then some r else none:=by
 induction l with
 |nil=>simp
 |cons x l ih=>
  rw[List.findSome?_cons,List.any_cons]
  cases h:p x <;> simp[ih]
theorem B1{l:List α}{body:Nat->Unit->Option (Fl Unit R)}(f:α->Option R)(hl:l.length<=4611686018427387904)
  (h:∀k x,l[k]? =some x->body k ()=some (II (f x) ())):uH l.length body ()=some (GY (l.findSome? f) ()):=by
 have h2:=tS (body:=body) (m:=l.length) (λk=>(l[k]?).bind f) hl (λk hk _=>by
  rw[h k l[k] (aQ hk),aQ hk];rfl)
 rw[h2,IJ f (λk x hx=>by rw[hx];rfl)]
theorem K1{l:List α}{body:Nat->Unit->Option (Fl Unit R)}(p:α->Bool)(r:R)(hl:l.length<=4611686018427387904)
  (h:∀k x,l[k]? =some x->body k ()=some (if p x=true then .rt r else .nx ())):uH l.length body ()=some (if l.any p=true then .rt r else .go ()):=by
 rw[B1 (λx=>if p x=true then some r else none) hl (λk x hx=>by rw[h k x hx];cases p x <;> rfl),Ef]
 cases l.any p <;> rfl
end
theorem K2{β:Type}(b:Bool)(x y:β):(bif b then some x else some y)=some (bif b then x else y):=by cases b <;> rfl
section
variable {α β:Type}
def IK(l:List α)(p:α->Bool):Int:=match l.findIdx? p with|some k=>((k:Nat):Int)|none=> -1
theorem FJ{l:List α}{p:α->Bool}(h:l.any p=false):IK l p = -1:=by
 unfold IK;rw[List.findIdx?_eq_none_iff.2];intro x hx;rw[<-jr];intro hp;rw[<-jr]at h;exact h<|kR.2 ⟨x,hx,hp⟩
theorem FK{l:List α}{p:α->Bool}{k:Nat}{x:α}(hk:l[k]? =some x)(hp:p x=true)(hn:∀j y,j<k->l[j]? =some y->p y=false):IK l p=((k:Nat):Int):=by
 unfold IK;have hlt:=(aZ.1 hk).1;have:l.findIdx? p=some k:=by
  rw[List.findIdx?_eq_some_iff_getElem];refine⟨hlt,?_,λj hj=>?_⟩
  ·have:=aQ hlt;rw[hk]at this;injection this with this;rw[<-this];exact hp
  ·have:=hn j l[j] hj<|aQ (by omega);simpa using this
 rw[this]
theorem wQ(l:List α)(p:α->Bool):(IK l p = -1/\∀x∈l,p x=false)\/∃k x,IK l p=((k:Nat):Int)/\l[k]? =some x/\p x=true/\∀j y,j<k->l[j]? =some y->p y=false:=by
 unfold IK
 cases h:l.findIdx? p with
 |none=>exact .inl ⟨rfl,λx hx=>by have:=List.findIdx?_eq_none_iff.1 h x hx;simpa using this⟩
 |some k=>
  obtain⟨hk,hp,hn⟩:=List.findIdx?_eq_some_iff_getElem.1 h;refine .inr ⟨k,l[k],rfl,aQ hk,hp,λj y hj hy=>?_⟩;have:=hn j hj;rw[aQ (by omega)]at hy;injection hy with hy
  subst hy;simpa using this
theorem MG(l:List α)(p:α->Bool):decide (IK l p>=0)=l.any p:=by
 rcases wQ l p with⟨h,hn⟩|⟨k,x,h,hx,hp,_⟩
 ·rw[h,List.any_eq_false.2 (λx hx=>by rw[hn x hx];decide)];decide
 ·rw[h,kR.2 ⟨x,eL hx,hp⟩];simp
def uU(p0:List α)(p1:α->Option Bool):Option Int:=
 (uH p0.length (λ(k1:Nat)(_:Unit)=>((idx p0 ((k1:Nat):Int)).bind λx7=>(p1 x7).bind λx10=>bif x10 then some (.rt ((k1:Nat):Int))else(some<|.nx ()):Option (Fl Unit Int))) ()).bind λo11=>o11.cs (λ(_:Unit)=>some<|-1)<|λr=>some r
theorem xK{l:List α}{φ:α->Option Bool}(p:α->Bool)(hl:l.length<=4611686018427387904)(h:∀x∈l,φ x=some (p x)):uU l φ=some (IK l p):=by
 unfold uU
 rw[tS (λk=>(l[k]?).bind λx=>if p x=true then some ((k:Nat):Int)else none) hl (λk hk _=>by
  rw[lH l k hk,aB,h _<|cC hk,aB,aQ hk]
  cases hp:p l[k] <;> simp[II,hp]),aB]
 rcases wQ l p with⟨h1,h2⟩|⟨k,x,h1,h2,h3,h4⟩
 ·rw[o9.2 (λk hk=>by rw[aQ hk];simp[h2 _<|cC hk])];simp[GY,Fo.cs,h1]
 ·rw[(qg (r:=((k:Nat):Int))).2 ⟨k,(aZ.1 h2).1,by rw[h2];simp[h3],λj hj=>by
   cases hy:l[j]? with
   |none=>rfl
   |some y=>simp[h4 j y hj hy]⟩]
  simp[GY,Fo.cs,h1]
def tA(p0:List α)(p1:α->Option Bool):Option Bool:=
 (uU p0 p1).bind λx1=>some<|decide<|x1>=0
theorem tT{l:List α}{φ:α->Option Bool}(p:α->Bool)(hl:l.length<=4611686018427387904)(h:∀x∈l,φ x=some (p x)):tA l φ=some (l.any p):=by
 unfold tA;rw[xK p hl h,aB,MG]
def G0 [DecidableEq α](p0 p1:List α):Option Bool:=
 bif((p0.length:Nat):Int) != ((p1.length:Nat):Int)then some false else((uH p0.length (λ(k1:Nat)(_:Unit)=>((idx p0 ((k1:Nat):Int)).bind λx13=>(idx p1 ((k1:Nat):Int)).bind λx16=>bif(!(decide<|x13=x16))then some (.rt false)else(some<|.nx ()):Option (Fl Unit Bool))) ()).bind λo23=>o23.cs (λ(_:Unit)=>some true)<|λr=>some r)
theorem zZ [DecidableEq α]{l m:List α}(hl:l.length<=4611686018427387904):G0 l m=some (decide<|l=m):=by
 unfold G0
 by_cases h:l.length=m.length
 ·have e:(((l.length:Nat):Int) != ((m.length:Nat):Int))=false:=by rw[h];simp
  rw[e,aM]
  rw[tS (λk=>if l[k]? =m[k]? then none else some false) hl (λk hk _=>by
   rw[lH l k hk,aB,lH m k (by omega),aB,aQ hk,aQ (by omega:k<m.length)]
   by_cases hx:l[k]=m[k] <;> simp[II,hx]),aB]
  by_cases hx:l=m
  ·subst hx;rw[o9.2<|λk _=>aC rfl];simp[GY,Fo.cs]
  ·have:∃r,xh l.length (λk=>if l[k]? =m[k]? then none else some false)=some r:=by
    cases hf:xh l.length (λk=>if l[k]? =m[k]? then none else some false)with
    |some r=>exact⟨r,rfl⟩
    |none=>
     exfalso;refine hx<|List.ext_getElem? λi=>?_
     by_cases hi:i<l.length
     ·have:=o9.1 hf i hi
      by_cases h6:l[i]? =m[i]?
      ·exact h6
      ·rw[aF h6]at this;cases this
     ·rw[List.getElem?_eq_none (by omega),List.getElem?_eq_none (by omega)]
   obtain⟨r,hr⟩:=this;have hr2:r=false:=by
    obtain⟨k,_,hk,_⟩:=qg.1 hr;split at hk
    ·cases hk
    ·injection hk with hk;exact hk.symm
   rw[hr,hr2];simp[GY,Fo.cs,hx]
 ·have e:(((l.length:Nat):Int) != ((m.length:Nat):Int))=true:=by simp;omega
  rw[e,aK,bQ<|λh'=>h (by rw[h'])]
def Sorted(key:α->fz)(l:List α):Prop:=∀(i j:Nat)(x y:α),i<j->l[i]? =some x->l[j]? =some y->fz.lt (key x) (key y)
theorem Sorted.inj{key:α->fz}{l:List α}(h:Sorted key l){i j:Nat}{x y:α}(hx:l[i]? =some x)(hy:l[j]? =some y)(e:key x=key y):i=j:=by
 rcases Nat.lt_trichotomy i j with h1|h1|h1
 ·exact absurd e<|fz.L0<|h i j x y h1 hx hy
 ·exact h1
 ·exact absurd e.symm<|fz.L0<|h j i y x h1 hy hx
def JU(N:Nat)(p0:List α)(p1:β)(p2:α->β->Option Int):Option (Int×Bool):=
 (iC (λ(s2:Int×Int)=>(bif decide (s2.1<s2.2)then((idx p0<|wrap .i64<|Int.fdiv (wrap .u64<|wrap .i64<|s2.1+s2.2) 2).bind λx13=>(p2 x13 p1).bind λx16=>(bif decide (x16<0)then some (wrap .i64<|wrap .i64 (Int.fdiv (wrap .u64<|wrap .i64<|s2.1+s2.2) 2)+1,s2.2)else some (s2.1,wrap .i64<|Int.fdiv (wrap .u64<|wrap .i64<|s2.1+s2.2) 2)).bind λs17=>some<|.nx (s17.1,s17.2))else(some<|.br (s2.1,s2.2)):Option (Fl (Int×Int) Empty))) N (0,((p0.length:Nat):Int))).bind λo29=>o29.cs (λ(s2:Int×Int)=>(bif decide (s2.1<((p0.length:Nat):Int))then((idx p0 s2.1).bind λx25=>(p2 x25 p1).bind λx28=>some<|x28==0)else some false).bind λs23=>some (s2.1,s23))<|λr=>r.elim
theorem Dx{a b:Nat}(h:a<b)(hb:b<=4611686018427387904):wrap .i64 (Int.fdiv (wrap .u64<|wrap .i64<|((a:Nat):Int)+((b:Nat):Int)) 2)=(((a+b) / 2:Nat):Int):=by
 rw[fJ (x:=((a:Nat):Int)+((b:Nat):Int)) (by omega) (by omega)];have e:wrap .u64 (((a:Nat):Int)+((b:Nat):Int))=((a+b:Nat):Int):=by
  show((a:Int)+b) % 18446744073709551616=_;omega
 rw[e,Int.fdiv_eq_ediv_of_nonneg _ (by omega),fJ (by omega) (by omega)];omega
end
end Go.Gk
namespace Go.Gk
open Go IntKind Go.ChangeShapes Go.WideShapes Go.RowKit
structure UB (ub:(H:Type)->DataW H->Nat) (ua:(H:Type)->List (DataW H)->Nat):Prop where
 str:∀(H:Type)(b:List UInt8),ub H (.lit<|.string b)=b.length+1
 pos:∀(H:Type)(d:DataW H),1<=ub H d
 sl:∀(H:Type)(e s:List (DataW H)),ub H (.slice e s)=ua H e+ua H s+1
 ag:∀(H:Type)(l:List (DataW H)),ub H (.agg l)=ua H l+1
 nil:∀(H:Type),ua H []=0
 cons:∀(H:Type)(x:DataW H)(l:List (DataW H)),ua H (x::l)=ub H x+ua H l
def Hw(w:World):fB:=λb=>w.heap[b]?
structure lW (ub:(H:Type)->DataW H->Nat) (P:Program) (T:TypeId) (α:Type) [GT α] [Bk α]:Prop where
 trod:∀{H:Type}{enc:TypeId×Value->H}{w:World}{base:Nat}{spare:Nat->Bool}{held:Bool}{fuel:Nat}{cs:List Value}{d:DataW H×List MemPlace},
  DataW.trod enc P w base spare held fuel T cs=some d->∃x:α,GT.ok (Hw w) cs x/\bk x<=ub H d.1
 Ou:∀{w:World}{r:Reach}{base:Nat}{v:Value},Value.okWide P w r base T v->v=wK α v.cells.toList
section
variable {ub:(H:Type)->DataW H->Nat}{ua:(H:Type)->List (DataW H)->Nat}{P:Program}{T e:TypeId}
theorem IL(u:UB ub ua)(ht:P.underlying T=some (.int .i64)):lW ub P T Int where
 trod:=λh=>by
  obtain⟨n,rfl,rfl,_⟩:=DataW.trod_int ht h;exact⟨n,rfl,u.pos _ _⟩
 Ou:=λh=>by obtain⟨n,rfl⟩:=okWide_int ht h;rfl
theorem G1(u:UB ub ua)(ht:P.underlying T=some .bool):lW ub P T Bool where
 trod:=λh=>by
  obtain⟨n,rfl,rfl⟩:=DataW.trod_bool ht h;exact⟨n,rfl,u.pos _ _⟩
 Ou:=λh=>by obtain⟨n,rfl⟩:=okWide_bool ht h;rfl
theorem IM(u:UB ub ua)(ht:P.underlying T=some .string):lW ub P T fz where
 trod:=λh=>by
  obtain⟨s,rfl,rfl,_⟩:=DataW.trod_string ht h;refine⟨⟨s.data.toList⟩,?_,?_⟩
  ·show [Value.string s]= [Gk.str ⟨s.data.toList⟩]
   cases s;rfl
  ·rw[u.str];exact bV _
 Ou:=λh=>by obtain⟨n,rfl⟩:=okWide_string ht h;rfl
theorem AD{α:Type}{R:Nat->α->Prop}:∀(n:Nat),(∀i,i<n->∃x,R i x)->∃l:List α,l.length=n/\∀i x,l[i]? =some x->R i x
 | 0,_=>⟨[],rfl,λi x h=>by simp at h⟩
 |n+1,h=>by
  obtain⟨l,h1,h2⟩:=AD n<|λi hi=>h i (by omega)
  obtain⟨x,hx⟩:=h n (by omega);refine⟨l++[x],by simp[h1],λi y hy=>?_⟩
  by_cases hi:i<n
  ·rw[gp (by omega)]at hy;exact h2 i y hy
  ·have:=(aZ.1 hy).1;rw[dB]at this;have:i=n:=by simp at this;omega
   subst this;rw[g9 (by omega),h1]at hy;simp at hy;subst hy;exact hx
theorem Dy{H α:Type}[Bk α](u:UB ub ua):∀{l:List α}{es:List (DataW H×List MemPlace)},l.length=es.length->
  (∀(i:Nat)(x:α)(y:DataW H×List MemPlace),l[i]? =some x->es[i]? =some y->bk x<=ub H y.1)->bk l<=ua H (es.map (·.1))+1
 | [],[],_,_=>by rw[JS];omega
 |x::l,y::es,hl,h=>by
  have h1:=h 0 x y rfl rfl;have h2:=Dy (H:=H) u (l:=l) (es:=es) (by simpa using hl)<|λi x y hx hy=>h (i+1) x y (by simpa using hx) (by simpa using hy)
  rw[Ee,dW,u.cons];omega
theorem FL{w:World}{base:Nat}{a:Addr}{n:Nat}{cs:List Value}(h:w.cells? base a n=some cs):At (Hw w) a cs:=by
 intro j v hv;obtain⟨_,hlen,hc⟩:=World.cells?_some h;have hj:=(aZ.1 hv).1;have h2:=hc j (by omega);rw[hv]at h2;unfold yw Hw;unfold World.cell? at h2;exact h2
theorem uV{α:Type}[GT α][Bk α](u:UB ub ua)(he:lW ub P e α)(ht:P.underlying T=some (.slice e):=by kernel_rfl)(hc:P.cellsOf e=GT.sz α:=by kernel_rfl):lW ub P T (List α)where
 trod:=λ{H enc w base spare held fuel cs d}h=>by
  rcases DataW.trod_slice ht h with⟨rfl,rfl⟩|⟨a,len,cap,elems,rest,n,_,rfl,rfl,_,hlc,hcm,hlen,hel,_⟩
  ·exact⟨[],⟨_,rfl,none,0,0,rfl,rfl,bV _,by simp[maxLen],λi x hx=>by simp at hx⟩,u.pos _ _⟩
  ·have each:∀i,i<len->∃x:α,(∃c y,GT.ok (Hw w) c x/\At (Hw w) (a.add<|i*GT.sz α) c/\elems[i]? =some y/\bk x<=ub H y.1):=by
    intro i hi;have h1:=hel i hi;rw[aQ (by omega:i<elems.length),Option.bind_eq_some_iff]at h1;obtain⟨c,h2,h3⟩:=h1;obtain⟨x,h4,h5⟩:=he.trod h3;refine⟨x,c,_,h4,?_,aQ (by omega),h5⟩;rw[hc]at h2;exact FL h2
   obtain⟨l,hl,hr⟩:=AD len each;refine⟨l,⟨_,rfl,some a,len,cap,rfl,hl.symm,hlc,hcm,λi x hx=>?_⟩,?_⟩
   ·obtain⟨c,y,h1,h2,_⟩:=hr i x hx;exact⟨a,c,rfl,h1,h2⟩
   ·have:=Dy (H:=H) u (l:=l) (es:=elems) (by omega) (λi x y hx hy=>by
     obtain⟨c,y',_,_,h3,h4⟩:=hr i x hx
     rw[hy]at h3;injection h3 with h3;subst h3;exact h4)
    rw[u.sl];omega
 Ou:=λh=>by obtain⟨a,n,c,rfl⟩:=okWide_slice ht h;rfl
def HV(ub:(H:Type)->DataW H->Nat)(ua:(H:Type)->List (DataW H)->Nat)(P:Program)(off:Nat)(fs:List Field)(β:Type)[GT β](m:β->Nat):Prop:=
 ∀{H:Type}{enc:TypeId×Value->H}{w:World}{base:Nat}{spare:Nat->Bool}{held:Bool}{n:Nat}{cs:List Value}{ys:List (DataW H×List MemPlace)},
  (∀(i:Nat)(f:Field),fs[i]? =some f->DataW.trod enc P w base spare held n f.type ((cs.drop f.offset).take<|P.cellsOf f.type)=ys[i]?)->ys.length=fs.length->
  cs.length=off+GT.sz β->∃x:β,GT.ok (Hw w) (cs.drop off) x/\m x<=ua H (ys.map (·.1))
theorem rP{β:Type}[GT β][Bk β]{off:Nat}{f:Field}(u:UB ub ua)(h:lW ub P f.type β)(ho:f.offset=off:=by exact rfl)(hc:P.cellsOf f.type=GT.sz β:=by kernel_rfl):HV ub ua P off [f] β bk:=by
 intro H enc w base spare held n cs ys hf hl hcs
 match ys,hl with
 | [y],_=>
  have h1:=hf 0 f rfl;rw[ho,hc,mh (by rw[gC];omega)]at h1;obtain⟨x,h2,h3⟩:=h.trod (d:=y) h1;exact⟨x,h2,by rw[dW,u.cons];omega⟩
theorem iV{α β:Type}[GT α][GT β][Bk α]{off off':Nat}{f:Field}{fs:List Field}{m:β->Nat}(u:UB ub ua)(h:lW ub P f.type α)(hr:HV ub ua P off' fs β m)(ho:f.offset=off:=by exact rfl)(hc:P.cellsOf f.type=GT.sz α:=by kernel_rfl)(hoff:off'=off+GT.sz α:=by exact rfl):HV ub ua P off (f::fs) (α×β) (λx=>bk x.1+m x.2):=by
 intro H enc w base spare held n cs ys hf hl hcs;have hsz:GT.sz (α×β)=GT.sz α+GT.sz β:=rfl
 match ys,hl with
 |y::ys,hl=>
  have h1:=hf 0 f rfl;rw[ho,hc]at h1;obtain⟨x,h2,h3⟩:=h.trod (d:=y) h1;obtain⟨x',h4,h5⟩:=hr (n:=n) (cs:=cs) (ys:=ys) (λi g hg=>hf (i+1) g hg) (by simpa using hl) (by omega);refine⟨(x,x'),⟨_,_,?_,h2,h4⟩,?_⟩
  ·rw[hoff,<-List.drop_drop,List.take_append_drop]
  ·rw[dW,u.cons];show bk x+m x'<=_;omega
theorem nX{γ β:Type}[GT β][Bk γ]{fs:Array Field}{m:β->Nat}(u:UB ub ua)(f:γ->β)(g:β->γ)(hfg:∀b,f (g b)=b)(ht:P.underlying T=some (.struct fs))(h:HV ub ua P 0 fs.toList β m)(hm:∀b,bk (g b)<=m b+1)(hc:P.cellsOf T=GT.sz β:=by kernel_rfl): @lW ub P T γ (GT.via f) _:=
 @lW.mk ub P T γ (GT.via f) _
  (λ{H enc w base spare held fuel cs d}hd=>by
   obtain⟨xs,n,_,rfl,hl,hlen,hf⟩:=DataW.trod_struct ht hd;obtain⟨b,h1,h2⟩:=h (n:=n) (cs:=cs) (ys:=xs) (λi g hg=>hf i g (by rw[<-Array.getElem?_toList];exact hg)) (by rw[hlen];simp) (by omega);refine⟨g b,?_,?_⟩
   ·show GT.ok (Hw w) cs (f<|g b);rw[hfg];exact h1
   ·rw[u.ag];have:=hm b;omega)
  (λhv=>by
   obtain⟨cs,rfl,_⟩:=okWide_struct ht hv
   cases cs;rfl)
theorem lW.arg{H:Type}{enc:TypeId×Value->H}{w:World}{base:Nat}{spare:Nat->Bool}{held:Bool}{r:Reach}{b0:Nat}{v:Value}{d:DataW H}{ps:List MemPlace}{α:Type}[GT α][Bk α](o:lW ub P T α)
  (hv:Value.okWide P w r b0 T v) (hd:DataW.Trod enc P w base spare held T v d ps):∃x:α,xS (Hw w) v x/\bk x<=ub H d:=by
 obtain⟨fuel,hf⟩:=hd;obtain⟨x,h1,h2⟩:=o.trod hf;exact⟨x,⟨_,o.Ou hv,h1⟩,h2⟩
end
theorem Calls.fin{P:Program}{f:FuncId}{args:Array Value}{w:World}{R Q:Value->World->Prop}(h:Calls P f args w (gq R))(k:∀v w',R v w'->Q v w'):
  Calls P f args w (λe W'=>∃v,e = .returned v/\Q v W'):=Calls.mono h λ_ w'⟨v,e,hr⟩=>⟨v,e,k v w' hr⟩
def gT(W:World):HP:=⟨λM h=>hle (Hw W) M/\h=rk,λk⟨a,b⟩=>⟨It a k,b⟩⟩
theorem Holds.begin(W:World):Holds W W [gT W]:=by
 refine⟨Hw W,λ_=>rk,⟨rfl,rfl,rfl,bV _,λb o h=>h,λi Pr hq=>?_,λ_ _ _ _ h=>(by cases h),λ_ _ _ _ h=>(by cases h),λ_ _ _ _ _ _ _ h=>(by cases h)⟩⟩
 match i,hq with
 | 0,hq=>simp at hq;subst hq;exact⟨Jo _,rfl⟩
theorem Holds.JV{α:Type}[GT α]{W:World}{V:List HP}{v:Value}{x:α}(h:Holds W W (V++[gT W]))(hv:Gk.xS (Hw W) v x):Holds W W (rd v x::(V++[gT W])):=
 h.CZ λM hs g=>by
  have h1:=(g.sat V.length (gT W) (by simp)).1;exact⟨hv.mono h1,rfl⟩
theorem Holds.kept{E W w:World}{V:List HP}(h:Holds E w (V++[gT W]))(he:E=W):Below W.heap.size W w:=by
 subst he;obtain⟨M,hs,g⟩:=h;have h1:=(g.sat V.length (gT E) (by simp)).1;have h2:∀k o,E.heap[k]? =some o->w.heap[k]? =some o:=λk o ho=>g.im k o<|h1 k o ho
 refine⟨g.os,g.tape,g.out,?_,λk hk=>?_⟩
 ·by_cases h0:E.heap.size=0
  ·omega
  ·have h3:=h2 (E.heap.size - 1) _<|iN (by omega)
   have:=(Array.getElem?_eq_some_iff.1 h3).1;omega
 ·rw[iN hk];exact h2 k _<|iN hk
section
variable {H:Type}{enc:TypeId×Value->H}{P:Program}
theorem IP{f:Func}{s:ChangeSpec}{apart fresh handsOn again:Bool}{W W':World}{args:Array Value}{v:Value}{ds gs:List (DataW H)}{before pa pv:List MemPlace}
  (hW:DataW.Whole enc P f.params.toList s.vars apart W args.toList ds gs before)
  (hres:∀(b:Nat)(sp:Nat->Bool)(hd:Bool),DataW.TrodAll enc P W' b sp hd f.resultTypes.toList (v.resultList f.resultTypes.size) (s.fn H<|ds++gs).results [])
  (hargs:∀sp:Nat->Bool,(∀p∈before,sp p.block=true)->DataW.TrodAll enc P W' 0 sp true f.params.toList args.toList (s.fn H<|ds++gs).args pa)
  (hvars:∀sp:Nat->Bool,(∀p∈before,sp p.block=true)->DataW.TrodVars enc P W' sp s.vars (s.fn H<|ds++gs).vars pv)
  (hps:before=pa++pv) (hb:Below W.heap.size W W')
  (hok:∀(j:Nat)(t:TypeId)(r:Value),f.resultTypes[j]? =some t->(v.resultList f.resultTypes.size)[j]? =some r->Value.okWide P W' .any 0 t r):
  s.post enc P f apart fresh handsOn again W args v W':=by
 have hlt:∀p∈before,p.block<W.heap.size:=λp hp=>hW.lt p hp;have hold:∀p∈before,(λb=>decide<|b<W.heap.size) p.block=true:=λp hp=>by simpa using hlt p hp
 refine⟨ds,gs,before,[],pa,pv,hW,hres _ _ _,hargs _ hold,hvars _ hold,World.keptBut_mono (λp hp=>⟨hp,?_⟩)<|hb.frame (· ∈before),λ_=>?_⟩
 ·rw[hps,dI]at hp;exact Or.inr hp
 ·obtain⟨_,_,_,_,_,hz,hn⟩:=hW;refine⟨hok,_,_,([]++pa)++pv,⟨[]++pa,pv,trodAll_append (hargs _<|λ_ _=>rfl)<|hres _ _ _,hvars _<|λ_ _=>rfl,rfl,?_,?_⟩,?_⟩
  ·intro b off hp;have hin:MemPlace.cell b off∈before:=by rw[hps];simpa using hp
   rw[hb.frozen<|hlt _ hin];exact hz b off hin
  ·intro ha;have:=hn ha;rw[hps]at this;simpa using this
  ·intro p hp _;rw[hps];simpa using hp
theorem xL{W W':World}(hl:laidOutB P=true)(hb:Below W.heap.size W W'){sp:Nat->Bool}:∀{ts:List TypeId}{vs:List Value}{ds:List (DataW H)}{ps:List MemPlace},
  (∀t∈ts,P.readableRec t=true/\t<P.types.size)->DataW.TrodAll enc P W 0 (λ_=>true) true ts vs ds ps->(∀p∈ps,p.block<W.heap.size)->(∀p∈ps,sp p.block=true)->DataW.TrodAll enc P W' 0 sp true ts vs ds ps
 | [],_,_,_,_,h,_,_=>by
  obtain⟨rfl,rfl,rfl⟩:=trodAll_nil h;rfl
 |t::ts,_,_,_,ht,h,hlt,hsp=>by
  obtain⟨v,vs,d,ds,p,q,rfl,rfl,rfl,h1,h2⟩:=trodAll_cons h;refine⟨p,q,?_,xL hl hb (λt h=>ht t (by simp[h])) h2 (λx hx=>hlt x (by simp[hx]))<|λx hx=>hsp x (by simp[hx]),rfl⟩;exact WideElems.Trod_stays hl (ht t (by simp)).1 (ht t (by simp)).2 h1 (λx hx=>hb.same<|hlt x (by simp[hx]))<|λx hx=>hsp x (by simp[hx])
end
end Go.Gk
namespace Go.Gk
open Go IntKind
instance:Bk aH:=⟨λx=>bk x.X0+bk x.Y0+bk x.X1+bk x.Y1+1,λ_=>by omega⟩
theorem K3(x:aH):bk x=bk x.X0+bk x.Y0+bk x.X1+bk x.Y1+1:=rfl
instance:Bk jS:=⟨λx=>bk x.X+bk x.Y+1,λ_=>by omega⟩
theorem JW(x:jS):bk x=bk x.X+bk x.Y+1:=rfl
instance:Bk cD:=⟨λx=>bk x.At+bk x.dY+bk x.cV+bk x.To+bk x.gw+1,λ_=>by omega⟩
theorem K4(x:cD):bk x=bk x.At+bk x.dY+bk x.cV+bk x.To+bk x.gw+1:=rfl
instance:Bk eP:=⟨λx=>bk x.Part+bk x.eE+bk x.dL+bk x.At+1,λ_=>by omega⟩
theorem HW(x:eP):bk x=bk x.Part+bk x.eE+bk x.dL+bk x.At+1:=rfl
instance:Bk jT:=⟨λx=>bk x.aJ+bk x.cM+bk x.aL+bk x.bN+1,λ_=>by omega⟩
theorem JX(x:jT):bk x=bk x.aJ+bk x.cM+bk x.aL+bk x.bN+1:=rfl
instance:Bk eE:=⟨λx=>bk x.Part+bk x.eE+1,λ_=>by omega⟩
theorem MH(x:eE):bk x=bk x.Part+bk x.eE+1:=rfl
instance:Bk aA:=⟨λx=>bk x.Y0+bk x.Y1+bk x.Xs+1,λ_=>by omega⟩
instance:Bk aI:=⟨λx=>bk x.dL+bk x.Set+bk x.gI+1,λ_=>by omega⟩
instance:Bk cP:=⟨λx=>bk x.kD+bk x.aL+bk x.gH+1,λ_=>by omega⟩
instance:Bk cL:=⟨λx=>bk x.cD+bk x.Number+1,λ_=>by omega⟩
instance:Bk aG:=⟨λx=>bk x.from_+bk x.to+1,λ_=>by omega⟩
instance:Bk aN:=⟨λx=>bk x.from_+bk x.to+bk x.jB+1,λ_=>by omega⟩
end Go.Gk
namespace Go.Gk
open Go IntKind Go.Sort
section
variable {α:Type}
theorem AE{β:Type}(a:Array β){n:Nat}(h:a.size=n):a.extract 0 n=a:=by subst h;exact Array.extract_size
theorem MI{φ:α->α->Option Int}{l:List α}(cf:α->α->Int)(hφ:∀x∈l,∀y∈l,φ x y=some (cf x y))(h1:∀x∈l,¬cf x x<0)
  (h2:∀x∈l,∀y∈l,∀z∈l,cf x y<0->cf y z<0->cf x z<0) (h3:∀x∈l,∀y∈l,∀z∈l,¬cf x y<0->¬cf y z<0->¬cf x z<0):SWO (KC<|E8 φ l):=by
 have hm:∀i:Fin l.length,l[i]∈l:=λi=>cC i.isLt;have e:∀i j:Fin l.length,E8 φ l i j=cf l[i] l[j]:=λi j=>by unfold E8;rw[hφ _ (hm i) _<|hm j];rfl
 refine⟨λx=>?_,λx y z=>?_,λx y z=>?_⟩
 ·simp only[KC,e,decide_eq_false_iff_not];exact h1 _<|hm _
 ·simp only[KC,e,decide_eq_true_iff];exact h2 _ (hm _) _ (hm _) _<|hm _
 ·simp only[KC,e,decide_eq_false_iff_not];exact h3 _ (hm _) _ (hm _) _<|hm _
theorem B5{φ:α->α->Option Int}{l:List α}(cf:α->α->Int)(hφ:∀x∈l,∀y∈l,φ x y=some (cf x y))(h1:∀x∈l,¬cf x x<0)
  (h2:∀x∈l,∀y∈l,∀z∈l,cf x y<0->cf y z<0->cf x z<0) (h3:∀x∈l,∀y∈l,∀z∈l,¬cf x y<0->¬cf y z<0->¬cf x z<0) (hl:l.length<4611686018427387904):
  ∃m,yK φ l=some m/\m.Perm l/\m.Pairwise (λx y=>¬cf y x<0):=by
 have hO:=MI cf hφ h1 h2 h3;have hm:∀i:Fin l.length,l[i]∈l:=λi=>cC i.isLt;have hc:(∀i j:Fin l.length,∃c,φ l[i] l[j]=some c):=λi j=>⟨_,hφ _ (hm i) _<|hm j⟩;refine⟨HG φ l,by unfold yK;rw[aC ⟨⟨hc,hO⟩,hl⟩],?_⟩;unfold HG
 by_cases hn:0<l.length
 ·rw[dif_pos hn]
  letI inh:Inhabited (Fin l.length):=⟨⟨0,hn⟩⟩
  have hds:(Array.ofFn λi:Fin l.length=>i).size=l.length:=by simp
  obtain⟨hp,hs⟩:=pdq_sorts (KC<|E8 φ l) hO (Array.ofFn λi:Fin l.length=>i) 0 l.length (Lib.bitLen l.length) true true (dJ _) (by rw[hds];exact bV _)<|Or.inl rfl
  show(List.map (λi=>l[i]) (pdq (KC<|E8 φ l) (Array.ofFn λi:Fin l.length=>i) 0 l.length (Lib.bitLen l.length) true true).toList).Perm l/\_;generalize pdq (KC<|E8 φ l) (Array.ofFn λi:Fin l.length=>i) 0 l.length (Lib.bitLen l.length) true true=d' at hp hs;obtain⟨hz,_,hpm⟩:=hp;have hz':d'.size=l.length:=hz.trans hds;rw[AE d' hz',AE _ hds]at hpm;have hof:(Array.ofFn λi:Fin l.length=>i).toList.map (λi=>l[i])=l:=by
   rw[Array.toList_ofFn,List.map_ofFn];exact List.ofFn_getElem
  refine⟨(hpm.map<|λi=>l[i]).trans<|List.Perm.of_eq hof,?_⟩;rw[List.pairwise_map,mi];intro i j hi hj hij;rw[Array.length_toList]at hi hj;have:=hs i j (dJ _) hij (by rw[<-hz'];exact hj);rw[getElem!_pos d' i hi,getElem!_pos d' j hj]at this;have hij2:=hφ _ (hm<|d'[j]) _<|hm<|d'[i]
  have hij3:E8 φ l d'[j] d'[i]=cf l[d'[j]] l[d'[i]]:=by unfold E8;rw[hij2];rfl
  unfold KC at this;rw[decide_eq_false_iff_not,hij3]at this;exact this
 ·rw[dif_neg hn];have:l= []:=List.length_eq_zero_iff.1 (by omega);subst this;exact⟨List.Perm.refl _,j9⟩
theorem Dz{φ:α->α->Option Int}{x:α}(h:φ x x=some 0):yK φ [x]=some [x]:=by
 obtain⟨m,h1,h2,_⟩:=B5 (φ:=φ) (l:=[x]) (λ_ _=>0) (λa ha b hb=>by simp at ha hb;rw[ha,hb];exact h) (λ_ _=>by decide) (λ_ _ _ _ _ _ h=>by simp at h) (λ_ _ _ _ _ _ _ _=>by decide) (by simp);rw[h1,List.perm_singleton.1 h2]
theorem C9{l:List Int}(h:l.Pairwise (λx y=>x<=y))(hl:l.length<4611686018427387904):vS l=some l:=by
 unfold vS;rw[aC hl,List.mergeSort_of_pairwise (by simpa using h)]
end
end Go.Gk
namespace Go.Gk
open Go IntKind
def pR(l:List Int)(x:Int):Nat:=l.countP<|λa=>decide<|a<=x
def p7(l:List Int)(x:Int):Bool:=pR l x % 2==1
def jW(l:List Int):Prop:=l.Pairwise (· < ·)
theorem HY(x:Int):pR [] x=0:=rfl
theorem qL(a:Int)(l:List Int)(x:Int):pR (a::l) x=(if a<=x then 1 else 0)+pR l x:=by
 unfold pR;rw[List.countP_cons]
 by_cases h:a<=x <;> simp[h];omega
theorem B6(l m:List Int)(x:Int):pR (l++m) x=pR l x+pR m x:=List.countP_append
theorem HZ{l:List Int}{x:Int}(h:∀a∈l,a<=x):pR l x=l.length:=by
 unfold pR;rw[List.countP_eq_length];intro a ha;simpa using h a ha
theorem B7{l:List Int}{x:Int}(h:∀a∈l,x<a):pR l x=0:=by
 unfold pR;rw[List.countP_eq_zero];intro a ha;have:=h a ha;simp;omega
theorem zg{l:List Int}{x:Int}:p7 l x=true↔pR l x % 2=1:=by unfold p7;simp
theorem zh{l:List Int}{x:Int}(h:∀a∈l,x<a):p7 l x=false:=by unfold p7;rw[B7 h];rfl
theorem jW.head{a:Int}{l:List Int}(h:jW (a::l)):∀b∈l,a<b:=(oJ.1 h).1
theorem jW.tail{a:Int}{l:List Int}(h:jW (a::l)):jW l:=(oJ.1 h).2
theorem zi{a:Int}{l:List Int}(h:jW (a::l)):p7 (a::l) a=true:=by
 rw[zg,qL,aC<|Int.le_refl _,B7 h.head]
theorem B8:∀{l m:List Int},jW l->jW m->(∀x,p7 l x=p7 m x)->l=m
 | [],[],_,_,_=>rfl
 | [],b::m,_,hm,h=>by have:=h b;rw[zi hm]at this;cases this
 |a::l,[],hl,_,h=>by have:=h a;rw[zi hl]at this;cases this
 |a::l,b::m,hl,hm,h=>by
  have hab:a=b:=by
   rcases Int.lt_trichotomy a b with h1|h1|h1
   ·have h2:=h a
    rw[zi hl,zh (l:=b::m) (λc hc=>by
     rcases dM.1 hc with rfl|hc
     ·exact h1
     ·have:=hm.head c hc;omega)]at h2
    cases h2
   ·exact h1
   ·have h2:=h b
    rw[zi hm,zh (l:=a::l) (λc hc=>by
     rcases dM.1 hc with rfl|hc
     ·exact h1
     ·have:=hl.head c hc;omega)]at h2
    cases h2
  subst hab;rw[B8 hl.tail hm.tail<|λx=>?_]
  by_cases hx:a<=x
  ·have h2:=h x;unfold p7 at h2 ⊢;rw[qL,qL,aC hx]at h2;rw[eT]at h2 ⊢;simp only[beq_iff_eq]at h2 ⊢;omega
  ·rw[zh (λc hc=>by have:=hl.head c hc;omega),zh (λc hc=>by have:=hm.head c hc;omega)]
theorem zj{l:List Int}{a b:Int}(hl:∀c∈l,c<a)(he:l.length % 2=0)(hab:a<b)(x:Int):p7 (l++[a,b]) x=(p7 l x||(decide (a<=x)&&decide (x<b))):=by
 rw[eT,dS,bY,bP,bP,zg,zg,B6,qL,qL,HY]
 by_cases h1:a<=x
 ·have h2:pR l x=l.length:=HZ λc hc=>by have:=hl c hc;omega
  rw[h2,aC h1]
  by_cases h3:b<=x
  ·rw[aC h3];omega
  ·rw[aF h3];omega
 ·rw[aF h1,aF (by omega)];omega
theorem J0{l:List Int}{s e a b:Int}(hl:∀c∈l,c<s)(he:l.length % 2=0)(hs:s<e)(h1:s<=a)(h2:a<=e)(hab:a<b)(x:Int):p7 (l++[s,max e b]) x=(p7 (l++[s,e]) x||(decide (a<=x)&&decide (x<b))):=by
 rw[zj hl he (by omega),zj hl he hs];rw[eT];simp only[dS,bY,bP];constructor
 ·rintro(h|h)
  ·exact .inl<|.inl h
  ·by_cases hx:x<e
   ·exact .inl<|.inr ⟨h.1,hx⟩
   ·exact .inr ⟨by omega,by omega⟩
 ·rintro((h|h)|h)
  ·exact .inl h
  ·exact .inr ⟨h.1,by omega⟩
  ·exact .inr ⟨by omega,by omega⟩
theorem jW.snoc{l:List Int}{a b:Int}(h:jW l)(hl:∀c∈l,c<a)(hab:a<b):jW (l++[a,b]):=by
 unfold jW;rw[nM];refine⟨h,by simp[hab],λc hc d hd=>?_⟩;have:=hl c hc;simp at hd
 rcases hd with rfl|rfl <;> omega
structure Bd where
 y0:Int
 y1:Int
 xs:List Int
def rowAt:List Bd->Int->List Int
 | [],_=>[]
 |b::s,y=>if b.y0<=y/\y<b.y1 then b.xs else rowAt s y
theorem nD(b:Bd)(s:List Bd)(y:Int):rowAt (b::s) y=if b.y0<=y/\y<b.y1 then b.xs else rowAt s y:=rfl
structure fM (s:List Bd):Prop where
 each:∀b∈s,b.y0<b.y1/\b.xs≠[]/\jW b.xs/\b.xs.length % 2=0
 ord:s.Pairwise (λb c=>b.y1<=c.y0/\(b.y1=c.y0->b.xs≠c.xs))
theorem fM.nil:fM []:=⟨λb h=>by simp at h,j9⟩
theorem fM.tail{b:Bd}{s:List Bd}(h:fM (b::s)):fM s:=⟨λc hc=>h.each c<|ir _ hc,(oJ.1 h.ord).2⟩
theorem mo{s:List Bd}{y:Int}(h:∀b∈s,y<b.y0\/b.y1<=y):rowAt s y= []:=by
 induction s with
 |nil=>rfl
 |cons b s ih=>
  unfold rowAt;have:=h b (by simp);rw[aF (by omega)];exact ih λc hc=>h c<|ir _ hc
theorem rB(s t:List Bd)(y:Int):rowAt (s++t) y=if(∃b∈s,b.y0<=y/\y<b.y1)then rowAt s y else rowAt t y:=by
 induction s with
 |nil=>simp
 |cons b s ih=>
  rw[List.cons_append,nD,nD]
  by_cases h:b.y0<=y/\y<b.y1
  ·rw[aC h,aC ⟨b,by simp,h⟩,aC h]
  ·rw[aF h,ih]
   by_cases h2:∃c∈s,c.y0<=y/\y<c.y1
   ·obtain⟨c,hc,hc2⟩:=h2;rw[aC ⟨c,hc,hc2⟩,aC ⟨c,ir _ hc,hc2⟩,aF h]
   ·rw[aF h2,aF (show ¬∃c∈b::s,c.y0<=y/\y<c.y1 from ?_)];rintro⟨c,hc,hc2⟩
    rcases dM.1 hc with rfl|hc
    ·exact h hc2
    ·exact h2 ⟨c,hc,hc2⟩
theorem fM.nE{b:Bd}{s:List Bd}{y:Int}(h0:b.y0<=y)(h1:y<b.y1):rowAt (b::s) y=b.xs:=by unfold rowAt;rw[aC ⟨h0,h1⟩]
theorem fM.B9{b:Bd}{s:List Bd}(h:fM (b::s)):∀c∈s,b.y1<=c.y0:=λc hc=>((oJ.1 h.ord).1 c hc).1
theorem fM.wR{b:Bd}{s:List Bd}(h:fM (b::s)){y:Int}(hy:y<b.y0):rowAt (b::s) y= []:=mo λc hc=>by
 rcases dM.1 hc with rfl|hc
 ·exact .inl hy
 ·have:=h.B9 c hc;have:=(h.each b (by simp)).1;exact .inl (by omega)
theorem fM.H0{b:Bd}{s:List Bd}(h:fM (b::s)):rowAt (b::s) b.y1≠b.xs:=by
 rw[nD,aF (by omega)]
 cases s with
 |nil=>exact λe=>(h.each b (by simp)).2.1 e.symm
 |cons c s=>
  have h1:=(oJ.1 h.ord).1 c (by simp)
  by_cases e:b.y1=c.y0
  ·rw[fM.nE (by omega) (by have:=(h.tail.each c (by simp)).1;omega)];exact λh=>h1.2 e h.symm
  ·rw[h.tail.wR (by have:=h1.1;omega)];exact λe=>(h.each b (by simp)).2.1 e.symm
theorem Ca:∀{s t:List Bd},fM s->fM t->(∀y,rowAt s y=rowAt t y)->s=t
 | [],[],_,_,_=>rfl
 | [],c::t,_,ht,h=>by
  have hc:=ht.each c (by simp);have:=h c.y0;rw[fM.nE (Int.le_refl _) hc.1]at this;exact absurd this.symm hc.2.1
 |b::s,[],hs,_,h=>by
  have hb:=hs.each b (by simp);have:=h b.y0;rw[fM.nE (Int.le_refl _) hb.1]at this;exact absurd this hb.2.1
 |b::s,c::t,hs,ht,h=>by
  have hb:=hs.each b (by simp);have hc:=ht.each c (by simp);have e0:b.y0=c.y0:=by
   rcases Int.lt_trichotomy b.y0 c.y0 with h1|h1|h1
   ·have h2:=h b.y0;rw[fM.nE (Int.le_refl _) hb.1,ht.wR h1]at h2;exact absurd h2 hb.2.1
   ·exact h1
   ·have h2:=h c.y0;rw[fM.nE (Int.le_refl _) hc.1,hs.wR h1]at h2;exact absurd h2.symm hc.2.1
  have ex:b.xs=c.xs:=by
   have h2:=h b.y0;rw[fM.nE (Int.le_refl _) hb.1,fM.nE (by omega) (by omega)]at h2;exact h2
  have e1:b.y1=c.y1:=by
   rcases Int.lt_trichotomy b.y1 c.y1 with h1|h1|h1
   ·have h2:=h b.y1;rw[fM.nE (b:=c) (by omega) h1]at h2;exact absurd (h2.trans ex.symm) hs.H0
   ·exact h1
   ·have h2:=h c.y1;rw[fM.nE (b:=b) (by omega) h1]at h2;exact absurd (h2.symm.trans ex) ht.H0
  have ebc:b=c:=by cases b;cases c;simp_all
  subst ebc;rw[Ca hs.tail ht.tail<|λy=>?_]
  by_cases hy:b.y1<=y
  ·have h2:=h y;unfold rowAt at h2;rw[aF (by omega),aF (by omega)]at h2;exact h2
  ·rw[mo (λd hd=>by have:=hs.B9 d hd;exact .inl (by omega)),mo (λd hd=>by have:=ht.B9 d hd;exact .inl (by omega))]
def vL(s:List Bd)(x y:Int):Bool:=p7 (rowAt s y) x
theorem DA{s:List Bd}(h:∀b∈s,jW b.xs)(y:Int):jW (rowAt s y):=by
 induction s with
 |nil=>exact j9
 |cons b s ih=>
  unfold rowAt;split
  ·exact h b (by simp)
  ·exact ih λc hc=>h c<|ir _ hc
theorem u5{s t:List Bd}(hs:fM s)(ht:fM t)(h:∀x y,vL s x y=vL t x y):s=t:=
 Ca hs ht λy=>B8 (DA (λb hb=>(hs.each b hb).2.2.1) y) (DA (λb hb=>(ht.each b hb).2.2.1) y) λx=>h x y
def kg(s:List Bd)(b:Bd):List Bd:=
 if b.xs= []\/b.y1<=b.y0 then s else
  match s.getLast? with
  |some c=>if c.y1=b.y0/\c.xs=b.xs then s.dropLast++[⟨c.y0,b.y1,c.xs⟩]else s++[b]
  |none=>[b]
theorem sA{α:Type}{s:List α}{c:α}(h:s.getLast? =some c):s=s.dropLast++[c]:=by
 have hne:s≠[]:=λe=>by rw[e]at h;cases h
 rw[List.getLast?_eq_some_getLast hne]at h;injection h with h
 rw[<-h];exact(List.dropLast_concat_getLast hne).symm
theorem wS{s:List Bd}{b:Bd}(hs:∀c∈s,c.y1<=b.y0)(hg:∀c∈s,c.y0<c.y1)(hb:b.y1<=b.y0->b.y1=b.y0)(y:Int):rowAt (kg s b) y=if b.y0<=y/\y<b.y1 then b.xs else rowAt s y:=by
 have key:∀(s:List Bd)(c:Bd),(∀d∈s,d.y1<=c.y0)->rowAt (s++[c]) y=if c.y0<=y/\y<c.y1 then c.xs else rowAt s y:=by
  intro s c h;rw[rB]
  by_cases h1:c.y0<=y/\y<c.y1
  ·rw[aC h1,aF (by rintro⟨d,hd,hd2⟩;have:=h d hd;omega),fM.nE h1.1 h1.2]
  ·rw[aF h1]
   by_cases h2:∃d∈s,d.y0<=y/\y<d.y1
   ·rw[aC h2]
   ·rw[aF h2,nD,aF h1];refine(show rowAt [] y=_ from(mo (s:=s) λd hd=>?_).symm)
    by_cases h3:d.y0<=y
    ·exact .inr (by have:¬(d.y0<=y/\y<d.y1):=λh4=>h2 ⟨d,hd,h4⟩;omega)
    ·exact .inl (by omega)
 unfold kg
 by_cases h0:b.xs= []\/b.y1<=b.y0
 ·rw[aC h0]
  by_cases h1:b.y0<=y/\y<b.y1
  ·rw[aC h1]
   rcases h0 with h0|h0
   ·rw[h0];exact mo λc hc=> .inr (by have:=hs c hc;omega)
   ·omega
  ·rw[aF h1]
 ·rw[aF h0]
  cases hl:s.getLast? with
  |none=>
   have:s= []:=by simpa using hl
   subst this;rfl
  |some c=>
   dsimp only;have hsp:=sA hl;have hcm:c∈s:=by rw[hsp];simp
   by_cases h1:c.y1=b.y0/\c.xs=b.xs
   ·rw[aC h1];have hd:∀d∈s.dropLast,d.y1<=c.y0\/True:=λ_ _=> .inr trivial;rw[rB];have hrow:rowAt s y=if(∃d∈s.dropLast,d.y0<=y/\y<d.y1)then rowAt s.dropLast y else(if c.y0<=y/\y<c.y1 then c.xs else []):=by
     conv=>lhs;rw[hsp]
     rw[rB];rfl
    rw[hrow];have hcg:=hg c hcm
    by_cases h2:∃d∈s.dropLast,d.y0<=y/\y<d.y1
    ·obtain⟨d,hd,hd2⟩:=h2;have:=hs d<|List.dropLast_subset _ hd
     have he:∃d∈s.dropLast,d.y0<=y/\y<d.y1:=⟨d,hd,hd2⟩;rw[aC he,aC he,aF (by omega)]
    ·rw[aF h2,aF h2];show(if c.y0<=y/\y<b.y1 then c.xs else [])=_
     by_cases h3:b.y0<=y/\y<b.y1
     ·rw[aC h3,aC ⟨by omega,h3.2⟩,h1.2]
     ·rw[aF h3]
      by_cases h4:c.y0<=y/\y<c.y1
      ·rw[aC h4,aC ⟨h4.1,by omega⟩]
      ·rw[aF h4,aF (by omega)]
   ·rw[aF h1];exact key s b hs
theorem wT{s:List Bd}{b:Bd}(h:fM s)(hs:∀c∈s,c.y1<=b.y0)(hb:jW b.xs)(he:b.xs.length % 2=0):fM (kg s b):=by
 unfold kg
 by_cases h0:b.xs= []\/b.y1<=b.y0
 ·rw[aC h0];exact h
 ·rw[aF h0];have hbg:b.y0<b.y1/\b.xs≠[]/\jW b.xs/\b.xs.length % 2=0:=⟨by omega,λe=>h0<|.inl e,hb,he⟩
  cases hl:s.getLast? with
  |none=>exact⟨λc hc=>by simp at hc;subst hc;exact hbg,List.pairwise_singleton _ _⟩
  |some c=>
   dsimp only;have hsp:=sA hl;have hcm:c∈s:=by rw[hsp];simp
   have hc:=h.each c hcm;have hord:=h.ord;rw[hsp,nM]at hord
   by_cases h1:c.y1=b.y0/\c.xs=b.xs
   ·rw[aC h1];refine⟨λd hd=>?_,?_⟩
    ·rcases dI.1 hd with hd|hd
     ·exact h.each d<|List.dropLast_subset _ hd
     ·simp at hd;subst hd;exact⟨by show c.y0<b.y1;omega,hc.2⟩
    ·rw[nM];refine⟨hord.1,List.pairwise_singleton _ _,λd hd e he=>?_⟩;simp at he;subst he;exact hord.2.2 d hd c (by simp)
   ·rw[aF h1];refine⟨λd hd=>?_,?_⟩
    ·rcases dI.1 hd with hd|hd
     ·exact h.each d hd
     ·simp at hd;subst hd;exact hbg
    ·rw[nM];refine⟨h.ord,List.pairwise_singleton _ _,λd hd e he=>?_⟩;simp at he;subst he;refine⟨hs d hd,λe1 e2=>?_⟩;rw[hsp]at hd
     rcases dI.1 hd with hd|hd
     ·have h2:=(hord.2.2 d hd c (by simp)).1;have:=hs c hcm;omega
     ·simp at hd;subst hd;exact h1 ⟨e1,e2⟩
theorem wU{s:List Bd}{b:Bd}(hs:∀c∈s,c.y1<=b.y0)(hb:b.y0<=b.y1):∀c∈kg s b,c.y1<=b.y1:=by
 intro c hc;unfold kg at hc;split at hc
 ·have:=hs c hc;omega
 ·split at hc
  ·split at hc
   ·rcases dI.1 hc with hc|hc
    ·have:=hs c<|List.dropLast_subset _ hc;omega
    ·simp at hc;subst hc;exact Int.le_refl _
   ·rcases dI.1 hc with hc|hc
    ·have:=hs c hc;omega
    ·simp at hc;subst hc;exact Int.le_refl _
  ·simp at hc;subst hc;exact Int.le_refl _
section
variable {N:Nat}
def cH(b:aA):Bd:=⟨b.Y0,b.Y1,b.Xs⟩
def small(a:Int):Prop:= -1099511627776<=a/\a<=1099511627776
structure CY (r:aH):Prop where
 x:r.X0<r.X1
 y:r.Y0<r.Y1
 s1:small r.X0
 s2:small r.X1
 s3:small r.Y0
 s4:small r.Y1
def G6(l:List aH)(x:Int):Bool:=l.any<|λr=>decide (r.X0<=x)&&decide (x<r.X1)
def ue(l:List aH)(x y:Int):Bool:=l.any<|λr=>(decide (r.X0<=x)&&decide (x<r.X1))&&(decide (r.Y0<=y)&&decide (y<r.Y1))
theorem Cb{l:List aH}{x:Int}:G6 l x=true↔∃r∈l,r.X0<=x/\x<r.X1:=by unfold G6;simp[kR]
theorem jy{l:List aH}{x y:Int}:ue l x y=true↔∃r∈l,(r.X0<=x/\x<r.X1)/\r.Y0<=y/\y<r.Y1:=by unfold ue;simp[kR]
theorem wrap_small{a b:Int}(ha:small a)(hb:small b):wrap .i64 (a - b)=a - b:=by unfold small at *;exact fJ (by omega) (by omega)
theorem Cc{n:Nat}(h:0<n)(hn:n<=4611686018427387904):wrap .i64 (((n:Nat):Int) - 1)=((n - 1:Nat):Int):=iH h hn
structure P9 (out:List Int) (m:List aH) (k:Nat):Prop where
 row:(k=0/\out= [])\/∃A s e,out=A++[s,e]/\jW A/\(∀c∈A,c<s)/\A.length % 2=0/\s<e/\∃j r,j<k/\m[j]? =some r/\s=r.X0
 p7:∀x,p7 out x=G6 (m.take k) x
 len:out.length<=2*k
 mem:∀c∈out,∃r∈m,c=r.X0\/c=r.X1
theorem z8(l:List aH)(r:aH)(x:Int):G6 (l++[r]) x=(G6 l x||(decide (r.X0<=x)&&decide (x<r.X1))):=by unfold G6;rw[List.any_append];simp
theorem Eh{l:List aH}(hl:l.length<=268435456)(hok:∀r∈l,CY r):∃row l',kj N l=some (row,l')/\l'.Perm l/\jW row/\row.length % 2=0/\(∀x,p7 row x=G6 l x)/\row.length<=2*l.length/\∀c∈row,∃r∈l,c=r.X0\/c=r.X1:=by
 unfold kj
 obtain⟨m,h1,h2,h3⟩:=B5 (φ:=iR N) (l:=l) (λa b=>a.X0 - b.X0) (λa ha b hb=>by
  unfold iR;rw[wrap_small (hok a ha).s1 (hok b hb).s1]) (λa _=>by omega) (λa _ b _ c _ h1 h2=>by omega) (λa _ b _ c _ h1 h2=>by omega) (by omega)
 have hml:m.length=l.length:=h2.length_eq;have hmok:∀r∈m,CY r:=λr hr=>hok r<|h2.subset hr
 rw[h1,aB];obtain⟨out,a1,a2⟩:=Bl (m:=m.length) (s:=([]:List Int)) (body:=λ(k32:Nat)(s33:List Int)=>((idx m (k32:Int)).bind λx79=>(bif decide (wrap .i64 ((s33.length:Int) - 1)>=0)then((idx s33<|wrap .i64<|(s33.length:Int) - 1).bind λx86=>some<|decide<|x79.X0<=x86)else some false).bind λs84=>(bif s84 then((idx s33<|wrap .i64<|(s33.length:Int) - 1).bind λx94=>(idx s33<|wrap .i64<|(s33.length:Int) - 1).bind λx95=>some<|s33.set (Int.toNat<|wrap .i64<|(s33.length:Int) - 1) (if x94<x79.X1 then x79.X1 else x94))else((app 8 s33 ([x79.X0,x79.X1]:List Int)).bind λx97=>some x97)).bind λs92=>some s92:Option (List Int)))
  (λk out=>P9 out m k) (by omega) ⟨.inl ⟨rfl,rfl⟩,λx=>rfl,by simp,λc hc=>by cases hc⟩ (λk out hk⟨i1,i2,i3,i4⟩=>by
   have hx:m[k]? =some m[k]:=aQ hk;have hr:=hmok _<|cC hk
   rw[dC hx,aB];have hts:m.take (k+1)=m.take k++[m[k]]:=eD hk
   rcases i1 with⟨rfl,rfl⟩|⟨A,s,e,rfl,hA,hAs,hAe,hse,j,r,hj,hjr,hsr⟩
   ·rw[show decide (wrap .i64 (((([]:List Int).length:Nat):Int) - 1)>=0)=false by decide,aM,aB,aM,j6 (by simp),aB,aB];refine⟨_,rfl, .inr ⟨[],_,_,rfl,j9,λc hc=>by simp at hc,rfl,hr.x,0,m[0],by omega,hx,rfl⟩,λx=>?_,by simp,λc hc=>⟨m[0],cC hk,by simpa using hc⟩⟩;rw[hts,z8,<-i2 x];exact zj (l:=[]) (λc hc=>by simp at hc) rfl hr.x x
   ·have hlen:(A++[s,e]).length=A.length+2:=by simp
    have hwp:wrap .i64 ((((A++[s,e]).length:Nat):Int) - 1)=((A.length+1:Nat):Int):=by rw[Cc (by omega) (by omega),hlen];rfl
    have hlast:(A++[s,e])[A.length+1]? =some e:=by rw[g9 (by omega)];simp
    have hs:s<=m[k].X0:=by
     have:=mi.1 h3 j k (by have:=(aZ.1 hjr).1;omega) hk hj;rw[hsr,<-(aZ.1 hjr).2];omega
    rw[hwp,bJ (by omega),aK,dC hlast,aB,aB]
    by_cases hc:m[k].X0<=e
    ·rw[bJ hc,aK,aB,aB,aB,cB];have nN:(A++[s,e]).set (A.length+1) (if e<m[k].X1 then m[k].X1 else e)=A++[s,max e m[k].X1]:=by
      rw[List.set_append_right _ _ (by omega)];have:A.length+1 - A.length=1:=by omega
      rw[this,Int.max_def];simp only[List.set_cons_succ,List.set_cons_zero];congr 2;split <;> split <;> simp <;> omega
     rw[nN]
     refine⟨_,rfl, .inr ⟨A,s,_,rfl,hA,hAs,hAe,by omega,j,r,by omega,hjr,hsr⟩,λx=>?_,by simp at i3 ⊢;omega,λc hc=>by
      rcases dI.1 hc with h|h
      ·exact i4 c<|List.mem_append_left _ h
      ·simp at h
       rcases h with h|h
       ·exact i4 c (by simp[h])
       ·rw[Int.max_def]at h;split at h
        ·exact⟨_,cC hk, .inr h⟩
        ·exact i4 c (by simp[h])⟩
     rw[hts,z8,<-i2 x];exact J0 hAs hAe hse hs hc hr.x x
    ·rw[bQ hc,aM,j6 (by rw[hlen];simp;omega),aB,aB];have hall:∀c∈A++[s,e],c<m[k].X0:=λc hc'=>by
      rcases dI.1 hc' with h|h
      ·have:=hAs c h;omega
      ·simp at h;omega
     refine⟨_,rfl, .inr ⟨A++[s,e],_,_,rfl,hA.snoc hAs hse,hall,by rw[hlen];omega,hr.x,k,m[k],by omega,hx,rfl⟩,λx=>?_,by simp at i3 ⊢;omega,λc hc=>by
      rcases dI.1 hc with h|h
      ·exact i4 c h
      ·exact⟨m[k],cC hk,by simpa using h⟩⟩
     rw[hts,z8,<-i2 x]
     exact zj hall (by rw[hlen];omega) hr.x x)
 rw[a1,aB];refine⟨out,m,rfl,h2,?_,?_,λx=>?_,by rw[<-hml];exact a2.len,λc hc=>by obtain⟨r,hr,h⟩:=a2.mem c hc;exact⟨r,h2.subset hr,h⟩⟩
 ·rcases a2.row with⟨_,h⟩|⟨A,s,e,rfl,hA,hAs,hAe,hse,_⟩
  ·rw[h];exact j9
  ·exact hA.snoc hAs hse
 ·rcases a2.row with⟨_,h⟩|⟨A,s,e,rfl,hA,hAs,hAe,hse,_⟩
  ·rw[h];rfl
  ·simp;omega
 ·rw[a2.p7 x,eM,eT,Cb,Cb];constructor
  ·rintro⟨r,hr,h⟩;exact⟨r,h2.subset hr,h⟩
  ·rintro⟨r,hr,h⟩;exact⟨r,h2.symm.subset hr,h⟩
theorem IQ{l m:List Int}(hl:l.length<=4611686018427387904):nQ N l m=some (decide<|l=m):=zZ hl
theorem H2{s:List aA}{b:aA}(hs:s.length<=1048576000)(hx:∀c∈s,c.Xs.length<=1048576000):∃s',jZ N s b=some s'/\s'.map cH=kg (s.map cH) (cH b):=by
 unfold jZ kg
 by_cases h0:b.Xs= []\/b.Y1<=b.Y0
 ·have e:((((b.Xs.length:Nat):Int)==0)||decide (b.Y1<=b.Y0))=true:=by
   rw[dS]
   rcases h0 with h|h
   ·left;rw[h];rfl
   ·right;exact bJ h
  rw[e,aK,aC (show(cH b).xs= []\/(cH b).y1<=(cH b).y0 from h0)];exact⟨s,rfl,rfl⟩
 ·have e:((((b.Xs.length:Nat):Int)==0)||decide (b.Y1<=b.Y0))=false:=by
   rw[Bool.or_eq_false_iff];constructor
   ·rw[beq_eq_false_iff_ne];intro h;exact h0<|.inl<|List.eq_nil_of_length_eq_zero (by omega)
   ·exact bQ λh=>h0<|.inr h
  rw[e,aM,aF (show ¬((cH b).xs= []\/(cH b).y1<=(cH b).y0)from h0)]
  rcases List.eq_nil_or_concat s with rfl|⟨A,c,hA⟩
  ·rw[show decide (wrap .i64 (((([]:List aA).length:Nat):Int) - 1)>=0)=false by decide,aM,aB,aM,j6 (by simp),aB];exact⟨_,rfl,rfl⟩
  ·rw[List.concat_eq_append]at hA;subst hA;have hlen:(A++[c]).length=A.length+1:=by simp
   have hwp:wrap .i64 ((((A++[c]).length:Nat):Int) - 1)=((A.length:Nat):Int):=by rw[Cc (by omega) (by omega),hlen];rfl
   have hlast:(A++[c])[A.length]? =some c:=by simp
   rw[hwp,bJ (by omega),aK,dC hlast,aB,aB,IQ (by have:=hx c (by simp);omega),aB,aB,cB,j6 (by rw[hlen];simp;omega),aB];have hl2:((A++[c]).map cH).getLast? =some (cH c):=by simp
   have hd2:((A++[c]).map cH).dropLast=A.map cH:=by simp
   rw[hl2,hd2];dsimp only
   by_cases h1:c.Y1=b.Y0/\c.Xs=b.Xs
   ·rw[aC (show(cH c).y1=(cH b).y0/\(cH c).xs=(cH b).xs from h1),show(c.Y1==b.Y0)=true by rw[h1.1];simp,aK,bJ h1.2,aB,aK];refine⟨_,rfl,?_⟩;rw[List.set_append_right _ _<|bV _,Nat.sub_self];simp[cH]
   ·rw[aF (show ¬((cH c).y1=(cH b).y0/\(cH c).xs=(cH b).xs)from h1)];have e2:(bif c.Y1==b.Y0 then some (decide<|c.Xs=b.Xs)else some false)=some false:=by
     by_cases h2:c.Y1=b.Y0
     ·rw[show(c.Y1==b.Y0)=true by rw[h2];simp,aK,bQ<|λh=>h1 ⟨h2,h⟩]
     ·rw[show(c.Y1==b.Y0)=false by simpa using h2,aM]
    rw[e2,aB,aM];exact⟨_,rfl,by simp⟩
end
def dT(l:List (Int×Int)):List Int:=l.flatMap λs=>[s.1,s.2]
def jP(l:List (Int×Int))(x:Int):Bool:=l.any λs=>decide (s.1<=x)&&decide (x<s.2)
theorem jQ(s:Int×Int)(l:List (Int×Int)):dT (s::l)=s.1::s.2::dT l:=rfl
theorem u6(l m:List (Int×Int)):dT (l++m)=dT l++dT m:=List.flatMap_append
theorem kC(l:List (Int×Int)):(dT l).length=2*l.length:=by
 induction l with
 |nil=>rfl
 |cons s l ih=>rw[jQ,cS,cS,cS,ih];omega
theorem DB(s:Int×Int)(l:List (Int×Int))(x:Int):jP (s::l) x=((decide (s.1<=x)&&decide (x<s.2))||jP l x):=rfl
theorem AF(l m:List (Int×Int))(x:Int):jP (l++m) x=(jP l x||jP m x):=List.any_append
theorem ug{l:List (Int×Int)}{x:Int}:jP l x=true↔∃s∈l,s.1<=x/\x<s.2:=by
 unfold jP;simp
theorem IU{a b:Int}{m:List Int}(h:jW (a::b::m))(x:Int):p7 (a::b::m) x=((decide (a<=x)&&decide (x<b))||p7 m x):=by
 have hab:a<b:=h.head b (by simp);have hm:=h.tail.head;rw[eT,dS,bY,bP,bP,zg,zg,qL,qL]
 by_cases h1:a<=x
 ·rw[aC h1]
  by_cases h2:b<=x
  ·rw[aC h2];omega
  ·rw[aF h2,B7 (λc hc=>by have:=hm c hc;omega)];omega
 ·rw[aF h1,aF (by omega)];omega
theorem uh:∀{l:List (Int×Int)},jW (dT l)->∀x,p7 (dT l) x=jP l x
 | [],_,x=>rfl
 |s::l,h,x=>by
  rw[jQ]at h ⊢;rw[IU h,DB,uh h.tail.tail]
theorem DC:∀{l m:List (Int×Int)},dT l=dT m->l=m
 | [],[],_=>rfl
 | [],s::m,h=>by cases h
 |s::l,[],h=>by cases h
 |(a,b)::l,(c,d)::m,h=>by
  rw[jQ,jQ]at h;injection h with h1 h2
  injection h2 with h2 h3
  simp only at h1 h2;rw[h1,h2,DC h3]
theorem z9{l:List (Int×Int)}{c:Int}(h:c∈dT l):∃s∈l,c=s.1\/c=s.2:=by
 obtain⟨s,hs,hc⟩:=List.mem_flatMap.1 h;exact⟨s,hs,by simpa using hc⟩
theorem wt{l:List (Int×Int)}(h:jW (dT l)):∀s∈l,s.1<s.2:=by
 induction l with
 |nil=>intro s hs;cases hs
 |cons a l ih=>
  rw[jQ]at h;intro s hs
  rcases dM.1 hs with rfl|hs
  ·exact h.head _ (by simp)
  ·exact ih h.tail.tail s hs
theorem ui{l m:List (Int×Int)}:jW (dT<|l++m)↔jW (dT l)/\jW (dT m)/\∀s∈l,∀t∈m,s.2<t.1:=by
 rw[u6];unfold jW;rw[nM];constructor
 ·rintro⟨h1,h2,h3⟩;exact⟨h1,h2,λs hs t ht=>h3 s.2 (List.mem_flatMap.2 ⟨s,hs,by simp⟩) t.1<|List.mem_flatMap.2 ⟨t,ht,by simp⟩⟩
 ·rintro⟨h1,h2,h3⟩;refine⟨h1,h2,λa ha b hb=>?_⟩;obtain⟨s,hs,ha⟩:=z9 ha;obtain⟨t,ht,hb⟩:=z9 hb;have h4:=h3 s hs t ht;have h5:=wt (l:=l) h1 s hs;have h6:=wt (l:=m) h2 t ht
  rcases ha with rfl|rfl <;> rcases hb with rfl|rfl <;> omega
def kX(s:Int×Int):List (Int×Int)->(Int×Int)×List (Int×Int)
 | []=>(s,[])
 |a::l=>if a.1<=s.2 then kX (min s.1 a.1,max s.2 a.2) l else(s,a::l)
def mq(l:List (Int×Int))(s:Int×Int):List (Int×Int):=
 l.takeWhile (λa=>decide<|a.2<s.1)++(kX s<|l.dropWhile λa=>decide<|a.2<s.1).1::(kX s<|l.dropWhile λa=>decide<|a.2<s.1).2
theorem AG:∀(l:List (Int×Int))(s:Int×Int),s.1<s.2->jW (dT l)->(∀a∈l,s.1<=a.2)->
  (kX s l).1.1<(kX s l).1.2/\((kX s l).1.1=s.1\/∃a∈l,(kX s l).1.1=a.1)/\jW (dT (kX s l).2)/\(∀t∈(kX s l).2,(kX s l).1.2<t.1)/\
  ∀x,jP ((kX s l).1::(kX s l).2) x=((decide (s.1<=x)&&decide (x<s.2))||jP l x)
 | [],s,h,_,_=>⟨h, .inl rfl,j9,λt(ht:t∈([]:List (Int×Int)))=>(by cases ht),λx=>rfl⟩
 |a::l,s,h,hi,hs=>by
  have hsp:=wt hi;have ha:=hsp a (by simp);have hi':=hi;rw[jQ]at hi';have hsa:=hs a (by simp);unfold kX
  by_cases hc:a.1<=s.2
  ·rw[aC hc];have hlt:(min s.1 a.1,max s.2 a.2).1<(min s.1 a.1,max s.2 a.2).2:=by dsimp only;omega
   obtain⟨h1,h2,h3,h4,h5⟩:=AG l (min s.1 a.1,max s.2 a.2) hlt hi'.tail.tail (λb hb=>by
    have:=(ui (l:=[a]) (m:=l)).1 hi;have h6:=this.2.2 a (by simp) b hb;have h7:=hsp b<|ir _ hb
    dsimp only;omega)
   refine⟨h1,?_,h3,h4,λx=>?_⟩
   ·rcases h2 with h2|⟨b,hb,h2⟩
    ·rw[h2]
     rcases Int.le_total s.1 a.1 with h6|h6
     ·exact .inl (by simp only;omega)
     ·exact .inr ⟨a,by simp,by simp only;omega⟩
    ·exact .inr ⟨b,ir _ hb,h2⟩
   ·rw[h5,DB,<-Bool.or_assoc];congr 1;clear h1 h2 h3 h4 h5;rw[eT];simp only[dS,bY,bP];constructor
    ·intro h6
     by_cases h7:s.1<=x/\x<s.2
     ·exact .inl h7
     ·exact .inr (by omega)
    ·rintro(h6|h6) <;> omega
  ·rw[aF hc];refine⟨h, .inl rfl,hi,λt ht=>?_,λx=>rfl⟩;show s.2<t.1
   rcases dM.1 ht with rfl|ht
   ·omega
   ·have:=((ui (l:=[a]) (m:=l)).1 hi).2.2 a (by simp) t ht;omega
theorem Ei{l:List (Int×Int)}{c:Int}(h:jW (dT l)):∀a∈l.dropWhile (λa=>decide<|a.2<c),c<=a.2:=by
 induction l with
 |nil=>intro a ha;cases ha
 |cons b l ih=>
  have h':=h;rw[jQ]at h';rw[List.dropWhile_cons]
  by_cases hb:b.2<c
  ·rw[aC (by simpa using hb)];exact ih h'.tail.tail
  ·rw[aF (by simpa using hb)];intro a ha
   rcases dM.1 ha with rfl|ha
   ·omega
   ·have h1:=((ui (l:=[b]) (m:=l)).1 h).2.2 b (by simp) a ha;have h2:=wt h a<|ir _ ha
    omega
theorem Ej(l:List (Int×Int))(c:Int):∀a∈l.takeWhile (λa=>decide<|a.2<c),a.2<c:=by
 induction l with
 |nil=>intro a ha;cases ha
 |cons b l ih=>
  rw[List.takeWhile_cons]
  by_cases hb:b.2<c
  ·rw[aC (by simpa using hb)];intro a ha
   rcases dM.1 ha with rfl|ha
   ·exact hb
   ·exact ih a ha
  ·rw[aF (by simpa using hb)];intro a ha;cases ha
theorem zk{l:List (Int×Int)}{s:Int×Int}(h:jW (dT l))(hs:s.1<s.2):
  jW (dT<|mq l s)/\∀x,jP (mq l s) x=((decide (s.1<=x)&&decide (x<s.2))||jP l x):=by
 have hsplit:=h;rw[<-List.takeWhile_append_dropWhile (p:=λa:Int×Int=>decide<|a.2<s.1) (l:=l),ui]at hsplit;obtain⟨h1,h2,h3⟩:=hsplit;obtain⟨m1,m2,m3,m4,m5⟩:=AG (l.dropWhile λa=>decide<|a.2<s.1) s hs h2<|Ei h
 unfold mq;refine⟨ui.2 ⟨h1,?_,λa ha t ht=>?_⟩,λx=>?_⟩
 ·rw[jQ];have h4:∀c∈dT (kX s<|l.dropWhile λa=>decide<|a.2<s.1).2,(kX s<|l.dropWhile λa=>decide<|a.2<s.1).1.2<c:=λc hc=>by
   obtain⟨t,ht,hc⟩:=z9 hc;have:=m4 t ht;have:=wt m3 t ht
   rcases hc with rfl|rfl <;> omega
  exact oJ.2 ⟨λc hc=>by
   rcases dM.1 hc with rfl|hc
   ·exact m1
   ·have:=h4 c hc;omega,oJ.2 ⟨h4,m3⟩⟩
 ·have ha1:=Ej l s.1 a ha
  rcases dM.1 ht with rfl|ht
  ·rcases m2 with m2|⟨b,hb,m2⟩
   ·rw[m2];exact ha1
   ·rw[m2];exact h3 a ha b hb
  ·have h5:=m4 t ht
   rcases m2 with m2|⟨b,hb,m2⟩
   ·rw[m2]at m1;omega
   ·have:=h3 a ha b hb;rw[m2]at m1;omega
 ·rw[AF,m5]
  conv=>rhs;rw[<-List.takeWhile_append_dropWhile (p:=λa:Int×Int=>decide<|a.2<s.1) (l:=l),AF]
  rw[Bool.or_left_comm]
def kO:List Int->List (Int×Int)
 |a::b::l=>(a,b)::kO (b::l)
 |_=>[]
theorem rQ:∀{xs:List Int},jW xs->∀s∈kO xs,s.1∈xs/\s.2∈xs/\s.1<s.2/\∀c∈xs,c<=s.1\/s.2<=c
 | [],_,s,hs=>by cases hs
 | [a],_,s,hs=>by cases hs
 |a::b::l,h,s,hs=>by
  have hab:=h.head b (by simp)
  rcases dM.1 hs with rfl|hs
  ·refine⟨by simp,by simp,hab,λc hc=>?_⟩
   rcases dM.1 hc with rfl|hc
   ·exact .inl<|Int.le_refl _
   ·rcases dM.1 hc with rfl|hc
    ·exact .inr<|Int.le_refl _
    ·exact .inr (by have:=h.tail.head c hc;show b<=c;omega)
  ·obtain⟨h1,h2,h3,h4⟩:=rQ h.tail s hs;refine⟨ir _ h1,ir _ h2,h3,λc hc=>?_⟩
   rcases dM.1 hc with rfl|hc
   ·exact .inl (by have:=h.head s.1 h1;omega)
   ·exact h4 c hc
theorem yj:∀{xs:List Int},jW xs->∀x,(∃s∈kO xs,s.1<=x/\x<s.2)\/(∀c∈xs,x<c)\/(∀c∈xs,c<=x)
 | [],_,x=> .inr (.inl λc hc=>by cases hc)
 | [a],_,x=>by
  by_cases h:x<a
  ·exact .inr (.inl λc hc=>by simp at hc;omega)
  ·exact .inr (.inr λc hc=>by simp at hc;omega)
 |a::b::l,h,x=>by
  have hab:=h.head b (by simp)
  rcases yj h.tail x with⟨s,hs,h1⟩|h1|h1
  ·exact .inl ⟨s,ir _ hs,h1⟩
  ·by_cases h2:x<a
   ·exact .inr (.inl λc hc=>by
     rcases dM.1 hc with rfl|hc
     ·exact h2
     ·exact h1 c hc)
   ·exact .inl ⟨(a,b),by simp[kO],by show a<=x;omega,h1 b (by simp)⟩
  ·exact .inr (.inr λc hc=>by
    rcases dM.1 hc with rfl|hc
    ·have:=h1 b (by simp);omega
    ·exact h1 c hc)
def Ends(a:List (Int×Int))(xs:List Int):Prop:=∀s∈a,s.1∈xs/\s.2∈xs
theorem Bn{a:List (Int×Int)}{xs:List Int}(he:Ends a xs)(hx:jW xs){s:Int×Int}(hs:s∈kO xs){x:Int}(h1:s.1<=x)(h2:x<s.2):jP a x=jP a s.1:=by
 obtain⟨_,_,h3,h4⟩:=rQ hx s hs;rw[eT,ug,ug];constructor
 ·rintro⟨t,ht,h5,h6⟩;have:=h4 _ (he t ht).1;exact⟨t,ht,by omega,by omega⟩
 ·rintro⟨t,ht,h5,h6⟩;have:=h4 _ (he t ht).2;exact⟨t,ht,by omega,by omega⟩
theorem H3{a:List (Int×Int)}{xs:List Int}(he:Ends a xs){x:Int}(h:(∀c∈xs,x<c)\/(∀c∈xs,c<=x)):jP a x=false:=by
 rw[<-jr,ug];rintro⟨t,ht,h5,h6⟩;obtain⟨e1,e2⟩:=he t ht
 rcases h with h|h
 ·have:=h _ e1;omega
 ·have:=h _ e2;omega
def mU(gT:Bool->Bool->Bool)(a b:List (Int×Int))(ss:List (Int×Int))(out:List (Int×Int)):List (Int×Int):=
 ss.foldl (λout s=>if gT (jP a s.1) (jP b s.1)=true then mq out s else out) out
theorem wu(gT:Bool->Bool->Bool)(a b:List (Int×Int)):∀(ss out:List (Int×Int)),jW (dT out)->(∀s∈ss,s.1<s.2)->
  jW (dT<|mU gT a b ss out)/\∀x,jP (mU gT a b ss out) x=(jP out x||ss.any λs=>gT (jP a s.1) (jP b s.1)&&(decide (s.1<=x)&&decide (x<s.2)))
 | [],out,h,_=>⟨h,λx=>by simp[mU]⟩
 |s::ss,out,h,hs=>by
  have h0:=hs s (by simp);unfold mU;rw[List.foldl_cons]
  by_cases hk:gT (jP a s.1) (jP b s.1)=true
  ·rw[aC hk];obtain⟨j1,j2⟩:=zk h h0;obtain⟨m1,m2⟩:=wu gT a b ss (mq out s) j1<|λt ht=>hs t<|ir _ ht
   refine⟨m1,λx=>?_⟩;rw[show jP (List.foldl _ (mq out s) ss) x=_ from m2 x,j2,List.any_cons,hk,Bool.true_and]
   cases jP out x <;> simp
  ·rw[aF hk];obtain⟨m1,m2⟩:=wu gT a b ss out h<|λt ht=>hs t<|ir _ ht
   refine⟨m1,λx=>?_⟩;rw[show jP (List.foldl _ out ss) x=_ from m2 x,List.any_cons,eq_false_of_ne_true hk,Bool.false_and,Bool.false_or]
theorem FN{gT:Bool->Bool->Bool}(hk:gT false false=false){a b:List (Int×Int)}{xs:List Int}(hx:jW xs)(ha:Ends a xs)(hb:Ends b xs):
  jW (dT<|mU gT a b (kO xs) [])/\∀x,jP (mU gT a b (kO xs) []) x=gT (jP a x) (jP b x):=by
 obtain⟨m1,m2⟩:=wu gT a b (kO xs) [] j9<|λs hs=>(rQ hx s hs).2.2.1
 refine⟨m1,λx=>?_⟩;rw[m2,show jP [] x=false from rfl,Bool.false_or]
 rcases yj hx x with⟨s,hs,h1,h2⟩|h
 ·rw[eT,kR];constructor
  ·rintro⟨t,ht,h3⟩;rw[bY,bY,bP,bP]at h3;rw[Bn ha hx ht h3.2.1 h3.2.2,Bn hb hx ht h3.2.1 h3.2.2];exact h3.1
  ·intro h3;rw[Bn ha hx hs h1 h2,Bn hb hx hs h1 h2]at h3;exact⟨s,hs,by rw[h3,bJ h1,bJ h2];rfl⟩
 ·rw[H3 ha h,H3 hb h,hk,<-jr,kR];rintro⟨t,ht,h3⟩;rw[bY,bY,bP,bP]at h3;obtain⟨e1,e2,_⟩:=rQ hx t ht
  rcases h with h|h
  ·have:=h _ e1;omega
  ·have:=h _ e2;omega
def mV(f:Int->List Int)(ss:List (Int×Int))(out:List Bd):List Bd:=ss.foldl (λout s=>kg out ⟨s.1,s.2,f s.1⟩) out
theorem AH(f:Int->List Int)(hf:∀y,jW (f y)/\(f y).length % 2=0):∀(ys:List Int)(out:List Bd),jW ys->fM out->(∀c∈out,∀y∈ys,c.y1<=y)->
  fM (mV f (kO ys) out)/\∀y,rowAt (mV f (kO ys) out) y=match(kO ys).find? (λs=>decide (s.1<=y)&&decide (y<s.2))with|some s=>f s.1|none=>rowAt out y
 | [],out,_,h,_=>⟨h,λy=>rfl⟩
 | [a],out,_,h,_=>⟨h,λy=>rfl⟩
 |a::b::l,out,hi,h,ho=>by
  have hab:=hi.head b (by simp);have ho1:∀c∈out,c.y1<=(⟨a,b,f a⟩:Bd).y0:=λc hc=>ho c hc a (by simp);have hc:=wT (b:=⟨a,b,f a⟩) h ho1 (hf a).1 (hf a).2;have htop:=wU (b:=⟨a,b,f a⟩) ho1 (by show a<=b;omega)
  obtain⟨m1,m2⟩:=AH f hf (b::l) (kg out ⟨a,b,f a⟩) hi.tail hc (λc hc' y hy=>by
   have h1:=htop c hc';have h2:b<=y:=by
    rcases dM.1 hy with rfl|hy
    ·exact Int.le_refl _
    ·have:=hi.tail.head y hy;omega
   have h3:c.y1<=b:=h1
   omega)
  refine⟨m1,λy=>?_⟩;show rowAt (mV f (kO<|b::l)<|kg out ⟨a,b,f a⟩) y=_;rw[m2 y,show kO (a::b::l)=(a,b)::kO (b::l)from rfl,List.find?_cons];have hrow:=wS (s:=out) (b:=⟨a,b,f a⟩) ho1 (λc hc=>(h.each c hc).1) (λh=>absurd h (by show ¬b<=a;omega)) y
  by_cases hy:a<=y/\y<b
  ·have e:(decide (a<=y)&&decide (y<b))=true:=by rw[bJ hy.1,bJ hy.2];rfl
   have hn:(kO<|b::l).find? (λs=>decide (s.1<=y)&&decide (y<s.2))=none:=by
    rw[List.find?_eq_none];intro s hs;have:=(rQ hi.tail s hs).1;have h5:b<=s.1:=by
     rcases dM.1 this with h6|h6
     ·omega
     ·have:=hi.tail.head _ h6;omega
    simp;omega
   rw[hn];show rowAt (kg out ⟨a,b,f a⟩) y=_;rw[hrow,aC hy,e]
  ·have e:(decide (a<=y)&&decide (y<b))=false:=by
    rw[Bool.and_eq_false_iff,decide_eq_false_iff_not,decide_eq_false_iff_not];omega
   rw[e]
   cases(kO<|b::l).find? (λs=>decide (s.1<=y)&&decide (y<s.2))with
   |some s=>rfl
   |none=>
    show rowAt (kg out ⟨a,b,f a⟩) y=rowAt out y;rw[hrow,aF hy]
theorem AJ{f:Int->List Int}(hf:∀y,jW (f y)/\(f y).length % 2=0){ys:List Int}(hy:jW ys)(h1:∀s∈kO ys,∀y,s.1<=y->y<s.2->f y=f s.1)(h2:∀y,((∀c∈ys,y<c)\/(∀c∈ys,c<=y))->f y= []):
  fM (mV f (kO ys) [])/\∀y,rowAt (mV f (kO ys) []) y=f y:=by
 obtain⟨m1,m2⟩:=AH f hf ys [] hy fM.nil (λc hc=>by cases hc);refine⟨m1,λy=>?_⟩;rw[m2 y]
 cases Mk:(kO ys).find? (λs=>decide (s.1<=y)&&decide (y<s.2))with
 |some s=>
  have h3:=List.find?_some Mk;rw[bY,bP,bP]at h3;exact(h1 s (List.mem_of_find?_eq_some Mk) y h3.1 h3.2).symm
 |none=>
  show rowAt [] y=f y
  rcases yj hy y with⟨s,hs,h3,h4⟩|h3
  ·have:=List.find?_eq_none.1 Mk s hs;rw[bJ h3,bJ h4]at this;exact absurd rfl this
  ·rw[h2 y h3];rfl
def Ok{β:Type}(o:Option β)(P:β->Prop):Prop:=∃r,o=some r/\P r
section
variable {α β S R:Type}{P:α->Prop}{Q:β->Prop}
theorem QC{x:β}(h:Q x):Ok (some x) Q:=⟨x,rfl,h⟩
theorem TR{o:Option β}{x:β}(h:o=some x)(hq:Q x):Ok o Q:=⟨x,h,hq⟩
theorem Ok.mono{o:Option α}{P':α->Prop}(h:Ok o P)(k:∀x,P x->P' x):Ok o P':=by obtain⟨x,h1,h2⟩:=h;exact⟨x,h1,k x h2⟩
theorem QJ{o:Option α}{f:α->Option β}(h:Ok o P)(k:∀x,P x->Ok (f x) Q):Ok (o.bind f) Q:=by
 obtain⟨x,h1,h2⟩:=h;rw[h1];exact k x h2
theorem QD{o:Option α}{f:α->Option β}{x:α}(h:o=some x)(k:Ok (f x) Q):Ok (o.bind f) Q:=by rw[h];exact k
theorem Q8{b:Bool}{x y:Option β}(ht:b=true->Ok x Q)(hf:b=false->Ok y Q):Ok (bif b then x else y) Q:=by
 cases b with
 |true=>exact ht rfl
 |false=>exact hf rfl
theorem RD{o:Option β}{x:β}(h:Ok o (λr=>r=x)):o=some x:=by obtain⟨r,h1,h2⟩:=h;rw[h1,h2]
def MJ(Go:S->Prop)(Rt:R->Prop):Fo S R->Prop| .go s=>Go s| .rt r=>Rt r
def KF(Nx Br:S->Prop)(Rt:R->Prop):Fl S R->Prop| .nx s=>Nx s| .br s=>Br s| .rt r=>Rt r
theorem Q4{Nx Br:S->Prop}{Rt:R->Prop}{s:S}(h:Nx s):Ok (some<|Fl.nx s) (KF Nx Br Rt):=⟨_,rfl,h⟩
theorem Q9{Nx Br:S->Prop}{Rt:R->Prop}{s:S}(h:Br s):Ok (some<|Fl.br s) (KF Nx Br Rt):=⟨_,rfl,h⟩
theorem RK{Nx Br:S->Prop}{Rt:R->Prop}{r:R}(h:Rt r):Ok (some (Fl.rt r:Fl S R)) (KF Nx Br Rt):=⟨_,rfl,h⟩
theorem Ra{Go:S->Prop}{Rt:R->Prop}{o:Fo S R}{f:S->Option β}{g:R->Option β}(h:MJ Go Rt o)(hf:∀s,Go s->Ok (f s) Q)(hg:∀r,Rt r->Ok (g r) Q):Ok (o.cs f g) Q:=by
 cases o with
 |go s=>exact hf s h
 |rt r=>exact hg r h
theorem RR{body:Nat->S->Option S}{m:Nat}{s:S}(Inv:Nat->S->Prop)(hm:m<=4611686018427387904)(h0:Inv 0 s)(h:∀k s,k<m->Inv k s->Ok (body k s) (Inv<|k+1)):Ok (my m body s) (Inv m):=
 Bl Inv hm h0 h
theorem SM{body:Nat->S->Option (Fl S R)}{m:Nat}{s:S}(Inv:Nat->S->Prop){Go:S->Prop}{Rt:R->Prop}(hm:m<=4611686018427387904)(h0:Inv 0 s)
  (h:∀k s,k<m->Inv k s->Ok (body k s) (KF (Inv<|k+1) Go Rt)) (hg:∀s,Inv m s->Go s):Ok (uH m body s) (MJ Go Rt):=by
 obtain⟨o,h1,h2⟩:=K0 (R:=R) Inv Go Rt hm h0 (λk s hk hi=>by
  obtain⟨fl,a1,a2⟩:=h k s hk hi
  exact⟨fl,a1,by cases fl <;> exact a2⟩) hg
 exact⟨o,h1,by cases o <;> exact h2⟩
theorem RJ{body:S->Option (Fl S R)}{N:Nat}{s:S}(Inv:S->Prop)(μ:S->Nat){Go:S->Prop}{Rt:R->Prop}
  (h:∀s,Inv s->Ok (body s) (KF (λs'=>Inv s'/\μ s'<μ s) Go Rt)) (hi:Inv s) (hn:μ s<N):Ok (iC body N s) (MJ Go Rt):=by
 obtain⟨o,h1,h2⟩:=y6 (R:=R) Inv μ Go Rt (λs hi=>by
  obtain⟨fl,a1,a2⟩:=h s hi
  exact⟨fl,a1,by cases fl <;> exact a2⟩) N s hi hn
 exact⟨o,h1,by cases o <;> exact h2⟩
theorem Rp{b:Nat}{l ys:List α}{f:List α->Option β}(h:(l.length+ys.length)*b<=140737488355328)(k:Ok (f<|l++ys) Q):Ok ((Go.Gk.app b l ys).bind f) Q:=by rw[j6 h];exact k
theorem RE{l:List α}{i:Nat}{f:α->Option β}(h:i<l.length)(k:Ok (f l[i]) Q):Ok ((Go.Gk.idx l ((i:Nat):Int)).bind f) Q:=by rw[lH l i h];exact k
theorem QU{l:List α}{i:Nat}{x:α}{f:α->Option β}(h:l[i]? =some x)(k:Ok (f x) Q):Ok ((Go.Gk.idx l ((i:Nat):Int)).bind f) Q:=by rw[dC h];exact k
end
theorem FO{n:Nat}(h:n<=4611686018427387904):wrap .i64 ((n:Nat):Int)=((n:Nat):Int):=fJ (by omega) (by omega)
theorem wrap_add{n m:Nat}(h:n+m<=4611686018427387904):wrap .i64 (((n:Nat):Int)+((m:Nat):Int))=((n+m:Nat):Int):=by rw[fJ (by omega) (by omega)];simp
theorem bL{n:Nat}(h:n+1<=4611686018427387904):wrap .i64 (((n:Nat):Int)+1)=((n+1:Nat):Int):=by rw[fJ (by omega) (by omega)];simp
theorem DD{n:Nat}(h:n+2<=4611686018427387904):wrap .i64 (((n:Nat):Int)+2)=((n+2:Nat):Int):=by rw[fJ (by omega) (by omega)];simp
theorem fS{α:Type}[DecidableEq α]:∀{l m:List α},l.Nodup->(∀x∈l,x∈m)->l.length<=m.length
 | [],m,_,_=>dJ _
 |a::l,m,hn,hs=>by
  have ha:a∈m:=hs a (by simp);have hn':=List.nodup_cons.1 hn
  have:=fS (l:=l) (m:=m.erase a) hn'.2 (λx hx=>by
   rw[List.mem_erase_of_ne<|λe=>hn'.1 (by rw[<-e];exact hx)]
   exact hs x (ir _ hx))
  rw[List.length_erase_of_mem ha]at this;have:=List.length_pos_of_mem ha;simp;omega
section
variable {α:Type}{N:Nat}
def Oz(z:α)(N:Nat)(p0:List α)(p1:α->Option Bool):Option (List α):=
 (uU p0 p1).bind λx31=>bif x31==(-1)then some p0 else((iC (λ(s33:List α×Int×Int)=>(bif decide (s33.2.2<(s33.1.length:Int))then((idx s33.1 s33.2.2).bind λx54=>(p1 x54).bind λx58=>(bif(!x58)then((idx s33.1 s33.2.1).bind λx63=>some (s33.1.set (Int.toNat s33.2.1) x54,wrap .i64<|s33.2.1+1))else some (s33.1,s33.2.1)).bind λs61=>some<|.nx (s61.1,s61.2,wrap .i64<|s33.2.2+1))else(some<|.br (s33.1,s33.2.1,s33.2.2)):Option (Fl (List α×Int×Int) Empty))) N (p0,x31,wrap .i64<|x31+1)).bind λo67=>o67.cs (λ(s33:List α×Int×Int)=>(sY s33.1 s33.2.1 (s33.1.length:Int)).bind λx64=>(sY (s33.1.take (Int.toNat s33.2.1)++List.replicate (s33.1.length - Int.toNat s33.2.1) z) 0 s33.2.1).bind λx65=>some x65)<|λr=>r.elim)
theorem J3{z:α}{l:List α}{φ:α->Option Bool}(p:α->Bool)(hφ:∀x∈l,φ x=some (p x))(hl:l.length<=4611686018427387000)(hN:l.length<N):Oz z N l φ=some (l.filter<|λx=> !p x):=by
 unfold Oz;rw[xK p (by omega) hφ,aB]
 rcases wQ l p with⟨h1,h2⟩|⟨k,x,h1,h2,h3,h4⟩
 ·rw[h1];have:l.filter (λx=> !p x)=l:=List.filter_eq_self.2 λa ha=>by rw[h2 a ha];rfl
  rw[this];rfl
 ·rw[h1,show(((k:Nat):Int)== -1)=false by simp,aM];have hk:=(aZ.1 h2).1;have hpre:(l.take k).filter (λx=> !p x)=l.take k:=List.filter_eq_self.2 λa ha=>by
   obtain⟨j,hj⟩:=dN ha;have hjk:j<k:=by have:=(aZ.1 hj).1;rw[cQ]at this;omega
   rw[List.getElem?_take_of_lt hjk]at hj;rw[h4 j a hjk hj];rfl
  have hst:l.take (k+1)=l.take k++[x]:=by
   rw[eD hk];congr 1;have:=(aZ.1 h2).2;rw[this]
  have hk1:wrap .i64 (((k:Nat):Int)+1)=((k+1:Nat):Int):=by rw[fJ (by omega) (by omega)];omega
  rw[hk1];obtain⟨o,a1,a2⟩:=y6 (S:=List α×Int×Int) (R:=Empty) (body:=λ(s33:List α×Int×Int)=>(bif decide (s33.2.2<(s33.1.length:Int))then((idx s33.1 s33.2.2).bind λx54=>(φ x54).bind λx58=>(bif(!x58)then((idx s33.1 s33.2.1).bind λx63=>some (s33.1.set (Int.toNat s33.2.1) x54,wrap .i64<|s33.2.1+1))else some (s33.1,s33.2.1)).bind λs61=>some<|.nx (s61.1,s61.2,wrap .i64<|s33.2.2+1))else(some<|.br (s33.1,s33.2.1,s33.2.2)):Option (Fl (List α×Int×Int) Empty)))
   (λs=>∃i j:Nat,s.2.1=((i:Nat):Int)/\s.2.2=((j:Nat):Int)/\i<j/\j<=l.length/\s.1.length=l.length/\s.1.take i=(l.take j).filter (λx=> !p x)/\∀m,j<=m->s.1[m]? =l[m]?)
   (λs=>l.length - s.2.2.toNat) (λs=>∃i:Nat,s.2.1=((i:Nat):Int)/\i<=l.length/\s.1.length=l.length/\s.1.take i=l.filter (λx=> !p x)) (λ_=>True) (λs⟨i,j,e1,e2,hij,hj,hlen,ht,hd⟩=>by
    obtain⟨s,a,b⟩:=s;dsimp only at e1 e2 hlen ht hd ⊢;subst e1;subst e2
    by_cases hlt:j<l.length
    ·rw[bJ (by rw[hlen];omega),aK];have hx:s[j]? =some l[j]:=by rw[hd j<|bV _];exact aQ hlt
     have w1:wrap .i64 (((j:Nat):Int)+1)=((j+1:Nat):Int):=by rw[fJ (by omega) (by omega)];omega
     have w2:wrap .i64 (((i:Nat):Int)+1)=((i+1:Nat):Int):=by rw[fJ (by omega) (by omega)];omega
     have hs2:l.take (j+1)=l.take j++[l[j]]:=eD hlt;rw[dC hx,aB,hφ _<|cC hlt,aB,w1]
     cases hp:p l[j]with
     |true=>
      refine⟨.nx (s,((i:Nat):Int),((j+1:Nat):Int)),by rw[kQ,aM,aB],⟨i,j+1,rfl,rfl,by omega,by omega,hlen,?_,λm hm=>hd m (by omega)⟩,?_⟩
      ·rw[hs2,jq,ht];simp[hp]
      ·simp only[cB];omega
     |false=>
      refine⟨.nx (s.set i l[j],((i+1:Nat):Int),((j+1:Nat):Int)),by rw[oK,aK,lH _ _ (by omega),aB,cB,w2,aB],⟨i+1,j+1,rfl,rfl,by omega,by omega,by simp[hlen],?_,λm hm=>?_⟩,?_⟩
      ·rw[hs2,jq,<-ht];have:(s.set i l[j]).take (i+1)=s.take i++[l[j]]:=by
        rw[eD (by simp;omega),List.take_set_of_le<|bV _];simp
       rw[this];simp[hp]
      ·rw[fE,aF (by omega)];exact hd m (by omega)
      ·simp only[cB];omega
    ·rw[bQ (by rw[hlen];omega),aM];have hje:j=l.length:=by omega
     subst hje;rw[eM]at ht
     exact⟨.br (s,((i:Nat):Int),((l.length:Nat):Int)),rfl,i,rfl,by omega,hlen,ht⟩)
   N (l,((k:Nat):Int),((k+1:Nat):Int)) ⟨k,k+1,rfl,rfl,by omega,by omega,rfl,by rw[hst,jq,hpre];simp[h3],λ_ _=>rfl⟩ (by simp only[cB];omega)
  rw[a1,aB]
  cases o with
  |rt r=>exact r.elim
  |go s=>
   obtain⟨i,e1,hi,hlen,ht⟩:=a2;obtain⟨s,a,b⟩:=s;dsimp only at e1 hlen ht;subst e1;simp only[Fo.cs];rw[pL _ _ (by omega),aB,cB,r6 _ _ (by simp;omega),aB,List.take_append_of_le_length (by simp;omega),List.take_take,Nat.min_self,ht]
end
section
variable {κ ν:Type}[DecidableEq κ]
theorem uj(m:List (κ×ν))(k k':κ)(x z:ν):eX (om m k x) k' z=if k'=k then x else eX m k' z:=by
 induction m with
 |nil=>unfold om eX;by_cases h:k'=k <;> simp[h]
 |cons p m ih=>
  unfold om
  by_cases h:k=p.1
  ·rw[aC h]
   by_cases h':k'=k
   ·subst h';simp[eX]
   ·simp only[eX,List.find?_cons,aF h',bQ h'];rw[bQ<|λe=>h'<|e.trans h.symm]
  ·rw[aF h]
   by_cases h':k'=p.1
   ·have:k'≠k:=λe=>h<|e.symm.trans h'
    simp only[eX,List.find?_cons,bJ h',aF this]
   ·unfold eX at ih ⊢;simp only[List.find?_cons,bQ h'];exact ih
theorem Aa(m:List (κ×ν))(k k':κ)(x:ν):gZ (om m k x) k'=(decide (k'=k)||gZ m k'):=by
 induction m with
 |nil=>unfold om gZ;simp
 |cons p m ih=>
  unfold om
  by_cases h:k=p.1
  ·rw[aC h]
   by_cases h':k'=k
   ·simp[gZ,h']
   ·simp only[gZ,List.any_cons,bQ h',Bool.false_or];rw[bQ<|λe=>h'<|e.trans h.symm,Bool.false_or]
  ·rw[aF h];unfold gZ at ih ⊢;simp only[List.any_cons];rw[ih]
   cases decide (k'=p.1) <;> cases decide (k'=k) <;> simp
end
section
variable {N:Nat}
theorem Cd(l:List Int)(a b:Nat)(h:a+b<l.length):GO l ((a:Nat):Int) ((b:Nat):Int)=some l[a+b]:=by
 unfold GO;rw[aC (by omega),show((a:Nat):Int)+((b:Nat):Int)=((a+b:Nat):Int)by omega,lH _ _ h]
theorem jW.J4{l:List Int}{a:Int}(h:jW l)(hl:∀c∈l,c<a):jW (l++[a]):=by
 unfold jW;rw[nM];exact⟨h,List.pairwise_singleton _ _,λc hc d hd=>by simp at hd;subst hd;exact hl c hc⟩
theorem jW.last{l:List Int}{a:Int}(h:jW l)(hl:l.getLast? =some a):∀c∈l,c<=a:=by
 intro c hc;have hs:=sA hl;rw[hs]at h hc
 rcases dI.1 hc with h1|h1
 ·have:=(nM.1 h).2.2 c h1 a (by simp);omega
 ·simp at h1;omega
theorem Ek{l:List Int}(hs:l.Pairwise (λx y=>x<=y))(hl:l.length<=4611686018427387000)(hN:l.length<N):
  Ok (iQ N l) (λm=>jW m/\∀c,c∈m↔c∈l):=by
 unfold iQ;refine Q8 (λh2=>QC ⟨?_,λc=>Iff.rfl⟩)<|λh2=>?_
 ·have h2:=of_decide_eq_true h2
  match l,h2 with
  | [],_=>exact j9
  | [a],_=>exact List.pairwise_singleton _ _
  |a::b::l,h2=>simp at h2;omega
 ·have h2:=of_decide_eq_false h2;have le:∀(i j:Nat)(x y:Int),i<j->l[i]? =some x->l[j]? =some y->x<=y:=λi j x y hij hx hy=>by
   have:=mi.1 hs i j (aZ.1 hx).1 (aZ.1 hy).1 hij;rw[(aZ.1 hx).2,(aZ.1 hy).2]at this;exact this
  refine QJ (RJ (Go:=λ_=>jW l) (Rt:=λm=>jW m/\∀c,c∈m↔c∈l) (λs=>∃k:Nat,s=((k:Nat):Int)/\1<=k/\k<=l.length/\jW (l.take k)) (λs=>l.length - s.toNat) ?_ ⟨1,rfl,bV _,by omega,?_⟩ (by simp;omega)) ?_
  ·rintro s⟨k,rfl,hk1,hkl,hinc⟩;refine Q8 (λh=>?_)<|λh=>Q9 ?_
   ·have hk:k<l.length:=by have:=of_decide_eq_true h;omega
    refine RE hk ?_;rw[iH hk1 (by omega)];refine RE (by omega) ?_;refine Q8 (λhe=>?_)<|λhe=>?_
    ·have he:l[k]=l[k - 1]:=by simpa using he
     refine QD (pL l k hkl) ?_
     refine QJ (RJ (Go:=λs=>∃i:Nat,s.2.1=((i:Nat):Int)/\i<=l.length/\s.1.length=l.length/\jW (s.1.take i)/\∀c,c∈s.1.take i↔c∈l) (Rt:=λ_=>True)
      (λs=>∃i j:Nat,s.2.1=((i:Nat):Int)/\s.2.2=((j:Nat):Int)/\1<=j/\k+j<=l.length/\i<=k+j - 1/\s.1.length=l.length/\jW (s.1.take i)/\(s.1.take i).getLast? =l[k+j - 1]? /\
       (∀c,c∈s.1.take i↔c∈l.take (k+j))/\∀m,k+j - 1<=m->s.1[m]? =l[m]?) (λs=>l.length - s.2.2.toNat) ?_ ?_ (by simp;omega)) ?_
     ·rintro⟨u,a,b⟩⟨i,j,e1,e2,hj,hjl,hij,hlen,hi,hlast,hmem,hrest⟩;dsimp only at e1 e2 hlen hi hlast hmem hrest ⊢;subst e1;subst e2;rw[cB];refine Q8 (λh=>?_)<|λh=>Q9 ?_
      ·have hlt:k+j<l.length:=by have:=of_decide_eq_true h;omega
       have hx:u[k+j]'(by omega)=l[k+j]:=by have:=hrest (k+j) (by omega);rw[aQ (by omega),aQ hlt]at this;injection this
       have hy:u[k+(j - 1)]'(by omega)=l[k+(j - 1)]:=by have:=hrest (k+(j - 1)) (by omega);rw[aQ (by omega),aQ (by omega)]at this;injection this
       refine QD (Cd u k j (by omega)) ?_;rw[iH hj (by omega)];refine QD (Cd u k (j - 1) (by omega)) ?_;rw[hx,hy];have hts:l.take (k+j+1)=l.take (k+j)++[l[k+j]]:=eD hlt;have hlast':(u.take i).getLast? =some l[k+(j - 1)]:=by rw[hlast,show k+j - 1=k+(j - 1)by omega,aQ (by omega)]
       have hxy:l[k+(j - 1)]<=l[k+j]:=le (k+(j - 1)) (k+j) _ _ (by omega) (aQ _)<|aQ _
       refine QJ (P:=λs'=>s'.1.length=l.length/\∃i':Nat,s'.2=((i':Nat):Int)/\i'<=k+j/\jW (s'.1.take i')/\(s'.1.take i').getLast? =l[k+j]? /\(∀c,c∈s'.1.take i'↔c∈l.take (k+j+1))/\∀m,k+j<=m->s'.1[m]? =l[m]?) ?_ ?_
       ·refine Q8 (λhne=>?_)<|λhne=>QC ?_
        ·have hne:l[k+j]≠l[k+(j - 1)]:=by simpa using hne
         refine QD (Cd u k j (by omega)) ?_;rw[hx];refine RE (by omega)<|QC ⟨by simp[hlen],i+1,?_,by omega,?_⟩
         ·rw[bL (by omega)]
         ·dsimp only;rw[cB];have ht:(u.set i l[k+j]).take (i+1)=u.take i++[l[k+j]]:=by
           rw[eD (by simp;omega),List.take_set_of_le<|bV _];simp
          rw[ht];refine⟨hi.J4 λc hc=>?_,by simp[aQ hlt],λc=>?_,λm hm=>?_⟩
          ·have:=hi.last hlast' c hc;omega
          ·rw[hts,dI,dI,hmem]
          ·rw[fE,aF (by omega)];exact hrest m (by omega)
        ·have he:l[k+j]=l[k+(j - 1)]:=by simpa using hne
         refine⟨hlen,i,rfl,by omega,hi,?_,λc=>?_,λm hm=>hrest m (by omega)⟩
         ·dsimp only;rw[hlast',aQ hlt,he]
         ·rw[hts,dI,<-hmem];constructor
          ·exact .inl
          ·rintro(h|h)
           ·exact h
           ·simp at h;subst h;rw[he];exact List.mem_of_getLast? hlast'
       ·rintro⟨v,a⟩⟨g1,i',g2,g3,g4,g5,g6,g7⟩;dsimp only at g1 g2 g4 g5 g6 g7 ⊢;refine Q4 ⟨⟨i',j+1,g2,?_,by omega,by omega,by omega,g1,g4,?_,g6,λm hm=>g7 m (by omega)⟩,?_⟩
        ·rw[bL (by omega)]
        ·rw[show k+(j+1) - 1=k+j by omega];exact g5
        ·rw[bL (by omega)];simp only[cB];omega
      ·have hge:k+j=l.length:=by have:=of_decide_eq_false h;omega
       refine⟨i,rfl,by omega,hlen,hi,λc=>?_⟩;rw[hmem,hge,eM]
     ·refine⟨k,1,rfl,rfl,bV _,by omega,by omega,rfl,hinc,?_,λc=>?_,λm _=>rfl⟩
      ·dsimp only;rw[show k+1 - 1=k by omega,aQ hk,he,List.getLast?_eq_getElem?,cQ,Nat.min_eq_left hkl,List.getElem?_take_of_lt (by omega),aQ (by omega)]
      ·dsimp only;rw[eD hk,dI];constructor
       ·exact .inl
       ·rintro(h|h)
        ·exact h
        ·simp at h;subst h;rw[he];refine eL (i:=k - 1) ?_;rw[List.getElem?_take_of_lt (by omega),aQ (by omega)]
     ·rintro o ho;refine Ra ho ?_<|λr=>r.elim
      rintro⟨u,a,b⟩⟨i,e1,hi,hlen,hinc',hmem⟩;dsimp only at e1 hlen hinc' hmem ⊢;subst e1;refine QD (pL u i (by omega)) ?_;rw[cB];refine QD (r6 _ i (by simp;omega))<|RK ?_
      rw[List.take_append_of_le_length (by simp;omega),List.take_take,Nat.min_self];exact⟨hinc',hmem⟩
    ·have he:l[k]≠l[k - 1]:=by simpa using he
     refine Q4 ⟨⟨k+1,by rw[bL (by omega)],by omega,by omega,?_⟩,by rw[bL (by omega)];simp only[cB];omega⟩;rw[eD hk];refine hinc.J4 λc hc=>?_;have hlast:(l.take k).getLast? =some l[k - 1]:=by
      rw[List.getLast?_eq_getElem?,cQ,Nat.min_eq_left hkl,List.getElem?_take_of_lt (by omega),aQ (by omega)]
     have h3:=hinc.last hlast c hc;have h4:=le (k - 1) k _ _ (by omega) (aQ (by omega:k - 1<l.length))<|aQ hk
     omega
   ·have hge:k=l.length:=by have:=of_decide_eq_false h;omega
    subst hge;rw[eM]at hinc;exact hinc
  ·match l,h2 with
   | [],h2=>simp at h2
   |a::l,_=>exact List.pairwise_singleton _ _
  ·rintro o ho;exact Ra ho (λs h=>QC ⟨h,λc=>Iff.rfl⟩)<|λr h=>QC h
def uk(l:List aH):List Int:=l.flatMap λr=>[r.X0,r.X1]
def jX(l:List aH):List Int:=l.flatMap λr=>[r.Y0,r.Y1]
theorem um{l:List aH}{c:Int}:c∈uk l↔∃r∈l,c=r.X0\/c=r.X1:=by unfold uk;simp[List.mem_flatMap]
theorem lY{l:List aH}{c:Int}:c∈jX l↔∃r∈l,c=r.Y0\/c=r.Y1:=by unfold jX;simp[List.mem_flatMap]
theorem mD(l:List aH):(uk l).length=2*l.length:=by
 induction l with
 |nil=>rfl
 |cons r l ih=>unfold uk at *;simp[List.flatMap_cons,ih];omega
theorem j7(l:List aH):(jX l).length=2*l.length:=by
 induction l with
 |nil=>rfl
 |cons r l ih=>unfold jX at *;simp[List.flatMap_cons,ih];omega
def yu(X Y:List Int)(s:List Bd):Prop:=∀b∈s,b.y0∈Y/\b.y1∈Y/\∀c∈b.xs,c∈X
theorem yu.push{X Y:List Int}{s:List Bd}{b:Bd}(h:yu X Y s)(h0:b.y0∈Y)(h1:b.y1∈Y)(h2:∀c∈b.xs,c∈X):yu X Y (kg s b):=by
 intro c hc;unfold kg at hc;split at hc
 ·exact h c hc
 ·split at hc
  ·rename_i d hd;have hdm:d∈s:=List.mem_of_getLast? hd;split at hc
   ·rcases dI.1 hc with hc|hc
    ·exact h c<|List.dropLast_subset _ hc
    ·simp at hc;subst hc;exact⟨(h d hdm).1,h1,(h d hdm).2.2⟩
   ·rcases dI.1 hc with hc|hc
    ·exact h c hc
    ·simp at hc;subst hc;exact⟨h0,h1,h2⟩
  ·simp at hc;subst hc;exact⟨h0,h1,h2⟩
theorem jW.nodup{l:List Int}(h:jW l):l.Nodup:=List.Pairwise.imp (λh=>by omega) h
theorem yu.row{X Y:List Int}{s:List Bd}(h:yu X Y s)(hc:fM s){b:Bd}(hb:b∈s):b.xs.length<=X.length:=fS (hc.each b hb).2.2.1.nodup (h b hb).2.2
theorem yu.len{X Y:List Int}{s:List Bd}(h:yu X Y s)(hc:fM s):s.length<=Y.length:=by
 have hn:(s.map Bd.y0).Nodup:=by
  unfold List.Nodup;rw[List.pairwise_map];refine List.Pairwise.imp_of_mem (λ{a b}ha hb hab=>?_) hc.ord;have:=(hc.each a ha).1;have:=hab.1;omega
 have:=fS hn (m:=Y) (λx hx=>by
  obtain⟨b,hb,rfl⟩:=dD.1 hx
  exact(h b hb).1)
 rwa[cE]at this
theorem yu.mono{X Y X' Y':List Int}{s:List Bd}(h:yu X Y s)(hx:∀c∈X,c∈X')(hy:∀c∈Y,c∈Y'):yu X' Y' s:=λb hb=>⟨hy _ (h b hb).1,hy _ (h b hb).2.1,λc hc=>hx c<|(h b hb).2.2 c hc⟩
theorem IV(s:List Bd)(b:Bd):(kg s b).length<=s.length+1:=by
 unfold kg;split
 ·omega
 ·split
  ·rename_i d hd;have hsp:=sA hd;have:s.length=s.dropLast.length+1:=by
    conv=>lhs;rw[hsp]
    simp
   split <;> simp <;> omega
  ·simp
theorem jW.lt{l:List Int}(h:jW l){i j:Nat}{x y:Int}(hij:i<j)(hx:l[i]? =some x)(hy:l[j]? =some y):x<y:=by
 have:=mi.1 h i j (aZ.1 hx).1 (aZ.1 hy).1 hij;rw[(aZ.1 hx).2,(aZ.1 hy).2]at this;exact this
theorem jW.next{l:List Int}(h:jW l){k:Nat}{x y c:Int}(hx:l[k]? =some x)(hy:l[k+1]? =some y)(hc:c∈l)(hxc:x<c):y<=c:=by
 obtain⟨j,hj⟩:=dN hc
 rcases Nat.lt_trichotomy j (k+1)with h1|h1|h1
 ·exfalso
  by_cases e:j=k
  ·subst e;rw[hx]at hj;injection hj with hj;omega
  ·have:=h.lt (show j<k by omega) hj hx;omega
 ·subst h1;rw[hy]at hj;injection hj with hj;omega
 ·have:=h.lt h1 hy hj;omega
theorem yk{l:List aH}{φ:aH->Option Bool}(p:aH->Bool)(hφ:∀x∈l,φ x=some (p x))(hl:l.length<=4611686018427387000)(hN:l.length<N):ju N l φ=some (l.filter<|λx=> !p x):=
 J3 (z:=(⟨0,0,0,0⟩:aH)) p hφ hl hN
theorem Da{l:List aH}(hl:l.length<=268435456):kb N l=some l:=by
 unfold kb;rw[j6 (by simp;omega),aB,List.nil_append]
structure OA (l m:List aH) (ys:List Int) (k:Nat) (out:List aA) (now:List aH) (nx:Nat):Prop where
 can:fM (out.map cH)
 top:∀c∈out,∀y,ys[k]? =some y->c.Y1<=y
 cover:∀x y,vL (out.map cH) x y=(ue l x y&&decide (∀a,ys[k]? =some a->y<a))
 lim:yu (uk l) (jX l) (out.map cH)
 Qx:∀r∈now,r∈m.take nx
 Qy:∀r∈m.take nx,∀y,ys[k]? =some y->y<r.Y1->r∈now
 len:now.length<=nx
 Qa:nx<=m.length
 rest:∀(j:Nat)r y,nx<=j->m[j]? =some r->ys[k]? =some y->y<=r.Y0
 low:∀r∈now,∀y,ys[k]? =some y->r.Y0<=y
theorem K7{l m:List aH}(h:∀r,r∈l↔r∈m)(x y:Int):ue l x y=ue m x y:=by
 rw[eT,jy,jy];constructor
 ·rintro⟨r,hr,h1⟩;exact⟨r,(h r).1 hr,h1⟩
 ·rintro⟨r,hr,h1⟩;exact⟨r,(h r).2 hr,h1⟩
structure uo (l:List aH) (s:List aA):Prop where
 can:fM (s.map cH)
 cover:∀x y,vL (s.map cH) x y=ue l x y
 lim:yu (uk l) (jX l) (s.map cH)
theorem qj{l:List aH}(hl:l.length<=134217728)(hok:∀r∈l,CY r)(hN:4294967296<=N):Ok (iY N l) (uo l):=by
 unfold iY;refine QD (Da (by omega)) ?_
 obtain⟨m,h1,h2,h3⟩:=B5 (φ:=kE N) (l:=l) (λa b=>a.Y0 - b.Y0) (λa ha b hb=>by
  unfold kE;rw[wrap_small (hok a ha).s3 (hok b hb).s3]) (λa _=>by omega) (λa _ b _ c _ h1 h2=>by omega) (λa _ b _ c _ h1 h2=>by omega) (by omega)
 refine QD h1 ?_;have hml:m.length=l.length:=h2.length_eq;have hmem:∀r,r∈m↔r∈l:=λr=>h2.mem_iff;refine QJ (RR (λk s=>s=jX (m.take k)) (by omega) rfl<|λk s hk e=>?_) ?_
 ·subst e;refine RE hk<|Rp ?_<|QC ?_
  ·rw[j7];simp;omega
  ·rw[eD hk];unfold jX;rw[List.flatMap_append];rfl
 rintro s rfl;rw[eM];have hgs:vS (jX m)=some ((jX m).mergeSort<|λx y=>decide<|x<=y):=by unfold vS;rw[aC (by rw[j7];omega)]
 refine QD hgs ?_;have hsp:((jX m).mergeSort<|λx y=>decide<|x<=y).Pairwise (λx y=>x<=y):=by
  have:=List.pairwise_mergeSort (le:=λ(x y:Int)=>decide<|x<=y) (λa b c h1 h2=>by simp at *;omega) (λa b=>by simp;omega)<|jX m
  exact List.Pairwise.imp (λh=>by simpa using h) this
 have hsm:∀c,c∈(jX m).mergeSort (λx y=>decide<|x<=y)↔c∈jX m:=λc=>List.mem_mergeSort;have hsl:((jX m).mergeSort<|λx y=>decide<|x<=y).length=2*m.length:=by rw[List.length_mergeSort,j7]
 generalize (jX m).mergeSort (λx y=>decide<|x<=y)=sy at hsp hsm hsl;refine QJ (Ek (N:=N) hsp (by omega) (by omega)) ?_;rintro ys⟨hy,hym⟩;have hyl:ys.length<=2*m.length:=by
  have:=fS hy.nodup (m:=sy)<|λc hc=>(hym c).1 hc
  omega
 have y0m:∀r∈m,r.Y0∈ys:=λr hr=>(hym _).2<|(hsm _).2<|lY.2 ⟨r,hr, .inl rfl⟩
 have y1m:∀r∈m,r.Y1∈ys:=λr hr=>(hym _).2<|(hsm _).2<|lY.2 ⟨r,hr, .inr rfl⟩
 have yml:∀c∈ys,c∈jX l:=λc hc=>by
  obtain⟨r,hr,h⟩:=lY.1<|(hsm _).1<|(hym _).1 hc
  exact lY.2 ⟨r,(hmem r).1 hr,h⟩
 refine QJ (RJ (Go:=λs=>uo l s.1) (Rt:=λ_=>True) (λs=>∃k nx:Nat,s.2.2.2=((k:Nat):Int)/\s.2.2.1=((nx:Nat):Int)/\(k<ys.length\/k=0)/\OA l m ys k s.1 s.2.1 nx) (λs=>ys.length - s.2.2.2.toNat) ?_ ?_ (by simp;omega)) ?_
 ·rintro⟨out,now,a,b⟩⟨k,nx,e1,e2,hk,I⟩;dsimp only at e1 e2 I ⊢;subst e1;subst e2;rw[bL (by omega)];refine Q8 (λh=>?_)<|λh=>Q9 ?_
  ·have hk1:k+1<ys.length:=by have:=of_decide_eq_true h;omega
   have hyk:ys[k]? =some ys[k]:=aQ _;have hyk1:ys[k+1]? =some ys[k+1]:=aQ hk1;have hlt:=hy.lt (Nat.lt_succ_self k) hyk hyk1;have hcov:=I.cover;simp only[hyk,Option.some.injEq,forall_eq']at hcov;refine QD (yk (λr=>decide<|r.Y1<=ys[k]) (λr _=>by unfold pz;rw[lH ys k (by omega),aB]) (by have:=I.len;have:=I.Qa;omega) (by have:=I.len;have:=I.Qa;omega)) ?_;have hfl:=kP (λr:aH=> !decide (r.Y1<=ys[k])) now;have hIl:=I.len;have hIn:=I.Qa
   refine QJ (RJ (Go:=λs=>∃nx':Nat,s.2=((nx':Nat):Int)/\nx'<=m.length/\s.1.length<=nx'/\(∀r∈s.1,r∈m.take nx')/\(∀r∈m.take nx',ys[k]<r.Y1->r∈s.1)/\(∀r∈s.1,r.Y0<=ys[k]/\ys[k]<r.Y1)/\(∀(j:Nat)r,nx'<=j->m[j]? =some r->ys[k]<r.Y0)) (Rt:=λ_=>True)
    (λs=>∃nx':Nat,s.2=((nx':Nat):Int)/\nx<=nx'/\nx'<=m.length/\s.1.length<=nx'/\(∀r∈s.1,r∈m.take nx')/\(∀r∈m.take nx',ys[k]<r.Y1->r∈s.1)/\(∀r∈s.1,r.Y0<=ys[k]/\ys[k]<r.Y1)) (λs=>m.length - s.2.toNat) ?_ ?_ (by simp;omega)) ?_
   ·rintro⟨nw,b⟩⟨nx',e1,g0,g1,g2,g3,g4,g5⟩;dsimp only at e1 g2 g3 g4 g5 ⊢;subst e1;refine QJ (P:=λb=>b=true↔∃h:nx'<m.length,m[nx'].Y0<=ys[k]) ?_ ?_
    ·refine Q8 (λh=>?_)<|λh=>QC ?_
     ·have hlt:nx'<m.length:=by have:=of_decide_eq_true h;omega
      refine RE hlt<|RE (by omega)<|QC ?_
      rw[bP];exact⟨λh=>⟨hlt,h⟩,λ⟨_,h⟩=>h⟩
     ·have:=of_decide_eq_false h;constructor
      ·intro h;cases h
      ·rintro⟨h,_⟩;omega
    ·intro bb hbb;refine Q8 (λh=>?_)<|λh=>Q9 ?_
     ·obtain⟨hlt,h0⟩:=hbb.1 h;have hts:m.take (nx'+1)=m.take nx'++[m[nx']]:=eD hlt;refine RE hlt<|Rp (by simp;omega)<|Q4 ⟨⟨nx'+1,by rw[bL (by omega)],by omega,by omega,by simp;omega,λr hr=>?_,λr hr hr2=>?_,λr hr=>?_⟩,by rw[bL (by omega)];simp only[cB];omega⟩
      ·rw[hts]
       rcases dI.1 hr with h|h
       ·exact List.mem_append_left _<|g3 r h
       ·exact List.mem_append_right _ h
      ·rw[hts]at hr
       rcases dI.1 hr with h|h
       ·exact List.mem_append_left _<|g4 r h hr2
       ·exact List.mem_append_right _ h
      ·rcases dI.1 hr with h|h
       ·exact g5 r h
       ·simp at h;subst h;refine⟨h0,?_⟩;have:=(hok m[nx']<|(hmem _).1<|cC hlt).y;have:=I.rest nx' _ ys[k] g0 (aQ hlt) hyk;omega
     ·refine⟨nx',rfl,g1,g2,g3,g4,g5,λj r hj hr=>?_⟩;have hjl:=(aZ.1 hr).1;have hlt:nx'<m.length:=by omega
      have h0:¬m[nx'].Y0<=ys[k]:=λh0=>by rw[hbb.2 ⟨hlt,h0⟩]at h;cases h
      by_cases e:nx'=j
      ·subst e;rw[aQ hlt]at hr;injection hr with hr;subst hr;omega
      ·have:=mi.1 h3 nx' j hlt hjl (by omega);have hr':=(aZ.1 hr).2;rw[hr']at this;omega
   ·refine⟨nx,rfl,bV _,hIn,by dsimp only;omega,λr hr=>I.Qx r (jo.1 hr).1,λr hr h=>jo.2 ⟨I.Qy r hr ys[k] hyk h,by simpa using h⟩,λr hr=>?_⟩;have hr:=jo.1 hr;have hr2:ys[k]<r.Y1:=by simpa using hr.2
    exact⟨I.low r hr.1 ys[k] hyk,hr2⟩
   ·rintro o ho;refine Ra ho ?_<|λr=>r.elim
    rintro⟨nw,b⟩⟨nx',e1,g1,g2,g3,g4,g5,g6⟩;dsimp only at e1 g2 g3 g4 g5 ⊢;subst e1;refine RE (by omega)<|RE hk1 ?_
    have hnm:∀r∈nw,r∈l:=λr hr=>(hmem r).1<|List.take_subset _ _<|g3 r hr
    obtain⟨row,nw',s1,s2,s3,s4,s5,s6,s7⟩:=Eh (N:=N) (l:=nw) (by omega)<|λr hr=>hok r<|hnm r hr
    refine QD s1 ?_;have hlimx:∀c∈row,c∈uk l:=λc hc=>by
     obtain⟨r,hr,h⟩:=s7 c hc;exact um.2 ⟨r,hnm r hr,h⟩
    have hol:out.length<=2*l.length:=by have:=I.lim.len I.can;rw[j7,cE]at this;exact this
    have hox:∀c∈out,c.Xs.length<=2*l.length:=λc hc=>by
     have:=I.lim.row I.can (b:=cH c)<|dD.2 ⟨c,hc,rfl⟩
     rw[mD]at this;exact this
    obtain⟨out',p1,p2⟩:=H2 (N:=N) (s:=out) (b:=⟨ys[k],ys[k+1],row⟩) (by omega) (λc hc=>by have:=hox c hc;omega);refine QD p1 ?_;have htop:∀c∈out.map cH,c.y1<=(cH ⟨ys[k],ys[k+1],row⟩).y0:=λc hc=>by
     obtain⟨d,hd,rfl⟩:=dD.1 hc;exact I.top d hd ys[k] hyk
    have hcan:=wT I.can htop s3 s4;refine Q4 ⟨⟨k+1,nx',rfl,rfl, .inl hk1,⟨by dsimp only;rw[p2];exact hcan,λc hc y hy1=>?_,λx y=>?_,?_,λr hr=>g3 r<|s2.subset hr,λr hr y hy1 h=>?_,by rw[s2.length_eq];exact g2,g1,λj r y hj hr hy1=>?_,λr hr y hy1=>?_⟩⟩,by simp only[cB];omega⟩
    ·rw[hyk1]at hy1;injection hy1 with hy1;subst hy1
     have hm':cH c∈kg (out.map cH) (cH ⟨ys[k],ys[k+1],row⟩):=by rw[<-p2];exact dD.2 ⟨c,hc,rfl⟩
     exact wU htop (by show ys[k]<=ys[k+1];omega) _ hm'
    ·simp only[hyk1,Option.some.injEq,forall_eq'];unfold vL;rw[p2,wS htop (λc hc=>(I.can.each c hc).1)<|λh=>absurd h (by show ¬ys[k+1]<=ys[k];omega)]
     by_cases hyy:ys[k]<=y/\y<ys[k+1]
     ·rw[aC (show(cH ⟨ys[k],ys[k+1],row⟩).y0<=y/\y<(cH ⟨ys[k],ys[k+1],row⟩).y1 from hyy),bJ hyy.2,Bool.and_true];show p7 row x=_;rw[s5,eT,Cb,jy];constructor
      ·rintro⟨r,hr,h⟩;have hrm:=List.take_subset _ _<|g3 r hr
       have h5:=g5 r hr;have:=hy.next hyk hyk1 (y1m r hrm) h5.2;exact⟨r,hnm r hr,h,by omega,by omega⟩
      ·rintro⟨r,hr,h,h7,h8⟩;have hrm:=(hmem r).2 hr;have h9:r.Y0<=ys[k]:=by
        by_cases h10:r.Y0<=ys[k]
        ·exact h10
        ·have:=hy.next hyk hyk1 (y0m r hrm) (by omega);omega
       have h11:r∈m.take nx':=by
        obtain⟨j,hj⟩:=dN hrm
        by_cases h12:j<nx'
        ·exact eL (i:=j) (by rw[List.getElem?_take_of_lt h12];exact hj)
        ·have:=g6 j r (by omega) hj;omega
       exact⟨r,g4 r h11 (by omega),h⟩
     ·rw[aF (show ¬((cH ⟨ys[k],ys[k+1],row⟩).y0<=y/\y<(cH ⟨ys[k],ys[k+1],row⟩).y1)from hyy)];show vL (out.map cH) x y=_;rw[hcov]
      by_cases h1:y<ys[k]
      ·rw[bJ h1,bJ (show y<ys[k+1]by omega)]
      ·rw[bQ h1,bQ (show ¬y<ys[k+1]by omega)]
    ·show yu (uk l) (jX l) (out'.map cH);rw[p2];exact I.lim.push (yml _<|cC _) (yml _<|cC _) hlimx
    ·rw[hyk1]at hy1;injection hy1 with hy1;subst hy1
     exact s2.symm.subset<|g4 r hr (by omega)
    ·rw[hyk1]at hy1;injection hy1 with hy1;subst hy1
     exact hy.next hyk hyk1 (y0m r<|eL hr)<|g6 j r hj hr
    ·rw[hyk1]at hy1;injection hy1 with hy1;subst hy1
     have:=(g5 r<|s2.subset hr).1;omega
  ·have hge:¬k+1<ys.length:=by have:=of_decide_eq_false h;omega
   refine⟨I.can,λx y=>?_,I.lim⟩;rw[I.cover]
   by_cases hyn:ys= []
   ·have:ue l x y=false:=by
     rw[<-jr,jy];rintro⟨r,hr,_⟩;have:=y0m r<|(hmem r).2 hr
     rw[hyn]at this;cases this
    rw[this];rfl
   ·have hkl:k<ys.length:=by
     rcases hk with h|h
     ·exact h
     ·subst h;exact List.length_pos_iff.2 hyn
    rw[aQ hkl];simp only[Option.some.injEq,forall_eq']
    cases hc:ue l x y with
    |false=>rfl
    |true=>
     obtain⟨r,hr,_,h7,h8⟩:=jy.1 hc;have:=y1m r<|(hmem r).2 hr
     obtain⟨j,hj⟩:=dN this;have hjl:=(aZ.1 hj).1;have:r.Y1<=ys[k]:=by
      by_cases e:j=k
      ·subst e;rw[aQ hkl]at hj;injection hj with hj;omega
      ·have:=hy.lt (show j<k by omega) hj<|aQ hkl;omega
     rw[bJ (show y<ys[k]by omega)];rfl
 ·refine⟨0,0,rfl,rfl, .inr rfl,?_⟩;show OA l m ys 0 [] [] 0;refine⟨fM.nil,λc hc=>(by cases hc),λx y=>?_,λb hb=>(by cases hb),λr hr=>(by cases hr),λr hr=>(by rw[List.take_zero]at hr;cases hr),bV _,dJ _,λj r y _ hr hy0=>?_,λr hr=>(by cases hr)⟩
  ·show false=_;symm;rw[Bool.and_eq_false_iff]
   cases hc:ue l x y with
   |false=>exact .inl rfl
   |true=>
    right;obtain⟨r,hr,_,h7,h8⟩:=jy.1 hc;have hr0:=y0m r<|(hmem r).2 hr
    have hpos:0<ys.length:=List.length_pos_of_mem hr0;rw[decide_eq_false_iff_not];intro h;have h:=h ys[0]<|aQ hpos
    obtain⟨j,hj⟩:=dN hr0
    by_cases e:j=0
    ·subst e;rw[aQ hpos]at hj;injection hj with hj;omega
    ·have:=hy.lt (show 0<j by omega) (aQ hpos) hj;omega
  ·obtain⟨j',hj'⟩:=dN<|y0m r<|eL hr
   by_cases e:j'=0
   ·subst e;rw[hy0]at hj';injection hj' with hj';omega
   ·have:=hy.lt (show 0<j' by omega) hy0 hj';omega
 ·rintro o ho;refine Ra ho (λs h=>QC h)<|λr=>r.elim
end
section
variable {N:Nat}
def Ce:List Int->List (Int×Int)
 |a::b::l=>(a,b)::Ce l
 |_=>[]
theorem Bo:∀(xs:List Int),(Ce xs).length=xs.length / 2
 | []=>rfl
 | [a]=>by simp[Ce]
 |a::b::l=>by unfold Ce;rw[cS,Bo l];simp only[cS];omega
theorem zm:∀(xs:List Int)(j:Nat)(h:2*j+1<xs.length),(Ce xs)[j]? =some (xs[2*j],xs[2*j+1])
 | [],j,h=>by simp at h
 | [a],j,h=>by simp at h
 |a::b::l,0,h=>rfl
 |a::b::l,j+1,h=>by
  have:=zm l j (by simp at h;omega);unfold Ce;rw[List.getElem?_cons_succ,this];have e1:(a::b::l)[2*(j+1)]=l[2*j]'(by simp at h;omega):=by simp[show 2*(j+1)=2*j+1+1 by omega]
  have e2:(a::b::l)[2*(j+1)+1]=l[2*j+1]'(by simp at h;omega):=by simp[show 2*(j+1)+1=2*j+1+1+1 by omega]
  rw[e1,e2]
theorem zn:∀{xs:List Int},xs.length % 2=0->dT (Ce xs)=xs
 | [],_=>rfl
 | [a],h=>by simp at h
 |a::b::l,h=>by unfold Ce;rw[jQ,zn (by simp at h;omega)]
theorem K8{xs:List Int}(h:jW xs)(he:xs.length % 2=0)(x:Int):p7 xs x=jP (Ce xs) x:=by
 have:=uh (l:=Ce xs) (by rw[zn he];exact h) x;rwa[zn he]at this
theorem El{xs:List Int}:∀p∈Ce xs,p.1∈xs/\p.2∈xs:=by
 intro p hp;obtain⟨j,hj⟩:=dN hp;have hjl:=(aZ.1 hj).1;rw[Bo]at hjl;rw[zm xs j (by omega)]at hj;injection hj with hj;subst hj
 exact⟨cC _,cC _⟩
theorem G7{xs:List Int}(h:jW xs):∀p∈Ce xs,p.1<p.2:=by
 intro p hp;obtain⟨j,hj⟩:=dN hp;have hjl:=(aZ.1 hj).1;rw[Bo]at hjl;rw[zm xs j (by omega)]at hj;injection hj with hj;subst hj
 exact h.lt (show 2*j<2*j+1 by omega) (aQ _)<|aQ _
def nF(b:aA):List aH:=(Ce b.Xs).map λp=>⟨p.1,b.Y0,p.2,b.Y1⟩
def aS(s:List aA):List aH:=s.flatMap nF
theorem nG(b:aA)(s:List aA):aS (b::s)=nF b++aS s:=rfl
theorem nZ(b:aA):(nF b).length=b.Xs.length / 2:=by unfold nF;rw[cE,Bo]
theorem oE(s t:List aA):aS (s++t)=aS s++aS t:=List.flatMap_append
theorem Ab(s:List aA)(k:Nat):(aS<|s.take k).length<=(aS s).length:=by
 conv=>rhs;rw[<-List.take_append_drop k s,oE,dB]
 omega
theorem Cf{s:List aA}{A B:Nat}(h1:s.length<=A)(h2:∀b∈s,b.Xs.length<=B):(aS s).length<=A*B:=by
 induction s generalizing A with
 |nil=>simp[aS]
 |cons b s ih=>
  rw[nG,dB,nZ];simp at h1;obtain⟨A',rfl⟩:∃A',A=A'+1:=⟨A - 1,by omega⟩;have:=ih (A:=A') (by omega)<|λc hc=>h2 c<|ir _ hc
  have:=h2 b (by simp);rw[Nat.add_mul];omega
theorem Cg{s:List aA}(he:∀b∈s,b.Xs.length % 2=0)(h1:s.length<=1099511627776)(h2:∀b∈s,b.Xs.length<=1099511627776/\b.Xs.length<N)(h3:(aS s).length<=1099511627776):kl N s=some (aS s):=by
 refine RD ?_;unfold kl;refine QJ (RR (λk t=>t=aS (s.take k)) (by omega) rfl<|λk t hk e=>?_)<|λt e=>QC (by rw[e,eM])
 subst e;refine RE hk ?_;have hm:=cC hk;generalize hb:s[k]=b at hm ⊢;have heb:=he b hm;have hbl:=h2 b hm;have hts:aS (s.take<|k+1)=aS (s.take k)++nF b:=by
  rw[eD hk,oE,hb];simp[aS]
 have hle:=Ab s<|k+1
 rw[hts,dB,nZ]at hle;refine QJ (RJ (Go:=λs'=>s'.1=aS (s.take<|k+1)) (Rt:=λ_=>True) (λs'=>∃j:Nat,s'.2=((2*j:Nat):Int)/\2*j<=b.Xs.length/\s'.1=aS (s.take k)++(nF b).take j) (λs'=>b.Xs.length - s'.2.toNat) ?_ ⟨0,rfl,by omega,by simp⟩ (by simp;omega)) ?_
 ·rintro⟨acc,i⟩⟨j,e1,hj,e2⟩;dsimp only at e1 e2 ⊢;subst e1;subst e2;refine Q8 (λh=>?_)<|λh=>Q9 ?_
  ·have hlt:2*j+1<b.Xs.length:=by have:=of_decide_eq_true h;omega
   refine RE (by omega) ?_;rw[bL (by omega)];refine RE hlt<|Rp ?_<|Q4 ⟨⟨j+1,?_,by omega,?_⟩,?_⟩
   ·simp;rw[nZ];omega
   ·rw[DD (by omega)];congr 1
   ·rw[ku];congr 1;have hg:(nF b)[j]? =some ⟨b.Xs[2*j],b.Y0,b.Xs[2*j+1],b.Y1⟩:=by
     unfold nF;rw[eR,zm _ _ hlt];rfl
    have hjl:=(aZ.1 hg).1;rw[eD hjl,(aZ.1 hg).2]
   ·rw[DD (by omega)];simp only[cB];omega
  ·have hge:2*j=b.Xs.length:=by have:=of_decide_eq_false h;omega
   show aS (s.take k)++(nF b).take j=_;rw[hts,mh (l:=nF b) (by rw[nZ];omega)]
 ·rintro o ho;exact Ra ho (λs' h=>QC h)<|λr=>r.elim
theorem K9{s:List aA}(h1:s.length<=1099511627776)(h2:∀b∈s,b.Xs.length<=1099511627776)(h3:(aS s).length<=1099511627776):nk N s=some (((aS s).length:Nat):Int):=by
 refine RD ?_;unfold nk;refine QJ (RR (λk t=>t=(((aS<|s.take k).length:Nat):Int)) (by omega) rfl<|λk t hk e=>?_)<|λt e=>QC (by rw[e,eM])
 subst e;refine RE hk<|QC ?_
 have hm:=cC hk;have hbl:=h2 _ hm;have hts:aS (s.take<|k+1)=aS (s.take k)++nF s[k]:=by
  rw[eD hk,oE];simp[aS]
 have hle:=Ab s<|k+1
 rw[hts,dB,nZ]at hle;have e:Int.tdiv ((s[k].Xs.length:Nat):Int) 2=((s[k].Xs.length / 2:Nat):Int):=by
  rw[show(2:Int)=((2:Nat):Int)by rfl,<-Int.ofNat_tdiv]
 rw[e,FO (by omega),wrap_add (by omega),hts,dB,nZ]
theorem G8(l m:List aH)(x y:Int):ue (l++m) x y=(ue l x y||ue m x y):=List.any_append
theorem J5{b:aA}(h:jW b.Xs)(he:b.Xs.length % 2=0)(x y:Int):ue (nF b) x y=(p7 b.Xs x&&(decide (b.Y0<=y)&&decide (y<b.Y1))):=by
 rw[K8 h he,eT,jy,bY,ug,bY,bP,bP];unfold nF;constructor
 ·rintro⟨r,hr,h1,h2⟩;obtain⟨p,hp,rfl⟩:=dD.1 hr;exact⟨⟨p,hp,h1⟩,h2⟩
 ·rintro⟨⟨p,hp,h1⟩,h2⟩;exact⟨_,dD.2 ⟨p,hp,rfl⟩,h1,h2⟩
theorem ql:∀{s:List aA},fM (s.map cH)->∀x y,ue (aS s) x y=vL (s.map cH) x y
 | [],_,x,y=>rfl
 |b::s,h,x,y=>by
  rw[nG,G8,ql h.tail x y];have hb:=h.each (cH b) (by simp);rw[J5 hb.2.2.1 hb.2.2.2];unfold vL;rw[dW,nD]
  by_cases hy:b.Y0<=y/\y<b.Y1
  ·rw[aC (show(cH b).y0<=y/\y<(cH b).y1 from hy),mo<|λc hc=> .inl (by have:=h.B9 c hc;have e:(cH b).y1=b.Y1:=rfl;omega),bJ hy.1,bJ hy.2];show(p7 b.Xs x&&true||false)=p7 b.Xs x;simp
  ·rw[aF (show ¬((cH b).y0<=y/\y<(cH b).y1)from hy)];have:(decide (b.Y0<=y)&&decide (y<b.Y1))=false:=by rw[Bool.and_eq_false_iff,decide_eq_false_iff_not,decide_eq_false_iff_not];omega
   rw[this];simp
theorem rR{s:List aA}{r:aH}(h:r∈aS s):∃b∈s,∃p∈Ce b.Xs,r= ⟨p.1,b.Y0,p.2,b.Y1⟩:=by
 unfold aS nF at h;obtain⟨b,hb,h⟩:=List.mem_flatMap.1 h;obtain⟨p,hp,rfl⟩:=dD.1 h;exact⟨b,hb,p,hp,rfl⟩
theorem Ch{s:List aA}{X Y:List Int}(h:fM (s.map cH))(hl:yu X Y (s.map cH))(hx:∀c∈X,small c)(hy:∀c∈Y,small c):∀r∈aS s,CY r/\(r.X0∈X/\r.X1∈X)/\r.Y0∈Y/\r.Y1∈Y:=by
 intro r hr;obtain⟨b,hb,p,hp,rfl⟩:=rR hr;have hm:cH b∈s.map cH:=dD.2 ⟨b,hb,rfl⟩;have hc:=h.each _ hm;have hll:=hl _ hm;have h1:=El p hp;have h2:=hll.2.2 p.1 h1.1;have h3:=hll.2.2 p.2 h1.2;exact⟨⟨G7 hc.2.2.1 p hp,hc.1,hx _ h2,hx _ h3,hy _ hll.1,hy _ hll.2.1⟩,⟨h2,h3⟩,hll.1,hll.2.1⟩
theorem yl{l:List Int}{x:Int}(h:∀c∈l,c<=x):p7 l x=(l.length % 2==1):=by unfold p7;rw[HZ h]
theorem Ac{l:List Int}{a x:Int}(h:x<a):p7 (l++[a]) x=p7 l x:=by unfold p7;rw[B6,qL,aF (by omega),HY];rfl
def IW(l:List Int):Bool:=l.length % 2==1
theorem Ci(l:List Int)(a:Int):IW (l++[a]) = !IW l:=by
 unfold IW;rw[dB,eT,Bool.not_eq_true',beq_iff_eq,beq_eq_false_iff_ne];simp;omega
structure FP (gT:Bool->Bool->Bool) (a b a' b' out:List Int) (inA inB is:Bool) (pa pb:List Int):Prop where
 ea:a=pa++a'
 eb:b=pb++b'
 oa:inA=IW pa
 ob:inB=IW pb
 oo:is=IW out
 ok:is=gT inA inB
 low:∀c,(c∈pa\/c∈pb\/c∈out)->∀d,(d∈a'\/d∈b')->c<d
 inc:jW out
 OB:∀x,(∀d,(d∈a'\/d∈b')->x<d)->p7 out x=gT (p7 pa x) (p7 pb x)
 mem:∀c∈out,c∈pa\/c∈pb
 len:out.length<=pa.length+pb.length
theorem FP.step{gT:Bool->Bool->Bool}{a b a' b' out:List Int}{inA inB is:Bool}{pa pb:List Int}(I:FP gT a b a' b' out inA inB is pa pb)(ha:jW a)(hb:jW b)(x:Int)(ta tb:List Int)(wa wb:Bool)
  (h1:a'=(if wa then x::ta else ta)) (h2:b'=(if wb then x::tb else tb)) (hw:wa=true\/wb=true) (hx:∀d,(d∈ta\/d∈tb)->x<d):
  FP gT a b ta tb (if gT (inA ^^ wa) (inB ^^ wb)=is then out else out++[x]) (inA ^^ wa) (inB ^^ wb) (gT (inA ^^ wa)<|inB ^^ wb) (if wa then pa++[x]else pa) (if wb then pb++[x]else pb):=by
 have hxm:x∈a'\/x∈b':=by
  rcases hw with h|h
  ·left;rw[h1,aC h];simp
  ·right;rw[h2,aC h];simp
 have hsub:∀d,(d∈ta\/d∈tb)->d∈a'\/d∈b':=λd hd=>by
  rcases hd with h|h
  ·left;rw[h1];split
   ·exact ir _ h
   ·exact h
  ·right;rw[h2];split
   ·exact ir _ h
   ·exact h
 have hlow:∀c,(c∈pa\/c∈pb\/c∈out)->c<x:=λc hc=>I.low c hc x hxm;have hpa:∀c∈(if wa then pa++[x]else pa),c∈pa\/(wa=true/\c=x):=λc hc=>by
  split at hc
  ·rename_i h
   rcases dI.1 hc with h'|h'
   ·exact .inl h'
   ·simp at h';exact .inr ⟨h,h'⟩
  ·exact .inl hc
 have hpb:∀c∈(if wb then pb++[x]else pb),c∈pb\/(wb=true/\c=x):=λc hc=>by
  split at hc
  ·rename_i h
   rcases dI.1 hc with h'|h'
   ·exact .inl h'
   ·simp at h';exact .inr ⟨h,h'⟩
  ·exact .inl hc
 have hout:∀c∈(if gT (inA ^^ wa) (inB ^^ wb)=is then out else out++[x]),c∈out\/c=x:=λc hc=>by
  split at hc
  ·exact .inl hc
  ·rcases dI.1 hc with h'|h'
   ·exact .inl h'
   ·simp at h';exact .inr h'
 have ooA:(inA ^^ wa)=IW (if wa then pa++[x]else pa):=by
  rw[I.oa];cases wa <;> simp[Ci]
 have ooB:(inB ^^ wb)=IW (if wb then pb++[x]else pb):=by
  rw[I.ob];cases wb <;> simp[Ci]
 have ooO:gT (inA ^^ wa) (inB ^^ wb)=IW (if gT (inA ^^ wa) (inB ^^ wb)=is then out else out++[x]):=by
  split
  ·rename_i h;rw[h];exact I.oo
  ·rename_i h;rw[Ci,<-I.oo]
   cases hk:gT (inA ^^ wa) (inB ^^ wb) <;> cases his:is <;> simp_all
 refine⟨?_,?_,ooA,ooB,ooO,rfl,?_,?_,?_,?_,?_⟩
 ·rw[I.ea,h1];split <;> simp
 ·rw[I.eb,h2];split <;> simp
 ·intro c hc d hd;have hd':=hx d hd;have hdd:=hsub d hd
  rcases hc with h|h|h
  ·rcases hpa c h with h'|⟨_,rfl⟩
   ·exact I.low c (.inl h') d hdd
   ·exact hd'
  ·rcases hpb c h with h'|⟨_,rfl⟩
   ·exact I.low c (.inr<|.inl h') d hdd
   ·exact hd'
  ·rcases hout c h with h'|rfl
   ·exact I.low c (.inr<|.inr h') d hdd
   ·exact hd'
 ·split
  ·exact I.inc
  ·exact I.inc.J4 λc hc=>hlow c<|.inr<|.inr hc
 ·intro y hy
  by_cases hxy:y<x
  ·have e1:p7 (if wa then pa++[x]else pa) y=p7 pa y:=by split;exact Ac hxy;rfl
   have e2:p7 (if wb then pb++[x]else pb) y=p7 pb y:=by split;exact Ac hxy;rfl
   have e3:p7 (if gT (inA ^^ wa) (inB ^^ wb)=is then out else out++[x]) y=p7 out y:=by split;rfl;exact Ac hxy
   rw[e1,e2,e3];refine I.OB y λd hd=>?_;have:x<=d:=by
    rcases hd with h|h
    ·rw[h1]at h;split at h
     ·rcases dM.1 h with rfl|h
      ·exact Int.le_refl _
      ·have:=hx d<|.inl h;omega
     ·have:=hx d<|.inl h;omega
    ·rw[h2]at h;split at h
     ·rcases dM.1 h with rfl|h
      ·exact Int.le_refl _
      ·have:=hx d<|.inr h;omega
     ·have:=hx d<|.inr h;omega
   omega
  ·rw[yl (l:=if wa then pa++[x]else pa),yl (l:=if wb then pb++[x]else pb),yl]
   ·have e1:=ooA;have e2:=ooB;have e3:=ooO;unfold IW at e1 e2 e3;rw[<-e1,<-e2,<-e3]
   ·intro c hc
    rcases hout c hc with h|rfl
    ·have:=hlow c<|.inr<|.inr h;omega
    ·omega
   ·intro c hc
    rcases hpb c hc with h|⟨_,rfl⟩
    ·have:=hlow c<|.inr<|.inl h;omega
    ·omega
   ·intro c hc
    rcases hpa c hc with h|⟨_,rfl⟩
    ·have:=hlow c<|.inl h;omega
    ·omega
 ·intro c hc;have m1:∀c,c∈pa->c∈(if wa then pa++[x]else pa):=λc h=>by split;exact List.mem_append_left _ h;exact h
  have m2:∀c,c∈pb->c∈(if wb then pb++[x]else pb):=λc h=>by split;exact List.mem_append_left _ h;exact h
  rcases hout c hc with h|rfl
  ·rcases I.mem c h with h|h
   ·exact .inl<|m1 c h
   ·exact .inr<|m2 c h
  ·rcases hw with h|h
   ·left;rw[aC h];simp
   ·right;rw[aC h];simp
 ·have:=I.len;have h3:(if wa then pa++[x]else pa).length+(if wb then pb++[x]else pb).length>=pa.length+pb.length+1:=by
   rcases hw with h|h
   ·subst h;cases wb <;> simp <;> omega
   ·subst h;cases wa <;> simp <;> omega
  split
  ·omega
  ·simp at h3 ⊢;omega
end
section
variable {N:Nat}
theorem kp(x:Int)(l:List Int):idx (x::l) 0=some x:=rfl
theorem uq{α:Type}(x:α)(l:List α):sY (x::l) 1 (((x::l).length:Nat):Int)=some l:=pL (x::l) 1 (by simp)
theorem lr{α:Type}(x:α)(l:List α):decide ((((x::l).length:Nat):Int)>0)=true:=bJ (by simp)
theorem wV{α:Type}(x:α)(l:List α):((((x::l).length:Nat):Int)==0)=false:=by rw[beq_eq_false_iff_ne];simp;omega
theorem G9{a b:List Int}(ha:jW a)(hb:jW b)(h:a≠[]\/b≠[]):∃x ta tb wa wb,a=(if wa then x::ta else ta)/\b=(if wb then x::tb else tb)/\(wa=true\/wb=true)/\(∀d,(d∈ta\/d∈tb)->x<d):=by
 match a,b,ha,hb,h with
 | [],[],_,_,h=>rcases h with h|h <;> exact absurd rfl h
 |x::ta,[],ha,_,_=>exact⟨x,ta,[],true,false,rfl,rfl, .inl rfl,λd hd=>by rcases hd with h|h;exact ha.head d h;cases h⟩
 | [],y::tb,_,hb,_=>exact⟨y,[],tb,false,true,rfl,rfl, .inr rfl,λd hd=>by rcases hd with h|h;cases h;exact hb.head d h⟩
 |x::ta,y::tb,ha,hb,_=>
  rcases Int.lt_trichotomy x y with h|h|h
  ·refine⟨x,ta,y::tb,true,false,rfl,rfl, .inl rfl,λd hd=>?_⟩
   rcases hd with h1|h1
   ·exact ha.head d h1
   ·rcases dM.1 h1 with rfl|h1
    ·exact h
    ·have:=hb.head d h1;omega
  ·subst h;exact⟨x,ta,tb,true,true,rfl,rfl, .inl rfl,λd hd=>by rcases hd with h|h;exact ha.head d h;exact hb.head d h⟩
  ·refine⟨y,x::ta,tb,false,true,rfl,rfl, .inr rfl,λd hd=>?_⟩
   rcases hd with h1|h1
   ·rcases dM.1 h1 with rfl|h1
    ·exact h
    ·have:=ha.head d h1;omega
   ·exact hb.head d h1
theorem IX{φ:Bool->Bool->Option Bool}{gT:Bool->Bool->Bool}(hφ:∀p q,φ p q=some (gT p q))(hk:gT false false=false){a b:List Int}(ha:jW a)(hb:jW b)(hae:a.length % 2=0)(hbe:b.length % 2=0)
  (qx:a.length<=1099511627776) (hbl:b.length<=1099511627776) (hN:a.length+b.length<N):
  Ok (rV N a b φ) (λm=>jW m/\m.length % 2=0/\(∀x,p7 m x=gT (p7 a x) (p7 b x))/\∀c∈m,c∈a\/c∈b):=by
 unfold rV
 refine QJ (RJ (Go:=λs=>jW s.2.2.1/\s.2.2.1.length % 2=0/\(∀x,p7 s.2.2.1 x=gT (p7 a x) (p7 b x))/\∀c∈s.2.2.1,c∈a\/c∈b) (Rt:=λ_=>True)
  (λs=>∃pa pb,FP gT a b s.1 s.2.1 s.2.2.1 s.2.2.2.1 s.2.2.2.2.1 s.2.2.2.2.2 pa pb) (λs=>s.1.length+s.2.1.length) ?_ ?_ hN) ?_
 ·rintro⟨a',b',out,inA,inB,is⟩⟨pa,pb,I⟩;dsimp only at I ⊢;have ha':jW a':=by have:=ha;rw[I.ea]at this;exact(nM.1 this).2.1
  have hb':jW b':=by have:=hb;rw[I.eb]at this;exact(nM.1 this).2.1
  have hle:pa.length+a'.length=a.length:=by rw[I.ea];simp
  have hlb:pb.length+b'.length=b.length:=by rw[I.eb];simp
  have hlo:=I.len
  by_cases hne:a'≠[]\/b'≠[]
  ·obtain⟨x,ta,tb,wa,wb,h1,h2,hw,hx⟩:=G9 ha' hb' hne;have J:=I.step ha hb x ta tb wa wb h1 h2 hw hx;have fin:∀(sa sb:List Int×Bool),sa=(ta,inA ^^ wa)->sb=(tb,inB ^^ wb)->
     Ok ((φ sa.2 sb.2).bind λx220=>(bif x220 != is then((app 8 out ([x]:List Int)).bind λx227=>some (x227,x220))else some (out,is)).bind λs224=>some<|Fl.nx (sa.1,sb.1,s224.1,sa.2,sb.2,s224.2))
      (KF (λs':List Int×List Int×List Int×Bool×Bool×Bool=>(∃pa pb,FP gT a b s'.1 s'.2.1 s'.2.2.1 s'.2.2.2.1 s'.2.2.2.2.1 s'.2.2.2.2.2 pa pb)/\s'.1.length+s'.2.1.length<a'.length+b'.length) (λs=>jW s.2.2.1/\s.2.2.1.length % 2=0/\(∀x,p7 s.2.2.1 x=gT (p7 a x) (p7 b x))/\∀c∈s.2.2.1,c∈a\/c∈b) (λ_:Empty=>True)):=by
    rintro _ _ rfl rfl;refine QD (hφ _ _) ?_;have hlt:ta.length+tb.length<a'.length+b'.length:=by
     rw[h1,h2]
     rcases hw with h|h
     ·subst h;cases wb <;> simp <;> omega
     ·subst h;cases wa <;> simp <;> omega
    by_cases he:gT (inA ^^ wa) (inB ^^ wb)=is
    ·rw[aC he]at J;refine QD (x:=(out,is)) (by rw[he,show(is != is)=false by simp,aM]) ?_;rw[he]at J;exact Q4 ⟨⟨_,_,J⟩,hlt⟩
    ·rw[aF he]at J;refine QD (x:=(out++[x],gT (inA ^^ wa)<|inB ^^ wb)) (by rw[show(gT (inA ^^ wa) (inB ^^ wb) != is)=true by simp[he],aK,j6 (by simp;omega),aB])<|Q4 ⟨⟨_,_,J⟩,hlt⟩
   rcases hw with rfl|rfl
   ·rw[aC rfl]at h1;subst h1;refine QD (x:=true) (by rw[lr,aK]) ?_;rw[aK];have hle2:(bif((b'.length:Nat):Int)==0 then some true else(bif decide ((((x::ta).length:Nat):Int)>0)then((idx (x::ta) 0).bind λx181=>(idx b' 0).bind λx183=>some<|decide<|x181<=x183)else some false))=some true:=by
     cases b' with
     |nil=>rfl
     |cons y b''=>
      rw[wV,aM,lr,aK,kp,aB,kp,aB];have:x<=y:=by
       cases wb with
       |true=>simp at h2;omega
       |false=>have:=hx y (.inr (by simp at h2;rw[<-h2];simp));omega
      rw[bJ this]
    refine QD hle2 ?_;rw[aK];refine QD (x:=x) (by rw[kp,aB]) ?_;refine QD (x:=true) (by rw[lr,aK,kp,aB];simp) ?_;refine QD (x:=(ta,!inA)) (by rw[aK,uq,aB]) ?_
    cases wb with
    |true=>
     rw[aC rfl]at h2;subst h2;refine QD (x:=true) (by rw[lr,aK,kp,aB];simp) ?_;refine QD (x:=(tb,!inB)) (by rw[aK,uq,aB]) ?_;exact fin _ _ (by simp) (by simp)
    |false=>
     have h2:b'=tb:=h2;subst h2;refine QD (x:=false) ?_ ?_
     ·cases b' with
      |nil=>rfl
      |cons y b''=>
       have:=hx y<|.inr (by simp)
       rw[lr,aK,kp,aB,show(y==x)=false by rw[beq_eq_false_iff_ne];omega]
     ·refine QD (x:=(b',inB)) (by rw[aM]) ?_;exact fin _ _ (by simp) (by simp)
   ·cases wa with
    |true=>
     rw[aC rfl]at h1 h2;subst h1;subst h2;refine QD (x:=true) (by rw[lr,aK]) ?_;rw[aK];refine QD (x:=true) (by rw[wV,aM,lr,aK,kp,aB,kp,aB];simp) ?_;rw[aK];refine QD (x:=x) (by rw[kp,aB]) ?_;refine QD (x:=true) (by rw[lr,aK,kp,aB];simp) ?_;refine QD (x:=(ta,!inA)) (by rw[aK,uq,aB]) ?_;refine QD (x:=true) (by rw[lr,aK,kp,aB];simp) ?_;refine QD (x:=(tb,!inB)) (by rw[aK,uq,aB]) ?_;exact fin _ _ (by simp) (by simp)
    |false=>
     have h1:a'=ta:=h1;rw[aC rfl]at h2;subst h1;subst h2;refine QD (x:=true) (by rw[lr,K2];simp) ?_;rw[aK];refine QD (x:=false) ?_ ?_
     ·rw[wV,aM]
      cases a' with
      |nil=>rfl
      |cons y a''=>
       have:=hx y<|.inl (by simp)
       rw[lr,aK,kp,aB,kp,aB,bQ (by omega)]
     ·rw[aM];refine QD (x:=x) (by rw[kp,aB]) ?_;refine QD (x:=false) ?_ ?_
      ·cases a' with
       |nil=>rfl
       |cons y a''=>
        have:=hx y<|.inl (by simp)
        rw[lr,aK,kp,aB,show(y==x)=false by rw[beq_eq_false_iff_ne];omega]
      ·refine QD (x:=(a',inA)) (by rw[aM]) ?_;refine QD (x:=true) (by rw[lr,aK,kp,aB];simp) ?_;refine QD (x:=(tb,!inB)) (by rw[aK,uq,aB]) ?_;exact fin _ _ (by simp) (by simp)
  ·have ea:a'= []:=Classical.byContradiction λh=>hne<|.inl h
   have eb:b'= []:=Classical.byContradiction λh=>hne<|.inr h
   subst ea;subst eb;refine QD (x:=false) rfl ?_;refine Q9 ⟨I.inc,?_,λx=>?_,λc hc=>?_⟩
   ·have h1:=I.ea;have h2:=I.eb;rw[lF]at h1 h2;have h3:IW out=false:=by
     rw[<-I.oo,I.ok,I.oa,I.ob,<-h1,<-h2];unfold IW;rw[hae,hbe];exact hk
    unfold IW at h3;rw[beq_eq_false_iff_ne]at h3;dsimp only;omega
   ·have:=I.OB x (λd hd=>by rcases hd with h|h <;> cases h);have h1:=I.ea;have h2:=I.eb;rw[lF]at h1 h2;rw[h1,h2];exact this
   ·have h1:=I.ea;have h2:=I.eb;rw[lF]at h1 h2;rw[h1,h2];exact I.mem c hc
 ·exact⟨[],[],rfl,rfl,rfl,rfl,rfl,hk.symm,λc hc=>(by rcases hc with h|h|h <;> cases h),j9,λx _=>hk.symm,λc hc=>(by cases hc),bV _⟩
 ·rintro o ho;exact Ra ho (λs h=>QC h)<|λr=>r.elim
theorem fM.app{s t:List Bd}(h:fM (s++t)):fM t:=⟨λb hb=>h.each b<|List.mem_append_right _ hb,(nM.1 h.ord).2.1⟩
theorem fM.low{b:Bd}{s:List Bd}(h:fM (b::s)):∀c∈b::s,b.y0<=c.y0:=λc hc=>by
 rcases dM.1 hc with rfl|hc
 ·exact Int.le_refl _
 ·have:=h.B9 c hc;have:=(h.each b (by simp)).1;omega
theorem fM.high{s:List Bd}{b:Bd}(h:fM (s++[b])):∀c∈s++[b],c.y1<=b.y1:=λc hc=>by
 rcases dI.1 hc with hc|hc
 ·have:=((nM.1 h.ord).2.2 c hc b (by simp)).1;have:=(h.each b (by simp)).1;omega
 ·simp at hc;subst hc;exact Int.le_refl _
def Gz(s:List aA)(y e:Int):List Int×Int:=match s with
 | []=>([],e)
 |b::_=>if y<b.Y0 then([],if b.Y0<e then b.Y0 else e)else(b.Xs,if b.Y1<e then b.Y1 else e)
theorem J6{α:Type}(x:α)(l:List α):idx (x::l) 0=some x:=rfl
theorem L1(s:List aA)(y e:Int):nT N s y e=some (Gz s y e):=by
 unfold nT Gz
 cases s with
 |nil=>rfl
 |cons b s=>
  dsimp only;rw[wV,aM,J6,aB,aB,aB,aB]
  by_cases h:y<b.Y0
  ·rw[bJ h,aK,aC h]
  ·rw[bQ h,aM,aF h]
theorem H4{s:List aA}{y e:Int}{X Y:List Int}(hc:fM (s.map cH))(hl:yu X Y (s.map cH))(hh:∀b t,s=b::t->y<b.Y1)(hy:y<e):
  y<(Gz s y e).2/\(Gz s y e).2<=e/\(∀y',y<=y'->y'<(Gz s y e).2->rowAt (s.map cH) y'=(Gz s y e).1)/\jW (Gz s y e).1/\(Gz s y e).1.length % 2=0/\((Gz s y e).2=e\/(Gz s y e).2∈Y)/\∀c∈(Gz s y e).1,c∈X:=by
 cases s with
 |nil=>exact⟨hy,Int.le_refl _,λy' _ _=>rfl,j9,rfl, .inl rfl,λc hc=>(by cases hc)⟩
 |cons b t=>
  have hb:=hc.each (cH b) (by simp);have hlb:=hl (cH b) (by simp);have h1:=hh b t rfl;unfold Gz;dsimp only
  by_cases h:y<b.Y0
  ·rw[aC h];dsimp only;refine⟨by split <;> omega,by split <;> omega,λy' h2 h3=>?_,j9,rfl,?_,λc hc=>(by cases hc)⟩
   ·exact hc.wR (by show y'<b.Y0;split at h3 <;> omega)
   ·split
    ·exact .inr hlb.1
    ·exact .inl rfl
  ·rw[aF h];dsimp only;refine⟨by split <;> omega,by split <;> omega,λy' h2 h3=>?_,hb.2.2.1,hb.2.2.2,?_,hlb.2.2⟩
   ·exact fM.nE (b:=cH b) (by show b.Y0<=y';omega) (by show y'<b.Y1;split at h3 <;> omega)
   ·split
    ·exact .inr hlb.2.1
    ·exact .inl rfl
theorem DE{y:Int}{a:List aA}(hN:a.length<N){body:List aA->Option (Fl (List aA) Empty)}
  (hb:body=λ(s373:List aA)=>((bif decide ((s373.length:Int)>0)then((idx s373 0).bind λx407=>some<|decide<|x407.Y1<=y)else some false).bind λs405=>bif s405 then((sY s373 1 (s373.length:Int)).bind λx410=>some<|.nx x410)else(some<|.br s373):Option (Fl (List aA) Empty))):
  Ok (iC body N a) (MJ (λa'=>∃p,a=p++a'/\(∀c∈p,c.Y1<=y)/\∀b t,a'=b::t->y<b.Y1)<|λ_=>True):=by
 subst hb;refine RJ (λa'=>∃p,a=p++a'/\∀c∈p,c.Y1<=y) List.length ?_ ⟨[],rfl,λc hc=>(by cases hc)⟩ hN;rintro a'⟨p,e,hp⟩
 cases a' with
 |nil=>exact QD (x:=false) rfl (Q9 ⟨p,e,hp,λb t h=>(by cases h)⟩)
 |cons b t=>
  refine QD (x:=decide<|b.Y1<=y) (by rw[lr,aK,J6,aB]) ?_;refine Q8 (λh=>?_)<|λh=>Q9 ⟨p,e,hp,λb' t' h'=>?_⟩
  ·have h:=of_decide_eq_true h;refine QD (uq b t)<|Q4 ⟨⟨p++[b],by rw[e];simp,λc hc=>?_⟩,by simp⟩
   rcases dI.1 hc with hc|hc
   ·exact hp c hc
   ·simp at hc;subst hc;exact h
  ·have h:=of_decide_eq_false h;injection h' with h1 h2;subst h1;omega
theorem FQ{p a':List Bd}{y y':Int}(hp:∀c∈p,c.y1<=y)(h:y<=y'):rowAt (p++a') y'=rowAt a' y':=by
 rw[rB,aF];rintro⟨b,hb,h1⟩;have:=hp b hb;omega
structure Em (gT:Bool->Bool->Bool) (X Y:List Int) (a b s:List aA):Prop where
 can:fM (s.map cH)
 cover:∀x y,vL (s.map cH) x y=gT (vL (a.map cH) x y) (vL (b.map cH) x y)
 lim:yu X Y (s.map cH)
theorem Cj{s:List aA}(hs:s≠[])(hl:s.length<=1099511627776)(hc:fM (s.map cH)):∃f l,idx s 0=some f/\idx s (wrap .i64<|((s.length:Nat):Int) - 1)=some l/\f∈s/\l∈s/\∀c∈s,f.Y0<=c.Y0/\c.Y1<=l.Y1:=by
 cases s with
 |nil=>exact absurd rfl hs
 |cons f t=>
  rw[iH (by simp) (by omega)];have hlt:(f::t).length - 1<(f::t).length:=by simp
  refine⟨f,(f::t)[(f::t).length - 1],rfl,lH _ _ hlt,by simp,cC _,λc hcm=>⟨?_,?_⟩⟩
  ·exact hc.low (cH c)<|dD.2 ⟨c,hcm,rfl⟩
  ·have e:(f::t)=(f::t).dropLast++[(f::t)[(f::t).length - 1]]:=by
    have:=List.dropLast_concat_getLast (show f::t≠[]by simp);rw[<-List.getLast_eq_getElem (h:=by simp)];exact this.symm
   generalize (f::t)[(f::t).length - 1]=l at e;have hc2:=hc;rw[e,dG]at hc2;have hm:cH c∈(List.map cH (f::t).dropLast++[cH l]):=by
    have:cH c∈(f::t).map cH:=dD.2 ⟨c,hcm,rfl⟩;rw[e,dG]at this;exact this
   exact fM.high hc2 (cH c) hm
theorem Ha{φ:Bool->Bool->Option Bool}{gT:Bool->Bool->Bool}(hφ:∀p q,φ p q=some (gT p q))(hk:gT false false=false){a b:List aA}{X Y:List Int}(ca:fM (a.map cH))(cb:fM (b.map cH))
  (la:yu X Y (a.map cH)) (lb:yu X Y (b.map cH)) (hX:X.length<=1048576000) (hY:Y.length<=1048576000) (hs:∀c∈Y,small c) (hN:4398046511104<=N):Ok (qy N a b φ) (Em gT X Y a b):=by
 have qx:a.length<=Y.length:=by have:=la.len ca;rwa[cE]at this
 have hbl:b.length<=Y.length:=by have:=lb.len cb;rwa[cE]at this
 unfold qy;rw[wrap_add (by omega)];refine Q8 (λh=>QC ?_)<|λh=>?_
 ·have h:a.length+b.length=0:=by have:=beq_iff_eq.1 h;omega
  have e1:a= []:=List.eq_nil_of_length_eq_zero (by omega);have e2:b= []:=List.eq_nil_of_length_eq_zero (by omega);subst e1;subst e2;exact⟨fM.nil,λx y=>hk.symm,λc hc=>(by cases hc)⟩
 have h0:a≠[]\/b≠[]:=by
  rw[beq_eq_false_iff_ne]at h
  by_cases e:a= []
  ·right;intro e2;subst e;subst e2;exact h rfl
  ·exact .inl e
 refine QJ (RR (λk s=>match k with| 0=>True| 1=>a= []\/((∀c∈a,s.1<=c.Y0/\c.Y1<=s.2)/\s.1∈Y/\s.2∈Y)|_=>(∀c∈a,s.1<=c.Y0/\c.Y1<=s.2)/\(∀c∈b,s.1<=c.Y0/\c.Y1<=s.2)/\s.1∈Y/\s.2∈Y) (by simp) trivial<|λk s hk hI=>?_) ?_
 ·obtain⟨y,e⟩:=s;have hk:k=0\/k=1:=by simp at hk;omega
  rcases hk with rfl|rfl
  ·refine QU (x:=a) rfl ?_
   by_cases ea:a= []
   ·subst ea;exact QD (x:=(y,e)) rfl<|QC<|.inl rfl
   ·obtain⟨f,l,f1,f2,f3,f4,f5⟩:=Cj ea (by omega) ca;have hpos:decide (((a.length:Nat):Int)>0)=true:=bJ (by have:=List.length_pos_iff.2 ea;omega);refine QD (x:=(f.Y0,l.Y1)) ?_<|QC<|.inr ⟨f5,(la _<|dD.2 ⟨f,f3,rfl⟩).1,(la _<|dD.2 ⟨l,f4,rfl⟩).2.1⟩
    rw[hpos,aK];show((some true).bind _)=_;rw[aB,aK,f1,aB,f2,aB,aB,aB,aB];simp
  ·refine QU (x:=b) rfl ?_;have hI:a= []\/((∀c∈a,y<=c.Y0/\c.Y1<=e)/\y∈Y/\e∈Y):=hI
   by_cases eb:b= []
   ·subst eb;refine QD (x:=(y,e)) rfl<|QC ?_
    rcases hI with h|⟨h1,h2,h3⟩
    ·rcases h0 with h'|h'
     ·exact absurd h h'
     ·exact absurd rfl h'
    ·exact⟨h1,λc hc=>(by cases hc),h2,h3⟩
   ·obtain⟨f,l,f1,f2,f3,f4,f5⟩:=Cj eb (by omega) cb;have hpos:decide (((b.length:Nat):Int)>0)=true:=bJ (by have:=List.length_pos_iff.2 eb;omega);have g1:f.Y0∈Y:=(lb _<|dD.2 ⟨f,f3,rfl⟩).1;have g2:l.Y1∈Y:=(lb _<|dD.2 ⟨l,f4,rfl⟩).2.1
    by_cases ea:a= []
    ·subst ea;refine QD (x:=(f.Y0,l.Y1)) ?_<|QC ⟨λc hc=>(by cases hc),f5,g1,g2⟩
     rw[hpos,aK];show((some true).bind _)=_;rw[aB,aK,f1,aB,f2,aB,aB,aB,aB];simp
    ·obtain⟨h1,h2,h3⟩:=hI.resolve_left ea;refine QD (x:=(if f.Y0<y then f.Y0 else y,if e<l.Y1 then l.Y1 else e)) ?_<|QC ⟨λc hc=>?_,λc hc=>?_,?_,?_⟩
     ·rw[hpos,aK];have ez:(((a.length:Nat):Int)==0)=false:=by rw[beq_eq_false_iff_ne];have:=List.length_pos_iff.2 ea;omega
      rw[ez];show((some false).bind _)=_;rw[aB,aM,aB,f1,aB,f2,aB]
     ·have:=h1 c hc;dsimp only;split <;> split <;> omega
     ·have:=f5 c hc;dsimp only;split <;> split <;> omega
     ·dsimp only;split
      ·exact g1
      ·exact h2
     ·dsimp only;split
      ·exact g2
      ·exact h3
 ·rintro⟨y0,e0⟩hI;have hI:(∀c∈a,y0<=c.Y0/\c.Y1<=e0)/\(∀c∈b,y0<=c.Y0/\c.Y1<=e0)/\y0∈Y/\e0∈Y:=hI;obtain⟨ia,ib,iy,ie⟩:=hI;have sy:=hs _ iy;have se:=hs _ ie;unfold small at sy se;dsimp only
  refine QJ (RJ (Go:=λs=>Em gT X Y a b s.2.2.1) (Rt:=λ_=>True)
   (λs=>∃pa pb,a=pa++s.1/\b=pb++s.2.1/\(∀c∈pa,c.Y1<=s.2.2.2)/\(∀c∈pb,c.Y1<=s.2.2.2)/\y0<=s.2.2.2/\s.2.2.2<=max y0 e0/\s.2.2.2∈Y/\fM (s.2.2.1.map cH)/\yu X Y (s.2.2.1.map cH)/\(∀c∈s.2.2.1,c.Y1<=s.2.2.2)/\
    ∀x y,vL (s.2.2.1.map cH) x y=(gT (vL (a.map cH) x y) (vL (b.map cH) x y)&&decide (y<s.2.2.2)))
   (λs=>(e0 - s.2.2.2).toNat) ?_ ?_ (by dsimp only;omega)) ?_
  ·rintro⟨a',b',out,y⟩⟨pa,pb,ea,eb,hpa,hpb,hy0,hye,hyY,hcan,hlim,htop,hcov⟩;dsimp only at ea eb hpa hpb hy0 hye hyY hcan hlim htop hcov ⊢;refine Q8 (λh=>?_)<|λh=>Q9 ?_
   ·have hlt:y<e0:=of_decide_eq_true h;have hsl:∀(p s t:List aA),t=p++s->s.length<=t.length:=λp s t e=>by rw[e];simp
    have hal':=hsl _ _ _ ea;have hbl':=hsl _ _ _ eb;refine QJ (DE (y:=y) (a:=a') (by omega) rfl)<|λo ho=>Ra ho ?_<|λr=>r.elim
    rintro a2⟨qa,ea2,hqa,hha⟩;refine QJ (DE (y:=y) (a:=b') (by omega) rfl)<|λo ho=>Ra ho ?_<|λr=>r.elim
    rintro b2⟨qb,eb2,hqb,hhb⟩;have ea3:a=(pa++qa)++a2:=by rw[ea,ea2];simp
    have eb3:b=(pb++qb)++b2:=by rw[eb,eb2];simp
    have hPa:∀c∈pa++qa,c.Y1<=y:=λc hc=>by rcases dI.1 hc with h|h;exact hpa c h;exact hqa c h
    have hPb:∀c∈pb++qb,c.Y1<=y:=λc hc=>by rcases dI.1 hc with h|h;exact hpb c h;exact hqb c h
    have ca2:fM (a2.map cH):=by have:=ca;rw[ea3,dG]at this;exact this.app
    have cb2:fM (b2.map cH):=by have:=cb;rw[eb3,dG]at this;exact this.app
    have la2:yu X Y (a2.map cH):=λc hc=>la c (by rw[ea3,dG];exact List.mem_append_right _ hc);have lb2:yu X Y (b2.map cH):=λc hc=>lb c (by rw[eb3,dG];exact List.mem_append_right _ hc);refine QD (L1 a2 y e0)<|QD (L1 b2 y e0) ?_
    obtain⟨a1,a3,a4,a5,a6,a7,a8⟩:=H4 ca2 la2 hha hlt;obtain⟨b1,b3,b4,b5,b6,b7,b8⟩:=H4 cb2 lb2 hhb hlt;have hal2:(Gz a2 y e0).1.length<=X.length:=fS a5.nodup a8;have hbl2:(Gz b2 y e0).1.length<=X.length:=fS b5.nodup b8;generalize Gz a2 y e0=pa2 at *;generalize Gz b2 y e0=pb2 at *;obtain⟨xa,n⟩:=pa2;obtain⟨xb,m⟩:=pb2;dsimp only at *;refine QJ (IX hφ hk a5 b5 a6 b6 (by omega) (by omega) (by omega)) ?_;rintro row⟨r1,r2,r3,r4⟩;have hnx:∃nx,nx=(if m<n then m else n)/\y<nx/\nx<=e0/\nx<=n/\nx<=m/\nx∈Y:=by
     refine⟨_,rfl,by split <;> omega,by split <;> omega,by split <;> omega,by split <;> omega,?_⟩;split
     ·rcases b7 with h|h
      ·rw[h];exact ie
      ·exact h
     ·rcases a7 with h|h
      ·rw[h];exact ie
      ·exact h
    obtain⟨nx,hnx,n1,n2,n3,n4,n5⟩:=hnx;rw[<-hnx];have hol:out.length<=Y.length:=by have:=hlim.len hcan;rwa[cE]at this
    obtain⟨out',p1,p2⟩:=H2 (N:=N) (s:=out) (b:=⟨y,nx,row⟩) (by omega) (λc hc=>by
     have:=hlim.row hcan (b:=cH c)<|dD.2 ⟨c,hc,rfl⟩
     have e:(cH c).xs=c.Xs:=rfl
     rw[e]at this;omega)
    refine QD p1 ?_;have htop':∀c∈out.map cH,c.y1<=(cH ⟨y,nx,row⟩).y0:=λc hc=>by
     obtain⟨d,hd,rfl⟩:=dD.1 hc;exact htop d hd
    refine Q4 ⟨⟨pa++qa,pb++qb,ea3,eb3,λc hc=>by have:=hPa c hc;dsimp only;omega,λc hc=>by have:=hPb c hc;dsimp only;omega,by dsimp only;omega,by dsimp only;omega,n5,by dsimp only;rw[p2];exact wT hcan htop' r1 r2,?_,λc hc=>?_,λx y'=>?_⟩,by dsimp only;omega⟩
    ·dsimp only;rw[p2];refine hlim.push hyY n5<|λc hc=>?_
     rcases r4 c hc with h|h
     ·exact a8 c h
     ·exact b8 c h
    ·have hm':cH c∈kg (out.map cH) (cH ⟨y,nx,row⟩):=by rw[<-p2];exact dD.2 ⟨c,hc,rfl⟩
     exact wU htop' (by show y<=nx;omega) _ hm'
    ·show p7 (rowAt (out'.map cH) y') x=_;rw[p2,wS htop' (λc hc=>(hcan.each c hc).1)<|λh=>absurd h (by show ¬nx<=y;omega)]
     by_cases hyy:y<=y'/\y'<nx
     ·rw[aC (show(cH ⟨y,nx,row⟩).y0<=y'/\y'<(cH ⟨y,nx,row⟩).y1 from hyy),bJ hyy.2,Bool.and_true];show p7 row x=_;have mp:∀p q:List aA,(∀c∈p++q,c.Y1<=y)->∀c∈(p++q).map cH,c.y1<=y:=λp q h c hc=>by
       obtain⟨d,hd,rfl⟩:=dD.1 hc;exact h d hd
      have q1:vL (a.map cH) x y'=p7 xa x:=by
       unfold vL;rw[ea3,dG,FQ (mp _ _ hPa) hyy.1,a4 y' hyy.1 (by omega)]
      have q2:vL (b.map cH) x y'=p7 xb x:=by
       unfold vL;rw[eb3,dG,FQ (mp _ _ hPb) hyy.1,b4 y' hyy.1 (by omega)]
      rw[r3,q1,q2]
     ·rw[aF (show ¬((cH ⟨y,nx,row⟩).y0<=y'/\y'<(cH ⟨y,nx,row⟩).y1)from hyy)];show vL (out.map cH) x y'=_;rw[hcov]
      by_cases h1:y'<y
      ·rw[bJ h1,bJ (show y'<nx by omega)]
      ·rw[bQ h1,bQ (show ¬y'<nx by omega)]
   ·have hge:e0<=y:=by have:=of_decide_eq_false h;omega
    refine⟨hcan,λx y'=>?_,hlim⟩;dsimp only;rw[hcov]
    by_cases h1:y'<y
    ·rw[bJ h1,Bool.and_true]
    ·have z:∀s:List aA,(∀c∈s,y0<=c.Y0/\c.Y1<=e0)->vL (s.map cH) x y'=false:=λs h=>by
      unfold vL;rw[mo λc hc=>?_]
      ·rfl
      ·obtain⟨d,hd,rfl⟩:=dD.1 hc;exact .inr (by have:=(h d hd).2;show d.Y1<=y';omega)
     rw[z a ia,z b ib,hk];rfl
  ·refine⟨[],[],rfl,rfl,λc hc=>(by cases hc),λc hc=>(by cases hc),Int.le_refl _,by dsimp only;omega,iy,fM.nil,λc hc=>(by cases hc),λc hc=>(by cases hc),λx y=>?_⟩;dsimp only;show false=_
   by_cases h1:y<y0
   ·have z:∀s:List aA,(∀c∈s,y0<=c.Y0/\c.Y1<=e0)->vL (s.map cH) x y=false:=λs h=>by
     unfold vL;rw[mo λc hc=>?_]
     ·rfl
     ·obtain⟨d,hd,rfl⟩:=dD.1 hc;exact .inl (by have:=(h d hd).1;show y<d.Y0;omega)
    rw[z a ia,z b ib,hk];rfl
   ·rw[bQ h1,Bool.and_false]
  ·rintro o ho;exact Ra ho (λs h=>QC h)<|λr=>r.elim
theorem IY{a b:List aA}{X Y:List Int}(ca:fM (a.map cH))(cb:fM (b.map cH))(la:yu X Y (a.map cH))(lb:yu X Y (b.map cH))(hX:X.length<=1048576000)(hY:Y.length<=1048576000)(hs:∀c∈Y,small c)(hN:4398046511104<=N):
  Ok (lN N a b) (Em (λp q=>p&& !q) X Y a b):=by
 unfold lN;exact QJ (Ha (gT:=λp q=>p&& !q) (λp q=>rfl) rfl ca cb la lb hX hY hs hN)<|λs h=>QC h
end
section
variable {N:Nat}
structure UF (n:Nat) (up:List Int) (r:Nat->Nat):Prop where
 len:up.length=n
 rt:∀i,i<n->∃u:Nat,up[i]? =some ((u:Nat):Int)/\u<=i/\r u=r i/\(u=i↔r i=i)
theorem UF.le{n:Nat}{up:List Int}{r:Nat->Nat}(h:UF n up r):∀i,i<n->r i<=i:=by
 intro i
 induction i using Nat.strongRecOn with
 |ind i ih=>
  intro hi;obtain⟨u,_,h2,h3,h4⟩:=h.rt i hi
  by_cases e:u=i
  ·rw[h4.1 e];exact bV _
  ·rw[<-h3];have:=ih u (by omega) (by omega);omega
theorem UF.rr{n:Nat}{up:List Int}{r:Nat->Nat}(h:UF n up r):∀i,i<n->r (r i)=r i:=by
 intro i
 induction i using Nat.strongRecOn with
 |ind i ih=>
  intro hi;obtain⟨u,_,h2,h3,h4⟩:=h.rt i hi
  by_cases e:u=i
  ·rw[h4.1 e,h4.1 e]
  ·rw[<-h3];exact ih u (by omega) (by omega)
theorem oQ{l:List Int}{j:Nat}{v:Int}{i:Nat}(hj:j<l.length):(l.set j v)[i]? =if i=j then some v else l[i]? :=by
 rw[fE]
 by_cases e:j=i
 ·rw[aC e,aC e.symm,aC hj]
 ·rw[aF e,aF<|λh=>e h.symm]
theorem UF.init(n:Nat)(up:List Int)(h1:up.length=n)(h2:∀i,i<n->up[i]? =some ((i:Nat):Int)):UF n up (λi=>i):=
 ⟨h1,λi hi=>⟨i,h2 i hi,bV _,rfl,by simp⟩⟩
theorem FR{n:Nat}(hn:n<=1048576000):∃up,lO N ((n:Nat):Int)=some up/\UF n up (λi=>i):=by
 unfold lO;rw[qo 0 (by omega),aB];have h0:(List.replicate n (0:Int)).length=n:=by simp
 obtain⟨s',h1,h2⟩:=Bl (m:=(List.replicate n (0:Int)).length) (s:=List.replicate n (0:Int)) (body:=λ(k34:Nat)(s35:List Int)=>((idx s35 (k34:Int)).bind λx38=>some (s35.set (Int.toNat (k34:Int)) (k34:Int)):Option (List Int)))
  (λk s=>s.length=n/\∀i,i<k->s[i]? =some ((i:Nat):Int)) (by omega) ⟨h0,λi hi=>by omega⟩ (λk s hk⟨hs,hi⟩=>by
   refine⟨s.set k ((k:Nat):Int),?_,by simp[hs],λi hi'=>?_⟩
   ·rw[lH _ _ (by omega),aB,cB]
   ·rw[oQ (by omega)];split
    ·rename_i e;rw[e]
    ·exact hi i (by omega))
 rw[h1,aB];exact⟨s',rfl,UF.init n s' h2.1<|λi hi=>h2.2 i (by omega)⟩
theorem En{n:Nat}{up:List Int}{r:Nat->Nat}(h:UF n up r){i:Nat}(hi:i<n)(hn:n<N):∃up',iv N up ((i:Nat):Int)=some (((r i:Nat):Int),up')/\UF n up' r:=by
 unfold iv;obtain⟨o,h1,h2⟩:=y6 (R:=Empty) (body:=λ(s32:List Int×Int)=>((idx s32.1 s32.2).bind λx43=>bif x43 != s32.2 then((idx s32.1 s32.2).bind λx44=>(idx s32.1 x44).bind λx45=>(idx s32.1 s32.2).bind λx46=>(idx (s32.1.set (Int.toNat s32.2) x45) s32.2).bind λx47=>some<|.nx (s32.1.set (Int.toNat s32.2) x45,x47))else(some<|.br (s32.1,s32.2)):Option (Fl (List Int×Int) Empty)))
  (λs=>UF n s.1 r/\∃j:Nat,s.2=((j:Nat):Int)/\j<n/\r j=r i) (λs=>s.2.toNat) (λs=>s.2=((r i:Nat):Int)/\UF n s.1 r) (λ_=>True) (λs⟨hu,j,hj,hjn,hr⟩=>by
   obtain⟨l,y⟩:=s;dsimp only at hu hj ⊢;subst hj;obtain⟨u,a1,a2,a3,a4⟩:=hu.rt j hjn;rw[dC a1,aB]
   by_cases e:u=j
   ·subst e;refine⟨.br (l,((u:Nat):Int)),by rw[show(((u:Nat):Int) != ((u:Nat):Int))=false by simp,aM],?_,hu⟩;show((u:Nat):Int)=_;rw[<-hr,a4.1 rfl]
   ·obtain⟨v,b1,b2,b3,b4⟩:=hu.rt u (by omega);have hl:=hu.len
    refine⟨.nx (l.set j ((v:Nat):Int),((v:Nat):Int)),by
     rw[show(((u:Nat):Int) != ((j:Nat):Int))=true by simp;omega,aK,aB,dC b1,aB,aB,cB,
      dC (x:=((v:Nat):Int)) (by rw[oQ (by omega),aC rfl]),aB],⟨⟨by simp[hl],λk hk=>?_⟩,v,rfl,by omega,?_⟩,?_⟩
    ·rw[oQ (by omega)]
     by_cases e2:k=j
     ·subst e2;rw[aC rfl];refine⟨v,rfl,by omega,by rw[b3,a3],?_⟩;constructor
      ·intro h;omega
      ·intro h;exact absurd (a4.2 h) e
     ·rw[aF e2];exact hu.rt k hk
    ·rw[b3,a3,hr]
    ·simp only[cB];omega)
  N (up,((i:Nat):Int)) ⟨h,i,rfl,hi,rfl⟩ (by simp only[cB];omega)
 rw[h1,aB]
 cases o with
 |go s'=>exact⟨s'.1,by rw[<-h2.1];rfl,h2.2⟩
 |rt r=>exact r.elim
def pZ(r:Nat->Nat)(a b:Nat):Nat->Nat:=λx=>if r x=max a b then min a b else r x
theorem J7(a b:Nat):(if((a:Nat):Int)<((b:Nat):Int)then((b:Nat):Int)else((a:Nat):Int))=((max a b:Nat):Int):=by
 rw[Nat.max_def];split <;> split <;> omega
theorem J8(a b:Nat):(if((b:Nat):Int)<((a:Nat):Int)then((b:Nat):Int)else((a:Nat):Int))=((min a b:Nat):Int):=by
 rw[Nat.min_def];split <;> split <;> omega
theorem Lb{n:Nat}{up:List Int}{r:Nat->Nat}(h:UF n up r){i k:Nat}(hi:i<n)(hk:k<n)(hn:n<N):
  ∃up',iS N up ((i:Nat):Int) ((k:Nat):Int)=some up'/\UF n up' (pZ r (r i)<|r k):=by
 obtain⟨u1,a1,a2⟩:=En h hi hn;obtain⟨u2,b1,b2⟩:=En a2 hk hn;have hri:=h.le i hi;have hrk:=h.le k hk;have rri:=h.rr i hi;have rrk:=h.rr k hk;unfold iS;rw[a1,aB,b1,aB];dsimp only;rw[J7,J8];have hm:max (r i) (r k)<n:=by omega
 have hl:=b2.len;rw[lH _ _ (by omega),aB,cB];refine⟨_,rfl,by simp[hl],λx hx=>?_⟩;have rmax:r (max (r i)<|r k)=max (r i) (r k):=by rcases Nat.le_total (r i) (r k)with e|e <;> simp[Nat.max_def] <;> split <;> omega
 have rmin:r (min (r i)<|r k)=min (r i) (r k):=by rcases Nat.le_total (r i) (r k)with e|e <;> simp[Nat.min_def] <;> split <;> omega
 rw[oQ (by omega)]
 by_cases e:x=max (r i) (r k)
 ·subst e;rw[aC rfl];refine⟨min (r i)<|r k,rfl,by omega,?_,?_⟩
  ·unfold pZ;rw[rmin,rmax,aC rfl];split <;> rfl
  ·unfold pZ;rw[rmax,aC rfl]
 ·rw[aF e];obtain⟨u,c1,c2,c3,c4⟩:=b2.rt x hx;refine⟨u,c1,c2,?_,?_⟩
  ·unfold pZ;rw[c3]
  ·unfold pZ;split
   ·rename_i e2;constructor
    ·intro hu;have:=c4.1 hu;omega
    ·intro hu;have h1:=b2.le x hx;have:min (r i) (r k)=max (r i) (r k)\/x<max (r i) (r k):=by omega
     have h3:x=max (r i) (r k):=by omega
     exact absurd h3 e
   ·exact c4
def sB(r:Nat->Nat)(E:List (Nat×Nat)):Prop:=∀p∈E,r p.1=r p.2
def Ck(n:Nat)(r:Nat->Nat)(E:List (Nat×Nat)):Prop:=∀S:Nat->Prop,(∀p∈E,S p.1↔S p.2)->∀i j,i<n->j<n->r i=r j->S i->S j
theorem sB.join{r:Nat->Nat}{E:List (Nat×Nat)}(h:sB r E)(i k:Nat)(_h2:r (r i)=r i):sB (pZ r (r i)<|r k) (E++[(i,k)]):=λp hp=>by
 rcases dI.1 hp with hp|hp
 ·unfold pZ;rw[h p hp]
 ·simp at hp;subst hp;unfold pZ;dsimp only;split <;> split <;> omega
theorem Ck.join{n:Nat}{r:Nat->Nat}{E:List (Nat×Nat)}(h:Ck n r E){i k:Nat}(hi:i<n)(hk:k<n):Ck n (pZ r (r i)<|r k) (E++[(i,k)]):=λS hS x y hx hy hr hSx=>by
 have hE:∀p∈E,S p.1↔S p.2:=λp hp=>hS p<|List.mem_append_left _ hp
 have hik:S i↔S k:=hS (i,k) (by simp);have key:=h S hE;unfold pZ at hr
 by_cases h1:r x=r y
 ·exact key x y hx hy h1 hSx
 ·have:(r x=r i/\r y=r k)\/(r x=r k/\r y=r i):=by
   split at hr <;> split at hr <;> omega
  rcases this with⟨e1,e2⟩|⟨e1,e2⟩
  ·exact key k y hk hy e2.symm<|hik.1<|key x i hx hi e1 hSx
  ·exact key i y hi hy e2.symm<|hik.2<|key x k hx hk e1 hSx
theorem Ck.id(n:Nat):Ck n (λi=>i) []:=λS _ i j _ _ h hs=>by
 have h:i=j:=h;subst h;exact hs
theorem sB.id:sB (λi=>i) []:=λp hp=>by simp at hp
def bT(n:Nat)(r:Nat->Nat):List Nat:=(List.range n).filter<|λk=>decide<|r k=k
def cls(n:Nat)(r:Nat->Nat)(k:Nat):List Nat:=(List.range n).filter<|λi=>decide<|r i=k
theorem gV(n:Nat)(r:Nat->Nat):bT (n+1) r=if r n=n then bT n r++[n]else bT n r:=by
 unfold bT;rw[List.range_succ,jq]
 by_cases h:r n=n
 ·rw[aC h];simp[h]
 ·rw[aF h];simp[h]
theorem wv(n:Nat)(r:Nat->Nat)(k:Nat):cls (n+1) r k=if r n=k then cls n r k++[n]else cls n r k:=by
 unfold cls;rw[List.range_succ,jq]
 by_cases h:r n=k
 ·rw[aC h];simp[h]
 ·rw[aF h];simp[h]
theorem lZ(n:Nat)(r:Nat->Nat):(bT n r).length<=n:=by
 have:=kP (λk=>decide<|r k=k)<|List.range n
 rw[List.length_range]at this;exact this
theorem Bp(n:Nat)(r:Nat->Nat)(k:Nat):(cls n r k).length<=n:=by
 have:=kP (λi=>decide<|r i=k)<|List.range n
 rw[List.length_range]at this;exact this
theorem jR{n k:Nat}{r:Nat->Nat}:k∈bT n r↔k<n/\r k=k:=by unfold bT;simp
theorem nH(n:Nat)(r:Nat->Nat):(bT n r).Nodup:=List.Nodup.sublist List.filter_sublist List.nodup_range
def sC(n:Nat)(r:Nat->Nat):List (List Int):=(bT n r).map<|λk=>(cls n r k).map<|λi=>((i:Nat):Int)
theorem H5{n k:Nat}{r:Nat->Nat}(h:∀i,i<n->r i<=i)(hk:n<=k):cls n r k= []:=by
 unfold cls;rw[List.filter_eq_nil_iff];intro i hi;have h1:=oH.1 hi;have:=h i h1;simp;omega
theorem wx{α β:Type}(f g:α->β)(l:List α)(j:Nat)(a:α)(hn:l.Nodup)(hj:l[j]? =some a)(hf:∀b,b∈l->b≠a->f b=g b):(l.map f).set j (g a)=l.map g:=by
 apply List.ext_getElem?;intro i;have hjl:=(aZ.1 hj).1;rw[fE,cE,eR,eR]
 by_cases e:j=i
 ·subst e;rw[aC rfl,aC hjl,hj];rfl
 ·rw[aF e]
  cases hb:l[i]? with
  |none=>rfl
  |some b=>
   have hne:b≠a:=λhe=>by
    subst he;have hil:=(aZ.1 hb).1;exact e<|(List.getElem_inj hn).1 (by rw[(aZ.1 hb).2,(aZ.1 hj).2]) |>.symm
   show some (f b)=some (g b);rw[hf b (eL hb) hne]
def OC(n:Nat)(r:Nat->Nat)(m:List (Int×Int)):Prop:=∀(j k:Nat),(bT n r)[j]? =some k->eX m ((k:Nat):Int) 0=((j:Nat):Int)
theorem Lc{n:Nat}{up:List Int}{r:Nat->Nat}(h:UF n up r)(hn:n<N)(hn2:n<=1048576000):∃up',kH N up=some (sC n r,up')/\UF n up' r:=by
 unfold kH;have hlen:=h.len;have hle:=h.le;have hrr:=h.rr;obtain⟨s',h1,h2⟩:=Bl (m:=up.length) (s:=(up,([]:List (List Int)),([]:List (Int×Int))))
  (body:=λ(k32:Nat)(s33:List Int×List (List Int)×List (Int×Int))=>((iv N s33.1 (k32:Int)).bind λx117=>(bif x117.1==(k32:Int)then((app 24 s33.2.1 [([]:List Int)]).bind λx126=>some (x126,om s33.2.2 (k32:Int) (s33.2.1.length:Int)))else some (s33.2.1,s33.2.2)).bind λs122=>(idx s122.1<|eX s122.2 x117.1 (0:Int)).bind λx128=>(app 8 x128 ([(k32:Int)]:List Int)).bind λx134=>(idx s122.1<|eX s122.2 x117.1 (0:Int)).bind λx136=>some (x117.2,s122.1.set (Int.toNat<|eX s122.2 x117.1 (0:Int)) x134,s122.2):Option (List Int×List (List Int)×List (Int×Int))))
  (λk s=>UF n s.1 r/\s.2.1=sC k r/\OC k r s.2.2) (by omega) ⟨h,rfl,λj k hj=>by simp[bT]at hj⟩ (λk s hk⟨hu,hs,hm⟩=>by
   obtain⟨l,ss,m⟩:=s;dsimp only at hu hs hm ⊢;subst hs;rw[hlen]at hk;obtain⟨u',a1,a2⟩:=En hu hk hn;rw[a1,aB];dsimp only;have hhl:=lZ k r;have hsl:(sC k r).length=(bT k r).length:=by unfold sC;simp
   have hrk:=hle k hk
   by_cases e:r k=k
   ·
    rw[show(((r k:Nat):Int)==((k:Nat):Int))=true by rw[e];simp,aK,j6 (by rw[hsl];simp;omega),aB,aB];dsimp only;rw[e,uj,aC rfl,hsl];have hi:(sC k r++[([]:List Int)])[(bT k r).length]? =some []:=by rw[<-hsl,g9<|bV _,Nat.sub_self];rfl
    rw[dC hi,aB,j6 (by simp),aB,aB,cB];refine⟨_,rfl,a2,?_,λj q hj=>?_⟩
    ·dsimp only;rw[<-hsl,List.set_append_right _ _<|bV _,Nat.sub_self];unfold sC;rw[gV,aC e,dG];congr 1
     ·apply List.map_congr_left;intro a ha;have:=(jR.1 ha).1;rw[wv,aF (by omega)]
     ·simp only[List.set_cons_zero,dW,List.map_nil,List.nil_append];rw[wv,aC e,H5 (λi hi=>hle i (by omega))<|bV _];rfl
    ·dsimp only;rw[gV,aC e]at hj;rw[uj]
     by_cases e2:j<(bT k r).length
     ·rw[gp e2]at hj;have:=(jR.1<|eL hj).1;rw[aF (by omega)];exact hm j q hj
     ·rw[g9 (by omega)]at hj;have hj0:j -(bT k r).length=0:=by
       have:=(aZ.1 hj).1;simp at this;omega
      rw[hj0]at hj;simp at hj;subst hj;rw[aC rfl];congr 1;omega
   ·rw[show(((r k:Nat):Int)==((k:Nat):Int))=false by simp;omega,aM,aB];dsimp only;have hh:r k∈bT k r:=jR.2 ⟨by omega,hrr k hk⟩;obtain⟨j,hj⟩:=dN hh;rw[hm j (r k) hj];have hcl:=Bp k r<|r k
    have hi:(sC k r)[j]? =some ((cls k r<|r k).map<|λi=>((i:Nat):Int)):=by unfold sC;rw[eR,hj];rfl
    rw[dC hi,aB,j6 (by simp;omega),aB,aB,cB];refine⟨_,rfl,a2,?_,λj' q hj'=>?_⟩
    ·unfold sC;rw[gV,aF e]
     have:=wx (λa=>(cls k r a).map (λi=>((i:Nat):Int))) (λa=>(cls (k+1) r a).map (λi=>((i:Nat):Int))) (bT k r) j (r k) (nH k r) hj (λb hb hne=>by
      rw[wv,aF (λh=>hne h.symm)])
     rw[wv,aC rfl,dG]at this;exact this
    ·rw[gV,aF e]at hj';exact hm j' q hj')
 rw[h1,aB];obtain⟨l,ss,m⟩:=s';dsimp only at h2;rw[hlen]at h2;refine⟨l,?_,h2.1⟩;rw[<-h2.2.1]
end
section
variable {N:Nat}
theorem Eo{n:Nat}{up:List Int}{r:Nat->Nat}(h:UF n up r){i:Nat}(hi:i<n)(hn:n<N):∃up',gj N ((i:Nat):Int) up=some (((r i:Nat):Int),up')/\UF n up' r:=by
 unfold gj
 have:=QJ (β:=Int×List Int) (Q:=λx=>x.1=((r i:Nat):Int)/\UF n x.2 r) (RJ (body:=λ(s32:Int×(List Int))=>((idx s32.2 s32.1).bind λx43=>bif(x43 != s32.1)then((idx s32.2 s32.1).bind λx44=>(idx s32.2 x44).bind λx45=>(idx s32.2 s32.1).bind λx46=>(idx (s32.2.set (Int.toNat s32.1) x45) s32.1).bind λx47=>some (.nx (x47,(s32.2.set (Int.toNat s32.1) x45))))else(some (.br (s32.1,s32.2))):Option (Fl (Int×(List Int)) Empty)))
  (N:=N) (s:=(((i:Nat):Int),up)) (Go:=λs=>s.1=((r i:Nat):Int)/\UF n s.2 r) (Rt:=λ_=>True) (λs=>UF n s.2 r/\∃j:Nat,s.1=((j:Nat):Int)/\j<n/\r j=r i) (λs=>s.1.toNat) (by
   rintro⟨y,l⟩⟨hu,j,hj,hjn,hr⟩;dsimp only at hu hj ⊢;subst hj;obtain⟨u,a1,a2,a3,a4⟩:=hu.rt j hjn;refine QU a1 ?_
   by_cases e:u=j
   ·subst e;rw[show(((u:Nat):Int) != ((u:Nat):Int))=false by simp,aM];refine Q9 ⟨?_,hu⟩;show((u:Nat):Int)=_;rw[<-hr,a4.1 rfl]
   ·obtain⟨v,b1,b2,b3,b4⟩:=hu.rt u (by omega);have hl:=hu.len;rw[show(((u:Nat):Int) != ((j:Nat):Int))=true by simp;omega,aK];refine QU a1<|QU b1<|QU a1<|QU (x:=((v:Nat):Int)) (by rw[cB,oQ (by omega),aC rfl])<|Q4 ⟨⟨⟨by simp[hl],λk hk=>?_⟩,v,rfl,by omega,?_⟩,?_⟩
    ·rw[cB,oQ (by omega)]
     by_cases e2:k=j
     ·subst e2;rw[aC rfl];refine⟨v,rfl,by omega,by rw[b3,a3],?_⟩;constructor
      ·intro h;omega
      ·intro h;exact absurd (a4.2 h) e
     ·rw[aF e2];exact hu.rt k hk
    ·rw[b3,a3,hr]
    ·simp only[cB];omega)
  ⟨h,i,rfl,hi,rfl⟩ (by simp only[cB];omega))
  (λo ho=>Ra (f:=λ(s32:Int×List Int)=>some (s32.1,s32.2)) (g:=λr:Empty=>r.elim) ho (λs h=>QC h)<|λr=>r.elim)
 obtain⟨⟨x,up'⟩,h1,h2,h3⟩:=this;exact⟨up',by rw[<-h2];exact h1,h3⟩
theorem J9{n:Nat}{up:List Int}{r:Nat->Nat}(h:UF n up r){i k:Nat}(hi:i<n)(hk:k<n){f:List Int->Option (List Int)}(hn:n<N):
  ∃up',((gj N ((i:Nat):Int) up).bind λx840=>(gj N ((k:Nat):Int) x840.2).bind λx842=>(idx x842.2 (if x840.1<x842.1 then x842.1 else x840.1)).bind λx844=>some<|x842.2.set (Int.toNat (if x840.1<x842.1 then x842.1 else x840.1)) (if x842.1<x840.1 then x842.1 else x840.1))=some up'/\UF n up' (pZ r (r i)<|r k):=by
 obtain⟨u1,a1,a2⟩:=Eo h hi hn;obtain⟨u2,b1,b2⟩:=Eo a2 hk hn;obtain⟨v1,c1,c2⟩:=En h hi hn;have hri:=h.le i hi;have hrk:=h.le k hk;have rri:=h.rr i hi;have rrk:=h.rr k hk;rw[a1,aB,b1,aB];dsimp only;rw[J7,J8];have hm:max (r i) (r k)<n:=by omega
 have hl:=b2.len;rw[lH _ _ (by omega),aB,cB];refine⟨_,rfl,by simp[hl],λx hx=>?_⟩;have rmax:r (max (r i)<|r k)=max (r i) (r k):=by rcases Nat.le_total (r i) (r k)with e|e <;> simp[Nat.max_def] <;> split <;> omega
 have rmin:r (min (r i)<|r k)=min (r i) (r k):=by rcases Nat.le_total (r i) (r k)with e|e <;> simp[Nat.min_def] <;> split <;> omega
 rw[oQ (by omega)]
 by_cases e:x=max (r i) (r k)
 ·subst e;rw[aC rfl];refine⟨min (r i)<|r k,rfl,by omega,?_,?_⟩
  ·unfold pZ;rw[rmin,rmax,aC rfl];split <;> rfl
  ·unfold pZ;rw[rmax,aC rfl]
 ·rw[aF e];obtain⟨u,c1,c2,c3,c4⟩:=b2.rt x hx;refine⟨u,c1,c2,?_,?_⟩
  ·unfold pZ;rw[c3]
  ·unfold pZ;split
   ·rename_i e2;constructor
    ·intro hu;have:=c4.1 hu;omega
    ·intro hu;have h1:=b2.le x hx;have h3:x=max (r i) (r k):=by omega
     exact absurd h3 e
   ·exact c4
def jF(s:List aA)(k:Nat):Nat:=(aS<|s.take k).length
theorem Ad{s:List aA}{k:Nat}(h:k<s.length):jF s (k+1)=jF s k+s[k].Xs.length / 2:=by
 unfold jF;rw[eD h,oE,dB];show _+(aS [s[k]]).length=_;rw[show aS [s[k]]=nF s[k]by simp[aS],nZ]
theorem Ae{s:List aA}{k m:Nat}(h:k<=m):jF s k<=jF s m:=by
 unfold jF;have:=Ab (s.take m) k;rwa[List.take_take,Nat.min_eq_left h]at this
theorem FT(s:List aA):jF s s.length=(aS s).length:=by unfold jF;rw[eM]
theorem Ld{s:List aA}{k t:Nat}(h:k<s.length)(ht:2*t+1<s[k].Xs.length):(aS s)[jF s k+t]? =some ⟨s[k].Xs[2*t],s[k].Y0,s[k].Xs[2*t+1],s[k].Y1⟩:=by
 have e:aS s=aS (s.take k)++(nF s[k]++aS (s.drop<|k+1)):=by
  conv=>lhs;rw[<-List.take_append_drop k s,sW h]
  rw[oE,nG]
 rw[e];unfold jF;rw[g9 (by omega),Nat.add_sub_cancel_left,gp (by rw[nZ];omega)];unfold nF;rw[eR,zm _ _ ht];rfl
theorem H6{s:List aA}{i:Nat}(h:i<(aS s).length):∃k,k<s.length/\jF s k<=i/\i<jF s (k+1):=by
 have key:∀m,m<=s.length->i<jF s m->∃k,k<m/\jF s k<=i/\i<jF s (k+1):=by
  intro m
  induction m with
  |zero=>intro _ h;unfold jF at h;simp[aS]at h
  |succ m ih=>
   intro hm hi
   by_cases h1:i<jF s m
   ·obtain⟨k,hk,h2⟩:=ih (by omega) h1;exact⟨k,by omega,h2⟩
   ·exact⟨m,by omega,by omega,hi⟩
 exact key s.length (bV _) (by rw[FT];exact h)
def Ep(a c:aH):Prop:=a.Y1=c.Y0/\a.X0<c.X1/\c.X0<a.X1
def zJ(all:List aH)(i j:Nat):Prop:=∃a c,all[i]? =some a/\all[j]? =some c/\Ep a c
theorem wW{s:List aA}(he:∀b∈s,b.Xs.length % 2=0){k i:Nat}(hk:k<s.length)(h1:jF s k<=i)(h2:i<jF s (k+1)):∃t,i=jF s k+t/\∃h:2*t+1<s[k].Xs.length,(aS s)[i]? =some ⟨s[k].Xs[2*t],s[k].Y0,s[k].Xs[2*t+1],s[k].Y1⟩:=by
 rw[Ad hk]at h2;have:=he _<|cC hk
 refine⟨i - jF s k,by omega,by omega,?_⟩;have h3:=Ld (t:=i - jF s k) hk (by omega);rwa[show jF s k+(i - jF s k)=i by omega]at h3
theorem Cl{s:List aA}(hc:fM (s.map cH)){p q:Nat}(hp:p<s.length)(hq:q<s.length)(h:p<q):s[p].Y1<=s[q].Y0:=by
 have:=mi.1 hc.ord p q (by simp;omega) (by simp;omega) h;simp only[List.getElem_map]at this;exact this.1
theorem Cm{s:List aA}(hc:fM (s.map cH)){p:Nat}(hp:p<s.length):s[p].Y0<s[p].Y1:=(hc.each (cH s[p])<|dD.2 ⟨_,cC hp,rfl⟩).1
theorem uu{s:List aA}(hc:fM (s.map cH)):∀b∈s,b.Xs.length % 2=0:=λb hb=>(hc.each (cH b)<|dD.2 ⟨b,hb,rfl⟩).2.2.2
theorem H7{s:List aA}(hc:fM (s.map cH)):∀b∈s,jW b.Xs:=λb hb=>(hc.each (cH b)<|dD.2 ⟨b,hb,rfl⟩).2.2.1
theorem FU{s:List aA}(hc:fM (s.map cH)){i j q:Nat}(hq:q<s.length)(h1:jF s q<=j)(h2:j<jF s (q+1))(ht:zJ (aS s) i j):∃hq0:0<q,s[q - 1].Y1=s[q].Y0/\jF s (q - 1)<=i/\i<jF s q:=by
 obtain⟨a,c,ha,hb,e1,e2,e3⟩:=ht;obtain⟨t,e4,ht,hj⟩:=wW (uu hc) hq h1 h2;rw[hj]at hb;injection hb with hb;subst hb
 have hil:=(aZ.1 ha).1;obtain⟨p,hp,p1,p2⟩:=H6 hil;obtain⟨u,e5,hu,hi⟩:=wW (uu hc) hp p1 p2;rw[hi]at ha;injection ha with ha;subst ha
 have e1:s[p].Y1=s[q].Y0:=e1;have hpp:=Cm hc hp;have hqq:=Cm hc hq;have hpq:p+1=q:=by
  rcases Nat.lt_trichotomy p q with h|h|h
  ·by_cases h':p+1=q
   ·exact h'
   ·have h3:=Cl hc hp (show p+1<s.length by omega) (by omega);have h4:=Cl hc (show p+1<s.length by omega) hq (by omega);have h5:=Cm hc (show p+1<s.length by omega);omega
  ·subst h;omega
  ·have:=Cl hc hq hp h;omega
 subst hpq;exact⟨by omega,e1,p1,p2⟩
structure PJ (all:List aH) (n:Nat) (up:List Int) (r:Nat->Nat) (E:List (Nat×Nat)):Prop where
 uf:UF n up r
 co:sB r E
 fi:Ck n r E
 so:∀p∈E,zJ all p.1 p.2
theorem PJ.join{all:List aH}{n:Nat}{up up':List Int}{r:Nat->Nat}{E:List (Nat×Nat)}(h:PJ all n up r E){i j:Nat}(hi:i<n)(hj:j<n)(hu:UF n up' (pZ r (r i)<|r j))(ht:zJ all i j):PJ all n up' (pZ r (r i)<|r j) (E++[(i,j)]):=
 ⟨hu,h.co.join i j (h.uf.rr i hi),h.fi.join hi hj,λp hp=>by
  rcases dI.1 hp with hp|hp
  ·exact h.so p hp
  ·simp at hp;subst hp;exact ht⟩
structure Joined (all:List aH) (r:Nat->Nat):Prop where
 le:∀i,i<all.length->r i<=i
 rr:∀i,i<all.length->r (r i)=r i
 co:∀i j,zJ all i j->r i=r j
 fi:∀S:Nat->Prop,(∀i j,zJ all i j->(S i↔S j))->∀i j,i<all.length->j<all.length->r i=r j->S i->S j
def oF(all:List aH)(n:Nat)(r:Nat->Nat)(h:Nat):List aH:=(cls n r h).filterMap<|λi=>all[i]?
theorem Cn(all:List aH)(n:Nat)(r:Nat->Nat)(h:Nat):(oF all n r h).length<=n:=by
 have h1:=List.length_filterMap_le (λi=>all[i]?)<|cls n r h
 have h2:=Bp n r h;unfold oF;omega
theorem wX{all:List aH}{n:Nat}{r:Nat->Nat}(h:Nat){x:aH}(hx:all[n]? =some x):oF all (n+1) r h=if r n=h then oF all n r h++[x]else oF all n r h:=by
 unfold oF;rw[wv];split
 ·rw[List.filterMap_append];simp[hx]
 ·rfl
theorem mE{all:List aH}{n:Nat}{r:Nat->Nat}{h:Nat}{x:aH}:x∈oF all n r h↔∃i,i<n/\r i=h/\all[i]? =some x:=by
 unfold oF cls;rw[List.mem_filterMap];constructor
 ·rintro⟨i,hi,h⟩;have:=jo.1 hi;exact⟨i,oH.1 this.1,by simpa using this.2,h⟩
 ·rintro⟨i,h1,h2,h3⟩;exact⟨i,jo.2 ⟨oH.2 h1,by simpa using h2⟩,h3⟩
structure tg (s:List aA) (r:Nat->Nat) (ps:List (List aA)):Prop where
 join:Joined (aS s) r
 len:ps.length=(bT (aS s).length r).length
 each:∀(j h:Nat)(p:List aA),(bT (aS s).length r)[j]? =some h->ps[j]? =some p->uo (oF (aS s) (aS s).length r h) p
def Qb(n:Nat)(r:Nat->Nat)(m:List (Int×Int)):Prop:=(∀(j k:Nat),(bT n r)[j]? =some k->eX m ((k:Nat):Int) 0=((j:Nat):Int))/\∀k:Nat,gZ m ((k:Nat):Int)=decide (k∈bT n r)
theorem Hb{s:List aA}{X Y:List Int}(hc:fM (s.map cH))(hl:yu X Y (s.map cH))(hX:∀c∈X,small c)(hY:∀c∈Y,small c)(h1:s.length<=1073741824)(h2:∀b∈s,b.Xs.length<=1073741824)(h3:(aS s).length<=134217728)(hN:4398046511104<=N):
  Ok (mz N s) (λps=>∃r,tg s r ps):=by
 unfold mz;have hev:=uu hc;have hinc:=H7 hc;refine QD (Cg hev (by omega) (λb hb=>by have:=h2 b hb;omega) (by omega)) ?_;have hok:=Ch hc hl hX hY;have hall:jF s s.length=(aS s).length:=FT s;generalize hn:(aS s).length=n at *;refine QD (qo 0 (by omega)) ?_;rw[show((List.replicate n (0:Int)).length)=n by simp];refine QJ (RR (λk up=>up.length=n/\∀i,i<k->up[i]? =some ((i:Nat):Int)) (by omega) ⟨by simp,λi hi=>by omega⟩<|λk up hk hI=>?_) ?_
 ·obtain⟨hs,hi⟩:=hI;refine RE (by omega)<|QC ⟨by simp[hs],λi hi'=>?_⟩
  rw[cB,oQ (by omega)];split
  ·rename_i e;rw[e]
  ·exact hi i (by omega)
 rintro up0⟨hu1,hu2⟩
 refine QJ (RR (λk st=>st.2.1=((jF s k:Nat):Int)/\(0<k->st.2.2=((jF s (k - 1):Nat):Int))/\∃r E,PJ (aS s) n st.1 r E/\∀q,q<k->∀i j,jF s q<=j->j<jF s (q+1)->zJ (aS s) i j->(i,j)∈E) (by omega)
  ⟨rfl,λh=>by omega,_,_,⟨UF.init n up0 hu1 hu2,sB.id,Ck.id n,λp hp=>(by cases hp)⟩,λq hq=>by omega⟩ (λk st hk hI=>?_)) ?_
 ·obtain⟨up,a,b⟩:=st;obtain⟨e1,e2,r,E,hP,hE⟩:=hI;dsimp only at e1 e2 hP ⊢;subst e1;refine RE hk ?_;have hoff:=Ad hk;have hoffle:jF s (k+1)<=n:=by rw[<-hall];exact Ae hk
  have hkm:=cC hk;have hlen:wrap .i64 (Int.tdiv ((s[k].Xs.length:Nat):Int) 2)=((s[k].Xs.length / 2:Nat):Int):=by
   have:=h2 _ hkm;rw[show(2:Int)=((2:Nat):Int)by rfl,<-Int.ofNat_tdiv,FO (by omega)]
  rw[hlen,wrap_add (by omega),<-hoff];refine QJ (P:=λc=>c=true↔∃h0:0<k,s[k - 1].Y1=s[k].Y0) ?_<|λc hcc=>?_
  ·refine Q8 (λh=>?_)<|λh=>QC ?_
   ·have hpos:0<k:=by have:=of_decide_eq_true h;omega
    rw[iH hpos (by omega)];refine RE (by omega)<|QC ?_
    rw[beq_iff_eq];exact⟨λh=>⟨hpos,h⟩,λ⟨_,h⟩=>h⟩
   ·have:=of_decide_eq_false h;constructor
    ·intro h;cases h
    ·rintro⟨h0,_⟩;omega
  refine QJ (P:=λup'=>∃r E,PJ (aS s) n up' r E/\∀q,q<k+1->∀i j,jF s q<=j->j<jF s (q+1)->zJ (aS s) i j->(i,j)∈E) ?_<|λup' hI=>QC ⟨rfl,λ_=>rfl,hI⟩
  refine Q8 (λh=>?_)<|λh=>QC ⟨r,E,hP,λq hq i j q1 q2 ht=>?_⟩
  ·obtain⟨hpos,hyy⟩:=hcc.1 h;rw[e2 hpos];have hoffp:=Ad (show k - 1<s.length by omega);rw[show k - 1+1=k by omega]at hoffp
   refine QJ (RJ (Go:=λst=>∃r E,PJ (aS s) n st.1 r E/\∀q,q<k+1->∀i j,jF s q<=j->j<jF s (q+1)->zJ (aS s) i j->(i,j)∈E) (Rt:=λ_=>True)
    (λst=>∃i j:Nat,st.2.1=((i:Nat):Int)/\st.2.2=((j:Nat):Int)/\jF s (k - 1)<=i/\i<=jF s k/\jF s k<=j/\j<=jF s (k+1)/\∃r E,PJ (aS s) n st.1 r E/\(∀q,q<k->∀i j,jF s q<=j->j<jF s (q+1)->zJ (aS s) i j->(i,j)∈E)/\
     ∀i' j',jF s (k - 1)<=i'->i'<jF s k->jF s k<=j'->j'<jF s (k+1)->(i'<i\/j'<j)->zJ (aS s) i' j'->(i',j')∈E)
    (λst=>(n - st.2.1.toNat)+(n - st.2.2.toNat)) ?_ ?_ (by simp only[cB];omega)) (λo ho=>Ra ho (λst h=>QC h) (λr=>r.elim))
   ·rintro⟨up,a,b⟩⟨i,j,e3,e4,i1,i2,j1,j2,r,E,hP,hE,hE2⟩;dsimp only at e3 e4 hP ⊢;subst e3;subst e4;refine Q8 (λh=>?_)<|λh=>Q9 ?_
    ·rw[bY,bP,bP]at h;have hi:i<jF s k:=by omega
     have hj:j<jF s (k+1):=by omega
     obtain⟨t,et,_,hri⟩:=wW hev (show k - 1<s.length by omega) i1 (by rw[show k - 1+1=k by omega];exact hi);obtain⟨u,eu,_,hrj⟩:=wW hev hk j1 hj;have xi:=hinc _<|cC (show k - 1<s.length by omega)
     have xj:=hinc _ hkm;have farI:∀i' a,i<i'->i'<jF s k->(aS s)[i']? =some a->s[k - 1].Xs[2*t+1]<a.X0:=λi' a h4 h5 h6=>by
      obtain⟨t',et',ht',hr'⟩:=wW hev (show k - 1<s.length by omega) (show jF s (k - 1)<=i' by omega) (by rw[show k - 1+1=k by omega];exact h5);rw[hr']at h6;injection h6 with h6;subst h6
      exact xi.lt (show 2*t+1<2*t' by omega) (aQ _)<|aQ _
     have farJ:∀j' a,j<j'->j'<jF s (k+1)->(aS s)[j']? =some a->s[k].Xs[2*u+1]<a.X0:=λj' a h4 h5 h6=>by
      obtain⟨u',eu',hu',hr'⟩:=wW hev hk (show jF s k<=j' by omega) h5;rw[hr']at h6;injection h6 with h6;subst h6
      exact xj.lt (show 2*u+1<2*u' by omega) (aQ _)<|aQ _
     refine QJ (P:=λc=>c=true↔zJ (aS s) i j) ?_<|λc hct=>?_
     ·refine QU hri<|QU hrj<|Q8 (λh=>QU hrj<|QU hri<|QC ?_)<|λh=>QC ?_
      ·rw[bP]at h ⊢;constructor
       ·intro h';exact⟨_,_,hri,hrj,hyy,h,h'⟩
       ·rintro⟨a,c,ha,hc',_,_,h'⟩;rw[hri]at ha;injection ha with ha;subst ha
        rw[hrj]at hc';injection hc' with hc';subst hc'
        exact h'
      ·constructor
       ·intro h;cases h
       ·rintro⟨a,c,ha,hc',_,h',_⟩;rw[hri]at ha;injection ha with ha;subst ha
        rw[hrj]at hc';injection hc' with hc';subst hc'
        rw[decide_eq_false_iff_not]at h;exact absurd h' h
     refine QJ (P:=λup'=>∃r E',PJ (aS s) n up' r E'/\(∀p∈E,p∈E')/\(zJ (aS s) i j->(i,j)∈E')) ?_ ?_
     ·refine Q8 (λh=>?_)<|λh=>QC ⟨r,E,hP,λp hp=>hp,λht=>by rw[hct.2 ht]at h;cases h⟩
      obtain⟨up',u1,u2⟩:=J9 (N:=N) (f:=λx=>some x) hP.uf (i:=i) (k:=j) (by omega) (by omega) (by omega);refine⟨up',u1,_,_,hP.join (by omega) (by omega) u2<|hct.1 h,λp hp=>List.mem_append_left _ hp,λ_=>by simp⟩
     ·rintro up'⟨r',E',hP',hsub,hij⟩;refine QU hri<|QU hrj ?_
      dsimp only
      by_cases hx:s[k - 1].Xs[2*t+1]<s[k].Xs[2*u+1]
      ·rw[bJ hx,aK];refine QD (x:=(((i+1:Nat):Int),((j:Nat):Int))) (by rw[bL (by omega)])<|Q4 ⟨⟨i+1,j,rfl,rfl,by omega,by omega,j1,j2,r',E',hP',λq hq i j q1 q2 ht=>hsub _<|hE q hq i j q1 q2 ht,λi' j' g1 g2 g3 g4 g5 ht=>?_⟩,by simp only[cB];omega⟩
       by_cases h5:i'<i\/j'<j
       ·exact hsub _<|hE2 i' j' g1 g2 g3 g4 h5 ht
       ·have:i'=i:=by omega
        subst this
        by_cases h6:j'=j
        ·subst h6;exact hij ht
        ·exfalso;obtain⟨a,c,ha,hc',_,_,h'⟩:=ht;rw[hri]at ha;injection ha with ha;subst ha
         have:=farJ j' c (by omega) g4 hc';dsimp only at h';omega
      ·rw[bQ hx,aM];refine QD (x:=(((i:Nat):Int),((j+1:Nat):Int))) (by rw[bL (by omega)])<|Q4 ⟨⟨i,j+1,rfl,rfl,i1,i2,by omega,by omega,r',E',hP',λq hq i j q1 q2 ht=>hsub _<|hE q hq i j q1 q2 ht,λi' j' g1 g2 g3 g4 g5 ht=>?_⟩,by simp only[cB];omega⟩
       by_cases h5:i'<i\/j'<j
       ·exact hsub _<|hE2 i' j' g1 g2 g3 g4 h5 ht
       ·have:j'=j:=by omega
        subst this
        by_cases h6:i'=i
        ·subst h6;exact hij ht
        ·exfalso;obtain⟨a,c,ha,hc',_,h',_⟩:=ht;rw[hrj]at hc';injection hc' with hc';subst hc'
         have:=farI i' a (by omega) g2 ha;dsimp only at h';omega
    ·refine⟨r,E,hP,λq hq i' j' q1 q2 ht=>?_⟩
     by_cases hqk:q<k
     ·exact hE q hqk i' j' q1 q2 ht
     ·have:q=k:=by omega
      subst this;obtain⟨_,_,g1,g2⟩:=FU hc hk q1 q2 ht;refine hE2 i' j' g1 g2 q1 q2 ?_ ht;rw[Bool.and_eq_false_iff,decide_eq_false_iff_not,decide_eq_false_iff_not]at h;omega
   ·exact⟨jF s<|k - 1,jF s k,rfl,rfl,bV _,Ae (by omega),bV _,Ae (by omega),r,E,hP,hE,λi' j' g1 g2 g3 g4 g5=>by omega⟩
  ·by_cases hqk:q<k
   ·exact hE q hqk i j q1 q2 ht
   ·have:q=k:=by omega
    subst this;obtain⟨g0,g1,_⟩:=FU hc hk q1 q2 ht;rw[hcc.2 ⟨g0,g1⟩]at h;cases h
 ·rintro⟨up,a,b⟩⟨_,_,r,E,hP,hE⟩;dsimp only at hP ⊢;have hEq:∀i j,zJ (aS s) i j->(i,j)∈E:=λi j ht=>by
   have hjl:j<(aS s).length:=by obtain⟨a,c,_,hb,_⟩:=ht;exact(aZ.1 hb).1
   obtain⟨q,hq,q1,q2⟩:=H6 hjl;exact hE q hq i j q1 q2 ht
  have hJ:Joined (aS s) r:=⟨by rw[hn];exact hP.uf.le,by rw[hn];exact hP.uf.rr,λi j ht=>hP.co (i,j) (hEq i j ht),λS hS i j hi hj=>by
   rw[hn]at hi hj
   exact hP.fi S (λp hp=>hS p.1 p.2 (hP.so p hp)) i j hi hj⟩
  refine QJ (RR (λk st=>UF n st.1 r/\Qb k r st.2.1/\st.2.2=(bT k r).map (oF (aS s) k r)) (by omega) ⟨hP.uf,⟨λj k hj=>by simp[bT]at hj,λk=>rfl⟩,rfl⟩<|λk st hk hI=>?_) ?_
  ·obtain⟨l,m,ls⟩:=st;obtain⟨hu,⟨hm1,hm2⟩,hs⟩:=hI;dsimp only at hu hm1 hm2 hs ⊢;subst hs;have hkx:(aS s)[k]? =some ((aS s)[k]'(by omega)):=aQ (by omega);refine QU hkx ?_;obtain⟨u',a1,a2⟩:=Eo (N:=N) hu hk (by omega);refine QD a1 ?_;dsimp only;have hhl:=lZ k r;have hrk:=hP.uf.le k hk;have hrr:=hP.uf.rr k hk;have hcl:=Cn (aS s) k r<|r k
   have hmap:((bT k r).map<|oF (aS s) k r).length=(bT k r).length:=by simp
   rw[hm2]
   by_cases e:r k=k
   ·have hnot:r k∉bT k r:=λh=>by have:=(jR.1 h).1;omega
    refine QD (x:=(om m ((r k:Nat):Int) (((bT k r).length:Nat):Int),(bT k r).map (oF (aS s) k r)++[([]:List aH)],(((bT k r).length:Nat):Int))) ?_ ?_
    ·rw[bQ hnot,oK,aK,j6 (by simp;omega),aB,hmap]
    ·dsimp only;have hi:((bT k r).map (oF (aS s) k r)++[([]:List aH)])[(bT k r).length]? =some []:=by rw[<-hmap,g9<|bV _,Nat.sub_self];rfl
     refine QU hi<|Rp (by simp)<|QU hi<|QC ⟨a2,⟨λj q hj=>?_,λq=>?_⟩,?_⟩
     ·dsimp only;rw[gV,aC e]at hj;rw[uj]
      by_cases e2:j<(bT k r).length
      ·rw[gp e2]at hj;have:=(jR.1<|eL hj).1;rw[aF (by omega)];exact hm1 j q hj
      ·rw[g9 (by omega)]at hj;have hj0:j -(bT k r).length=0:=by
        have:=(aZ.1 hj).1;simp at this;omega
       rw[hj0]at hj;simp at hj;subst hj;rw[aC (by rw[e])];congr 1;omega
     ·dsimp only;rw[Aa,hm2,gV,aC e,eT];rw[dS,bP,bP,bP,dI,oI,e];constructor
      ·rintro(h|h)
       ·exact .inr (by omega)
       ·exact .inl h
      ·rintro(h|h)
       ·exact .inr h
       ·exact .inl (by omega)
     ·dsimp only;rw[cB,<-hmap,List.set_append_right _ _<|bV _,Nat.sub_self,gV,aC e,dG];congr 1
      ·apply List.map_congr_left;intro a ha;have:=(jR.1 ha).1;rw[wX a hkx,aF (by omega)]
      ·simp only[List.set_cons_zero,dW,List.map_nil,List.nil_append];rw[wX k hkx,aC e];have:oF (aS s) k r k= []:=by unfold oF;rw[H5 (λi hi=>hP.uf.le i (by omega))<|bV _];rfl
       rw[this];rfl
   ·have hh:r k∈bT k r:=jR.2 ⟨by omega,hrr⟩;obtain⟨j,hj⟩:=dN hh;refine QD (x:=(m,(bT k r).map<|oF (aS s) k r,((j:Nat):Int))) ?_ ?_
    ·rw[bJ hh,kQ,aM,hm1 j (r k) hj]
    ·dsimp only;have hi:((bT k r).map<|oF (aS s) k r)[j]? =some (oF (aS s) k r<|r k):=by rw[eR,hj];rfl
     refine QU hi<|Rp (by simp;omega)<|QU hi<|QC ⟨a2,⟨λj' q hj'=>?_,λq=>?_⟩,?_⟩
     ·rw[gV,aF e]at hj';exact hm1 j' q hj'
     ·rw[gV,aF e];exact hm2 q
     ·dsimp only;rw[cB,gV,aF e]
      have:=wx (oF (aS s) k r) (oF (aS s) (k+1) r) (bT k r) j (r k) (nH k r) hj (λb hb hne=>by
       rw[wX b hkx,aF (λh=>hne h.symm)])
      rw[wX (r k) hkx,aC rfl]at this;exact this
  ·rintro⟨l,m,ls⟩⟨_,_,hs⟩;dsimp only at hs ⊢;subst hs;have hhl:=lZ n r;refine QJ (RR (λk ps=>ps.length=k/\∀(j h:Nat)(p:List aA),j<k->(bT n r)[j]? =some h->ps[j]? =some p->uo (oF (aS s) n r h) p) (by simp;omega) ⟨rfl,λj h p hj=>by omega⟩<|λk ps hk hI=>?_) ?_
   ·obtain⟨hp1,hp2⟩:=hI;have hk':k<(bT n r).length:=by simpa using hk
    refine QU (x:=oF (aS s) n r (bT n r)[k]) (by rw[eR,aQ hk'];rfl) ?_;have hcl:=Cn (aS s) n r (bT n r)[k];refine QJ (qj (N:=N) (by omega) (λx hx=>?_) (by omega)) ?_
    ·obtain⟨i,_,_,h⟩:=mE.1 hx;exact(hok x<|eL h).1
    ·intro p hp;refine Rp (by rw[hp1];simp;omega)<|QC ⟨by simp[hp1],λj h q hj hh hq=>?_⟩
     by_cases hjk:j<k
     ·rw[gp (by omega)]at hq;exact hp2 j h q hjk hh hq
     ·have:j=k:=by omega
      subst this;rw[g9 (by omega),hp1,Nat.sub_self]at hq;simp at hq;subst hq;rw[aQ hk']at hh;injection hh with hh;subst hh
      exact hp
   ·rintro ps⟨hp1,hp2⟩;refine QC ⟨r,hJ,?_,λj h p hh hp=>?_⟩
    ·rw[hp1,hn];simp
    ·rw[hn]at hh ⊢;exact hp2 j h p (by have:=(aZ.1 hp).1;omega) hh hp
end
section
variable {N:Nat}
theorem u7{n:Int}(h: -9223372036854775808<=n/\n<=9223372036854775807):wrap .i64 n=n:=by rw[IntKind.wrap_i64];omega
def gu(n lo hi:Int):Bool:=decide (n>=lo)&&decide (n<=hi)
def mf(n:Int):Bool:=gu n (-1000000) 1000000
def sD(p:jS):Bool:=mf p.X&&mf p.Y
def fY(r:aH):Bool:=mf r.X0&&(mf r.Y0&&(mf r.X1&&mf r.Y1))
theorem Co(n:Int):mj N n=some (mf n):=rfl
theorem AK(p:jS):ky N p=some (sD p):=by
 unfold ky sD;rw[Co,aB,Co]
 cases mf p.X <;> rfl
theorem AL(p:jS):gz N p=some (sD p):=by
 have e:∀n,cY N n=some (mf n):=λ_=>rfl;unfold gz sD;rw[e,aB,e]
 cases mf p.X <;> rfl
theorem Cp(r:aH):nP N r=some (fY r):=by
 unfold nP fY;simp only[Co,aB]
 cases mf r.X0 <;> cases mf r.Y0 <;> cases mf r.X1 <;> rfl
theorem FV{a b:Int}(h:a≠b):iQ (N+4) [a,b]=some [a,b]:=by
 have e:(b==a)=false:=by rw[beq_eq_false_iff_ne];exact λe=>h e.symm
 have w1:wrap .i64 ((1:Int) - 1)=0:=by decide
 have w2:wrap .i64 ((1:Int)+1)=2:=by decide
 unfold iQ;have e1:idx [a,b] 1=some b:=rfl;have e2:idx [a,b] 0=some a:=rfl;have l2:(([a,b]:List Int).length:Int)=2:=rfl;rw[l2,show decide ((2:Int)<2)=false by decide,aM];rw[iC.eq_def];dsimp only;rw[show decide ((1:Int)<2)=true by decide,aK,e1,aB,w1,e2,aB,e,aM,aB,w2];dsimp only;rw[iC.eq_def];dsimp only;rw[show decide ((2:Int)<2)=false by decide,aM,aB];rfl
theorem L2(x:Int):wrap .i64 (x - x)=0:=by rw[Int.sub_self];decide
theorem IZ{r:aH}(hx:r.X0<r.X1)(hy:r.Y0<r.Y1):iY (N+16) [r]=some [⟨r.Y0,r.Y1,[r.X0,r.X1]⟩]:=by
 have s1:yK (kE<|N+16) [r]=some [r]:=Dz (by unfold kE;rw[L2]);have s2:yK (iR<|N+16) [r]=some [r]:=Dz (by unfold iR;rw[L2]);have s3:vS [r.Y0,r.Y1]=some [r.Y0,r.Y1]:=C9 (by simp;omega) (by simp);have c1:kb (N+16) [r]=some [r]:=rfl;have f1:∀φ,ju (N+16) [] φ=some []:=λφ=>rfl;have st:kj (N+16) [r]=some ([r.X0,r.X1],[r]):=by
  unfold kj;rw[s2,aB];rfl
 have pu:∀b:aA,b.Xs= [r.X0,r.X1]->b.Y0<b.Y1->jZ (N+16) [] b=some [b]:=λb h1 h2=>by
  unfold jZ;rw[h1,bQ (show ¬b.Y1<=b.Y0 by omega)];rfl
 unfold iY;rw[c1,aB,s1,aB];have ys:my ([r]:List aH).length (λ(k35:Nat)(s36:List Int)=>((idx [r] (k35:Int)).bind λx54=>(app 8 s36 ([x54.Y0,x54.Y1]:List Int)).bind λx58=>some x58:Option (List Int))) ([]:List Int)=some [r.Y0,r.Y1]:=rfl;rw[ys,aB,s3,aB,FV (N:=N+12) (by omega),aB];have l2:(([r.Y0,r.Y1]:List Int).length:Int)=2:=rfl;have l1:(([r]:List aH).length:Int)=1:=rfl;have w1:wrap .i64 ((0:Int)+1)=1:=by decide
 have w2:wrap .i64 ((1:Int)+1)=2:=by decide
 have i0:idx [r.Y0,r.Y1] 0=some r.Y0:=rfl;have i1:idx [r.Y0,r.Y1] 1=some r.Y1:=rfl;have j0:idx [r] 0=some r:=rfl;have a1:app 32 ([]:List aH) [r]=some [r]:=rfl;rw[l2,l1];rw[iC.eq_def];dsimp only;rw[w1,show decide ((1:Int)<2)=true by decide,aK,f1,aB];rw[iC.eq_def];dsimp only;rw[show decide ((0:Int)<1)=true by decide,aK,j0,aB,i0,aB,aB,show decide (r.Y0<=r.Y0)=true by simp,aK,aB,a1,aB,w1,aB];dsimp only;rw[iC.eq_def];dsimp only;rw[show decide ((1:Int)<1)=false by decide,aM,aB,aM,aB,aB];unfold Fo.cs;dsimp only;rw[aB,i1,aB,st,aB,pu _ rfl hy,aB,aB];dsimp only;rw[iC.eq_def];dsimp only;rw[w2,show decide ((2:Int)<2)=false by decide,aM,aB];rfl
theorem Ka{r:aH}(hx:r.X0<r.X1):ni N [⟨r.Y0,r.Y1,[r.X0,r.X1]⟩]=some (fY r):=by
 have ar:nR N [⟨r.Y0,r.Y1,[r.X0,r.X1]⟩]=some r:=by
  have e1:(if r.X0<r.X0 then r.X0 else r.X0)=r.X0:=by split <;> rfl
  have e2:(if r.X1<r.X1 then r.X1 else r.X1)=r.X1:=by split <;> rfl
  show some ({X0:=(if r.X0<r.X0 then r.X0 else r.X0),Y0:=r.Y0,X1:=(if r.X1<r.X1 then r.X1 else r.X1),Y1:=r.Y1}:aH)=some r;rw[e1,e2]
 unfold ni;rw[ar,aB,Cp];rfl
def vM(b:cD):aH:=⟨b.At.X - b.dY / 2,b.At.Y - b.dY / 2,b.At.X - b.dY / 2+b.dY,b.At.Y - b.dY / 2+b.dY⟩
def ri(b:cD):Bool:=gu b.dY 1 10000&&sD b.At
def m7(b:cD):aH×Int:=if ri b&&fY (vM b)then(vM b,0)else(⟨0,0,0,0⟩,1)
theorem th{b:cD}(h:ri b=true):(1<=b.dY/\b.dY<=10000)/\(-1000000<=b.At.X/\b.At.X<=1000000)/\(-1000000<=b.At.Y/\b.At.Y<=1000000):=by
 simp only[ri,gu,sD,mf,bY,decide_eq_true_iff]at h;omega
theorem nI{b:cD}(h:ri b=true):gY N b=some (vM b):=by
 obtain⟨h1,h2,h3⟩:=th h;have t:Int.tdiv b.dY 2=b.dY / 2:=Int.tdiv_eq_ediv_of_nonneg (by omega);unfold gY vM;rw[t,u7 (n:=b.dY / 2) (by omega),u7 (n:=b.At.X - b.dY / 2) (by omega),u7 (n:=b.At.Y - b.dY / 2) (by omega),u7 (by omega),u7 (by omega)]
theorem uv{b:cD}:lB (N+16) b=some (m7 b):=by
 have e0:jm (N+16) b.dY 1 10000=some (gu b.dY 1 10000):=rfl;have e1:(bif(!(gu b.dY 1 10000))then some true else some (!(sD b.At)))=some (!ri b):=by unfold ri;cases gu b.dY 1 10000 <;> rfl
 unfold lB m7;rw[e0,aB,AK,aB,e1,aB]
 cases hf:ri b with
 |false=>rfl
 |true=>
  obtain⟨h1,h2,h3⟩:=th hf;have hx:(vM b).X0<(vM b).X1:=by simp only[vM];omega
  have hy:(vM b).Y0<(vM b).Y1:=by simp only[vM];omega
  rw[kQ,aM,nI hf,aB,IZ hx hy,aB,Ka hx,aB]
  cases fY (vM b) <;> rfl
theorem I0:iq (N+16)=some true:=by
 unfold iq;rw[uv,aB];rfl
end
section
variable {N:Nat}
def FW(c:UInt8):Bool:=
 (((decide (((c.toNat:Nat):Int)<65)||decide (((c.toNat:Nat):Int)>90))&&(decide (((c.toNat:Nat):Int)<97)||decide (((c.toNat:Nat):Int)>122)))&&(decide (((c.toNat:Nat):Int)<48)||decide (((c.toNat:Nat):Int)>57)))&&decide (Lib.indexByte [95,43,45,35] c<0)
def isWord(s:fz):Bool:= !s.dP.any FW&&(decide (1<=s.dP.length)&&decide (s.dP.length<=40))
theorem u9(s:fz)(c:UInt8):iu N s ((c.toNat:Nat):Int)=some (Lib.indexByte s.dP c):=by
 show some (Lib.indexByte s.dP (Int.toNat ((c.toNat:Nat):Int)).toUInt8)=_;rw[cB];simp
theorem Hc{R:Type}(b1:Bool)(c:UInt8)(r:R):
  ((bif b1 then((iu N (⟨[95,43,45,35]⟩) ((c.toNat:Nat):Int)).bind λx14=>some<|decide<|x14<0)else some false).bind λs12=>bif s12 then some (.rt r)else(some<|.nx ()):Option (Fl Unit R))=some (if(b1&&decide (Lib.indexByte [95,43,45,35] c<0))=true then .rt r else .nx ()):=by
 rw[u9,aB]
 cases b1
 ·rfl
 ·rw[aK,aB,Bool.true_and]
  cases decide (Lib.indexByte [95,43,45,35] c<0) <;> rfl
theorem ti{s:fz}(h:s.dP.length<=1048576):j3 N s=some (isWord s):=by
 unfold j3
 rw[K1 FW false (by omega) (λk x hx=>by
  have hk:=(aZ.1 hx).1;have e:GI s ((k:Nat):Int)=some x:=by rw[FH s k hk,<-aQ hk,hx]
  rw[e,aB]
  exact Hc (R:=Bool) _ x false),aB]
 unfold isWord
 cases s.dP.any FW
 ·simp only[Fo.cs,oK,Bool.true_and,Bool.false_eq_true,if_false,Option.some.injEq];rw[eT,bY,bY];simp only[bP];omega
 ·simp[Fo.cs]
def cutAt(c:UInt8):List UInt8->List (List UInt8)
 | []=>[[]]
 |b::l=>if b==c then []::cutAt c l else match cutAt c l with|h::t=>(b::h)::t| []=>[[b]]
theorem Cq{c:UInt8}:∀{l:List UInt8},c∉l->cutAt c l= [l]
 | [],_=>rfl
 |b::l,h=>by
  unfold cutAt;have hb:(b==c)=false:=by rw[beq_eq_false_iff_ne];rintro rfl;exact h (by simp)
  rw[hb,Cq<|λh'=>h (by simp[h'])];rfl
theorem FX{c:UInt8}:∀{a b:List UInt8},c∉a->cutAt c (a++c::b)=a::cutAt c b
 | [],b,_=>by rw[List.nil_append];show(if(c==c)=true then _ else _)=_;simp
 |x::a,b,h=>by
  have hb:(x==c)=false:=by rw[beq_eq_false_iff_ne];rintro rfl;exact h (by simp)
  have ih:=FX (c:=c) (a:=a) (b:=b)<|λh'=>h (by simp[h'])
  show(if(x==c)=true then []::cutAt c (a++c::b)else match cutAt c (a++c::b)with|h::t=>(x::h)::t| []=>[[x]])=_;rw[hb,ih];rfl
theorem wy:∀(l:List UInt8)(c:UInt8),(Lib.indexByte l c = -1/\c∉l)\/∃a b,l=a++c::b/\c∉a/\Lib.indexByte l c=((a.length:Nat):Int)
 | [],c=> .inl ⟨rfl,by simp⟩
 |x::l,c=>by
  unfold Lib.indexByte
  by_cases hx:x=c
  ·subst hx;exact .inr ⟨[],l,rfl,by simp,by simp⟩
  ·have hb:(x==c)=false:=by rw[beq_eq_false_iff_ne];exact hx
   rcases wy l c with⟨h1,h2⟩|⟨a,b,h1,h2,h3⟩
   ·left;rw[hb,h1];refine⟨by simp,?_⟩;simp[h2];exact λh=>hx h.symm
   ·right;refine⟨x::a,b,by rw[h1];rfl,by simp[h2];exact λh=>hx h.symm,?_⟩;rw[hb,h3];have:(((a.length:Nat):Int)== -1)=false:=by rw[beq_eq_false_iff_ne];omega
    rw[this];simp
theorem Kb(s:fz)(c:UInt8):mH N s ⟨[c]⟩=some (Lib.indexByte s.dP c):=by
 show(lk N s ⟨[c]⟩).bind _=_;unfold lk
 by_cases h:fz.rT ⟨[c]⟩ s=true
 ·have:s= ⟨[c]⟩:=(Bm.1 h).symm;subst this;rw[h];simp[Lib.indexByte]
 ·rw[jr]at h;rw[h];show((jD N s ((c.toNat:Nat):Int)).bind _).bind _=_;have:=u9 (N:=N) s c;simp only[iu]at this;rw[this];rfl
theorem Kc(s:fz)(c:UInt8):oq N s ⟨[c]⟩=some ((s.dP.count c:Nat):Int):=by
 unfold oq;show(some _:Option Int)=_;simp[Lib.countByte]
theorem I1{s:fz}{k:Nat}(h:k<=s.dP.length):xU s 0 ((k:Nat):Int)=some ⟨s.dP.take k⟩:=by
 unfold xU;rw[aC ⟨by omega,by omega,by omega⟩];simp only[Int.toNat_zero,List.drop_zero,Int.sub_zero,cB]
theorem I2{s:fz}{k:Nat}(h:k<=s.dP.length):xU s ((k:Nat):Int) ((s.dP.length:Nat):Int)=some ⟨s.dP.drop k⟩:=by
 unfold xU;rw[aC ⟨by omega,by omega,by omega⟩];simp only[cB];rw[mh];rw[gC];omega
def oX(s:fz)(c:UInt8):List fz:=(cutAt c s.dP).map fz.mk
theorem FY{s:fz}(c:UInt8)(h:s.dP.length<=1048576)(hN:4194304<=N):mI N s ⟨[c]⟩=some (oX s c):=by
 have hc:s.dP.count c<=s.dP.length:=List.count_le_length;unfold mI nS;rw[show((-1:Int)==0)=false by decide,aM,show fz.rT ⟨[c]⟩ ⟨[]⟩=false by simp[fz.rT],aM,Kc,aB];rw[fJ (x:=((s.dP.count c:Nat):Int)+1) (by omega) (by omega),show decide ((-1:Int)<0)=true by decide,aK,aB];rw[fJ (x:=((s.dP.length:Nat):Int)+1) (by omega) (by omega)];have e1:(if((s.dP.length:Nat):Int)+1<((s.dP.count c:Nat):Int)+1 then((s.dP.length:Nat):Int)+1 else((s.dP.count c:Nat):Int)+1)=((s.dP.count c+1:Nat):Int):=by
  rw[aF (by omega)];omega
 rw[e1,qo _ (by omega),aB];rw[fJ (x:=((s.dP.count c+1:Nat):Int) - 1) (by omega) (by omega)];have key:=y6 (S:=fz×List fz×Int) (R:=Empty) (body:=(λ(s7:fz×List fz×Int)=>(bif decide (s7.2.2<((s.dP.count c+1:Nat):Int) - 1)then((mH N s7.1 ⟨[c]⟩).bind λx23=>bif decide (x23<0)then some (.br (s7.1,s7.2.1,s7.2.2))else((xU s7.1 0<|wrap .i64<|x23+0).bind λx24=>(idx s7.2.1 s7.2.2).bind λx25=>(xU s7.1 (wrap .i64<|x23+(((⟨[c]⟩:fz).dP.length:Nat):Int)) ((s7.1.dP.length:Nat):Int)).bind λx27=>some<|.nx (x27,s7.2.1.set (Int.toNat s7.2.2) x24,wrap .i64<|s7.2.2+1)))else(some<|.br (s7.1,s7.2.1,s7.2.2)):Option (Fl (fz×List fz×Int) Empty))))
  (λst=>∃ws:List (List UInt8),st.2.2=((ws.length:Nat):Int)/\cutAt c s.dP=ws++cutAt c st.1.dP/\ws.length+st.1.dP.count c=s.dP.count c/\st.1.dP.length<=s.dP.length/\st.2.1=ws.map fz.mk++List.replicate (s.dP.count c+1 - ws.length) ⟨[]⟩)
  (λst=>s.dP.count c+1 - st.2.2.toNat)
  (λst=>∃ws:List (List UInt8),st.2.2=((ws.length:Nat):Int)/\cutAt c s.dP=ws++[st.1.dP]/\ws.length=s.dP.count c/\st.2.1=ws.map fz.mk++[⟨[]⟩])
  (λ_=>True) (by
   rintro⟨r,arr,i⟩⟨ws,h1,h2,h3,h4,h5⟩;simp only at h1 h2 h3 h4 h5;subst h1 h5
   by_cases hlt:ws.length<s.dP.count c
   ·have hd:decide (((ws.length:Nat):Int)<((s.dP.count c+1:Nat):Int) - 1)=true:=by rw[bP];omega
    simp only[hd,aK,Kb,aB]
    rcases wy r.dP c with⟨_,hn⟩|⟨a,b,hr,ha,hi⟩
    ·rw[List.count_eq_zero_of_not_mem hn]at h3;omega
    ·have hrl:r.dP.length=a.length+(b.length+1):=by rw[hr];simp
     rw[hi,bQ (by omega),aM];rw[show((a.length:Nat):Int)+0=((a.length:Nat):Int)by omega,fJ (x:=((a.length:Nat):Int)) (by omega) (by omega),I1 (by omega),aB];rw[lH _ _ (by simp;omega),aB];rw[show((a.length:Nat):Int)+(((⟨[c]⟩:fz).dP.length:Nat):Int)=((a.length+1:Nat):Int)by simp,fJ (x:=((a.length+1:Nat):Int)) (by omega) (by omega),I2 (by omega),aB];refine⟨_,rfl,⟨ws++[a],?_,?_,?_,?_,?_⟩,?_⟩
     ·simp only;rw[fJ (by omega) (by omega)];simp
     ·simp only;rw[h2,hr,FX ha];simp
     ·simp only;rw[hr]at h3 ⊢;simp[List.count_eq_zero_of_not_mem ha]at h3 ⊢;omega
     ·simp;omega
     ·simp only[cB];rw[List.set_append_right _ _ (by simp)];simp only[cE,Nat.sub_self];obtain⟨d,hd'⟩:∃d,s.dP.count c+1 - ws.length=d+1:=⟨s.dP.count c - ws.length,by omega⟩;rw[hd',List.replicate_succ,List.set_cons_zero,show s.dP.count c+1 -(ws++[a]).length=d by simp;omega];simp[hr]
     ·simp only;rw[fJ (by omega) (by omega)];omega
   ·have hd:decide (((ws.length:Nat):Int)<((s.dP.count c+1:Nat):Int) - 1)=false:=by rw[decide_eq_false_iff_not];omega
    simp only[hd,aM];refine⟨_,rfl,ws,rfl,?_,by omega,?_⟩
    ·have h0:r.dP.count c=0:=by omega
     rw[h2,Cq<|List.count_eq_zero.1 h0]
    ·rw[show s.dP.count c+1 - ws.length=1 by omega];rfl)
  N (s,List.replicate (s.dP.count c+1) ⟨[]⟩,0) ⟨[],rfl,rfl,by simp,bV _,by simp⟩ (by simp only;omega)
 obtain⟨o,ho,hgo⟩:=key;rw[ho,aB]
 cases o with
 |rt r=>exact r.elim
 |go st=>
  obtain⟨r,arr,i⟩:=st;obtain⟨ws,h1,h2,h3,h4⟩:=hgo;simp only at h1 h2 h3 h4;subst h1 h4;simp only[Fo.cs];rw[lH _ _ (by simp),aB,fJ (by omega) (by omega)];rw[show((ws.length:Nat):Int)+1=((ws.length+1:Nat):Int)by omega,r6 _ _ (by simp),aB,aB];unfold oX;rw[h2];rw[cB,List.set_append_right _ _ (by simp),mh (by simp)];simp
def oj(s:fz):Bool:=decide (s.dP.length<=200)&&(oX s 47).all isWord
theorem wY{c:UInt8}:∀{l x:List UInt8},x∈cutAt c l->x.length<=l.length
 | [],x,h=>by simp[cutAt]at h;subst h;simp
 |b::l,x,h=>by
  unfold cutAt at h;split at h
  ·rcases dM.1 h with h|h
   ·subst h;simp
   ·have:=wY h;simp;omega
  ·split at h
   ·rename_i t e
    rcases dM.1 h with h|h
    ·subst h;have:=wY (c:=c) (l:=l) (by rw[e];exact List.mem_cons_self);simp;omega
    ·have:=wY (c:=c) (l:=l) (by rw[e];exact ir _ h);simp;omega
   ·simp at h;subst h;simp
theorem DF(c:UInt8):∀(l:List UInt8),(cutAt c l).length<=l.length+1
 | []=>by simp[cutAt]
 |b::l=>by
  have:=DF c l;unfold cutAt;split
  ·simp;omega
  ·split
   ·rename_i e;rw[e]at this;simp at this ⊢;omega
   ·simp
theorem DG{s x:fz}{c:UInt8}(h:x∈oX s c):x.dP.length<=s.dP.length:=by
 obtain⟨y,hy,rfl⟩:=dD.1 h;exact wY hy
theorem DH(s:fz)(c:UInt8):(oX s c).length<=s.dP.length+1:=by unfold oX;rw[cE];exact DF c _
theorem zo{s:fz}(h:s.dP.length<=1048576)(hN:4194304<=N):nj N s=some (oj s):=by
 unfold nj oj
 by_cases hl:s.dP.length<=200
 ·rw[bJ (by omega),aK,FY 47 h hN,aB]
  have e:=tT (l:=oX s 47) (φ:=jw N) (λx=> !isWord x) (by have:=DH s 47;omega) (λx hx=>by
   unfold jw
   rw[ti (by have:=DG hx;omega)];rfl)
  have e2:jv N (oX s 47) (jw N)=tA (oX s 47) (jw N):=rfl;rw[e2,e,aB,aB,bJ hl,Bool.true_and];congr 1;rw[eT];simp
 ·rw[bQ (by omega),aM,aB,bQ hl,Bool.false_and]
end
end Go.Gk
namespace Go.Gk
open Go IntKind Classical
section
variable {N:Nat}
theorem Kd{a b:aA}(h:cH a=cH b):a=b:=by cases a;cases b;unfold cH at h;simp at h;obtain⟨h1,h2,h3⟩:=h;subst h1;subst h2;subst h3;rfl
theorem zp:∀{s t:List aA},s.map cH=t.map cH->s=t
 | [],[],_=>rfl
 | [],_::_,h=>by cases h
 |_::_,[],h=>by cases h
 |a::s,b::t,h=>by
  rw[dW,dW]at h;injection h with h1 h2
  rw[Kd h1,zp h2]
theorem Ke{s t:List aA}(hs:fM (s.map cH))(ht:fM (t.map cH))(h:∀x y,vL (s.map cH) x y=vL (t.map cH) x y):s=t:=zp<|u5 hs ht h
theorem uo.unique{l:List aH}{s t:List aA}(hs:uo l s)(ht:uo l t):s=t:=Ke hs.can ht.can λx y=>by rw[hs.cover,ht.cover]
theorem uo.FZ{l:List aH}{s:List aA}(h:uo l s):s.length<=2*l.length/\(∀b∈s,b.Xs.length<=2*l.length)/\(aS s).length<=2*l.length*(2*l.length):=by
 have h1:s.length<=2*l.length:=by have:=h.lim.len h.can;rwa[cE,j7]at this
 have h2:∀b∈s,b.Xs.length<=2*l.length:=λb hb=>by
  have:=h.lim.row h.can (b:=cH b)<|dD.2 ⟨b,hb,rfl⟩
  rwa[mD]at this
 exact⟨h1,h2,Cf h1 h2⟩
theorem wZ{n:Int}(h:mf n=true): -1000000<=n/\n<=1000000:=by
 unfold mf gu at h;rw[bY,bP,bP]at h;omega
theorem nJ{r:aH}(h:fY r=true):(-1000000<=r.X0/\r.X0<=1000000)/\(-1000000<=r.Y0/\r.Y0<=1000000)/\(-1000000<=r.X1/\r.X1<=1000000)/\(-1000000<=r.Y1/\r.Y1<=1000000):=by
 unfold fY at h;simp only[bY]at h;exact⟨wZ h.1,wZ h.2.1,wZ h.2.2.1,wZ h.2.2.2⟩
theorem Cr{r:aH}(h:(-1000000<=r.X0/\r.X0<=1000000)/\(-1000000<=r.Y0/\r.Y0<=1000000)/\(-1000000<=r.X1/\r.X1<=1000000)/\(-1000000<=r.Y1/\r.Y1<=1000000)):fY r=true:=by
 unfold fY mf gu;simp only[bY,bP];omega
theorem Er{r:aH}(h:fY r=true)(hx:r.X0<r.X1)(hy:r.Y0<r.Y1):CY r:=by
 have:=nJ h;refine⟨hx,hy,?_,?_,?_,?_⟩ <;> unfold small <;> omega
def lu(r:aH):Option Int:=if fY r=true then(if r.X1<=r.X0\/r.Y1<=r.Y0 then some 13 else none)else some 1
def l3(l:List aH):Int:=if 2000<l.length then 2 else(l.findSome? lu).getD 0
theorem Db{l:List aH}(hl:l.length<=4611686018427387904):lK N l=some (l3 l):=by
 unfold lK l3
 by_cases h:2000<l.length
 ·rw[bJ (by omega),aK,aC h]
 ·rw[bQ (by omega),aM,aF h,B1 lu hl (λk x hx=>by
   rw[dC hx,aB,Cp,aB];unfold lu
   cases hr:fY x with
   |false=>rfl
   |true=>
    rw[kQ,aM,aC rfl]
    by_cases h2:x.X1<=x.X0\/x.Y1<=x.Y0
    ·rw[aC h2,show(decide (x.X1<=x.X0)||decide (x.Y1<=x.Y0))=true by rw[dS,bP,bP];exact h2];rfl
    ·rw[aF h2,show(decide (x.X1<=x.X0)||decide (x.Y1<=x.Y0))=false by rw[<-jr,dS,bP,bP];exact h2];rfl),aB]
  cases l.findSome? lu <;> rfl
theorem zq{r:aH}:lu r=none↔fY r=true/\r.X0<r.X1/\r.Y0<r.Y1:=by
 unfold lu
 by_cases h:fY r=true
 ·rw[aC h]
  by_cases h2:r.X1<=r.X0\/r.Y1<=r.Y0
  ·rw[aC h2];constructor
   ·intro h;cases h
   ·rintro⟨_,h3,h4⟩;omega
  ·rw[aF h2];exact⟨λ_=>⟨h,by omega,by omega⟩,λ_=>rfl⟩
 ·rw[aF h];constructor
  ·intro h;cases h
  ·rintro⟨h3,_⟩;exact absurd h3 h
theorem F1{r:aH}{e:Int}(h:lu r=some e):e≠0:=by
 unfold lu at h;split at h
 ·split at h
  ·injection h with h;omega
  ·cases h
 ·injection h with h;omega
theorem qp{l:List aH}:l3 l=0↔l.length<=2000/\∀r∈l,fY r=true/\r.X0<r.X1/\r.Y0<r.Y1:=by
 unfold l3
 by_cases h:2000<l.length
 ·rw[aC h];constructor
  ·intro h;omega
  ·intro h;omega
 ·rw[aF h]
  cases hf:l.findSome? lu with
  |none=>
   rw[List.findSome?_eq_none_iff]at hf;exact⟨λ_=>⟨by omega,λr hr=>zq.1<|hf r hr⟩,λ_=>rfl⟩
  |some e=>
   obtain⟨r,hr,he⟩:=List.exists_of_findSome?_eq_some hf;constructor
   ·intro h0;exact absurd h0<|F1 he
   ·rintro⟨_,h2⟩;rw[zq.2<|h2 r hr]at he;cases he
def MK(l:List aH):Prop:=∀(k:Nat)a b,l[k]? =some a->l[k+1]? =some b->¬(b.Y0<a.Y0\/(b.Y0=a.Y0/\b.X0<=a.X0))
def Cs(l:List aH):Prop:=∃s,uo l s/\aS s=l
noncomputable def kx(l:List aH):Int:=if l3 l≠0 then l3 l else if MK l then(if Cs l then 0 else 3)else 8
theorem Ct{l:List aH}(h:l3 l=0):l.length<=2000/\∀r∈l,CY r:=⟨(qp.1 h).1,λr hr=>by have:=(qp.1 h).2 r hr;exact Er this.1 this.2.1 this.2.2⟩
theorem Hd{l m:List aH}(hl:l.length<=4611686018427387904):lh N l m=some (decide<|l=m):=by
 have:=zZ (l:=l) (m:=m) hl;unfold G0 at this;unfold lh;rw[show(decide<|l=m) = @decide (l=m) (instDecidableEqList l m)from decide_eq_decide.2 Iff.rfl];exact this
theorem wz{l:List aH}(hl:l.length<=1073741824)(hN:4398046511104<=N):kc N l=some (kx l):=by
 refine RD ?_;unfold kc;refine QD (Db (by omega)) ?_;unfold kx;refine Q8 (λh=>QC ?_)<|λh=>?_
 ·rw[aC (by simpa using h)]
 ·have h0:l3 l=0:=by simpa using h
  rw[aF (by simpa using h0)];obtain⟨hlen,hok⟩:=Ct h0;refine QJ (RJ (Go:=λ_=>MK l) (Rt:=λr=>r=8/\¬MK l) (λs=>∃k:Nat,s=((k:Nat):Int)/\1<=k/\∀(j:Nat)a b,j+1<k->l[j]? =some a->l[j+1]? =some b->¬(b.Y0<a.Y0\/(b.Y0=a.Y0/\b.X0<=a.X0))) (λs=>l.length - s.toNat) ?_ ⟨1,rfl,bV _,λj a b hj=>by omega⟩ (by simp;omega)) ?_
  ·rintro s⟨k,rfl,hk,hI⟩;refine Q8 (λh=>?_)<|λh=>Q9 λj a b ha hb=>hI j a b ?_ ha hb
   ·have hk2:k<l.length:=by have:=of_decide_eq_true h;omega
    rw[iH hk (by omega)];refine RE (by omega)<|RE hk2<|Q8 (λhb=>RK ⟨rfl,λhu=>?_⟩)<|λhb=>Q4 ⟨⟨k+1,by rw[bL (by omega)],by omega,λj a b hj ha hb'=>?_⟩,by rw[bL (by omega)];simp only[cB];omega⟩
    ·refine hu (k - 1) l[k - 1] l[k] (aQ _) (by rw[show k - 1+1=k by omega];exact aQ _) ?_;rw[dS,bY,bP,bP,beq_iff_eq]at hb;exact hb
    ·by_cases e:j+1<k
     ·exact hI j a b e ha hb'
     ·have:j+1=k:=by omega
      subst this;rw[aQ (by omega)]at ha hb';injection ha with ha;injection hb' with hb'
      subst ha;subst hb';rw[<-jr,dS,bY,bP,bP,beq_iff_eq]at hb;exact hb
   ·have:=of_decide_eq_false h;have:=(aZ.1 hb).1;omega
  ·rintro o ho;refine Ra ho (λs hu=>?_)<|λr hr=>QC (by rw[hr.1,aF hr.2])
   rw[aC hu];refine QJ (qj (N:=N) (by omega) hok (by omega)) ?_;intro s hs;obtain⟨z1,z2,z3⟩:=hs.FZ;have z4:2*l.length*(2*l.length)<=4000*4000:=Nat.mul_le_mul (by omega) (by omega);refine QD (Cg (uu hs.can) (by omega) (λb hb=>by have:=z2 b hb;omega) (by omega))<|QD (Hd (by omega)) ?_
   have hiff:Cs l↔aS s=l:=⟨λ⟨t,h1,h2⟩=>by rw[hs.unique h1];exact h2,λh=>⟨s,hs,h⟩⟩;refine Q8 (λh=>QC ?_)<|λh=>QC ?_
   ·have h:¬aS s=l:=by simpa using h
    rw[aF<|λh'=>h<|hiff.1 h']
   ·have h:aS s=l:=by simpa using h
    rw[aC<|hiff.2 h]
theorem wA{l:List aH}:kx l=0↔l3 l=0/\MK l/\Cs l:=by
 unfold kx
 by_cases h:l3 l=0
 ·rw[aF (by simpa using h)]
  by_cases h2:MK l
  ·rw[aC h2]
   by_cases h3:Cs l
   ·rw[aC h3];exact⟨λ_=>⟨h,h2,h3⟩,λ_=>rfl⟩
   ·rw[aF h3];constructor
    ·intro h;omega
    ·rintro⟨_,_,h4⟩;exact absurd h4 h3
  ·rw[aF h2];constructor
   ·intro h;omega
   ·rintro⟨_,h4,_⟩;exact absurd h4 h2
 ·rw[aC h];constructor
  ·intro h2;exact absurd h2 h
  ·rintro⟨h2,_⟩;exact absurd h2 h
theorem ym(n lo hi:Int):jm N n lo hi=some (gu n lo hi):=rfl
theorem I3{b:cD}(hN:16<=N):lB N b=some (m7 b):=by
 have:=uv (N:=N - 16) (b:=b);rwa[show N - 16+16=N by omega]at this
def mu(n:Nat)(b:cD):Option Int:=if(m7 b).2≠0 then some (m7 b).2 else if gu b.cV 0 (((n:Nat):Int) - 1)=true/\gu b.To b.cV (((n:Nat):Int) - 1)=true then none else some 1
def jG(a:jT):Int:=if 500<a.aL.length then 2 else(a.aL.findSome?<|mu a.aJ.length).getD 0
theorem Dc{a:jT}(h1:a.aJ.length<=4611686018427387904)(h2:a.aL.length<=4611686018427387904)(hN:16<=N):lj N a=some (jG a):=by
 unfold lj jG
 by_cases h:500<a.aL.length
 ·rw[bJ (by omega),aK,aC h]
 ·have hw:wrap .i64 (((a.aJ.length:Nat):Int) - 1)=((a.aJ.length:Nat):Int) - 1:=fJ (by omega) (by omega)
  rw[bQ (by omega),aM,aF h,B1 (mu a.aJ.length) h2 (λk x hx=>by
   rw[dC hx,aB,I3 hN,aB];unfold mu
   by_cases h0:(m7 x).2=0
   ·rw[aF (by simpa using h0),h0,show((0:Int) != 0)=false by rfl,aM,hw,ym,aB,ym,aB]
    cases h3:gu x.cV 0 (((a.aJ.length:Nat):Int) - 1) <;> cases h4:gu x.To x.cV (((a.aJ.length:Nat):Int) - 1) <;> rfl
   ·rw[aC h0,show((m7 x).2 != 0)=true by simpa using h0];rfl),aB]
  cases a.aL.findSome? (mu a.aJ.length) <;> rfl
theorem F3{b:cD}(h:(m7 b).2=0):ri b=true/\fY (vM b)=true:=by
 unfold m7 at h;split at h
 ·rename_i h';rwa[bY]at h'
 ·cases h
theorem mN{a:jT}(h:jG a=0):a.aL.length<=500/\∀b∈a.aL,ri b=true/\fY (vM b)=true/\0<=b.cV/\b.cV<=b.To/\b.To<((a.aJ.length:Nat):Int):=by
 unfold jG at h;split at h
 ·omega
 ·refine⟨by omega,λb hb=>?_⟩;have hn:mu a.aJ.length b=none:=by
   cases hf:a.aL.findSome? (mu a.aJ.length)with
   |none=>exact List.findSome?_eq_none_iff.1 hf b hb
   |some e=>
    rw[hf]at h;obtain⟨c,hc,he⟩:=List.exists_of_findSome?_eq_some hf;have h:e=0:=h;subst h;unfold mu at he;split at he
    ·rename_i h';injection he with he;exact absurd he h'
    ·split at he
     ·cases he
     ·injection he with he;omega
  unfold mu at hn;split at hn
  ·cases hn
  ·rename_i h0;split at hn
   ·rename_i h1;have h0:(m7 b).2=0:=by simpa using h0
    have:=F3 h0;unfold gu at h1;simp only[bY,bP]at h1;exact⟨this.1,this.2,by omega,by omega,by omega⟩
   ·cases hn
theorem L3{b:cD}(h1:ri b=true)(h2:fY (vM b)=true):CY (vM b):=by
 have hf:=th h1;refine Er h2 ?_ ?_
 ·show b.At.X - b.dY / 2<b.At.X - b.dY / 2+b.dY;omega
 ·show b.At.Y - b.dY / 2<b.At.Y - b.dY / 2+b.dY;omega
def kh(p q:eE):Int:=if Lib.compareBytes p.Part.dP q.Part.dP≠0 then Lib.compareBytes p.Part.dP q.Part.dP else Lib.compareBytes p.eE.dP q.eE.dP
theorem vu(p q:eE):jz N p q=some (kh p q):=by
 unfold jz kh;show(bif Lib.compareBytes p.Part.dP q.Part.dP != 0 then _ else _)=_
 by_cases h:Lib.compareBytes p.Part.dP q.Part.dP=0
 ·rw[h,aF (by simp)];rfl
 ·rw[aC h,show(Lib.compareBytes p.Part.dP q.Part.dP != 0)=true by simpa using h];rfl
def kq(l:eP):eE:=⟨l.Part,l.eE⟩
theorem Af(l:eP):ml N l=some (kq l):=rfl
def kU(a:jT)(k:Nat):Option Int:=(a.bN[k]?).bind λx=>
 if(oj x.Part&&isWord x.eE)=true then
  if(gu x.dL 0 (((a.aJ.length:Nat):Int) - 1)&&sD x.At)=true then
   if 0<k/\(∃y,a.bN[k - 1]? =some y/\kh (kq x) (kq y)<=0)then some 8 else none
  else some 1
 else some 5
noncomputable def nK(a:jT):Int:=if 1000<a.bN.length then 2 else(xh a.bN.length<|kU a).getD 0
end
end Go.Gk
