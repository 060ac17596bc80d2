/-
  Helping texts: plain functions and plain laws. No statement of the seed is proved here.
-/
import Derived.Test.YtoklpakgcjcdoaaGreatDoorA1
import Derived.ChangeShapes
import Derived.ChangeSame
import Derived.Carry
import Derived.RowKit
import Derived.Test.YtoklpakgcjcdoaaGreatDoorA2
set_option linter.unusedVariables false
set_option linter.unusedSimpArgs false
set_option linter.unusedSectionVars false
namespace Go.Gk
open Go IntKind
noncomputable section
structure aP where
 Name:aQ
 Kind:Int
 aN:Int
 deriving DecidableEq,Inhabited
structure aC where
 Name:aQ
 aJ:List aP
 deriving DecidableEq,Inhabited
structure Part where
 Name:aQ
 bR:aQ
 deriving DecidableEq,Inhabited
structure bP where
 Part:aQ
 bP:aQ
 deriving DecidableEq,Inhabited
structure Net where
 Name:aQ
 aJ:List bP
 jh:List aQ
 deriving DecidableEq,Inhabited
structure aF where
 aU:List Part
 aY:List Net
 deriving DecidableEq,Inhabited
structure aI where
 A:aQ
 B:aQ
 deriving DecidableEq,Inhabited
structure aE where
 part:Int
 wM:Int
 mark:Int
 deriving DecidableEq,Inhabited
def eg(N:Nat)(p0:aQ)(p1:Int):Option Int:=
 some (Lib.indexByte p0.bF (Int.toNat p1).toUInt8)
def dV(N:Nat)(p0:aQ)(p1:Int):Option Int:=
 (eg N p0 p1).bind λj=>some j
def eQ(N:Nat)(p0:aQ):Option Bool:=
 (iV p0.bF.length (λ(o:Nat)(aa:Unit)=>((rF p0 (o:Int)).bind λj=>(bif((decide ((j.toNat:Int)<65)||decide ((j.toNat:Int)>90))&&(decide ((j.toNat:Int)<97)||decide ((j.toNat:Int)>122)))&&(decide ((j.toNat:Int)<48)||decide ((j.toNat:Int)>57))then((dV N (⟨[95,43,45,35]⟩) (j.toNat:Int)).bind λab=>some<|decide<|ab<0)else some false).bind λad=>bif ad then some (.rt false)else(some<|.nx ()):Option (Fl Unit Bool))) ()).bind λae=>ae.cs (λ(aa:Unit)=>some<|decide ((p0.bF.length:Int)>=1)&&decide ((p0.bF.length:Int)<=40))<|λr=>some r
def cW(N:Nat)(p0 p1:aP):Option Bool:=
 (bif decide (p1.aN>0)then(bif p0.aN==p1.aN then some (p0.Kind != p1.Kind)else some false)else some false).bind λj=>some j
def dH(N:Nat)(p0:List aP)(p1:aP->Option Bool):Option Int:=
 (iV p0.length (λ(j:Nat)(o:Unit)=>((idx p0 (j:Int)).bind λaa=>(p1 aa).bind λab=>bif ab then some (.rt (j:Int))else(some<|.nx ()):Option (Fl Unit Int))) ()).bind λad=>ad.cs (λ(o:Unit)=>some<|-1)<|λr=>some r
def dS(N:Nat)(p0:List aP)(p1:aP->Option Bool):Option Bool:=
 (dH N p0 p1).bind λj=>some<|decide<|j>=0
def fy(N:Nat)(p0:List aP):Option Int:=
 bif(p0.length:Int)==0 then some 9 else(bif decide ((p0.length:Int)>200)then some 2 else((iV p0.length (λ(o:Nat)(ad:Unit)=>((idx p0 (o:Int)).bind λj=>(eQ N j.Name).bind λae=>bif(!ae)then some (.rt 5)else(bif decide (j.Kind<1)||decide (j.Kind>7)then some (.rt 4)else(bif decide (j.aN<0)||decide (j.aN>200)then some (.rt 1)else((bif decide ((o:Int)>0)then((idx p0<|wrap .i64<|(o:Int) - 1).bind λaa=>some<|j.Name.iC aa.Name||j.Name.fe aa.Name)else some false).bind λaf=>bif af then some (.rt 8)else some (.nx ())))):Option (Fl Unit Int))) ()).bind λag=>ag.cs (λ(ad:Unit)=>(iV p0.length (λ(ab:Nat)(ah:Unit)=>((idx p0 (ab:Int)).bind λai=>(uQ p0 0 (ab:Int)).bind λaj=>(dS N aj<|λy0=>cW N y0 ai).bind λak=>bif ak then some (.rt 12)else(some<|.nx ()):Option (Fl Unit Int))) ()).bind λal=>al.cs (λ(ah:Unit)=>some 0)<|λr=>some r)<|λr=>some r))
def eR(N:Nat)(p0:List aC):Option Int:=
 bif decide ((p0.length:Int)>200)then some 2 else((iV p0.length (λ(o:Nat)(ad:Unit)=>((idx p0 (o:Int)).bind λj=>(eQ N j.Name).bind λae=>bif(!ae)then some (.rt 5)else((fy N j.aJ).bind λaa=>bif aa != 0 then some (.rt aa)else((bif decide ((o:Int)>0)then((idx p0<|wrap .i64<|(o:Int) - 1).bind λab=>some<|j.Name.iC ab.Name||j.Name.fe ab.Name)else some false).bind λaf=>bif af then some (.rt 8)else some (.nx ()))):Option (Fl Unit Int))) ()).bind λag=>ag.cs (λ(ad:Unit)=>some 0)<|λr=>some r)
def cA(N:Nat)(p0:List aC)(p1:aQ)(p2:aC->aQ->Option Int):Option (Int×Bool):=
 (p7 (λ(j:Int×Int)=>(bif decide (j.1<j.2)then((idx p0<|wrap .i64<|Int.fdiv (wrap .u64<|wrap .i64<|j.1+j.2) 2).bind λaa=>(p2 aa p1).bind λab=>(bif decide (ab<0)then some (wrap .i64<|wrap .i64 (Int.fdiv (wrap .u64<|wrap .i64<|j.1+j.2) 2)+1,j.2)else some (j.1,wrap .i64<|Int.fdiv (wrap .u64<|wrap .i64<|j.1+j.2) 2)).bind λo=>some<|.nx (o.1,o.2))else(some<|.br (j.1,j.2)):Option (Fl (Int×Int) Empty))) N (0,(p0.length:Int))).bind λad=>ad.cs (λ(j:Int×Int)=>(bif decide (j.1<(p0.length:Int))then((idx p0 j.1).bind λae=>(p2 ae p1).bind λaf=>some<|af==0)else some false).bind λag=>some (j.1,ag))<|λr=>r.elim
def gu(N:Nat)(p0 p1:aQ):Option Int:=
 some (Lib.compareBytes p0.bF p1.bF)
def ec(N:Nat)(p0 p1:aQ):Option Int:=
 (gu N p0 p1).bind λj=>some j
def ey(N:Nat)(p0:aC)(p1:aQ):Option Int:=
 (ec N p0.Name p1).bind λj=>some j
def dI(N:Nat)(p0:List aC)(p1:aQ):Option Int:=
 (cA N p0 p1<|ey N).bind λj=>bif(!j.2)then some (-1)else some j.1
def eT(N:Nat)(p0:List aC)(p1:List Part)(p2:aQ->Option Bool):Option Int:=
 bif decide ((p1.length:Int)>1000)then some 2 else((iV p1.length (λ(o:Nat)(ab:Unit)=>((idx p1 (o:Int)).bind λj=>(p2 j.Name).bind λad=>bif(!ad)then some (.rt 5)else((dI N p0 j.bR).bind λae=>bif decide (ae<0)then some (.rt 9)else((bif decide ((o:Int)>0)then((idx p1<|wrap .i64<|(o:Int) - 1).bind λaa=>some<|j.Name.iC aa.Name||j.Name.fe aa.Name)else some false).bind λaf=>bif af then some (.rt 8)else some (.nx ()))):Option (Fl Unit Int))) ()).bind λag=>ag.cs (λ(ab:Unit)=>some 0)<|λr=>some r)
def fz(N:Nat)(p0 p1:aQ):Option Int:=
 bif((p1.bF.length:Int)==0)||p1.fe p0 then some 0 else(bif(p1.bF.length:Int)==1 then((rF p1 0).bind λj=>(eg N p0 (j.toNat:Int)).bind λo=>some o)else(bif decide ((p1.bF.length:Int)>=(p0.bF.length:Int))then some (-1)else none))
def gm(N:Nat)(p0 p1:aQ):Option Int:=
 (fz N p0 p1).bind λj=>some j
def gU(N:Nat)(p0 p1:aQ):Option Int:=
 bif(p1.bF.length:Int)==0 then none else(bif(p1.bF.length:Int)==1 then((rF p1 0).bind λaa=>some ((Lib.countByte p0.bF (Int.toNat (aa.toNat:Int)).toUInt8:Nat):Int))else((p7 (λ(j:aQ×Int)=>((gm N j.1 p1).bind λo=>bif o==(-1)then some (.rt j.2)else((nd j.1 (wrap .i64<|o+(p1.bF.length:Int)) (j.1.bF.length:Int)).bind λab=>some<|.nx (ab,wrap .i64<|j.2+1)):Option (Fl (aQ×Int) Int))) N (p0,0)).bind λad=>ad.cs (λ(j:aQ×Int)=>some 0)<|λr=>some r))
def gN(N:Nat)(p0 p1:aQ)(p2 p3:Int):Option (List aQ):=
 bif p3==0 then some ([]:List aQ)else(bif p1.fe (⟨[]⟩)then none else((bif decide (p3<0)then((gU N p0 p1).bind λab=>some<|wrap .i64<|ab+1)else some p3).bind λo=>(mk 16 (⟨[]⟩:aQ) (if wrap .i64 ((p0.bF.length:Int)+1)<o then wrap .i64 ((p0.bF.length:Int)+1)else o)).bind λad=>(p7 (λ(j:aQ×List aQ×Int)=>(bif decide (j.2.2< wrap .i64 ((if wrap .i64 ((p0.bF.length:Int)+1)<o then wrap .i64 ((p0.bF.length:Int)+1)else o) - 1))then((gm N j.1 p1).bind λaa=>bif decide (aa<0)then some (.br (j.1,j.2.1,j.2.2))else((nd j.1 0<|wrap .i64<|aa+p2).bind λae=>(idx j.2.1 j.2.2).bind λai=>(nd j.1 (wrap .i64<|aa+(p1.bF.length:Int)) (j.1.bF.length:Int)).bind λaf=>some<|.nx (af,j.2.1.set (Int.toNat j.2.2) ae,wrap .i64<|j.2.2+1)))else(some<|.br (j.1,j.2.1,j.2.2)):Option (Fl (aQ×List aQ×Int) Empty))) N (p0,ad,0)).bind λag=>ag.cs (λ(j:aQ×List aQ×Int)=>(idx j.2.1 j.2.2).bind λaj=>(uQ (j.2.1.set (Int.toNat j.2.2) j.1) 0<|wrap .i64<|j.2.2+1).bind λah=>some ah)<|λr=>r.elim))
def gp(N:Nat)(p0 p1:aQ):Option (List aQ):=
 (gN N p0 p1 0<|-1).bind λj=>some j
def fO(N:Nat)(p0:List aQ)(p1:aQ->Option Bool):Option Int:=
 (iV p0.length (λ(j:Nat)(o:Unit)=>((idx p0 (j:Int)).bind λaa=>(p1 aa).bind λab=>bif ab then some (.rt (j:Int))else(some<|.nx ()):Option (Fl Unit Int))) ()).bind λad=>ad.cs (λ(o:Unit)=>some<|-1)<|λr=>some r
def dW(N:Nat)(p0:List aQ)(p1:aQ->Option Bool):Option Bool:=
 (fO N p0 p1).bind λj=>some<|decide<|j>=0
def dX(N:Nat)(p0:aQ):Option Bool:=
 (eQ N p0).bind λj=>some<|!j
def eU(N:Nat)(p0:aQ):Option Bool:=
 (bif decide ((p0.bF.length:Int)<=200)then((gp N p0<|⟨[47]⟩).bind λj=>(dW N j<|dX N).bind λo=>some<|!o)else some false).bind λaa=>some aa
def cJ(N:Nat)(p0:List Part)(p1:aQ)(p2:Part->aQ->Option Int):Option (Int×Bool):=
 (p7 (λ(j:Int×Int)=>(bif decide (j.1<j.2)then((idx p0<|wrap .i64<|Int.fdiv (wrap .u64<|wrap .i64<|j.1+j.2) 2).bind λaa=>(p2 aa p1).bind λab=>(bif decide (ab<0)then some (wrap .i64<|wrap .i64 (Int.fdiv (wrap .u64<|wrap .i64<|j.1+j.2) 2)+1,j.2)else some (j.1,wrap .i64<|Int.fdiv (wrap .u64<|wrap .i64<|j.1+j.2) 2)).bind λo=>some<|.nx (o.1,o.2))else(some<|.br (j.1,j.2)):Option (Fl (Int×Int) Empty))) N (0,(p0.length:Int))).bind λad=>ad.cs (λ(j:Int×Int)=>(bif decide (j.1<(p0.length:Int))then((idx p0 j.1).bind λae=>(p2 ae p1).bind λaf=>some<|af==0)else some false).bind λag=>some (j.1,ag))<|λr=>r.elim
def ez(N:Nat)(p0:Part)(p1:aQ):Option Int:=
 (ec N p0.Name p1).bind λj=>some j
def dY(N:Nat)(p0:List Part)(p1:aQ):Option Int:=
 (cJ N p0 p1<|ez N).bind λj=>bif(!j.2)then some (-1)else some j.1
def cC(N:Nat)(p0:List aP)(p1:aQ)(p2:aP->aQ->Option Int):Option (Int×Bool):=
 (p7 (λ(j:Int×Int)=>(bif decide (j.1<j.2)then((idx p0<|wrap .i64<|Int.fdiv (wrap .u64<|wrap .i64<|j.1+j.2) 2).bind λaa=>(p2 aa p1).bind λab=>(bif decide (ab<0)then some (wrap .i64<|wrap .i64 (Int.fdiv (wrap .u64<|wrap .i64<|j.1+j.2) 2)+1,j.2)else some (j.1,wrap .i64<|Int.fdiv (wrap .u64<|wrap .i64<|j.1+j.2) 2)).bind λo=>some<|.nx (o.1,o.2))else(some<|.br (j.1,j.2)):Option (Fl (Int×Int) Empty))) N (0,(p0.length:Int))).bind λad=>ad.cs (λ(j:Int×Int)=>(bif decide (j.1<(p0.length:Int))then((idx p0 j.1).bind λae=>(p2 ae p1).bind λaf=>some<|af==0)else some false).bind λag=>some (j.1,ag))<|λr=>r.elim
def eN(N:Nat)(p0:aP)(p1:aQ):Option Int:=
 (ec N p0.Name p1).bind λj=>some j
def gq(N:Nat)(p0:aC)(p1:aQ):Option Int:=
 (cC N p0.aJ p1<|eN N).bind λj=>bif(!j.2)then some (-1)else some j.1
def ij(N:Nat)(p0:List aC)(p1:List Part)(p2:bP):Option Bool:=
 (dY N p1 p2.Part).bind λj=>(bif decide (j>=0)then((idx p1 j).bind λo=>(dI N p0 o.bR).bind λaa=>(idx p0 aa).bind λab=>(gq N ab p2.bP).bind λad=>some<|decide<|ad>=0)else some false).bind λae=>some ae
def fA(N:Nat)(p0:bP)(p1:List aC)(p2:aF):Option Bool:=
 (ij N p1 p2.aU p0).bind λj=>some j
def fL(N:Nat)(p0 p1:bP):Option Int:=
 (ec N p0.Part p1.Part).bind λj=>bif j != 0 then some j else((ec N p0.bP p1.bP).bind λo=>some o)
def er(N:Nat)(p0:List bP)(p1:bP->Option Bool)(p2:List (bP×Bool)):Option (Int×List (bP×Bool)):=
 bif decide ((p0.length:Int)>500)then some (2,p2)else((iV p0.length (λ(j:Nat)(aa:Unit)=>((idx p0 (j:Int)).bind λpZ=>(p1 pZ).bind λab=>bif(!ab)then some (.rt (9,p2))else((bif decide ((j:Int)>0)then((idx p0<|wrap .i64<|(j:Int) - 1).bind λad=>(fL N pZ ad).bind λsY=>some<|decide<|sY<=0)else some false).bind λae=>bif ae then some (.rt (8,p2))else(bif bM p2 pZ (false:Bool)then some (.rt (7,p2))else some (.nx ()))):Option (Fl Unit<|Int×List (bP×Bool)))) ()).bind λaf=>af.cs (λ(aa:Unit)=>(oK p0.length (λ(ag:Nat)(o:List (bP×Bool))=>((idx p0 (ag:Int)).bind λah=>some (dU o ah true):Option (List<|bP×Bool))) p2).bind λo=>some (0,o))<|λr=>some r)
def dB(N:Nat)(p0:List aC)(p1:aF):Option Int:=
 (eR N p0).bind λab=>bif ab != 0 then some ab else((eT N p0 p1.aU<|eU N).bind λad=>bif ad != 0 then some ad else(bif decide ((p1.aY.length:Int)>1000)then some 2 else((iV p1.aY.length (λ(o:Nat)(ae:List (bP×Bool))=>((idx p1.aY (o:Int)).bind λj=>(eU N j.Name).bind λag=>bif(!ag)then some (.rt 5)else(bif(j.aJ.length:Int)==0 then some (.rt 9)else((er N j.aJ (λy0=>fA N y0 p0 p1) ae).bind λaa=>bif aa.1 != 0 then some (.rt aa.1)else(bif decide ((j.jh.length:Int)>0)then some (.rt 3)else((bif decide ((o:Int)>0)then((idx p1.aY<|wrap .i64<|(o:Int) - 1).bind λaf=>some<|j.Name.iC af.Name||j.Name.fe af.Name)else some false).bind λah=>bif ah then some (.rt 8)else some (.nx aa.2))))):Option (Fl (List<|bP×Bool) Int))) ([]:List (bP×Bool))).bind λai=>ai.cs (λ(ae:List (bP×Bool))=>some 0)<|λr=>some r)))
def fP(N:Nat)(p0:List aC)(p1 p2:aF):Option Int:=
 (dB N p0 p1).bind λj=>bif j != 0 then some j else((dB N p0 p2).bind λo=>some o)
def ff(N:Nat)(p0 p1:Int)(p2 p3:aF):Option Bool:=
 (idx p2.aU p0).bind λj=>(idx p3.aU p1).bind λo=>some<|j.bR.fe o.bR
def cN(N:Nat)(p0:aQ)(p1:aF):Option Int:=
 (dY N p1.aU p0).bind λj=>some j
def dD(N:Nat)(p0:aF):Option (aF):=
 some p0
def ej(N:Nat)(p0:List aI)(p1 p2:aQ->Option Int)(p3:Int->Int->Option Bool):Option Int:=
 (iV p0.length (λ(o:Nat)(aa:List (aQ×Bool))=>((idx p0 (o:Int)).bind λj=>(p1 j.A).bind λab=>(p2 j.B).bind λad=>bif decide (ab<0)||decide (ad<0)then some (.rt 9)else((p3 ab ad).bind λaf=>bif(!af)then some (.rt 6)else((bif decide ((o:Int)>0)then((idx p0<|wrap .i64<|(o:Int) - 1).bind λae=>some<|j.A.iC ae.A||j.A.fe ae.A)else some false).bind λag=>bif ag then some (.rt 8)else(bif bM aa j.B (false:Bool)then some (.rt 7)else some (.nx<|dU aa j.B true)))):Option (Fl (List<|aQ×Bool) Int))) ([]:List (aQ×Bool))).bind λah=>ah.cs (λ(aa:List (aQ×Bool))=>some 0)<|λr=>some r
def dM(N:Nat)(p0:List Net)(p1:aQ)(p2:Net->aQ->Option Int):Option (Int×Bool):=
 (p7 (λ(j:Int×Int)=>(bif decide (j.1<j.2)then((idx p0<|wrap .i64<|Int.fdiv (wrap .u64<|wrap .i64<|j.1+j.2) 2).bind λaa=>(p2 aa p1).bind λab=>(bif decide (ab<0)then some (wrap .i64<|wrap .i64 (Int.fdiv (wrap .u64<|wrap .i64<|j.1+j.2) 2)+1,j.2)else some (j.1,wrap .i64<|Int.fdiv (wrap .u64<|wrap .i64<|j.1+j.2) 2)).bind λo=>some<|.nx (o.1,o.2))else(some<|.br (j.1,j.2)):Option (Fl (Int×Int) Empty))) N (0,(p0.length:Int))).bind λad=>ad.cs (λ(j:Int×Int)=>(bif decide (j.1<(p0.length:Int))then((idx p0 j.1).bind λae=>(p2 ae p1).bind λaf=>some<|af==0)else some false).bind λag=>some (j.1,ag))<|λr=>r.elim
def fQ(N:Nat)(p0:Net)(p1:aQ):Option Int:=
 (ec N p0.Name p1).bind λj=>some j
def fF(N:Nat)(p0:aF)(p1:aQ):Option Int:=
 (dM N p0.aY p1<|fQ N).bind λj=>bif(!j.2)then some (-1)else some j.1
def cO(N:Nat)(p0:aQ)(p1:aF):Option Int:=
 (fF N p1 p0).bind λj=>some j
def dE(N:Nat)(p0:aF):Option (aF):=
 some p0
def gv(N:Nat)(p0 p1:Int):Option Bool:=
 some true
def fj(N:Nat)(p0:aP)(p1:Int):Option Bool:=
 some (p0.aN==p1)
def fZ(N:Nat)(p0:aC)(p1:aQ):Option Int:=
 (gq N p0 p1).bind λj=>(idx p0.aJ j).bind λo=>bif decide (o.aN>0)then((dH N p0.aJ<|λy0=>fj N y0 o.aN).bind λaa=>some aa)else some j
def cX(N:Nat)(p0:aF)(p2:aQ)(p3_0:List (aQ×Int))(p3_1:List (aQ×Int))(p4:List aC):Option (List<|aE×Int):=
 (fF N p0 p2).bind λad=>(idx p0.aY ad).bind λaa=>(oK aa.aJ.length (λ(ae:Nat)(j:List (aE×Int))=>((idx aa.aJ (ae:Int)).bind λo=>(bif ig p3_0 o.Part then((dY N p0.aU o.Part).bind λaf=>(idx p0.aU af).bind λag=>(dI N p4 ag.bR).bind λah=>(idx p4 ah).bind λai=>(fZ N ai o.bP).bind λab=>some<|dU j (⟨bM p3_0 o.Part (0:Int),0,ab⟩:aE)<|wrap .i64<|bM j (⟨bM p3_0 o.Part (0:Int),0,ab⟩:aE) (0:Int)+1)else some j).bind λaj=>some aj:Option (List<|aE×Int))) ([]:List (aE×Int))).bind λj=>some j
def cY(N:Nat)(p0:aF)(p2:aQ)(p3_0:List (aQ×Int))(p3_1:List (aQ×Int))(p4:List aC):Option (List<|aE×Int):=
 (fF N p0 p2).bind λad=>(idx p0.aY ad).bind λaa=>(oK aa.aJ.length (λ(ae:Nat)(j:List (aE×Int))=>((idx aa.aJ (ae:Int)).bind λo=>(bif ig p3_1 o.Part then((dY N p0.aU o.Part).bind λaf=>(idx p0.aU af).bind λag=>(dI N p4 ag.bR).bind λah=>(idx p4 ah).bind λai=>(fZ N ai o.bP).bind λab=>some<|dU j (⟨bM p3_1 o.Part (0:Int),0,ab⟩:aE)<|wrap .i64<|bM j (⟨bM p3_1 o.Part (0:Int),0,ab⟩:aE) (0:Int)+1)else some j).bind λaj=>some aj:Option (List<|aE×Int))) ([]:List (aE×Int))).bind λj=>some j
def eV(N:Nat)(p0:List aC)(p1 p2:aF)(p3:List aI)(p4:List aI):Option Int:=
 (fP N p0 p1 p2).bind λaa=>bif aa != 0 then some aa else((bif decide ((p3.length:Int)>1000)then some true else some (decide<|(p4.length:Int)>1000)).bind λaj=>bif aj then some 2 else((dD N p1).bind λak=>(dD N p2).bind λal=>(ej N p3 (λy0=>cN N y0 ak) (λy0=>cN N y0 al)<|λy0 y1=>ff N y0 y1 p1 p2).bind λab=>bif ab != 0 then some ab else((dE N p1).bind λan=>(dE N p2).bind λao=>(ej N p4 (λy0=>cO N y0 an) (λy0=>cO N y0 ao)<|gv N).bind λad=>bif ad != 0 then some ad else((oK p3.length (λ(o:Nat)(j:List (aQ×Int)×List (aQ×Int))=>((idx p3 (o:Int)).bind λae=>some (dU j.1 ae.A (o:Int),dU j.2 ae.B (o:Int)):Option (List (aQ×Int)×List (aQ×Int)))) (([]:List (aQ×Int)),([]:List (aQ×Int)))).bind λj=>(iV p4.length (λ(aq:Nat)(ar:Unit)=>((idx p4 (aq:Int)).bind λaf=>(cX N p1 af.A j.1 j.2 p0).bind λag=>(cY N p2 af.B j.1 j.2 p0).bind λah=>bif(ag.length:Int) != (ah.length:Int)then some (.rt 12)else(qN ag (λ(ai:aE×Int)(au:Unit)=>(bif bM ah ai.1 (0:Int) != ai.2 then some (.rt 12)else(some<|.nx ()):Option (Fl Unit Int))) () (λ(au:Unit)=>some<|.nx ())<|λr=>some<|.rt r):Option (Fl Unit Int))) ()).bind λav=>av.cs (λ(ar:Unit)=>some 0)<|λr=>some r))))
def cK(N:Nat)(p0 p1 p2:Int):Option Bool:=
 some (decide (p1<=p0)&&decide (p0<=p2))
def cZ(N:Nat)(p0:aQ):Option Bool:=
 (iV p0.bF.length (λ(o:Nat)(aa:Unit)=>((rF p0 (o:Int)).bind λj=>(bif((decide ((j.toNat:Int)<97)||decide ((j.toNat:Int)>122))&&(decide ((j.toNat:Int)<65)||decide ((j.toNat:Int)>90)))&&(decide ((j.toNat:Int)<48)||decide ((j.toNat:Int)>57))then((dV N (⟨[95,43,45,35]⟩) (j.toNat:Int)).bind λab=>some<|decide<|ab<0)else some false).bind λad=>bif ad then some (.rt false)else(some<|.nx ()):Option (Fl Unit Bool))) ()).bind λae=>ae.cs (λ(aa:Unit)=>(cK N (p0.bF.length:Int) 1 40).bind λaf=>some af)<|λr=>some r
def dN(N:Nat)(p0:aC):Option Int:=
 (cZ N p0.Name).bind λag=>bif(!ag)then some 5 else(bif(p0.aJ.length:Int)==0 then some 9 else(bif decide ((p0.aJ.length:Int)>200)then some 2 else((iV p0.aJ.length (λ(o:Nat)(ah:Unit)=>((idx p0.aJ (o:Int)).bind λj=>(cZ N j.Name).bind λai=>bif(!ai)then some (.rt 5)else((cK N j.Kind 1 7).bind λaj=>bif(!aj)then some (.rt 4)else((cK N j.aN 0 200).bind λak=>bif(!ak)then some (.rt 1)else((bif decide ((o:Int)>0)then((idx p0.aJ<|wrap .i64<|(o:Int) - 1).bind λab=>some<|j.Name.iC ab.Name||j.Name.fe ab.Name)else some false).bind λal=>bif al then some (.rt 8)else some (.nx ())))):Option (Fl Unit Int))) ()).bind λan=>an.cs (λ(ah:Unit)=>(iV p0.aJ.length (λ(ad:Nat)(ao:Unit)=>((idx p0.aJ (ad:Int)).bind λaa=>(uQ p0.aJ 0 (ad:Int)).bind λae=>(iV ae.length (λ(aq:Nat)(ar:Unit)=>((idx ae (aq:Int)).bind λaf=>bif(decide (aa.aN>0)&&(aa.aN==af.aN))&&(aa.Kind != af.Kind)then some (.rt 12)else(some<|.nx ()):Option (Fl Unit Int))) ()).bind λau=>au.cs (λ(ar:Unit)=>some<|.nx ()) (λr=>some<|.rt r):Option (Fl Unit Int))) ()).bind λav=>av.cs (λ(ao:Unit)=>some 0)<|λr=>some r)<|λr=>some r)))
def dJ(N:Nat)(p0:List aC):Option Int:=
 bif decide ((p0.length:Int)>200)then some 2 else((iV p0.length (λ(j:Nat)(ad:Unit)=>((idx p0 (j:Int)).bind λo=>(dN N o).bind λaa=>bif aa != 0 then some (.rt aa)else((bif decide ((j:Int)>0)then((idx p0<|wrap .i64<|(j:Int) - 1).bind λab=>some<|o.Name.iC ab.Name||o.Name.fe ab.Name)else some false).bind λae=>bif ae then some (.rt 8)else some (.nx ())):Option (Fl Unit Int))) ()).bind λaf=>af.cs (λ(ad:Unit)=>some 0)<|λr=>some r)
def dO(N:Nat)(p0:aQ):Option Bool:=
 (gp N p0<|⟨[47]⟩).bind λj=>(iV j.length (λ(o:Nat)(aa:Unit)=>((idx j (o:Int)).bind λab=>(cZ N ab).bind λad=>bif(!ad)then some (.rt false)else(some<|.nx ()):Option (Fl Unit Bool))) ()).bind λae=>ae.cs (λ(aa:Unit)=>some<|decide<|(p0.bF.length:Int)<=200)<|λr=>some r
def dP(N:Nat)(p0:List aC)(p1:aQ):Option Int:=
 (iV p0.length (λ(j:Nat)(o:Unit)=>((idx p0 (j:Int)).bind λaa=>bif aa.Name.fe p1 then some (.rt (j:Int))else(some<|.nx ()):Option (Fl Unit Int))) ()).bind λab=>ab.cs (λ(o:Unit)=>some<|-1)<|λr=>some r
def dA(N:Nat)(p0:List Part)(p1:aQ):Option Int:=
 (iV p0.length (λ(j:Nat)(o:Unit)=>((idx p0 (j:Int)).bind λaa=>bif aa.Name.fe p1 then some (.rt (j:Int))else(some<|.nx ()):Option (Fl Unit Int))) ()).bind λab=>ab.cs (λ(o:Unit)=>some<|-1)<|λr=>some r
def eD(N:Nat)(p0:aC)(p1:aQ):Option Int:=
 (iV p0.aJ.length (λ(j:Nat)(o:Unit)=>((idx p0.aJ (j:Int)).bind λaa=>bif aa.Name.fe p1 then some (.rt (j:Int))else(some<|.nx ()):Option (Fl Unit Int))) ()).bind λab=>ab.cs (λ(o:Unit)=>some<|-1)<|λr=>some r
def fB(N:Nat)(p0:List aC)(p1:aF)(p2:bP):Option Bool:=
 (dA N p1.aU p2.Part).bind λj=>(bif decide (j>=0)then((idx p1.aU j).bind λo=>(dP N p0 o.bR).bind λaa=>(idx p0 aa).bind λab=>(eD N ab p2.bP).bind λad=>some<|decide<|ad>=0)else some false).bind λae=>some ae
def fC(N:Nat)(p0 p1:bP):Option Bool:=
 some (p0.Part.iC p1.Part||(p0.Part.fe p1.Part&&p0.bP.iC p1.bP))
def iE(N:Nat)(p0:List bP)(p1:bP):Option Int:=
 (iV p0.length (λ(j:Nat)(o:Unit)=>((idx p0 (j:Int)).bind λaa=>bif decide (p1=aa)then some (.rt (j:Int))else(some<|.nx ()):Option (Fl Unit Int))) ()).bind λab=>ab.cs (λ(o:Unit)=>some<|-1)<|λr=>some r
def fM(N:Nat)(p0:List bP)(p1:bP):Option Bool:=
 (iE N p0 p1).bind λj=>some<|decide<|j>=0
def eu(N:Nat)(p0:List Net)(p1:bP):Option Bool:=
 (iV p0.length (λ(j:Nat)(o:Unit)=>((idx p0 (j:Int)).bind λaa=>(fM N aa.aJ p1).bind λab=>bif ab then some (.rt true)else(some<|.nx ()):Option (Fl Unit Bool))) ()).bind λad=>ad.cs (λ(o:Unit)=>some false)<|λr=>some r
def cT(N:Nat)(p0:List aC)(p1:aF):Option Int:=
 bif decide ((p1.aU.length:Int)>1000)then some 2 else((iV p1.aU.length (λ(ab:Nat)(ah:Unit)=>((idx p1.aU (ab:Int)).bind λo=>(dO N o.Name).bind λai=>bif(!ai)then some (.rt 5)else((dP N p0 o.bR).bind λaj=>bif decide (aj<0)then some (.rt 9)else((bif decide ((ab:Int)>0)then((idx p1.aU<|wrap .i64<|(ab:Int) - 1).bind λaf=>some<|o.Name.iC af.Name||o.Name.fe af.Name)else some false).bind λak=>bif ak then some (.rt 8)else some (.nx ()))):Option (Fl Unit Int))) ()).bind λal=>al.cs (λ(ah:Unit)=>bif decide ((p1.aY.length:Int)>1000)then some 2 else((iV p1.aY.length (λ(aa:Nat)(an:Unit)=>((idx p1.aY (aa:Int)).bind λj=>(dO N j.Name).bind λao=>bif(!ao)then some (.rt 5)else(bif(j.aJ.length:Int)==0 then some (.rt 9)else(bif decide ((j.aJ.length:Int)>500)then some (.rt 2)else((iV j.aJ.length (λ(ad:Nat)(aq:Unit)=>((idx j.aJ (ad:Int)).bind λae=>(fB N p0 p1 ae).bind λar=>bif(!ar)then some (.rt 9)else((bif decide ((ad:Int)>0)then((idx j.aJ<|wrap .i64<|(ad:Int) - 1).bind λau=>(fC N au ae).bind λav=>some<|!av)else some false).bind λaw=>bif aw then some (.rt 8)else((uQ p1.aY 0 (aa:Int)).bind λax=>(eu N ax ae).bind λay=>bif ay then some (.rt 7)else some (.nx ()))):Option (Fl Unit Int))) ()).bind λaz=>az.cs (λ(aq:Unit)=>bif decide ((j.jh.length:Int)>0)then some (.rt 3)else((bif decide ((aa:Int)>0)then((idx p1.aY<|wrap .i64<|(aa:Int) - 1).bind λag=>some<|j.Name.iC ag.Name||j.Name.fe ag.Name)else some false).bind λa0=>bif a0 then some (.rt 8)else some (.nx ())))<|λr=>some<|.rt r))):Option (Fl Unit Int))) ()).bind λa1=>a1.cs (λ(an:Unit)=>some 0)<|λr=>some r))<|λr=>some r)
def dQ(N:Nat)(p0:List aC)(p1:aF):Option Int:=
 (dJ N p0).bind λj=>bif j != 0 then some j else((cT N p0 p1).bind λo=>some o)
def fD(N:Nat)(p0:List aC)(p1 p2:aF):Option Int:=
 (dQ N p0 p1).bind λj=>bif j != 0 then some j else((cT N p0 p2).bind λo=>some o)
def cU(N:Nat)(p0:List aI)(p1:Int):Option Int:=
 (bif decide (p1>0)then((idx p0 p1).bind λj=>(idx p0<|wrap .i64<|p1 - 1).bind λo=>some<|j.A.iC o.A||j.A.fe o.A)else some false).bind λab=>bif ab then some 8 else((uQ p0 0 p1).bind λaa=>(iV aa.length (λ(ad:Nat)(ae:Unit)=>((idx aa (ad:Int)).bind λaf=>(idx p0 p1).bind λag=>bif af.B.fe ag.B then some (.rt 7)else(some<|.nx ()):Option (Fl Unit Int))) ()).bind λah=>ah.cs (λ(ae:Unit)=>some 0)<|λr=>some r)
def cL(N:Nat)(p0:aF)(p1:aQ):Option Int:=
 (iV p0.aY.length (λ(j:Nat)(o:Unit)=>((idx p0.aY (j:Int)).bind λaa=>bif aa.Name.fe p1 then some (.rt (j:Int))else(some<|.nx ()):Option (Fl Unit Int))) ()).bind λab=>ab.cs (λ(o:Unit)=>some<|-1)<|λr=>some r
def eW(N:Nat)(p0:aC)(p1:Int):Option Int:=
 (p7 (λ(j:Int)=>(bif decide (j<p1)then(((idx p0.aJ p1).bind λo=>bif decide (o.aN>0)then((idx p0.aJ j).bind λaa=>(idx p0.aJ p1).bind λab=>some<|aa.aN==ab.aN)else some false).bind λad=>bif ad then some (.rt j)else some (.nx<|wrap .i64<|j+1))else(some<|.br j):Option (Fl Int Int))) N 0).bind λae=>ae.cs (λ(j:Int)=>some p1)<|λr=>some r
def dF(N:Nat)(p0:List aC)(p1:aF)(p2:Net)(p3:aQ):Option (List Int):=
 (dA N p1.aU p3).bind λab=>(idx p1.aU ab).bind λad=>(dP N p0 ad.bR).bind λae=>(idx p0 ae).bind λo=>(oK p2.aJ.length (λ(af:Nat)(j:List Int)=>((idx p2.aJ (af:Int)).bind λaa=>(bif aa.Part.fe p3 then((eD N o aa.bP).bind λag=>(eW N o ag).bind λah=>(app 8 j ([ah]:List Int)).bind λai=>some ai)else some j).bind λaj=>some aj:Option (List Int))) ([]:List Int)).bind λj=>(qP j).bind λak=>some ak
def gO(N:Nat)(p0:List Int)(p1:List Int):Option Bool:=
 bif(p0.length:Int) != (p1.length:Int)then some false else((iV p0.length (λ(j:Nat)(o:Unit)=>((idx p0 (j:Int)).bind λaa=>(idx p1 (j:Int)).bind λab=>bif aa != ab then some (.rt false)else(some<|.nx ()):Option (Fl Unit Bool))) ()).bind λad=>ad.cs (λ(o:Unit)=>some true)<|λr=>some r)
def dK(N:Nat)(p0:List aC)(p1 p2:aF)(p3:List aI)(p4:List aI):Option Int:=
 (fD N p0 p1 p2).bind λj=>bif j != 0 then some j else((bif decide ((p3.length:Int)>1000)then some true else some (decide<|(p4.length:Int)>1000)).bind λaj=>bif aj then some 2 else((iV p3.length (λ(o:Nat)(ak:Unit)=>((idx p3 (o:Int)).bind λaa=>(dA N p1.aU aa.A).bind λpZ=>(dA N p2.aU aa.B).bind λab=>bif decide (pZ<0)||decide (ab<0)then some (.rt 9)else((idx p1.aU pZ).bind λal=>(idx p2.aU ab).bind λan=>bif(!al.bR.fe an.bR)then some (.rt 6)else((cU N p3 (o:Int)).bind λad=>bif ad != 0 then some (.rt ad)else some (.nx ()))):Option (Fl Unit Int))) ()).bind λao=>ao.cs (λ(ak:Unit)=>(iV p4.length (λ(ae:Nat)(aq:Unit)=>((idx p4 (ae:Int)).bind λaf=>((cL N p1 af.A).bind λar=>bif decide (ar<0)then some true else((cL N p2 af.B).bind λau=>some<|decide<|au<0)).bind λav=>bif av then some (.rt 9)else((cU N p4 (ae:Int)).bind λag=>bif ag != 0 then some (.rt ag)else some (.nx ())):Option (Fl Unit Int))) ()).bind λaw=>aw.cs (λ(aq:Unit)=>(iV p4.length (λ(ax:Nat)(ay:Unit)=>((idx p4 (ax:Int)).bind λah=>(iV p3.length (λ(az:Nat)(a0:Unit)=>((idx p3 (az:Int)).bind λai=>(cL N p1 ah.A).bind λa1=>(idx p1.aY a1).bind λa2=>(dF N p0 p1 a2 ai.A).bind λa3=>(cL N p2 ah.B).bind λa4=>(idx p2.aY a4).bind λa5=>(dF N p0 p2 a5 ai.B).bind λa6=>(gO N a3 a6).bind λa7=>bif(!a7)then some (.rt 12)else(some<|.nx ()):Option (Fl Unit Int))) ()).bind λa8=>a8.cs (λ(a0:Unit)=>some<|.nx ()) (λr=>some<|.rt r):Option (Fl Unit Int))) ()).bind λa9=>a9.cs (λ(ay:Unit)=>some 0)<|λr=>some r)<|λr=>some r)<|λr=>some r))
def k9(N:Nat)(p0:aF):Option (List<|bP×Int):=
 (oK p0.aY.length (λ(aa:Nat)(j:List (bP×Int))=>((idx p0.aY (aa:Int)).bind λab=>(oK ab.aJ.length (λ(ad:Nat)(o:List (bP×Int))=>((idx ab.aJ (ad:Int)).bind λae=>some (dU o ae (aa:Int)):Option (List<|bP×Int))) j).bind λo=>some o:Option (List<|bP×Int))) ([]:List (bP×Int))).bind λj=>some j
def jx(N:Nat)(p0:List aC)(p1:Part):Option (List bP):=
 (dI N p0 p1.bR).bind λaa=>(idx p0 aa).bind λo=>(oK o.aJ.length (λ(ab:Nat)(j:List bP)=>((idx o.aJ (ab:Int)).bind λad=>(app 32 j ([(⟨p1.Name,ad.Name⟩:bP)]:List bP)).bind λae=>some ae:Option (List bP))) ([]:List bP)).bind λj=>some j
def jc(N:Nat)(p0:List aC)(p1:aF):Option (List bP):=
 (k9 N p1).bind λad=>(oK p1.aU.length (λ(ae:Nat)(o:List bP)=>((idx p1.aU (ae:Int)).bind λaf=>(jx N p0 af).bind λaa=>(oK aa.length (λ(ag:Nat)(j:List bP)=>((idx aa (ag:Int)).bind λab=>(bif(!(ig ad ab))then((app 32 j ([ab]:List bP)).bind λah=>some ah)else some j).bind λai=>some ai:Option (List bP))) o).bind λj=>some j:Option (List bP))) ([]:List bP)).bind λo=>some o
def j8(N:Nat)(p0:List aC)(p1:aF):Option (List bP×Int):=
 (dB N p0 p1).bind λj=>bif j != 0 then some (([]:List bP),j)else((jc N p0 p1).bind λo=>some (o,0))
def fN(N:Nat):Option Bool:=
 (j8 N ([(⟨⟨[114]⟩,([(⟨⟨[49]⟩,6,0⟩:aP)]:List aP)⟩:aC)]:List aC) (⟨([(⟨⟨[97]⟩,⟨[114]⟩⟩:Part)]:List Part),[]⟩:aF)).bind λj=>(bif j.2==0 then(bif(j.1.length:Int)==1 then((idx j.1 0).bind λo=>some<|decide<|o=(⟨⟨[97]⟩,⟨[49]⟩⟩:bP))else some false)else some false).bind λaa=>some aa
def cH(N:Nat)(p0:List aC)(p1 p2:aF)(p3:List aI)(p4:List aI):Option Bool:=
 ((eV N p0 p1 p2 p3 p4).bind λj=>(dK N p0 p1 p2 p3 p4).bind λo=>bif j==o then((fN N).bind λaa=>some aa)else some false).bind λab=>some ab
end
def fI{R:Type}(m:Nat)(e:Nat->Option R):Option R:=(List.range m).findSome? e
theorem gr{R:Type}{m:Nat}{e:Nat->Option R}:fI m e=none↔∀k,k<m->e k=none:=by
 simp[fI]
theorem fS{R:Type}{m:Nat}{e:Nat->Option R}{r:R}:fI m e=some r↔∃k,k<m/\e k=some r/\∀j,j<k->e j=none:=by
 constructor
 ·intro h;obtain⟨l1,a,l2,hl,ha,hn⟩:=List.findSome?_eq_some_iff.1 h;have hlen:l1.length<m:=by have:=congrArg List.length hl;grind
  have hget:∀i,i<l1.length->l1[i]? =some i:=λi hi=>by
   have:=congrArg (·[i]?) hl
   grind
  have hat:a=l1.length:=by
   have:=congrArg (·[l1.length]?) hl
   grind
  grind
 ·rintro⟨k,hk,he,hn⟩;refine List.findSome?_eq_some_iff.2 ⟨List.range k,k,(List.range<|m - k - 1).map (· +(k+1)),?_,he,λx hx=>hn x<|List.mem_range.1 hx⟩;refine List.ext_getElem? λi=>?_
  by_cases h1:i<k
  ·grind
  ·rw[kU (by grind),List.length_range]
   by_cases h2:i=k
   all_goals grind
theorem vh{R R':Type}{m:Nat}{e:Nat->Option R}(f:R->R'):(fI m e).map f=fI m (λk=>(e k).map f):=by
 cases hx:fI m e with
 |none=>grind [gr]
 |some r=>
  grind [fS]
section
variable {S R:Type}
def pw(o:Option R)(s:S):Fl S R:=match o with|some r=> .rt r|none=> .nx s
def sa(o:Option R)(s:S):Fo S R:=match o with|some r=> .rt r|none=> .go s
theorem sb{body:Nat->S->Option (Fl S R)}(F:Nat->S)(e:Nat->Option R)(m:Nat):∀(n k:Nat),k+n=m->
  (∀j,k<=j->j<m->(∀i,k<=i->i<j->e i=none)->body j (F j)=some (pw (e j)<|F<|j+1))->
  ∃o,qH body n k (F k)=some o/\((∀j,k<=j->j<m->e j=none)/\o = .go (F m)\/∃j r,k<=j/\j<m/\e j=some r/\(∀i,k<=i->i<j->e i=none)/\o = .rt r)
 | 0,k,hk,_=>⟨_,rfl, .inl ⟨λj h1 h2=>by omega,by grind⟩⟩
 |n+1,k,hk,h=>by
  have hb:=h k (cI _) (by omega) (λi h1 h2=>by omega);unfold qH;rw[hb]
  cases hx:e k with
  |some r=>exact⟨_,rfl, .inr ⟨k,r,cI _,by omega,hx,λi h1 h2=>by omega,rfl⟩⟩
  |none=>
   obtain⟨o,ho,hc⟩:=sb F e m n (k+1) (by omega) (λj h1 h2 h3=>h j (by omega) h2 λi h4 h5=>by
    grind)
   refine⟨o,ho,?_⟩
   rcases hc with⟨h1,h2⟩|⟨j,r,h1,h2,h3,h4,h5⟩
   ·refine .inl ⟨λj h3 h4=>?_,h2⟩
    by_cases h6:j=k
    ·subst h6;exact hx
    ·exact h1 j (by omega) h4
   ·refine .inr ⟨j,r,by omega,h2,h3,λi h6 h7=>?_,h5⟩
    by_cases h8:i=k
    ·subst h8;exact hx
    ·exact h4 i (by omega) h7
theorem q8{body:Nat->S->Option (Fl S R)}{m:Nat}{s:S}(F:Nat->S)(e:Nat->Option R)(hm:m<=4611686018427387904)(hs:F 0=s)
  (h:∀k,k<m->(∀i,i<k->e i=none)->body k (F k)=some (pw (e k)<|F<|k+1)):iV m body s=some (sa (fI m e)<|F m):=by
 subst hs;unfold iV;rw[aO hm];obtain⟨o,ho,hc⟩:=sb F e m m 0 (by omega)<|λj _ h2 h3=>h j h2 λi hi=>h3 i (Nat.zero_le _) hi
 rw[ho]
 rcases hc with⟨h1,h2⟩|⟨j,r,_,h2,h3,h4,h5⟩
 ·rw[gr.2 λk hk=>h1 k (Nat.zero_le _) hk,h2];rfl
 ·rw[fS.2 ⟨j,h2,h3,λi hi=>h4 i (Nat.zero_le _) hi⟩,h5];rfl
theorem eE{body:Nat->Unit->Option (Fl Unit R)}{m:Nat}(e:Nat->Option R)(hm:m<=4611686018427387904)
  (h:∀k,k<m->(∀i,i<k->e i=none)->body k ()=some (pw (e k) ())):iV m body ()=some (sa (fI m e) ()):=
 q8 (λ_=>()) e hm rfl h
theorem sd{body:Nat->S->Option S}(F:Nat->S):∀(n k:Nat),(∀j,k<=j->j<k+n->body j (F j)=some (F<|j+1))->sT body n k (F k)=some (F<|k+n)
 | 0,_,_=>rfl
 |n+1,k,h=>by
  unfold sT;rw[h k (cI _) (by omega)];have:=sd F n (k+1)<|λj h1 h2=>h j (by omega) (by omega)
  rw[show k+(n+1)=k+1+n by omega];exact this
theorem oW{body:Nat->S->Option S}{m:Nat}{s:S}(F:Nat->S)(hm:m<=4611686018427387904)(hs:F 0=s)
  (h:∀k,k<m->body k (F k)=some (F<|k+1)):oK m body s=some (F m):=by
 subst hs
 simp_all[oK,aO,sd,fc]
theorem nY{body:S->Option (Fl S R)}(Inv:S->Prop)(μ:S->Nat)(Go:S->Prop)(Rt:R->Prop)
  (h:∀s,Inv s->∃fl,body s=some fl/\match fl with| .nx s'=>Inv s'/\μ s'<μ s| .br s'=>Go s'| .rt r=>Rt r):
  ∀(N:Nat)(s:S),Inv s->μ s<N->∃o,p7 body N s=some o/\match o with| .go s'=>Go s'| .rt r=>Rt r
 | 0,s,_,hn=>by omega
 |N+1,s,hi,hn=>by
  obtain⟨fl,hb,hf⟩:=h s hi;unfold p7;rw[hb]
  cases fl with
  |nx s'=>exact nY Inv μ Go Rt h N s' hf.1 (by have:=hf.2;omega)
  |br s'=>exact⟨_,rfl,hf⟩
  |rt r=>exact⟨_,rfl,hf⟩
theorem sf{body:Nat->S->Option (Fl S R)}(Inv:Nat->S->Prop)(Go:S->Prop)(Rt:R->Prop)(m:Nat)
  (h:∀k s,k<m->Inv k s->∃fl,body k s=some fl/\match fl with| .nx s'=>Inv (k+1) s'| .br s'=>Go s'| .rt r=>Rt r) (hg:∀s,Inv m s->Go s):
  ∀(n k:Nat)(s:S),k+n=m->Inv k s->∃o,qH body n k s=some o/\match o with| .go s'=>Go s'| .rt r=>Rt r
 | 0,k,s,hk,hi=>⟨_,rfl,hg s (by rw[<-hk];exact hi)⟩
 |n+1,k,s,hk,hi=>by
  obtain⟨fl,hb,hf⟩:=h k s (by omega) hi;unfold qH;rw[hb]
  cases fl with
  |nx s'=>exact sf Inv Go Rt m h hg n (k+1) s' (by omega) hf
  |br s'=>exact⟨_,rfl,hf⟩
  |rt r=>exact⟨_,rfl,hf⟩
theorem vX{body:Nat->S->Option (Fl S R)}{m:Nat}{s:S}(Inv:Nat->S->Prop)(Go:S->Prop)(Rt:R->Prop)(hm:m<=4611686018427387904)(h0:Inv 0 s)
  (h:∀k s,k<m->Inv k s->∃fl,body k s=some fl/\match fl with| .nx s'=>Inv (k+1) s'| .br s'=>Go s'| .rt r=>Rt r) (hg:∀s,Inv m s->Go s):
  ∃o,iV m body s=some o/\match o with| .go s'=>Go s'| .rt r=>Rt r:=by
 unfold iV;rw[aO hm];exact sf Inv Go Rt m h hg m 0 s (by omega) h0
theorem sg{body:Nat->S->Option S}(Inv:Nat->S->Prop)(m:Nat)(h:∀k s,k<m->Inv k s->∃s',body k s=some s'/\Inv (k+1) s'):
  ∀(n k:Nat)(s:S),k+n=m->Inv k s->∃s',sT body n k s=some s'/\Inv m s'
 | 0,k,s,hk,hi=>⟨_,rfl,by grind⟩
 |n+1,k,s,hk,hi=>by
  obtain⟨s',hb,hf⟩:=h k s (by omega) hi;unfold sT;rw[hb];exact sg Inv m h n (k+1) s' (by omega) hf
theorem vY{body:Nat->S->Option S}{m:Nat}{s:S}(Inv:Nat->S->Prop)(hm:m<=4611686018427387904)(h0:Inv 0 s)
  (h:∀k s,k<m->Inv k s->∃s',body k s=some s'/\Inv (k+1) s'):∃s',oK m body s=some s'/\Inv m s':=by
 simp_all[oK,aO,sg]
end
section
variable {α β:Type}
theorem aB(x:α)(f:α->Option β):(some x).bind f=f x:=rfl
theorem iO(l:List α)(k:Nat)(h:k<l.length):idx l ((k:Nat):Int)=some l[k]:=by
 unfold idx;simp
theorem cD{l:List α}{k:Nat}{x:α}(h:l[k]? =some x):idx l ((k:Nat):Int)=some x:=by
 grind [idx,lZ]
theorem sj(s:aQ)(k:Nat)(h:k<s.bF.length):rF s ((k:Nat):Int)=some s.bF[k]:=by
 unfold rF;simp
theorem qw{k:Nat}(h:0<k)(hk:k<=4611686018427387904):wrap .i64 (((k:Nat):Int) - 1)=((k - 1:Nat):Int):=by
 grind [fY]
theorem mh(l:List α)(k:Nat)(h:k<=l.length):uQ l 0 ((k:Nat):Int)=some (l.take k):=by
 unfold uQ;grind
theorem sm{b:Nat}{l ys:List α}(h:(l.length+ys.length)*b<=140737488355328):app b l ys=some (l++ys):=by grind [app]
theorem vZ{b:Nat}(z:α){n:Nat}(h:n*b<=140737488355328):mk b z ((n:Nat):Int)=some (List.replicate n z):=by
 unfold mk
 grind
end
theorem aQ.ext'{a b:aQ}(h:a.bF=b.bF):a=b:=by cases a;simp_all
theorem iP{a b:aQ}:a.fe b=true↔a=b:=by
 grind [aQ.fe,aQ.ext']
theorem jv{a b:aQ}:a.fe b=false↔a≠b:=by grind [iP]
theorem oG:∀(a:List UInt8),Op.bytesLess a a=false
 | []=>rfl
 |a::l=>by
  unfold Op.bytesLess;rw[oG l];simp
theorem px:∀{a b c:List UInt8},Op.bytesLess a b=true->Op.bytesLess b c=true->Op.bytesLess a c=true
 | [],[],_,h,_=>by simp[Op.bytesLess]at h
 | [],_::_,[],_,h=>by simp[Op.bytesLess]at h
 | [],_::_,_::_,_,_=>rfl
 |_::_,[],_,h,_=>by simp[Op.bytesLess]at h
 |_::_,_::_,[],_,h=>by simp[Op.bytesLess]at h
 |a::l,b::m,c::n,h1,h2=>by
  unfold Op.bytesLess at h1 h2 ⊢;simp only[ee,bV,gM,beq_iff_eq]at h1 h2 ⊢
  rcases h1 with h1|⟨rfl,h1⟩
  ·rcases h2 with h2|⟨rfl,h2⟩
   ·exact .inl<|UInt8.lt_trans h1 h2
   ·exact .inl h1
  ·rcases h2 with h2|⟨rfl,h2⟩
   ·exact .inl h2
   ·exact .inr ⟨rfl,px h1 h2⟩
theorem py:∀(a b:List UInt8),Op.bytesLess a b=true\/a=b\/Op.bytesLess b a=true
 | [],[]=> .inr (.inl rfl)
 | [],_::_=> .inl rfl
 |_::_,[]=> .inr (.inr rfl)
 |a::l,b::m=>by
  unfold Op.bytesLess;simp only[ee,bV,gM,beq_iff_eq]
  by_cases h1:a<b
  ·exact .inl<|.inl h1
  ·by_cases h2:b<a
   ·exact .inr<|.inr<|.inl h2
   ·have e:a=b:=by
     simp only[UInt8.lt_iff_toNat_lt]at h1 h2;exact UInt8.toNat_inj.1 (by omega)
    subst e
    rcases py l m with h|h|h
    ·exact .inl<|.inr ⟨rfl,h⟩
    ·exact .inr<|.inl (by rw[h])
    ·exact .inr<|.inr<|.inr ⟨rfl,h⟩
theorem lk:∀(a b:List UInt8),Lib.compareBytes a b<0↔Op.bytesLess a b=true
 | [],[]=>by simp[Lib.compareBytes,Op.bytesLess]
 | [],_::_=>by simp[Lib.compareBytes,Op.bytesLess]
 |_::_,[]=>by simp[Lib.compareBytes,Op.bytesLess]
 |a::l,b::m=>by
  unfold Lib.compareBytes Op.bytesLess;simp only[ee,bV,gM,beq_iff_eq];split
  ·simp_all
  ·rename_i h1;split
   ·rename_i h2;have h3:a≠b:=λe=>by subst e;exact h1 h2
    simp[h1,h3]
   ·rename_i h2;have e:a=b:=by
     simp only[UInt8.lt_iff_toNat_lt]at h1 h2;exact UInt8.toNat_inj.1 (by omega)
    subst e;rw[lk l m];simp[h1]
theorem iH:∀(a b:List UInt8),Lib.compareBytes a b=0↔a=b
 | [],[]=>by simp[Lib.compareBytes]
 | [],_::_=>by simp[Lib.compareBytes]
 |_::_,[]=>by simp[Lib.compareBytes]
 |a::l,b::m=>by
  unfold Lib.compareBytes;split
  ·rename_i h1;have h3:a≠b:=λe=>by subst e;exact absurd h1 (by simp)
   simp[h3]
  ·rename_i h1;split
   ·rename_i h2;have h3:a≠b:=λe=>by subst e;exact h1 h2
    simp[h3]
   ·rename_i h2;have e:a=b:=by
     simp only[UInt8.lt_iff_toNat_lt]at h1 h2;exact UInt8.toNat_inj.1 (by omega)
    subst e;rw[iH l m];simp
def aQ.lt(a b:aQ):Prop:=a.iC b=true
theorem aQ.lt_irrefl(a:aQ):¬aQ.lt a a:=by simp[aQ.lt,aQ.iC,oG,decide]
theorem aQ.lt_trans{a b c:aQ}(h1:aQ.lt a b)(h2:aQ.lt b c):aQ.lt a c:=px h1 h2
theorem aQ.so(a b:aQ):aQ.lt a b\/a=b\/aQ.lt b a:=by
 rcases py a.bF b.bF with h|h|h
 ·exact .inl h
 ·grind [aQ.ext']
 ·exact .inr<|.inr h
theorem aQ.pC{a b:aQ}(h:aQ.lt a b):a≠b:=by grind [aQ.lt_irrefl]
theorem aQ.lt_asymm{a b:aQ}(h:aQ.lt a b):¬aQ.lt b a:=by grind [aQ.lt_irrefl,aQ.lt_trans]
theorem tC{a b:aQ}:(a.iC b||a.fe b)=false↔aQ.lt b a:=by
 grind [Bool.or_eq_false_iff,jv,aQ.so,aQ.lt,aQ.pC,aQ.lt_asymm]
end Go.Gk
namespace Go.Gk
open Go IntKind
class Bk (α:Type)where
 bk:α->Nat
 pos:∀x,1<=bk x
def bk{α:Type}[Bk α](x:α):Nat:=Bk.bk x
theorem te{α:Type}[Bk α](x:α):1<=bk x:=Bk.pos x
instance:Bk aQ:=⟨λs=>s.bF.length+1,λ_=>by omega⟩
instance:Bk Int:=⟨λ_=>1,λ_=>by omega⟩
instance:Bk Bool:=⟨λ_=>1,λ_=>by omega⟩
instance {α:Type} [Bk α]:Bk (List α):=⟨λl=>(l.map bk).sum+1,λ_=>by omega⟩
theorem tf{α:Type}[Bk α]:bk ([]:List α)=1:=rfl
theorem nZ{α:Type}[Bk α](x:α)(l:List α):bk (x::l)=bk x+bk l:=by
 rfl
theorem nm{α:Type}[Bk α]:∀{l:List α}{x:α},x∈l->bk x+1<=bk l
 |y::l,x,h=>by
  rw[nZ]
  rcases fm.1 h with h|h
  ·subst h;have:=te l;omega
  ·have:=nm h;omega
theorem mi{α:Type}[Bk α]{l:List α}{k:Nat}{x:α}(h:l[k]? =some x):bk x+1<=bk l:=nm<|eP h
theorem fH{α:Type}[Bk α]:∀(l:List α),l.length+1<=bk l
 | []=>by rw[tf];simp
 |x::l=>by rw[nZ,jR];have:=fH l;have:=te x;omega
theorem mj(s:aQ):bk s=s.bF.length+1:=rfl
theorem tD{α:Type}[Bk α]:∀(l:List α)(k:Nat),bk (l.take k)<=bk l
 | [],k=>by simp
 |x::l,0=>by rw[List.take_zero,tf];exact te _
 |x::l,k+1=>by rw[List.take_succ_cons,nZ,nZ];have:=tD l k;omega
section
variable {α R:Type}
theorem t4{l:List α}{e:Nat->Option R}(f:α->Option R)(h:∀k x,l[k]? =some x->e k=f x):fI l.length e=l.findSome? f:=by
 cases hx:fI l.length e with
 |none=>
  grind [List.findSome?_eq_none_iff,g3,gr,bS]
 |some r=>
  obtain⟨k,hk,he,hn⟩:=fS.1 hx;refine(List.findSome?_eq_some_iff.2 ⟨l.take k,l[k],l.drop<|k+1,?_,?_,λy hy=>?_⟩).symm
  ·simp
  ·grind
  grind [g3,bS,fX,List.getElem?_take_of_lt]
theorem q9(l:List α)(p:α->Bool)(r:R):l.findSome? (λx=>if p x=true then some r else none)=if l.any p=true then some r else none:=by
 induction l with
 |nil=>simp
 |cons x l ih=>
  grind
theorem vj{l:List α}{body:Nat->Unit->Option (Fl Unit R)}(f:α->Option R)(hl:l.length<=4611686018427387904)
  (h:∀k x,l[k]? =some x->body k ()=some (pw (f x) ())):iV l.length body ()=some (sa (l.findSome? f) ()):=by
 have h2:=eE (body:=body) (m:=l.length) (λk=>(l[k]?).bind f) hl (λk hk _=>by
  grind)
 grind [t4]
theorem jo{l:List α}{body:Nat->Unit->Option (Fl Unit R)}(p:α->Bool)(r:R)(hl:l.length<=4611686018427387904)
  (h:∀k x,l[k]? =some x->body k ()=some (if p x=true then .rt r else .nx ())):iV l.length body ()=some (if l.any p=true then .rt r else .go ()):=by
 rw[vj (λx=>if p x=true then some r else none) hl (λk x hx=>by rw[h k x hx];cases p x <;> rfl),q9]
 cases l.any p <;> rfl
end
section
variable {α β:Type}
def tg(l:List α)(p:α->Bool):Int:=match l.findIdx? p with|some k=>((k:Nat):Int)|none=> -1
theorem sq{l:List α}{p:α->Bool}(h:l.any p=false):tg l p = -1:=by
 unfold tg
 grind
theorem pD{l:List α}{p:α->Bool}{k:Nat}{x:α}(hk:l[k]? =some x)(hp:p x=true)(hn:∀j y,j<k->l[j]? =some y->p y=false):tg l p=((k:Nat):Int):=by
 unfold tg;have hlt:=(bS.1 hk).1;have:l.findIdx? p=some k:=by
  rw[List.findIdx?_eq_some_iff_getElem]
  grind
 rw[this]
theorem kB(l:List α)(p:α->Bool):(tg l p = -1/\∀x∈l,p x=false)\/∃k x,tg l p=((k:Nat):Int)/\l[k]? =some x/\p x=true/\∀j y,j<k->l[j]? =some y->p y=false:=by
 unfold tg
 cases h:l.findIdx? p with
 |none=>grind
 |some k=>
  grind [List.findIdx?_eq_some_iff_getElem,aZ]
theorem th(l:List α)(p:α->Bool):decide (tg l p>=0)=l.any p:=by
 grind [kB,List.any_eq_false,decide,jk,eP]
def ll(p0:List α)(p1:α->Option Bool):Option Int:=
 (iV p0.length (λ(k1:Nat)(_:Unit)=>((idx p0 ((k1:Nat):Int)).bind λx7=>(p1 x7).bind λx10=>bif x10 then some (.rt ((k1:Nat):Int))else(some<|.nx ()):Option (Fl Unit Int))) ()).bind λo11=>o11.cs (λ(_:Unit)=>some<|-1)<|λr=>some r
theorem iQ{l:List α}{φ:α->Option Bool}(p:α->Bool)(hl:l.length<=4611686018427387904)(h:∀x∈l,φ x=some (p x)):ll l φ=some (tg l p):=by
 unfold ll
 rw[eE (λk=>(l[k]?).bind λx=>if p x=true then some ((k:Nat):Int)else none) hl (λk hk _=>by
  grind [iO,aB,kT,aZ,pw]),aB]
 grind [kB,gr,aZ,kT,sa,Fo.cs,fS,bS]
def iR(p0:List α)(p1:α->Option Bool):Option Bool:=
 (ll p0 p1).bind λx1=>some<|decide<|x1>=0
theorem kC{l:List α}{φ:α->Option Bool}(p:α->Bool)(hl:l.length<=4611686018427387904)(h:∀x∈l,φ x=some (p x)):iR l φ=some (l.any p):=by
 simp_all[iR,iQ,aB,th]
def vk [DecidableEq α](p0:List α)(p1:α):Option Int:=
 (iV p0.length (λ(k2:Nat)(_:Unit)=>((idx p0 ((k2:Nat):Int)).bind λx12=>bif decide (p1=x12)then some (.rt ((k2:Nat):Int))else(some<|.nx ()):Option (Fl Unit Int))) ()).bind λo18=>o18.cs (λ(_:Unit)=>some<|-1)<|λr=>some r
theorem t5 [DecidableEq α]{l:List α}{a:α}(hl:l.length<=4611686018427387904):vk l a=some (tg l<|λx=>decide<|a=x):=by
 have:=iQ (l:=l) (φ:=λx=>some<|decide<|a=x) (λx=>decide<|a=x) hl<|λ_ _=>rfl
 rw[<-this];rfl
def ot [DecidableEq α](p0:List α)(p1:α):Option Bool:=(vk p0 p1).bind λx3=>some<|decide<|x3>=0
theorem ra [DecidableEq α]{l:List α}{a:α}(hl:l.length<=4611686018427387904):ot l a=some (decide<|a∈l):=by
 grind [ot,t5,aB,th,Option.some.injEq]
def ti [DecidableEq α](p0 p1:List α):Option Bool:=
 bif((p0.length:Nat):Int) != ((p1.length:Nat):Int)then some false else((iV p0.length (λ(k1:Nat)(_:Unit)=>((idx p0 ((k1:Nat):Int)).bind λx13=>(idx p1 ((k1:Nat):Int)).bind λx16=>bif(!(decide<|x13=x16))then some (.rt false)else(some<|.nx ()):Option (Fl Unit Bool))) ()).bind λo23=>o23.cs (λ(_:Unit)=>some true)<|λr=>some r)
theorem t6 [DecidableEq α]{l m:List α}(hl:l.length<=4611686018427387904):ti l m=some (decide<|l=m):=by
 unfold ti
 by_cases h:l.length=m.length
 ·have e:(((l.length:Nat):Int) != ((m.length:Nat):Int))=false:=by rw[h];simp
  rw[e,bG]
  rw[eE (λk=>if l[k]? =m[k]? then none else some false) hl (λk hk _=>by
   grind [iO,aB,aZ,pw]),aB]
  by_cases hx:l=m
  ·grind [gr,sa,Fo.cs]
  ·have:∃r,fI l.length (λk=>if l[k]? =m[k]? then none else some false)=some r:=by
    cases hf:fI l.length (λk=>if l[k]? =m[k]? then none else some false)with
    |some r=>simp
    |none=>
     exfalso;refine hx<|List.ext_getElem? λi=>?_
     grind [gr,List.getElem?_eq_none]
   grind [fS,sa,Fo.cs]
 ·have e:(((l.length:Nat):Int) != ((m.length:Nat):Int))=true:=by simp;omega
  rw[e,bQ,bX<|λh'=>h (by rw[h'])]
def fT(key:α->aQ)(l:List α):Prop:=∀(i j:Nat)(x y:α),i<j->l[i]? =some x->l[j]? =some y->aQ.lt (key x) (key y)
theorem t7{key:α->aQ}{l:List α}(h:∀k x y,l[k]? =some x->l[k+1]? =some y->aQ.lt (key x) (key y)):fT key l:=by
 intro i j
 induction j with
 |zero=>omega
 |succ j ih=>
  grind [bS,aQ.lt_trans,aZ]
theorem fT.inj{key:α->aQ}{l:List α}(h:fT key l){i j:Nat}{x y:α}(hx:l[i]? =some x)(hy:l[j]? =some y)(e:key x=key y):i=j:=by
 rcases Nat.lt_trichotomy i j with h1|h1|h1
 ·exact absurd e<|aQ.pC<|h i j x y h1 hx hy
 ·exact h1
 ·exact absurd e.symm<|aQ.pC<|h j i y x h1 hy hx
def nat?(key:α->aQ)(l:List α)(s:aQ):Int:=tg l<|λx=>(key x).fe s
def t8(N:Nat)(p0:List α)(p1:β)(p2:α->β->Option Int):Option (Int×Bool):=
 (p7 (λ(s2:Int×Int)=>(bif decide (s2.1<s2.2)then((idx p0<|wrap .i64<|Int.fdiv (wrap .u64<|wrap .i64<|s2.1+s2.2) 2).bind λx13=>(p2 x13 p1).bind λx16=>(bif decide (x16<0)then some (wrap .i64<|wrap .i64 (Int.fdiv (wrap .u64<|wrap .i64<|s2.1+s2.2) 2)+1,s2.2)else some (s2.1,wrap .i64<|Int.fdiv (wrap .u64<|wrap .i64<|s2.1+s2.2) 2)).bind λs17=>some<|.nx (s17.1,s17.2))else(some<|.br (s2.1,s2.2)):Option (Fl (Int×Int) Empty))) N (0,((p0.length:Nat):Int))).bind λo29=>o29.cs (λ(s2:Int×Int)=>(bif decide (s2.1<((p0.length:Nat):Int))then((idx p0 s2.1).bind λx25=>(p2 x25 p1).bind λx28=>some<|x28==0)else some false).bind λs23=>some (s2.1,s23))<|λr=>r.elim
theorem t9{a b:Nat}(h:a<b)(hb:b<=4611686018427387904):wrap .i64 (Int.fdiv (wrap .u64<|wrap .i64<|((a:Nat):Int)+((b:Nat):Int)) 2)=(((a+b) / 2:Nat):Int):=by
 rw[fY (x:=((a:Nat):Int)+((b:Nat):Int)) (by omega) (by omega)];have e:wrap .u64 (((a:Nat):Int)+((b:Nat):Int))=((a+b:Nat):Int):=by
  show((a:Int)+b) % 18446744073709551616=_;omega
 grind [Int.fdiv_eq_ediv_of_nonneg,fY]
theorem oX{N:Nat}{key:α->aQ}{l:List α}{s:aQ}{φ:α->aQ->Option Int}(hφ:∀x,φ x s=some (Lib.compareBytes (key x).bF s.bF))(hs:fT key l)
  (hl:l.length<=1048576) (hN:4194304<=N):∃r,t8 N l s φ=some r/\(bif(!r.2)then some (-1)else some r.1)=some (nat? key l s):=by
 unfold t8;have h:=nY (S:=Int×Int) (R:=Empty)
  (body:=(λ(s2:Int×Int)=>(bif decide (s2.1<s2.2)then((idx l<|wrap .i64<|Int.fdiv (wrap .u64<|wrap .i64<|s2.1+s2.2) 2).bind λx13=>(φ x13 s).bind λx16=>(bif decide (x16<0)then some (wrap .i64<|wrap .i64 (Int.fdiv (wrap .u64<|wrap .i64<|s2.1+s2.2) 2)+1,s2.2)else some (s2.1,wrap .i64<|Int.fdiv (wrap .u64<|wrap .i64<|s2.1+s2.2) 2)).bind λs17=>some<|.nx (s17.1,s17.2))else(some<|.br (s2.1,s2.2)):Option (Fl (Int×Int) Empty))))
  (λst=>∃a b:Nat,st=(((a:Nat):Int),((b:Nat):Int))/\a<=b/\b<=l.length/\(∀j x,j<a->l[j]? =some x->aQ.lt (key x) s)/\(∀j x,b<=j->l[j]? =some x->¬aQ.lt (key x) s))
  (λst=>(st.2 - st.1).toNat)
  (λst=>∃a:Nat,st.1=((a:Nat):Int)/\a<=l.length/\(∀j x,j<a->l[j]? =some x->aQ.lt (key x) s)/\(∀j x,a<=j->l[j]? =some x->¬aQ.lt (key x) s))
  (λ_=>True) (by
   rintro st⟨a,b,rfl,hab,hb,h1,h2⟩
   by_cases hlt:a<b
   ·have hm:(a+b) / 2<l.length:=by omega
    have hd:decide (((a:Nat):Int)<((b:Nat):Int))=true:=by grind
    simp only[hd,bQ,t9 hlt (by omega),iO l _ hm,aB,hφ]
    by_cases hc:Lib.compareBytes (key l[(a+b) / 2]).bF s.bF<0
    ·have hc':aQ.lt (key l[(a+b) / 2]) s:=(lk _ _).1 hc;simp only[hc,decide_true,bQ,aB];refine⟨_,rfl,⟨(a+b) / 2+1,b,?_,by omega,hb,λj x hj hx=>?_,h2⟩,?_⟩
     ·grind [fY]
     ·by_cases e:j=(a+b) / 2
      ·grind
      ·exact aQ.lt_trans (hs j _ x _ (by omega) hx<|aZ hm) hc'
     grind [fY]
    ·have hc':¬aQ.lt (key l[(a+b) / 2]) s:=λh=>hc<|(lk _ _).2 h
     simp only[hc,decide_false,bG,aB];refine⟨_,rfl,⟨a,(a+b) / 2,rfl,by omega,by omega,h1,λj x hj hx=>?_⟩,by omega⟩
     by_cases e:j=(a+b) / 2
     ·grind
     ·exact λh3=>hc'<|aQ.lt_trans (hs _ j _ x (by omega) (aZ hm) hx) h3
   ·have hd:decide (((a:Nat):Int)<((b:Nat):Int))=false:=by rw[decide_eq_false_iff_not];omega
    simp only[hd,bG]
    exact⟨_,rfl,a,rfl,by omega,h1,λj x hj hx=>h2 j x (by omega) hx⟩)
  N (0,((l.length:Nat):Int)) ⟨0,l.length,rfl,by omega,cI _,λj x hj=>by omega,λj x hj hx=>by have:=(bS.1 hx).1;omega⟩ (by simp only;omega)
 obtain⟨o,ho,hc⟩:=h;rw[ho,aB]
 cases o with
 |rt r=>exact r.elim
 |go st=>
  obtain⟨a,ha,hle,h1,h2⟩:=hc;simp only[Fo.cs,ha]
  by_cases hlt:a<l.length
  ·have hd:decide (((a:Nat):Int)<((l.length:Nat):Int))=true:=by rw[gM];omega
   simp only[hd,bQ,iO l _ hlt,aB,hφ];refine⟨_,rfl,?_⟩
   by_cases he:key l[a]=s
   ·have e0:Lib.compareBytes (key l[a]).bF s.bF=0:=(iH _ _).2 (by rw[he]);simp only[e0,BEq.rfl,nD,bG];unfold nat?;rw[pD (aZ hlt) (iP.2 he) (λj y hj hy=>by rw[jv];exact aQ.pC<|h1 j y hj hy)]
   ·have e0:(Lib.compareBytes (key l[a]).bF s.bF==0)=false:=by
     rw[beq_eq_false_iff_ne];intro h;exact he<|aQ.ext'<|(iH _ _).1 h
    simp only[e0,nE,bQ];unfold nat?;rw[sq];rw[List.any_eq_false];intro x hx;rw[mF,jv];obtain⟨j,hj⟩:=g3 hx;intro hk
    by_cases hja:j<a
    ·exact aQ.pC (h1 j x hja hj) hk
    ·by_cases e:j=a
     ·subst e;rw[aZ hlt]at hj;injection hj with hj;subst hj;exact he hk
     ·have h3:=hs a j _ x (by omega) (aZ hlt) hj;rw[hk]at h3;exact h2 a _ (cI _) (aZ hlt) h3
  ·have hd:decide (((a:Nat):Int)<((l.length:Nat):Int))=false:=by rw[decide_eq_false_iff_not];omega
   simp only[hd,bG,aB];refine⟨_,rfl,?_⟩;simp only[nE,bQ];unfold nat?;rw[sq];rw[List.any_eq_false];intro x hx;rw[mF,jv];obtain⟨j,hj⟩:=g3 hx;have:=(bS.1 hj).1;exact aQ.pC<|h1 j x (by omega) hj
def xA(key:α->aQ)(p0:List α)(p1:aQ):Option Int:=
 (iV p0.length (λ(k1:Nat)(_:Unit)=>((idx p0 ((k1:Nat):Int)).bind λx7=>bif(key x7).fe p1 then some (.rt ((k1:Nat):Int))else(some<|.nx ()):Option (Fl Unit Int))) ()).bind λo11=>o11.cs (λ(_:Unit)=>some<|-1)<|λr=>some r
theorem n0{key:α->aQ}{l:List α}{s:aQ}(hl:l.length<=4611686018427387904):xA key l s=some (nat? key l s):=by
 have:=iQ (l:=l) (φ:=λx=>some<|(key x).fe s) (λx=>(key x).fe s) hl<|λ_ _=>rfl
 unfold nat?;rw[<-this];rfl
def d8(key:α->aQ)(l:List α)(k:Nat):Bool:=match l[k]?,l[k - 1]? with|some x,some y=>decide (0<k)&&((key x).iC (key y)||(key x).fe (key y))|_,_=>false
theorem kc(key:α->aQ){l:List α}{k:Nat}{x:α}(hx:l[k]? =some x)(hl:l.length<=1048576):
  (bif decide (((k:Nat):Int)>0)then((idx l<|wrap .i64<|((k:Nat):Int) - 1).bind λy=>some<|(key x).iC (key y)||(key x).fe (key y))else some false)=some (d8 key l k):=by
 grind [bS,d8,dT,qw,iO,aB,aZ]
theorem gW{key:α->aQ}{l:List α}(h:∀k,k<l.length->d8 key l k=false):fT key l:=by grind [t7,bS,d8,Nat.add_sub_cancel,decide_true,tC]
end
end Go.Gk
namespace Go.Gk
open Go IntKind Go.ChangeShapes Go.WideShapes Go.RowKit
structure UB (ub:(H:Type)->DataW H->Nat) (ua:(H:Type)->List (DataW H)->Nat):Prop where
 str:∀(H:Type)(b:List UInt8),ub H (.lit<|.string b)=b.length+1
 pos:∀(H:Type)(d:DataW H),1<=ub H d
 sl:∀(H:Type)(e s:List (DataW H)),ub H (.slice e s)=ua H e+ua H s+1
 ag:∀(H:Type)(l:List (DataW H)),ub H (.agg l)=ua H l+1
 nil:∀(H:Type),ua H []=0
 cons:∀(H:Type)(x:DataW H)(l:List (DataW H)),ua H (x::l)=ub H x+ua H l
def Hw(w:World):cE:=λb=>w.heap[b]?
structure eX (ub:(H:Type)->DataW H->Nat) (P:Program) (T:TypeId) (α:Type) [GT α] [Bk α]:Prop where
 trod:∀{H:Type}{enc:TypeId×Value->H}{w:World}{base:Nat}{spare:Nat->Bool}{held:Bool}{fuel:Nat}{cs:List Value}{d:DataW H×List MemPlace},
  DataW.trod enc P w base spare held fuel T cs=some d->∃x:α,GT.ok (Hw w) cs x/\bk x<=ub H d.1
 xJ:∀{w:World}{r:Reach}{base:Nat}{v:Value},Value.okWide P w r base T v->v=oY α v.cells.toList
section
variable {ub:(H:Type)->DataW H->Nat}{ua:(H:Type)->List (DataW H)->Nat}{P:Program}{T e:TypeId}
theorem uc(u:UB ub ua)(ht:P.underlying T=some (.int .i64)):eX ub P T Int where
 trod:=λh=>by
  obtain⟨n,rfl,rfl,_⟩:=DataW.trod_int ht h;exact⟨n,rfl,u.pos _ _⟩
 xJ:=λh=>by obtain⟨n,rfl⟩:=okWide_int ht h;rfl
theorem ud(u:UB ub ua)(ht:P.underlying T=some .string):eX ub P T aQ where
 trod:=λh=>by
  obtain⟨s,rfl,rfl,_⟩:=DataW.trod_string ht h;refine⟨⟨s.data.toList⟩,?_,?_⟩
  ·show [Value.string s]= [Gk.str ⟨s.data.toList⟩]
   cases s;rfl
  ·rw[u.str];exact cI _
 xJ:=λh=>by obtain⟨n,rfl⟩:=okWide_string ht h;rfl
theorem oH{α:Type}{R:Nat->α->Prop}:∀(n:Nat),(∀i,i<n->∃x,R i x)->∃l:List α,l.length=n/\∀i x,l[i]? =some x->R i x
 | 0,_=>⟨[],rfl,λi x h=>by simp at h⟩
 |n+1,h=>by
  obtain⟨l,h1,h2⟩:=oH n<|λi hi=>h i (by omega)
  obtain⟨x,hx⟩:=h n (by omega);refine⟨l++[x],by simp[h1],λi y hy=>?_⟩
  by_cases hi:i<n
  ·rw[jQ (by omega)]at hy;exact h2 i y hy
  ·have:=(bS.1 hy).1;rw[g6]at this;have:i=n:=by simp at this;omega
   subst this;rw[kU (by omega),h1]at hy;simp at hy;subst hy;exact hx
theorem qx{H α:Type}[Bk α](u:UB ub ua):∀{l:List α}{es:List (DataW H×List MemPlace)},l.length=es.length->
  (∀(i:Nat)(x:α)(y:DataW H×List MemPlace),l[i]? =some x->es[i]? =some y->bk x<=ub H y.1)->bk l<=ua H (es.map (·.1))+1
 | [],[],_,_=>by rw[tf];omega
 |x::l,y::es,hl,h=>by
  have h1:=h 0 x y rfl rfl;have h2:=qx (H:=H) u (l:=l) (es:=es) (by simpa using hl)<|λi x y hx hy=>h (i+1) x y (by simpa using hx) (by simpa using hy)
  rw[nZ,fu,u.cons];omega
theorem su{w:World}{base:Nat}{a:Addr}{n:Nat}{cs:List Value}(h:w.cells? base a n=some cs):At (Hw w) a cs:=by
 intro j v hv;obtain⟨_,hlen,hc⟩:=World.cells?_some h;have hj:=(bS.1 hv).1;have h2:=hc j (by omega);rw[hv]at h2;unfold nF Hw;unfold World.cell? at h2;exact h2
theorem g9{α:Type}[GT α][Bk α](u:UB ub ua)(he:eX ub P e α)(ht:P.underlying T=some (.slice e):=by kernel_rfl)(hc:P.cellsOf e=GT.sz α:=by kernel_rfl):eX ub P T (List α)where
 trod:=λ{H enc w base spare held fuel cs d}h=>by
  rcases DataW.trod_slice ht h with⟨rfl,rfl⟩|⟨a,len,cap,elems,rest,n,_,rfl,rfl,_,hlc,hcm,hlen,hel,_⟩
  ·exact⟨[],⟨_,rfl,none,0,0,rfl,rfl,cI _,by simp[maxLen],λi x hx=>by simp at hx⟩,u.pos _ _⟩
  ·have each:∀i,i<len->∃x:α,(∃c y,GT.ok (Hw w) c x/\At (Hw w) (a.add<|i*GT.sz α) c/\elems[i]? =some y/\bk x<=ub H y.1):=by
    intro i hi;have h1:=hel i hi;rw[aZ (by omega:i<elems.length),Option.bind_eq_some_iff]at h1;obtain⟨c,h2,h3⟩:=h1;obtain⟨x,h4,h5⟩:=he.trod h3;refine⟨x,c,_,h4,?_,aZ (by omega),h5⟩;rw[hc]at h2;exact su h2
   obtain⟨l,hl,hr⟩:=oH len each;refine⟨l,⟨_,rfl,some a,len,cap,rfl,hl.symm,hlc,hcm,λi x hx=>?_⟩,?_⟩
   ·obtain⟨c,y,h1,h2,_⟩:=hr i x hx;exact⟨a,c,rfl,h1,h2⟩
   ·have:=qx (H:=H) u (l:=l) (es:=elems) (by omega) (λi x y hx hy=>by
     obtain⟨c,y',_,_,h3,h4⟩:=hr i x hx
     rw[hy]at h3;injection h3 with h3;subst h3;exact h4)
    rw[u.sl];omega
 xJ:=λh=>by obtain⟨a,n,c,rfl⟩:=okWide_slice ht h;rfl
def tE(ub:(H:Type)->DataW H->Nat)(ua:(H:Type)->List (DataW H)->Nat)(P:Program)(off:Nat)(fs:List Field)(β:Type)[GT β](m:β->Nat):Prop:=
 ∀{H:Type}{enc:TypeId×Value->H}{w:World}{base:Nat}{spare:Nat->Bool}{held:Bool}{n:Nat}{cs:List Value}{ys:List (DataW H×List MemPlace)},
  (∀(i:Nat)(f:Field),fs[i]? =some f->DataW.trod enc P w base spare held n f.type ((cs.drop f.offset).take<|P.cellsOf f.type)=ys[i]?)->ys.length=fs.length->
  cs.length=off+GT.sz β->∃x:β,GT.ok (Hw w) (cs.drop off) x/\m x<=ua H (ys.map (·.1))
theorem iI{β:Type}[GT β][Bk β]{off:Nat}{f:Field}(u:UB ub ua)(h:eX ub P f.type β)(ho:f.offset=off:=by exact rfl)(hc:P.cellsOf f.type=GT.sz β:=by kernel_rfl):tE ub ua P off [f] β bk:=by
 intro H enc w base spare held n cs ys hf hl hcs
 match ys,hl with
 | [y],_=>
  have h1:=hf 0 f rfl;rw[ho,hc,mG (by rw[jS];omega)]at h1;obtain⟨x,h2,h3⟩:=h.trod (d:=y) h1;exact⟨x,h2,by rw[fu,u.cons];omega⟩
theorem gb{α β:Type}[GT α][GT β][Bk α]{off off':Nat}{f:Field}{fs:List Field}{m:β->Nat}(u:UB ub ua)(h:eX ub P f.type α)(hr:tE ub ua P off' fs β m)(ho:f.offset=off:=by exact rfl)(hc:P.cellsOf f.type=GT.sz α:=by kernel_rfl)(hoff:off'=off+GT.sz α:=by exact rfl):tE ub ua P off (f::fs) (α×β) (λx=>bk x.1+m x.2):=by
 intro H enc w base spare held n cs ys hf hl hcs;have hsz:GT.sz (α×β)=GT.sz α+GT.sz β:=rfl
 match ys,hl with
 |y::ys,hl=>
  have h1:=hf 0 f rfl;rw[ho,hc]at h1;obtain⟨x,h2,h3⟩:=h.trod (d:=y) h1;obtain⟨x',h4,h5⟩:=hr (n:=n) (cs:=cs) (ys:=ys) (λi g hg=>hf (i+1) g hg) (by simpa using hl) (by omega);refine⟨(x,x'),⟨_,_,?_,h2,h4⟩,?_⟩
  ·rw[hoff,<-List.drop_drop,List.take_append_drop]
  ·rw[fu,u.cons];show bk x+m x'<=_;omega
theorem gf{γ β:Type}[GT β][Bk γ]{fs:Array Field}{m:β->Nat}(u:UB ub ua)(f:γ->β)(g:β->γ)(hfg:∀b,f (g b)=b)(ht:P.underlying T=some (.struct fs))(h:tE ub ua P 0 fs.toList β m)(hm:∀b,bk (g b)<=m b+1)(hc:P.cellsOf T=GT.sz β:=by kernel_rfl): @eX ub P T γ (GT.via f) _:=
 @eX.mk ub P T γ (GT.via f) _
  (λ{H enc w base spare held fuel cs d}hd=>by
   obtain⟨xs,n,_,rfl,hl,hlen,hf⟩:=DataW.trod_struct ht hd;obtain⟨b,h1,h2⟩:=h (n:=n) (cs:=cs) (ys:=xs) (λi g hg=>hf i g (by rw[<-Array.getElem?_toList];exact hg)) (by rw[hlen];simp) (by omega);refine⟨g b,?_,?_⟩
   ·show GT.ok (Hw w) cs (f<|g b);rw[hfg];exact h1
   ·rw[u.ag];have:=hm b;omega)
  (λhv=>by
   obtain⟨cs,rfl,_⟩:=okWide_struct ht hv
   cases cs;rfl)
theorem eX.arg{H:Type}{enc:TypeId×Value->H}{w:World}{base:Nat}{spare:Nat->Bool}{held:Bool}{r:Reach}{b0:Nat}{v:Value}{d:DataW H}{ps:List MemPlace}{α:Type}[GT α][Bk α](o:eX ub P T α)
  (hv:Value.okWide P w r b0 T v) (hd:DataW.Trod enc P w base spare held T v d ps):∃x:α,m8 (Hw w) v x/\bk x<=ub H d:=by
 obtain⟨fuel,hf⟩:=hd;obtain⟨x,h1,h2⟩:=o.trod hf;exact⟨x,⟨_,o.xJ hv,h1⟩,h2⟩
end
theorem Calls.fin{P:Program}{f:FuncId}{args:Array Value}{w:World}{R Q:Value->World->Prop}(h:Calls P f args w (fi R))(k:∀v w',R v w'->Q v w'):
  Calls P f args w (λe W'=>∃v,e = .returned v/\Q v W'):=Calls.mono h λ_ w'⟨v,e,hr⟩=>⟨v,e,k v w' hr⟩
def ue(W:World):HP:=⟨λM h=>hle (Hw W) M/\h=j4,λk⟨a,b⟩=>⟨tL a k,b⟩⟩
theorem Holds.begin(W:World):Holds W W [ue W]:=by
 refine⟨Hw W,λ_=>j4,⟨rfl,rfl,rfl,cI _,λb o h=>h,λi Pr hq=>?_,λ_ _ _ _ h=>(by cases h),λ_ _ _ _ h=>(by cases h),λ_ _ _ _ _ _ _ h=>(by cases h)⟩⟩
 match i,hq with
 | 0,hq=>simp at hq;subst hq;exact⟨uH _,rfl⟩
theorem Holds.sw{α:Type}[GT α]{W:World}{V:List HP}{v:Value}{x:α}(h:Holds W W (V++[ue W]))(hv:Gk.m8 (Hw W) v x):Holds W W (rd v x::(V++[ue W])):=
 h.rA λM hs g=>by
  have h1:=(g.sat V.length (ue W) (by simp)).1;exact⟨hv.mono h1,rfl⟩
theorem Holds.kept{E W w:World}{V:List HP}(h:Holds E w (V++[ue W]))(he:E=W):Below W.heap.size W w:=by
 subst he;obtain⟨M,hs,g⟩:=h;have h1:=(g.sat V.length (ue E) (by simp)).1;have h2:∀k o,E.heap[k]? =some o->w.heap[k]? =some o:=λk o ho=>g.im k o<|h1 k o ho
 refine⟨g.os,g.tape,g.out,?_,λk hk=>?_⟩
 ·by_cases h0:E.heap.size=0
  ·omega
  ·have h3:=h2 (E.heap.size - 1) _<|eG (by omega)
   have:=(Array.getElem?_eq_some_iff.1 h3).1;omega
 ·rw[eG hk];exact h2 k _<|eG hk
section
variable {H:Type}{enc:TypeId×Value->H}{P:Program}
theorem uf{f:Func}{s:ChangeSpec}{apart fresh handsOn again:Bool}{W W':World}{args:Array Value}{v:Value}{ds gs:List (DataW H)}{before pa pv:List MemPlace}
  (hW:DataW.Whole enc P f.params.toList s.vars apart W args.toList ds gs before)
  (hres:∀(b:Nat)(sp:Nat->Bool)(hd:Bool),DataW.TrodAll enc P W' b sp hd f.resultTypes.toList (v.resultList f.resultTypes.size) (s.fn H<|ds++gs).results [])
  (hargs:∀sp:Nat->Bool,(∀p∈before,sp p.block=true)->DataW.TrodAll enc P W' 0 sp true f.params.toList args.toList (s.fn H<|ds++gs).args pa)
  (hvars:∀sp:Nat->Bool,(∀p∈before,sp p.block=true)->DataW.TrodVars enc P W' sp s.vars (s.fn H<|ds++gs).vars pv)
  (hps:before=pa++pv) (hb:Below W.heap.size W W')
  (hok:∀(j:Nat)(t:TypeId)(r:Value),f.resultTypes[j]? =some t->(v.resultList f.resultTypes.size)[j]? =some r->Value.okWide P W' .any 0 t r):
  s.post enc P f apart fresh handsOn again W args v W':=by
 have hlt:∀p∈before,p.block<W.heap.size:=λp hp=>hW.lt p hp;have hold:∀p∈before,(λb=>decide<|b<W.heap.size) p.block=true:=λp hp=>by simpa using hlt p hp
 refine⟨ds,gs,before,[],pa,pv,hW,hres _ _ _,hargs _ hold,hvars _ hold,World.keptBut_mono (λp hp=>⟨hp,?_⟩)<|hb.frame (· ∈before),λ_=>?_⟩
 ·rw[hps,List.mem_append]at hp;exact Or.inr hp
 ·obtain⟨_,_,_,_,_,hz,hn⟩:=hW;refine⟨hok,_,_,([]++pa)++pv,⟨[]++pa,pv,trodAll_append (hargs _<|λ_ _=>rfl)<|hres _ _ _,hvars _<|λ_ _=>rfl,rfl,?_,?_⟩,?_⟩
  ·intro b off hp;have hin:MemPlace.cell b off∈before:=by rw[hps];simpa using hp
   rw[hb.frozen<|hlt _ hin];exact hz b off hin
  ·intro ha;have:=hn ha;rw[hps]at this;simpa using this
  ·intro p hp _;rw[hps];simpa using hp
theorem m2{W W':World}(hl:laidOutB P=true)(hb:Below W.heap.size W W'){sp:Nat->Bool}:∀{ts:List TypeId}{vs:List Value}{ds:List (DataW H)}{ps:List MemPlace},
  (∀t∈ts,P.readableRec t=true/\t<P.types.size)->DataW.TrodAll enc P W 0 (λ_=>true) true ts vs ds ps->(∀p∈ps,p.block<W.heap.size)->(∀p∈ps,sp p.block=true)->DataW.TrodAll enc P W' 0 sp true ts vs ds ps
 | [],_,_,_,_,h,_,_=>by
  obtain⟨rfl,rfl,rfl⟩:=trodAll_nil h;rfl
 |t::ts,_,_,_,ht,h,hlt,hsp=>by
  obtain⟨v,vs,d,ds,p,q,rfl,rfl,rfl,h1,h2⟩:=trodAll_cons h;refine⟨p,q,?_,m2 hl hb (λt h=>ht t (by simp[h])) h2 (λx hx=>hlt x (by simp[hx]))<|λx hx=>hsp x (by simp[hx]),rfl⟩;exact WideElems.Trod_stays hl (ht t (by simp)).1 (ht t (by simp)).2 h1 (λx hx=>hb.same<|hlt x (by simp[hx]))<|λx hx=>hsp x (by simp[hx])
end
end Go.Gk
namespace Go.Gk
open Go IntKind
instance:Bk aP:=⟨λx=>bk x.Name+bk x.Kind+bk x.aN+1,λ_=>by omega⟩
theorem nr(x:aP):bk x=bk x.Name+bk x.Kind+bk x.aN+1:=rfl
instance:Bk aC:=⟨λx=>bk x.Name+bk x.aJ+1,λ_=>by omega⟩
theorem hQ(x:aC):bk x=bk x.Name+bk x.aJ+1:=rfl
instance:Bk Part:=⟨λx=>bk x.Name+bk x.bR+1,λ_=>by omega⟩
theorem rf(x:Part):bk x=bk x.Name+bk x.bR+1:=rfl
instance:Bk bP:=⟨λx=>bk x.Part+bk x.bP+1,λ_=>by omega⟩
theorem wJ(x:bP):bk x=bk x.Part+bk x.bP+1:=rfl
instance:Bk Net:=⟨λx=>bk x.Name+bk x.aJ+bk x.jh+1,λ_=>by omega⟩
theorem pE(x:Net):bk x=bk x.Name+bk x.aJ+bk x.jh+1:=rfl
instance:Bk aF:=⟨λx=>bk x.aU+bk x.aY+1,λ_=>by omega⟩
theorem ln(x:aF):bk x=bk x.aU+bk x.aY+1:=rfl
instance:Bk aI:=⟨λx=>bk x.A+bk x.B+1,λ_=>by omega⟩
theorem tj(x:aI):bk x=bk x.A+bk x.B+1:=rfl
instance:Bk aE:=⟨λx=>bk x.part+bk x.wM+bk x.mark+1,λ_=>by omega⟩
def Ok{β:Type}(o:Option β)(P:β->Prop):Prop:=∃r,o=some r/\P r
section
variable {α β S R:Type}{P:α->Prop}{Q:β->Prop}
theorem BX{x:β}(h:Q x):Ok (some x) Q:=⟨x,rfl,h⟩
theorem BY{o:Option β}{x:β}(h:o=some x)(hq:Q x):Ok o Q:=⟨x,h,hq⟩
theorem Ok.mono{o:Option α}{P':α->Prop}(h:Ok o P)(k:∀x,P x->P' x):Ok o P':=by obtain⟨x,h1,h2⟩:=h;exact⟨x,h1,k x h2⟩
theorem BZ{o:Option α}{f:α->Option β}(h:Ok o P)(k:∀x,P x->Ok (f x) Q):Ok (o.bind f) Q:=by
 obtain⟨x,h1,h2⟩:=h;grind
theorem B0{o:Option α}{f:α->Option β}{x:α}(h:o=some x)(k:Ok (f x) Q):Ok (o.bind f) Q:=by grind
theorem B1{b:Bool}{x y:Option β}(ht:b=true->Ok x Q)(hf:b=false->Ok y Q):Ok (bif b then x else y) Q:=by
 grind
theorem B2{o:Option β}{x:β}(h:Ok o (λr=>r=x)):o=some x:=by obtain⟨r,h1,h2⟩:=h;rw[h1,h2]
def y4(Go:S->Prop)(Rt:R->Prop):Fo S R->Prop| .go s=>Go s| .rt r=>Rt r
def xE(Nx Br:S->Prop)(Rt:R->Prop):Fl S R->Prop| .nx s=>Nx s| .br s=>Br s| .rt r=>Rt r
theorem B3{Nx Br:S->Prop}{Rt:R->Prop}{s:S}(h:Nx s):Ok (some<|Fl.nx s) (xE Nx Br Rt):=⟨_,rfl,h⟩
theorem B4{Nx Br:S->Prop}{Rt:R->Prop}{s:S}(h:Br s):Ok (some<|Fl.br s) (xE Nx Br Rt):=⟨_,rfl,h⟩
theorem B5{Nx Br:S->Prop}{Rt:R->Prop}{r:R}(h:Rt r):Ok (some (Fl.rt r:Fl S R)) (xE Nx Br Rt):=⟨_,rfl,h⟩
theorem B6{Go:S->Prop}{Rt:R->Prop}{o:Fo S R}{f:S->Option β}{g:R->Option β}(h:y4 Go Rt o)(hf:∀s,Go s->Ok (f s) Q)(hg:∀r,Rt r->Ok (g r) Q):Ok (o.cs f g) Q:=by
 cases o with
 |go s=>exact hf s h
 |rt r=>exact hg r h
theorem B7{body:Nat->S->Option S}{m:Nat}{s:S}(Inv:Nat->S->Prop)(hm:m<=4611686018427387904)(h0:Inv 0 s)(h:∀k s,k<m->Inv k s->Ok (body k s) (Inv<|k+1)):Ok (oK m body s) (Inv m):=
 vY Inv hm h0 h
theorem B8{body:Nat->S->Option (Fl S R)}{m:Nat}{s:S}(Inv:Nat->S->Prop){Go:S->Prop}{Rt:R->Prop}(hm:m<=4611686018427387904)(h0:Inv 0 s)
  (h:∀k s,k<m->Inv k s->Ok (body k s) (xE (Inv<|k+1) Go Rt)) (hg:∀s,Inv m s->Go s):Ok (iV m body s) (y4 Go Rt):=by
 obtain⟨o,h1,h2⟩:=vX (R:=R) Inv Go Rt hm h0 (λk s hk hi=>by
  obtain⟨fl,a1,a2⟩:=h k s hk hi
  exact⟨fl,a1,by cases fl <;> exact a2⟩) hg
 exact⟨o,h1,by cases o <;> exact h2⟩
theorem B9{body:S->Option (Fl S R)}{N:Nat}{s:S}(Inv:S->Prop)(μ:S->Nat){Go:S->Prop}{Rt:R->Prop}
  (h:∀s,Inv s->Ok (body s) (xE (λs'=>Inv s'/\μ s'<μ s) Go Rt)) (hi:Inv s) (hn:μ s<N):Ok (p7 body N s) (y4 Go Rt):=by
 obtain⟨o,h1,h2⟩:=nY (R:=R) Inv μ Go Rt (λs hi=>by
  obtain⟨fl,a1,a2⟩:=h s hi
  exact⟨fl,a1,by cases fl <;> exact a2⟩) N s hi hn
 exact⟨o,h1,by cases o <;> exact h2⟩
theorem B_{b:Nat}{l ys:List α}{f:List α->Option β}(h:(l.length+ys.length)*b<=140737488355328)(k:Ok (f<|l++ys) Q):Ok ((Go.Gk.app b l ys).bind f) Q:=by grind [sm]
theorem Ca{l:List α}{i:Nat}{f:α->Option β}(h:i<l.length)(k:Ok (f l[i]) Q):Ok ((Go.Gk.idx l ((i:Nat):Int)).bind f) Q:=by grind [iO]
end
theorem mA{n:Nat}(h:n+1<=4611686018427387904):wrap .i64 (((n:Nat):Int)+1)=((n+1:Nat):Int):=by grind [fY]
theorem g5{α:Type}[DecidableEq α]:∀{l m:List α},l.Nodup->(∀x∈l,x∈m)->l.length<=m.length
 | [],m,_,_=>Nat.zero_le _
 |a::l,m,hn,hs=>by
  have ha:a∈m:=hs a (by simp);have hn':=List.nodup_cons.1 hn
  have:=g5 (l:=l) (m:=m.erase a) hn'.2 (λx hx=>by
   grind)
  rw[List.length_erase_of_mem ha]at this;have:=List.length_pos_of_mem ha;simp;omega
section
variable {α:Type}{N:Nat}
end
section
variable {κ ν:Type}[DecidableEq κ]
theorem oy(m:List (κ×ν))(k k':κ)(x z:ν):bM (dU m k x) k' z=if k'=k then x else bM m k' z:=by
 induction m with
 |nil=>grind [dU,bM]
 |cons p m ih=>
  grind [dU,bM,bX,dT]
theorem ug(m:List (κ×ν))(k k':κ)(x:ν):ig (dU m k x) k'=(decide (k'=k)||ig m k'):=by
 induction m with
 |nil=>rfl
 |cons p m ih=>
  unfold dU
  grind [ig,bX,decide]
def lO(m:List (κ×ν))(l:List κ)(x:ν):List (κ×ν):=l.foldl (λm k=>dU m k x) m
theorem pG(l:List κ)(x z:ν)(k:κ):∀(m:List (κ×ν)),bM (lO m l x) k z=if k∈l then x else bM m k z:=by
 induction l with
 |nil=>simp[lO]
 |cons a l ih=>
  intro m;show bM (lO (dU m a x) l x) k z=_
  grind [oy]
theorem uh{l:List κ}{m:List (κ×ν)}(x:ν)(hl:l.length<=4611686018427387904):
  oK l.length (λ(k:Nat)(s:List (κ×ν))=>((idx l ((k:Nat):Int)).bind λy=>some (dU s y x):Option (List<|κ×ν))) m=some (lO m l x):=by
 rw[oW (s:=m) (λk=>lO m (l.take k) x) hl rfl (λk hk=>by
  grind [iO,aB,lO,List.take_succ_eq_append_getElem]),List.take_length]
end
section
variable {κ:Type}[DecidableEq κ]
def sy(m:List (κ×Int))(k:κ):List (κ×Int):=dU m k<|bM m k 0+1
def ki(ks:List κ):List (κ×Int):=ks.foldl sy []
theorem pH(k:κ):∀(ks:List κ)(m:List (κ×Int)),bM (ks.foldl sy m) k 0=bM m k 0+((ks.count k:Nat):Int)
 | [],m=>by simp
 |a::ks,m=>by
  rw[List.foldl_cons,pH k ks,List.count_cons];unfold sy;rw[oy]
  by_cases h:k=a
  ·subst h;simp;omega
  ·have:(a==k)=false:=by simp;exact λe=>h e.symm
   simp[h,this]
theorem mB(ks:List κ)(k:κ):bM (ki ks) k 0=((ks.count k:Nat):Int):=by
 unfold ki;rw[pH];simp[bM]
theorem kj(k a:κ)(x:Int):∀(m:List (κ×Int)),a∈(dU m k x).map Prod.fst↔a=k\/a∈m.map Prod.fst
 | []=>by simp[dU]
 |p::m=>by
  have ih:=kj k a x m;unfold dU
  by_cases h:k=p.1
  ·rw[aO h];simp only[fu,fm,h];constructor
   ·rintro(h|h)
    ·exact .inl h
    ·exact .inr<|.inr h
   ·rintro(h|h|h)
    ·exact .inl h
    ·exact .inl h
    ·exact .inr h
  ·rw[aR h];simp only[fu,fm,ih];constructor
   ·rintro(h|h|h)
    ·exact .inr<|.inl h
    ·exact .inl h
    ·exact .inr<|.inr h
   ·rintro(h|h|h)
    ·exact .inr<|.inl h
    ·exact .inl h
    ·exact .inr<|.inr h
theorem tF(k:κ)(x:Int):∀{m:List (κ×Int)},(m.map Prod.fst).Nodup->((dU m k x).map Prod.fst).Nodup
 | [],_=>by simp[dU]
 |p::m,h=>by
  rw[fu,List.nodup_cons]at h;unfold dU
  by_cases hk:k=p.1
  ·rw[aO hk,fu,List.nodup_cons];exact⟨hk▸h.1,h.2⟩
  ·rw[aR hk,fu,List.nodup_cons];refine⟨λhm=>?_,tF k x h.2⟩
   rcases(kj k _ x m).1 hm with e|e
   ·exact hk e.symm
   ·exact h.1 e
theorem qy(a:κ):∀(ks:List κ)(m:List (κ×Int)),a∈(ks.foldl sy m).map Prod.fst↔a∈ks\/a∈m.map Prod.fst
 | [],m=>by simp
 |k::ks,m=>by
  rw[List.foldl_cons,qy a ks];unfold sy;rw[kj,fm];constructor
  ·rintro(h|h|h)
   ·exact .inl<|.inr h
   ·exact .inl<|.inl h
   ·exact .inr h
  ·rintro((h|h)|h)
   ·exact .inr<|.inl h
   ·exact .inl h
   ·exact .inr<|.inr h
theorem tG:∀(ks:List κ)(m:List (κ×Int)),(m.map Prod.fst).Nodup->((ks.foldl sy m).map Prod.fst).Nodup
 | [],m,h=>h
 |k::ks,m,h=>tG ks _ (tF k _ h)
theorem pI(ks:List κ):((ki ks).map Prod.fst).Nodup:=tG ks [] List.nodup_nil
theorem iy(ks:List κ)(a:κ):a∈(ki ks).map Prod.fst↔a∈ks:=by
 unfold ki;rw[qy];simp
theorem mC:∀{m:List (κ×Int)}{e:κ×Int},(m.map Prod.fst).Nodup->e∈m->bM m e.1 0=e.2
 |p::m,e,hn,h=>by
  rw[fu,List.nodup_cons]at hn;unfold bM;rw[List.find?_cons]
  rcases fm.1 h with rfl|h
  ·simp
  ·have hne:¬e.1=p.1:=λhe=>hn.1<|he▸List.mem_map_of_mem h
   rw[bX hne];exact mC hn.2 h
theorem ui{ka kb:List κ}:((ki ka).length=(ki kb).length/\∀e∈ki ka,bM (ki kb) e.1 0=e.2)↔ka.Perm kb:=by
 have na:=pI ka;have nb:=pI kb;rw[List.perm_iff_count];constructor
 ·rintro⟨hl,h⟩k;have hA:∀a,a∈ka->ka.count a=kb.count a:=λa ha=>by
   obtain⟨e,he,rfl⟩:=List.mem_map.1<|(iy ka a).2 ha
   have h1:=h e he;rw[<-mC na he,mB,mB]at h1;omega
  by_cases hk:k∈ka
  ·exact hA k hk
  ·rw[List.count_eq_zero_of_not_mem hk]
   by_cases hb:k∈kb
   ·exfalso
    have:=g5 (l:=k::(ki ka).map Prod.fst) (m:=(ki kb).map Prod.fst) (List.nodup_cons.2 ⟨λh=>hk ((iy ka k).1 h),na⟩) (λx hx=>by
     rcases fm.1 hx with rfl|hx
     ·exact(iy kb _).2 hb
     ·have h1:=(iy ka x).1 hx;have h2:=hA x h1;have h3:=List.count_pos_iff.2 h1
      exact(iy kb x).2 (List.count_pos_iff.1 (by omega)))
    simp only[jR,List.length_map]at this;omega
   ·exact(List.count_eq_zero_of_not_mem hb).symm
 ·intro h;have hm:∀x,x∈ka↔x∈kb:=λx=>by rw[<-List.count_pos_iff,<-List.count_pos_iff,h]
  refine⟨?_,λe he=>?_⟩
  ·have h1:=g5 na<|λx hx=>(iy kb x).2<|(hm x).1<|(iy ka x).1 hx
   have h2:=g5 nb<|λx hx=>(iy ka x).2<|(hm x).2<|(iy kb x).1 hx
   simp only[List.length_map]at h1 h2;omega
  ·rw[<-mC na he,mB,mB,h]
end
section
variable {κ ν:Type}
theorem qz(f:κ×ν->Bool):∀p:List (κ×ν),mZ (λe(_:Unit)=>(bif f e then some (.rt 12)else(some<|.nx ()):Option (Fl Unit Int))) p ()=some (if p.any f=true then .rt 12 else .go ())
 | []=>rfl
 |e::p=>by
  unfold mZ;rw[List.any_cons]
  cases h:f e
  ·simp only[bG,aB,Bool.false_or];exact qz f p
  ·simp
theorem vo{m:List (κ×ν)}(f:κ×ν->Bool):
  qN m (λe(_:Unit)=>(bif f e then some (.rt 12)else(some<|.nx ()):Option (Fl Unit Int))) () (λ_=>(some (.nx ()):Option (Fl Unit Int))) (λr=>some<|.rt r)=some (if m.any f=true then .rt 12 else .nx ()):=
 vK λp hp=>by
  rw[qz,hp.any_eq]
  cases m.any f <;> rfl
end
def gT(l:List Int):List Int:=l.mergeSort λx y=>decide<|x<=y
theorem uj{l:List Int}(h:l.length<4611686018427387904):qP l=some (gT l):=aO h
theorem jI(l:List Int):(gT l).Perm l:=List.mergeSort_perm _ _
theorem sA{l m:List Int}:gT l=gT m↔l.Perm m:=by
 constructor
 ·intro h;exact(jI l).symm.trans<|h▸jI m
 ·intro h;have srt:∀l:List Int,(gT l).Pairwise (λa b=>a<=b):=λl=>by
   have:=List.pairwise_mergeSort (le:=λx y:Int=>decide (x<=y)) (λa b c h h'=>by
    rw[gM]at h h' ⊢;omega) (λa b=>by
    rw[ee,gM,gM];omega) l
   exact this.imp λh=>by simpa using h
  exact List.Perm.eq_of_pairwise (le:=λa b=>a<=b) (λa b _ _ h h'=>by omega) (srt l) (srt m)<|(jI l).trans<|h.trans (jI m).symm
section
variable {N:Nat}
def uk(c:UInt8):Bool:=
 (((decide (((c.toNat:Nat):Int)<65)||decide (((c.toNat:Nat):Int)>90))&&(decide (((c.toNat:Nat):Int)<97)||decide (((c.toNat:Nat):Int)>122)))&&(decide (((c.toNat:Nat):Int)<48)||decide (((c.toNat:Nat):Int)>57)))&&decide (Lib.indexByte [95,43,45,35] c<0)
def isWord(s:aQ):Bool:= !s.bF.any uk&&(decide (1<=s.bF.length)&&decide (s.bF.length<=40))
theorem n4(s:aQ)(c:UInt8):dV N s ((c.toNat:Nat):Int)=some (Lib.indexByte s.bF c):=by
 show some (Lib.indexByte s.bF (Int.toNat ((c.toNat:Nat):Int)).toUInt8)=_;simp
theorem pJ{R:Type}(b1:Bool)(c:UInt8)(r:R):
  ((bif b1 then((dV N (⟨[95,43,45,35]⟩) ((c.toNat:Nat):Int)).bind λx14=>some<|decide<|x14<0)else some false).bind λs12=>bif s12 then some (.rt r)else(some<|.nx ()):Option (Fl Unit R))=some (if(b1&&decide (Lib.indexByte [95,43,45,35] c<0))=true then .rt r else .nx ()):=by
 rw[n4,aB]
 grind
theorem iz{s:aQ}(h:s.bF.length<=2097152):eQ N s=some (isWord s):=by
 unfold eQ
 rw[jo uk false (by omega) (λk x hx=>by
  have hk:=(bS.1 hx).1;have e:rF s ((k:Nat):Int)=some x:=by grind [sj,aZ]
  rw[e,aB]
  exact pJ (R:=Bool) _ x false),aB]
 unfold isWord
 grind [uk,Fo.cs,nE,Bool.false_eq_true,Option.some.injEq]
theorem kl{s:aQ}(h:s.bF.length<=2097152):cZ N s=some (isWord s):=by
 unfold cZ
 rw[jo uk false (by omega) (λk x hx=>by
  have hk:=(bS.1 hx).1;have e:rF s ((k:Nat):Int)=some x:=by rw[sj s k hk,<-aZ hk,hx]
  rw[e,aB];refine(pJ (R:=Bool) _ x false).trans ?_;unfold uk
  rw[Bool.and_comm (_||_) (_||_)]),aB]
 unfold isWord cK
 cases s.bF.any uk
 ·simp only[Fo.cs,aB,nE,Bool.true_and,Bool.false_eq_true,if_false,Option.some.injEq];rw[ia,bV,bV];simp only[gM];omega
 ·simp[Fo.cs]
def cutAt(c:UInt8):List UInt8->List (List UInt8)
 | []=>[[]]
 |b::l=>if b==c then []::cutAt c l else match cutAt c l with|h::t=>(b::h)::t| []=>[[b]]
theorem pK{c:UInt8}:∀{l:List UInt8},c∉l->cutAt c l= [l]
 | [],_=>rfl
 |b::l,h=>by
  unfold cutAt;have hb:(b==c)=false:=by rw[beq_eq_false_iff_ne];rintro rfl;exact h (by simp)
  rw[hb,pK<|λh'=>h (by simp[h'])];rfl
theorem sB{c:UInt8}:∀{a b:List UInt8},c∉a->cutAt c (a++c::b)=a::cutAt c b
 | [],b,_=>by rw[List.nil_append];show(if(c==c)=true then _ else _)=_;simp
 |x::a,b,h=>by
  have hb:(x==c)=false:=by rw[beq_eq_false_iff_ne];rintro rfl;exact h (by simp)
  have ih:=sB (c:=c) (a:=a) (b:=b)<|λh'=>h (by simp[h'])
  show(if(x==c)=true then []::cutAt c (a++c::b)else match cutAt c (a++c::b)with|h::t=>(x::h)::t| []=>[[x]])=_;rw[hb,ih];rfl
theorem mD:∀(l:List UInt8)(c:UInt8),(Lib.indexByte l c = -1/\c∉l)\/∃a b,l=a++c::b/\c∉a/\Lib.indexByte l c=((a.length:Nat):Int)
 | [],c=> .inl ⟨rfl,by simp⟩
 |x::l,c=>by
  unfold Lib.indexByte
  by_cases hx:x=c
  ·subst hx;exact .inr ⟨[],l,rfl,by simp,by simp⟩
  ·have hb:(x==c)=false:=by rw[beq_eq_false_iff_ne];exact hx
   rcases mD l c with⟨h1,h2⟩|⟨a,b,h1,h2,h3⟩
   ·left;rw[hb,h1];refine⟨by simp,?_⟩;simp[h2];exact λh=>hx h.symm
   ·right;refine⟨x::a,b,by rw[h1];rfl,by grind,?_⟩;rw[hb,h3];have:(((a.length:Nat):Int)== -1)=false:=by rw[beq_eq_false_iff_ne];omega
    rw[this];simp
theorem vq(s:aQ)(c:UInt8):gm N s ⟨[c]⟩=some (Lib.indexByte s.bF c):=by
 show(fz N s ⟨[c]⟩).bind _=_;unfold fz
 by_cases h:aQ.fe ⟨[c]⟩ s=true
 ·grind [iP,Lib.indexByte]
 ·rw[mF]at h;rw[h];show((eg N s ((c.toNat:Nat):Int)).bind _).bind _=_;have:=n4 (N:=N) s c
  grind [dV]
theorem vr(s:aQ)(c:UInt8):gU N s ⟨[c]⟩=some ((s.bF.count c:Nat):Int):=by
 unfold gU;show(some _:Option Int)=_;simp[Lib.countByte]
theorem um{s:aQ}{k:Nat}(h:k<=s.bF.length):nd s 0 ((k:Nat):Int)=some ⟨s.bF.take k⟩:=by
 unfold nd;grind
theorem uo{s:aQ}{k:Nat}(h:k<=s.bF.length):nd s ((k:Nat):Int) ((s.bF.length:Nat):Int)=some ⟨s.bF.drop k⟩:=by
 grind [nd,lZ,mG,jS]
def jf(s:aQ)(c:UInt8):List aQ:=(cutAt c s.bF).map aQ.mk
theorem sC{s:aQ}(c:UInt8)(h:s.bF.length<=2097152)(hN:4194304<=N):gp N s ⟨[c]⟩=some (jf s c):=by
 have hc:s.bF.count c<=s.bF.length:=List.count_le_length;unfold gp gN;rw[show((-1:Int)==0)=false by decide,bG,show aQ.fe ⟨[c]⟩ ⟨[]⟩=false by simp[aQ.fe],bG,vr,aB];rw[fY (x:=((s.bF.count c:Nat):Int)+1) (by omega) (by omega),show decide ((-1:Int)<0)=true by decide,bQ,aB];rw[fY (x:=((s.bF.length:Nat):Int)+1) (by omega) (by omega)];have e1:(if((s.bF.length:Nat):Int)+1<((s.bF.count c:Nat):Int)+1 then((s.bF.length:Nat):Int)+1 else((s.bF.count c:Nat):Int)+1)=((s.bF.count c+1:Nat):Int):=by
  omega
 rw[e1,vZ _ (by omega),aB];rw[fY (x:=((s.bF.count c+1:Nat):Int) - 1) (by omega) (by omega)];have key:=nY (S:=aQ×List aQ×Int) (R:=Empty) (body:=(λ(s7:aQ×List aQ×Int)=>(bif decide (s7.2.2<((s.bF.count c+1:Nat):Int) - 1)then((gm N s7.1 ⟨[c]⟩).bind λx23=>bif decide (x23<0)then some (.br (s7.1,s7.2.1,s7.2.2))else((nd s7.1 0<|wrap .i64<|x23+0).bind λx24=>(idx s7.2.1 s7.2.2).bind λx25=>(nd s7.1 (wrap .i64<|x23+(((⟨[c]⟩:aQ).bF.length:Nat):Int)) ((s7.1.bF.length:Nat):Int)).bind λx27=>some<|.nx (x27,s7.2.1.set (Int.toNat s7.2.2) x24,wrap .i64<|s7.2.2+1)))else(some<|.br (s7.1,s7.2.1,s7.2.2)):Option (Fl (aQ×List aQ×Int) Empty))))
  (λst=>∃ws:List (List UInt8),st.2.2=((ws.length:Nat):Int)/\cutAt c s.bF=ws++cutAt c st.1.bF/\ws.length+st.1.bF.count c=s.bF.count c/\st.1.bF.length<=s.bF.length/\st.2.1=ws.map aQ.mk++List.replicate (s.bF.count c+1 - ws.length) ⟨[]⟩)
  (λst=>s.bF.count c+1 - st.2.2.toNat)
  (λst=>∃ws:List (List UInt8),st.2.2=((ws.length:Nat):Int)/\cutAt c s.bF=ws++[st.1.bF]/\ws.length=s.bF.count c/\st.2.1=ws.map aQ.mk++[⟨[]⟩])
  (λ_=>True) (by
   rintro⟨r,arr,i⟩⟨ws,h1,h2,h3,h4,h5⟩;simp only at h1 h2 h3 h4 h5;subst h1 h5
   by_cases hlt:ws.length<s.bF.count c
   ·have hd:decide (((ws.length:Nat):Int)<((s.bF.count c+1:Nat):Int) - 1)=true:=by grind
    simp only[hd,bQ,vq,aB]
    rcases mD r.bF c with⟨_,hn⟩|⟨a,b,hr,ha,hi⟩
    ·grind
    ·have hrl:r.bF.length=a.length+(b.length+1):=by rw[hr];simp
     rw[hi,bX (by omega),bG];rw[show((a.length:Nat):Int)+0=((a.length:Nat):Int)by omega,fY (x:=((a.length:Nat):Int)) (by omega) (by omega),um (by omega),aB];rw[iO _ _ (by simp;omega),aB];rw[show((a.length:Nat):Int)+(((⟨[c]⟩:aQ).bF.length:Nat):Int)=((a.length+1:Nat):Int)by simp,fY (x:=((a.length+1:Nat):Int)) (by omega) (by omega),uo (by omega),aB];refine⟨_,rfl,⟨ws++[a],?_,?_,?_,?_,?_⟩,?_⟩
     ·grind [fY]
     ·simp_all[sB]
     ·simp only;rw[hr]at h3 ⊢;simp[List.count_eq_zero_of_not_mem ha]at h3 ⊢;omega
     ·simp;omega
     ·simp only[lZ];rw[List.set_append_right _ _ (by simp)];simp only[List.length_map,Nat.sub_self];obtain⟨d,hd'⟩:∃d,s.bF.count c+1 - ws.length=d+1:=⟨s.bF.count c - ws.length,by omega⟩;rw[hd',List.replicate_succ,List.set_cons_zero,show s.bF.count c+1 -(ws++[a]).length=d by simp;omega];simp[hr]
     ·simp only;rw[fY (by omega) (by omega)];omega
   ·have hd:decide (((ws.length:Nat):Int)<((s.bF.count c+1:Nat):Int) - 1)=false:=by rw[decide_eq_false_iff_not];omega
    simp only[hd,bG];refine⟨_,rfl,ws,rfl,?_,by omega,?_⟩
    ·have h0:r.bF.count c=0:=by omega
     rw[h2,pK<|List.count_eq_zero.1 h0]
    ·rw[show s.bF.count c+1 - ws.length=1 by omega];rfl)
  N (s,List.replicate (s.bF.count c+1) ⟨[]⟩,0) ⟨[],rfl,rfl,by simp,cI _,by simp⟩ (by simp only;omega)
 obtain⟨o,ho,hgo⟩:=key;rw[ho,aB]
 cases o with
 |rt r=>exact r.elim
 |go st=>
  obtain⟨r,arr,i⟩:=st;obtain⟨ws,h1,h2,h3,h4⟩:=hgo;simp only at h1 h2 h3 h4;subst h1 h4;simp only[Fo.cs];rw[iO _ _ (by simp),aB,fY (by omega) (by omega)];rw[show((ws.length:Nat):Int)+1=((ws.length+1:Nat):Int)by omega,mh _ _ (by simp),aB,aB];unfold jf;rw[h2];rw[lZ,List.set_append_right _ _ (by simp),mG (by simp)];simp
def jg(s:aQ):Bool:=decide (s.bF.length<=200)&&(jf s 47).all isWord
theorem mI{c:UInt8}:∀{l x:List UInt8},x∈cutAt c l->x.length<=l.length
 | [],x,h=>by simp[cutAt]at h;subst h;simp
 |b::l,x,h=>by
  unfold cutAt at h;split at h
  ·rcases fm.1 h with h|h
   ·subst h;simp
   ·have:=mI h;simp;omega
  ·split at h
   ·rename_i t e
    rcases fm.1 h with h|h
    ·subst h;have:=mI (c:=c) (l:=l) (by rw[e];exact List.mem_cons_self);simp;omega
    ·have:=mI (c:=c) (l:=l) (by rw[e];exact List.mem_cons_of_mem _ h);simp;omega
   ·simp at h;subst h;simp
theorem qA(c:UInt8):∀(l:List UInt8),(cutAt c l).length<=l.length+1
 | []=>by simp[cutAt]
 |b::l=>by
  have:=qA c l;unfold cutAt;split
  ·simp;omega
  ·split
   ·rename_i e;rw[e]at this;simp at this ⊢;omega
   ·simp
theorem qB{s x:aQ}{c:UInt8}(h:x∈jf s c):x.bF.length<=s.bF.length:=by
 obtain⟨y,hy,rfl⟩:=List.mem_map.1 h;exact mI hy
theorem qC(s:aQ)(c:UInt8):(jf s c).length<=s.bF.length+1:=by simp[jf,List.length_map,qA]
theorem jY{s:aQ}(h:s.bF.length<=2097152)(hN:4194304<=N):eU N s=some (jg s):=by
 unfold eU jg
 by_cases hl:s.bF.length<=200
 ·rw[dT (by omega),bQ,sC 47 h hN,aB]
  have e:=kC (l:=jf s 47) (φ:=dX N) (λx=> !isWord x) (by have:=qC s 47;omega) (λx hx=>by
   unfold dX
   rw[iz (by have:=qB hx;omega)];rfl)
  have e2:dW N (jf s 47) (dX N)=iR (jf s 47) (dX N):=rfl;rw[e2,e,aB,aB,dT hl,Bool.true_and];congr 1;rw[ia];simp
 ·rw[bX (by omega),bG,aB,bX hl,Bool.false_and]
theorem m3{s:aQ}(h:s.bF.length<=2097152)(hN:4194304<=N):dO N s=some (jg s):=by
 unfold dO
 rw[sC 47 h hN,aB,jo (λx=> !isWord x) false (by have:=qC s 47;omega) (λk x hx=>by
  rw[cD hx,aB,kl (by have:=qB<|eP hx;omega),aB]
  cases isWord x <;> rfl),aB]
 unfold jg;have e:(jf s 47).any (λx=> !isWord x) = !(jf s 47).all isWord:=by rw[ia];simp
 rw[e]
 cases(jf s 47).all isWord
 ·simp[Fo.cs]
 ·simp only[nD,Bool.false_eq_true,if_false,Fo.cs,Bool.and_true];congr 1;rw[ia];simp only[gM];omega
end
section
variable {N:Nat}
def lC(l:List aP)(k:Nat):Option Int:=
 match l[k]? with
 |none=>none
 |some p=>if isWord p.Name=false then some 5 else if(decide (p.Kind<1)||decide (p.Kind>7))=true then some 4 else if(decide (p.aN<0)||decide (p.aN>200))=true then some 1 else if d8 aP.Name l k=true then some 8 else none
def lD(p q:aP):Bool:=decide (p.aN>0)&&(q.aN==p.aN)&&(q.Kind != p.Kind)
def pL(l:List aP)(k:Nat):Option Int:=
 match l[k]? with
 |none=>none
 |some p=>if(l.take k).any (lD p)=true then some 12 else none
def eO(l:List aP):Int:=if l.length=0 then 9 else if 200<l.length then 2 else((fI l.length<|lC l).or<|fI l.length<|pL l).getD 0
def jZ(t:List aC)(k:Nat):Option Int:=
 match t[k]? with
 |none=>none
 |some x=>if isWord x.Name=false then some 5 else if eO x.aJ≠0 then some (eO x.aJ)else if d8 aC.Name t k=true then some 8 else none
def checkTypes(t:List aC):Int:=if 200<t.length then 2 else(fI t.length<|jZ t).getD 0
theorem lE{R β:Type}(o:Option R)(f:Unit->Option β)(g:R->Option β):(sa o ()).cs f g=o.elim (f ()) g:=by cases o <;> rfl
theorem kP(o:Option Int):(sa o ()).cs (λ_=>some (0:Int)) (λr=>some r)=some (o.getD 0):=by cases o <;> rfl
theorem getD_or(a b:Option Int):(a.elim (some<|b.getD 0) λr=>some r)=some ((a.or b).getD 0):=by cases a <;> rfl
theorem mE{l:List aP}(h:bk l<=1048576):fy N l=some (eO l):=by
 have hlen:=fH l;unfold fy eO
 by_cases h0:l.length=0
 ·rw[aO h0,h0];rfl
 ·have e0:(((l.length:Nat):Int)==0)=false:=by rw[beq_eq_false_iff_ne];omega
  rw[aR h0,e0,bG]
  by_cases h1:200<l.length
  ·rw[aO h1,dT (by omega),bQ]
  ·rw[aR h1,bX (by omega),bG]
   rw[eE (lC l) (by omega) (λk hk _=>by
    have hx:l[k]? =some l[k]:=aZ hk;have hb:=mi hx;rw[nr,mj]at hb;rw[cD hx,aB,iz (by omega),aB,kc aP.Name hx (by omega)];unfold lC;rw[hx];dsimp only
    cases isWord l[k].Name
    ·rfl
    ·cases decide (l[k].Kind<1)||decide (l[k].Kind>7)
     ·cases decide (l[k].aN<0)||decide (l[k].aN>200)
      ·cases d8 aP.Name l k <;> rfl
      ·rfl
     ·rfl),aB]
   rw[lE]
   rw[eE (pL l) (by omega) (λk hk _=>by
    have hx:l[k]? =some l[k]:=aZ hk;rw[cD hx,aB,mh l k (by omega),aB]
    have e:=kC (l:=l.take k) (φ:=λy0=>cW N y0 l[k]) (lD l[k]) (by rw[fX];omega) (λq _=>by
     unfold cW lD
     cases decide (l[k].aN>0)
     ·rfl
     ·cases q.aN==l[k].aN <;> rfl)
    have e2:dS N (l.take k) (λy0=>cW N y0 l[k])=iR (l.take k) (λy0=>cW N y0 l[k]):=rfl;rw[e2,e,aB];unfold pL;rw[hx];dsimp only
    cases(l.take k).any (lD l[k]) <;> rfl),aB,kP]
   exact getD_or _ _
theorem lX{t:List aC}(h:bk t<=1048576):eR N t=some (checkTypes t):=by
 have hlen:=fH t;unfold eR checkTypes
 by_cases h1:200<t.length
 ·rw[aO h1,dT (by omega),bQ]
 ·rw[aR h1,bX (by omega),bG]
  rw[eE (jZ t) (by omega) (λk hk _=>by
   have hx:t[k]? =some t[k]:=aZ hk;have hb:=mi hx;rw[hQ]at hb;have hb2:=mj t[k].Name;rw[cD hx,aB,iz (by omega),aB,mE (by omega),aB,kc aC.Name hx (by omega)];unfold jZ;rw[hx];dsimp only
   cases isWord t[k].Name
   ·rfl
   ·by_cases hc:eO t[k].aJ=0
    ·rw[hc];cases d8 aC.Name t k <;> rfl
    ·have:(eO t[k].aJ != 0)=true:=by rw[bne_iff_ne];exact hc
     rw[this];simp[hc,pw]),aB,kP]
theorem m4(a b c:Int):cK N a b c=some (!(decide (a<b)||decide (a>c))):=by
 unfold cK;congr 1;rw[ia];simp
theorem oz{x:aC}(h:bk x<=1048576):dN N x=some (if isWord x.Name=false then 5 else eO x.aJ):=by
 rw[hQ]at h;have hs:=mj x.Name;have hlen:=fH x.aJ;unfold dN;rw[kl (by omega),aB]
 cases isWord x.Name
 ·rfl
 simp only[nD,bG,Bool.true_eq_false,if_false];unfold eO;generalize hl:x.aJ=l at *
 by_cases h0:l.length=0
 ·rw[aO h0,h0];rfl
 ·have e0:(((l.length:Nat):Int)==0)=false:=by rw[beq_eq_false_iff_ne];omega
  rw[aR h0,e0,bG]
  by_cases h1:200<l.length
  ·rw[aO h1,dT (by omega),bQ]
  ·rw[aR h1,bX (by omega),bG]
   rw[eE (lC l) (by omega) (λk hk _=>by
    have hx:l[k]? =some l[k]:=aZ hk;have hb:=mi hx;rw[nr,mj]at hb;rw[cD hx,aB,kl (by omega),aB,m4,aB,m4,aB,kc aP.Name hx (by omega)];unfold lC;rw[hx];dsimp only
    cases isWord l[k].Name
    ·rfl
    ·cases decide (l[k].Kind<1)||decide (l[k].Kind>7)
     ·cases decide (l[k].aN<0)||decide (l[k].aN>200)
      ·cases d8 aP.Name l k <;> rfl
      ·rfl
     ·rfl),aB]
   rw[lE]
   rw[eE (pL l) (by omega) (λk hk _=>by
    have hx:l[k]? =some l[k]:=aZ hk;rw[cD hx,aB,mh l k (by omega),aB]
    rw[jo (lD l[k]) (12:Int) (by rw[fX];omega) (λj q hq=>by
     rw[cD hq,aB];have e:((decide (l[k].aN>0)&&(l[k].aN==q.aN))&&(l[k].Kind != q.Kind))=lD l[k] q:=by
      unfold lD;rw[ia];simp;omega
     rw[e];cases lD l[k] q <;> rfl),aB]
    unfold pL;rw[hx];dsimp only
    cases(l.take k).any (lD l[k]) <;> rfl),aB,kP]
   exact getD_or _ _
theorem n6{t:List aC}(h:bk t<=1048576):dJ N t=some (checkTypes t):=by
 have hlen:=fH t;unfold dJ checkTypes
 by_cases h1:200<t.length
 ·rw[aO h1,dT (by omega),bQ]
 ·rw[aR h1,bX (by omega),bG]
  rw[eE (jZ t) (by omega) (λk hk _=>by
   have hx:t[k]? =some t[k]:=aZ hk;have hb:=mi hx;rw[cD hx,aB,oz (by omega),aB,kc aC.Name hx (by omega)];unfold jZ;rw[hx];dsimp only
   cases isWord t[k].Name
   ·rfl
   ·simp only[Bool.true_eq_false,if_false]
    by_cases hc:eO t[k].aJ=0
    ·rw[hc];cases d8 aC.Name t k <;> rfl
    ·have:(eO t[k].aJ != 0)=true:=by rw[bne_iff_ne];exact hc
     rw[this];simp[hc,pw]),aB,kP]
structure rh (t:List aC):Prop where
 sorted:fT aC.Name t
 pins:∀x∈t,fT aP.Name x.aJ
theorem mJ{e:Nat->Option Int}{m:Nat}(hz:∀k r,e k=some r->r≠0)(h:(fI m e).getD 0=0):∀k,k<m->e k=none:=by
 cases hx:fI m e with
 |none=>exact gr.1 hx
 |some r=>
  obtain⟨k,_,hk,_⟩:=fS.1 hx;rw[hx]at h;exact absurd h<|hz k r hk
theorem uq{l:List aP}{k:Nat}{r:Int}(h:lC l k=some r):r≠0:=by
 unfold lC at h
 repeat' split at h
 all_goals first|(injection h with h;omega)|cases h
theorem ri{l:List aP}(h:eO l=0):fT aP.Name l:=by
 unfold eO at h;split at h
 ·cases h
 split at h
 ·cases h
 refine gW λk hk=>?_
 cases hx:fI l.length (lC l)with
 |some r=>
  obtain⟨j,_,hj,_⟩:=fS.1 hx;rw[hx]at h;exact absurd h<|uq hj
 |none=>
  have:=gr.1 hx k hk;unfold lC at this;rw[aZ hk]at this;dsimp only at this
  repeat' split at this
  all_goals first|(simp at this;done)|simp_all
theorem m5{t:List aC}(h:checkTypes t=0):rh t:=by
 unfold checkTypes at h;split at h
 ·cases h
 have hz:∀k r,jZ t k=some r->r≠0:=by
  intro k r hk;unfold jZ at hk
  repeat' split at hk
  all_goals first|(injection hk with hk;subst hk;first|assumption|omega)|cases hk
 have hn:=mJ hz h;have key:∀k(hk:k<t.length),eO t[k].aJ=0/\d8 aC.Name t k=false:=by
  intro k hk;have:=hn k hk;unfold jZ at this;rw[aZ hk]at this;dsimp only at this
  repeat' split at this
  all_goals first|(simp at this;done)|simp_all
 refine⟨gW λk hk=>(key k hk).2,λx hx=>?_⟩;obtain⟨k,hk⟩:=g3 hx;obtain⟨hlt,rfl⟩:=bS.1 hk;exact ri (key k hlt).1
end
section
variable {N:Nat}
theorem oA{t:List aC}{s:aQ}(hs:fT aC.Name t)(ht:bk t<=1048576)(hN:4194304<=N):dI N t s=some (nat? aC.Name t s):=by
 have:=fH t;obtain⟨r,h1,h2⟩:=oX (N:=N) (key:=aC.Name) (l:=t) (s:=s) (φ:=ey N) (λx=>rfl) hs (by omega) hN;have e:cA N t s (ey N)=t8 N t s (ey N):=rfl;unfold dI;rw[e,h1,aB];exact h2
theorem mK{l:List Part}{s:aQ}(hs:fT Part.Name l)(hl:l.length<=1048576)(hN:4194304<=N):dY N l s=some (nat? Part.Name l s):=by
 obtain⟨r,h1,h2⟩:=oX (N:=N) (key:=Part.Name) (l:=l) (s:=s) (φ:=ez N) (λx=>rfl) hs (by omega) hN;have e:cJ N l s (ez N)=t8 N l s (ez N):=rfl;unfold dY;rw[e,h1,aB];exact h2
theorem sD{y:aC}{s:aQ}(hs:fT aP.Name y.aJ)(hl:y.aJ.length<=1048576)(hN:4194304<=N):gq N y s=some (nat? aP.Name y.aJ s):=by
 obtain⟨r,h1,h2⟩:=oX (N:=N) (key:=aP.Name) (l:=y.aJ) (s:=s) (φ:=eN N) (λx=>rfl) hs (by omega) hN;have e:cC N y.aJ s (eN N)=t8 N y.aJ s (eN N):=rfl;unfold gq;rw[e,h1,aB];exact h2
theorem oB{t:List aC}{s:aQ}(hl:t.length<=1048576):dP N t s=some (nat? aC.Name t s):=by
 rw[<-n0 (by omega)];rfl
theorem mL{l:List Part}{s:aQ}(hl:l.length<=1048576):dA N l s=some (nat? Part.Name l s):=by
 rw[<-n0 (by omega)];rfl
theorem sE{y:aC}{s:aQ}(hl:y.aJ.length<=1048576):eD N y s=some (nat? aP.Name y.aJ s):=by
 rw[<-n0 (by omega)];rfl
theorem gK{α:Type}(key:α->aQ)(l:List α)(s:aQ):(nat? key l s = -1/\∀x∈l,key x≠s)\/∃k x,nat? key l s=((k:Nat):Int)/\l[k]? =some x/\key x=s:=by
 rcases kB l (λx=>(key x).fe s)with⟨h1,h2⟩|⟨k,x,h1,h2,h3,_⟩
 ·exact .inl ⟨h1,λx hx=>jv.1<|h2 x hx⟩
 ·exact .inr ⟨k,x,h1,h2,iP.1 h3⟩
theorem tH{α:Type}(key:α->aQ)(l:List α)(s:aQ):decide (nat? key l s>=0)=l.any (λx=>(key x).fe s):=th _ _
def iA(t:List aC)(l:List Part)(k:Nat):Option Int:=
 match l[k]? with
 |none=>none
 |some p=>if jg p.Name=false then some 5 else if nat? aC.Name t p.bR<0 then some 9 else if d8 Part.Name l k=true then some 8 else none
def cP(t:List aC)(l:List Part):Int:=if 1000<l.length then 2 else(fI l.length<|iA t l).getD 0
theorem pM{R:Type}(a:Bool)(z:Int)(b:Bool)(f:Int->R):
  ((bif(!a)then some (.rt<|f 5)else(bif decide (z<0)then some (.rt<|f 9)else((some b).bind λs=>bif s then some (.rt<|f 8)else some (.nx ())))):Option (Fl Unit R)) =
  some (pw ((if a=false then some (5:Int)else if z<0 then some 9 else if b=true then some 8 else none).map f) ()):=by
 cases a
 ·rfl
 ·by_cases hz:z<0
  ·rw[dT hz];simp[pw,hz]
  ·rw[bX hz];cases b <;> simp[pw,hz]
theorem pN(o:Option Int):o.map (λx=>x)=o:=by cases o <;> rfl
theorem pO{t:List aC}{l:List Part}(hs:fT aC.Name t)(ht:bk t<=1048576)(hl:l.length<=1048576)(hln:∀p∈l,p.Name.bF.length<=2097152)(hN:4194304<=N):
  eT N t l (eU N)=some (cP t l):=by
 unfold eT cP
 by_cases h1:1000<l.length
 ·rw[aO h1,dT (by omega),bQ]
 ·rw[aR h1,bX (by omega),bG]
  rw[eE (iA t l) (by omega) (λk hk _=>by
   have hx:l[k]? =some l[k]:=aZ hk;have hb:=hln _<|kT hk
   rw[cD hx,aB,jY (by omega) hN,aB,oA hs ht hN,aB,kc Part.Name hx (by omega)];refine(pM _ _ _ (λx:Int=>x)).trans ?_
   rw[pN];unfold iA;rw[hx]),aB,kP]
def iB(t:List aC)(l:List Part)(p:bP):Bool:=
 match l.find? (λx=>x.Name.fe p.Part)with
 |none=>false
 |some x=>match t.find? (λy=>y.Name.fe x.bR)with
  |none=>false
  |some y=>y.aJ.any (λq=>q.Name.fe p.bP)
theorem n7{α:Type}{l:List α}{p:α->Bool}{k:Nat}{x:α}(hk:tg l p=((k:Nat):Int))(hx:l[k]? =some x):l.find? p=some x:=by
 rcases kB l p with⟨h1,_⟩|⟨k',x',h1,h2,h3,h4⟩
 ·omega
 ·have:k'=k:=by omega
  subst this;rw[hx]at h2;injection h2 with h2;subst h2
  rw[List.find?_eq_some_iff_getElem];obtain⟨hlt,hxx⟩:=bS.1 hx;exact⟨h3,k',hlt,hxx,λj hj=>by rw[h4 j l[j] hj<|aZ (by omega)];rfl⟩
theorem qD{α:Type}{l:List α}{p:α->Bool}(hk:tg l p = -1):l.find? p=none:=by
 rcases kB l p with⟨_,h⟩|⟨k',x',h1,_⟩
 ·rw[List.find?_eq_none];intro x hx;rw[h x hx];decide
 ·omega
def Typed(t:List aC)(l:List Part):Prop:=∀x∈l,0<=nat? aC.Name t x.bR
theorem oI{t:List aC}{l:List Part}{p:bP}(htl:Typed t l){fp:Option Int}{ft:aQ->Option Int}{fq:aC->Option Int}
  (h1:fp=some (nat? Part.Name l p.Part)) (h2:∀s,ft s=some (nat? aC.Name t s)) (h3:∀y∈t,fq y=some (nat? aP.Name y.aJ p.bP)):
  (fp.bind λx2=>(bif decide (x2>=0)then((idx l x2).bind λx18=>(ft x18.bR).bind λx21=>(idx t x21).bind λzf=>(fq zf).bind λx25=>some<|decide<|x25>=0)else some false).bind λs16=>some s16)=some (iB t l p):=by
 rw[h1,aB];unfold iB
 rcases gK Part.Name l p.Part with⟨h4,_⟩|⟨k,x,h4,h5,h6⟩
 ·rw[qD h4,h4];rfl
 ·rw[n7 h4 h5,h4,dT (by omega),bQ,cD h5,aB,h2,aB];dsimp only;have h7:=htl x<|eP h5
  rcases gK aC.Name t x.bR with⟨h8,_⟩|⟨j,y,h8,h9,_⟩
  ·omega
  ·rw[n7 h8 h9,h8,cD h9,aB,h3 y<|eP h9,aB,aB,tH]
theorem nA{t:List aC}{l:List Part}{p:bP}(ht:rh t)(hl:fT Part.Name l)(htl:Typed t l)(hbt:bk t<=1048576)(hbl:l.length<=1048576)(hN:4194304<=N):
  ij N t l p=some (iB t l p):=by
 exact oI htl (mK hl (by omega) hN) (λs=>oA ht.sorted hbt hN) (λy hy=>sD (ht.pins y hy) (by
  have h1:=nm hy;rw[hQ]at h1;have h2:=fH y.aJ;omega) hN)
theorem qc{t:List aC}{x:aF}{p:bP}(htl:Typed t x.aU)(hbt:bk t<=1048576)(hbl:bk x<=1048576):fB N t x p=some (iB t x.aU p):=by
 rw[ln]at hbl;have h1:=fH x.aU;have h2:=fH t
 exact oI htl (mL (by omega)) (λs=>oB (by omega)) (λy hy=>sE (by
  have h1:=nm hy;rw[hQ]at h1;have h2:=fH y.aJ;omega))
def m6(a b:bP):Bool:=a.Part.iC b.Part||(a.Part.fe b.Part&&a.bP.iC b.bP)
def jJ(l:List bP)(k:Nat):Bool:=match l[k]?,l[k - 1]? with|some p,some q=>decide (0<k)&& !m6 q p|_,_=>false
theorem vt(a b:aQ):0<Lib.compareBytes a.bF b.bF↔aQ.lt b a:=by
 have h1:=lk a.bF b.bF;have h2:=iH a.bF b.bF
 rcases aQ.so a b with h|h|h
 ·have h3:=h1.2 h;exact⟨λh'=>by omega,λh'=>absurd h'<|aQ.lt_asymm h⟩
 ·subst h;have h3:=h2.2 rfl;exact⟨λh'=>by omega,λh'=>absurd h'<|aQ.lt_irrefl _⟩
 ·refine⟨λ_=>h,λ_=>?_⟩;have h3:¬Lib.compareBytes a.bF b.bF<0:=λh'=>aQ.lt_asymm h<|h1.1 h'
  have h4:¬Lib.compareBytes a.bF b.bF=0:=λh'=>aQ.pC h (aQ.ext'<|h2.1 h').symm;omega
def rj(a b:bP):Int:=if Lib.compareBytes a.Part.bF b.Part.bF=0 then Lib.compareBytes a.bP.bF b.bP.bF else Lib.compareBytes a.Part.bF b.Part.bF
theorem pP(a b:bP):fL N a b=some (rj a b):=by
 show(bif Lib.compareBytes a.Part.bF b.Part.bF != 0 then some (Lib.compareBytes a.Part.bF b.Part.bF)else some (Lib.compareBytes a.bP.bF b.bP.bF))=_;unfold rj
 by_cases h:Lib.compareBytes a.Part.bF b.Part.bF=0
 ·rw[h];rfl
 ·have:(Lib.compareBytes a.Part.bF b.Part.bF != 0)=true:=by rw[bne_iff_ne];exact h
  rw[this,aR h];rfl
theorem ur(a b:bP):decide (rj a b<=0) = !m6 b a:=by
 unfold rj m6
 by_cases h:Lib.compareBytes a.Part.bF b.Part.bF=0
 ·have e:a.Part=b.Part:=aQ.ext'<|(iH _ _).1 h
  have e2:b.Part.iC a.Part=false:=by rw[e,<-mF];exact aQ.lt_irrefl _
  rw[aO h,e2,iP.2 e.symm,Bool.false_or,Bool.true_and];have:=vt a.bP b.bP;rw[ia,gM,Bool.not_eq_true',<-mF];constructor
  ·intro h1 h2;have:=this.2 h2;omega
  ·intro h1
   by_cases h3:0<Lib.compareBytes a.bP.bF b.bP.bF
   ·exact absurd (this.1 h3) h1
   ·omega
 ·have e:b.Part≠a.Part:=λe=>h<|(iH _ _).2 (by rw[e])
  rw[aR h,jv.2 e,Bool.false_and,Bool.or_false];have:=vt a.Part b.Part;rw[ia,gM,Bool.not_eq_true',<-mF];constructor
  ·intro h1 h2;have:=this.2 h2;omega
  ·intro h1
   by_cases h3:0<Lib.compareBytes a.Part.bF b.Part.bF
   ·exact absurd (this.1 h3) h1
   ·omega
theorem qE{l:List bP}{k:Nat}{x:bP}{f:bP->Option Bool}(hf:∀y,f y=some (!m6 y x))(hx:l[k]? =some x)(hl:l.length<=1048576):
  (bif decide (((k:Nat):Int)>0)then(idx l<|wrap .i64<|((k:Nat):Int) - 1).bind f else some false)=some (jJ l k):=by
 have hk:=(bS.1 hx).1;unfold jJ
 by_cases h0:0<k
 ·rw[dT (by omega),bQ,qw h0 (by omega),iO l _ (by omega),aB,hx,aZ (by omega:k - 1<l.length),hf];simp[h0]
 ·have:k=0:=by omega
  subst this;rw[hx];simp
def lF(l:List Net)(p:bP):Bool:=l.any<|λn=>decide<|p∈n.aJ
def lP(t:List aC)(x:aF)(i:Nat)(l:List bP)(k:Nat):Option Int:=
 match l[k]? with
 |none=>none
 |some p=>if iB t x.aU p=false then some 9 else if jJ l k=true then some 8 else if lF (x.aY.take i) p=true then some 7 else none
def lG(t:List aC)(x:aF)(i:Nat):Option Int:=
 match x.aY[i]? with
 |none=>none
 |some n=>if jg n.Name=false then some 5 else if n.aJ.length=0 then some 9 else if 500<n.aJ.length then some 2 else
   (fI n.aJ.length<|lP t x i n.aJ).or (if 0<n.jh.length then some 3 else if d8 Net.Name x.aY i=true then some 8 else none)
def kQ(t:List aC)(x:aF):Int:=if 1000<x.aY.length then 2 else(fI x.aY.length<|lG t x).getD 0
def dR(t:List aC)(x:aF):Int:=
 if checkTypes t≠0 then checkTypes t else if cP t x.aU≠0 then cP t x.aU else kQ t x
theorem nB{t:List aC}{l:List Part}{k:Nat}{r:Int}(h:iA t l k=some r):r≠0:=by
 unfold iA at h
 repeat' split at h
 all_goals first|(injection h with h;omega)|cases h
structure tI (t:List aC) (l:List Part):Prop where
 sorted:fT Part.Name l
 typed:Typed t l
theorem km{t:List aC}{l:List Part}(h:cP t l=0):tI t l:=by
 unfold cP at h;split at h
 ·cases h
 have hn:=mJ (λk r hk=>nB hk) h;have key:∀k(hk:k<l.length),0<=nat? aC.Name t l[k].bR/\d8 Part.Name l k=false:=by
  intro k hk;have:=hn k hk;unfold iA at this;rw[aZ hk]at this;dsimp only at this
  repeat' split at this
  all_goals first|(simp at this;done)|simp_all
 refine⟨gW λk hk=>(key k hk).2,λx hx=>?_⟩;obtain⟨k,hk⟩:=g3 hx;obtain⟨hlt,rfl⟩:=bS.1 hk;exact(key k hlt).1
theorem sF{t:List aC}{x:aF}{i:Nat}{l:List bP}{k:Nat}{r:Int}(h:lP t x i l k=some r):r≠0:=by
 unfold lP at h
 repeat' split at h
 all_goals first|(injection h with h;omega)|cases h
theorem oS{l:List bP}{has:bP->Option Bool}{m:List (bP×Bool)}(hB:bP->Bool)(hh:∀p∈l,has p=some (hB p))(hl:l.length<=1048576):
  er N l has m=some (if 500<l.length then((2:Int),m)else
   (fI l.length (λk=>match l[k]? with
    |none=>none
    |some p=>if hB p=false then some (9:Int)else if jJ l k=true then some 8 else if bM m p false=true then some 7 else none)).elim ((0:Int),lO m l true) (λr=>(r,m))):=by
 unfold er
 by_cases h1:500<l.length
 ·rw[aO h1,dT (by omega),bQ]
 ·rw[aR h1,bX (by omega),bG]
  rw[eE (λk=>Option.map (λ(r:Int)=>(r,m)) (match l[k]? with
    |none=>none
    |some p=>if hB p=false then some (9:Int)else if jJ l k=true then some 8 else if bM m p false=true then some 7 else none)) (by omega) (λk hk _=>by
   have hx:l[k]? =some l[k]:=aZ hk;rw[cD hx,aB,hh _<|kT hk,aB,qE (λy=>by rw[pP,aB,ur]) hx hl,hx];dsimp only
   cases hB l[k]
   ·rfl
   ·cases jJ l k
    ·cases bM m l[k] false <;> rfl
    ·rfl),aB,lE,uh true (by omega),aB]
  rw[<-vh];generalize fI l.length _=o
  cases o <;> rfl
def lH(x:aF)(i:Nat):List (bP×Bool):=(x.aY.take i).foldl (λm n=>lO m n.aJ true) []
theorem uu(l:List Net)(p:bP):∀(m:List (bP×Bool)),bM (l.foldl (λm n=>lO m n.aJ true) m) p false=(lF l p||bM m p false):=by
 induction l with
 |nil=>intro m;rfl
 |cons n l ih=>
  intro m;rw[List.foldl_cons,ih,pG];unfold lF;rw[List.any_cons]
  by_cases h:p∈n.aJ <;> simp[h]
theorem rk(x:aF)(i:Nat)(p:bP):bM (lH x i) p false=lF (x.aY.take i) p:=by
 unfold lH;rw[uu];simp[bM]
theorem rl{x:aF}{i:Nat}{n:Net}(h:x.aY[i]? =some n):lH x (i+1)=lO (lH x i) n.aJ true:=by
 unfold lH;obtain⟨hlt,rfl⟩:=bS.1 h;rw[List.take_succ_eq_append_getElem hlt,List.foldl_append];rfl
structure zl (x:aF):Prop where
 pl:x.aU.length<=1048576
 pn:∀p∈x.aU,p.Name.bF.length<=2097152
 nl:x.aY.length<=1048576
 nn:∀n∈x.aY,n.Name.bF.length<=2097152
 np:∀n∈x.aY,n.aJ.length<=1048576
theorem wK{x:aF}(h:bk x<=1048576):zl x:=by
 rw[ln]at h;have h1:=fH x.aU;have h2:=fH x.aY;refine⟨by omega,λp hp=>?_,by omega,λn hn=>?_,λn hn=>?_⟩
 ·have:=nm hp;rw[rf]at this;have h3:=mj p.Name;omega
 ·have:=nm hn;rw[pE,mj]at this;omega
 ·have:=nm hn;rw[pE]at this;have h3:=fH n.aJ;omega
theorem lY{t:List aC}{x:aF}(hbt:bk t<=1048576)(hbx:zl x)(hN:4194304<=N):dB N t x=some (dR t x):=by
 have hpl:=hbx.pl;have hln:=hbx.nl;unfold dB dR;rw[lX hbt,aB]
 by_cases h1:checkTypes t≠0
 ·have e:(checkTypes t != 0)=true:=by rw[bne_iff_ne];exact h1
  rw[e,bQ,aO h1]
 replace h1:=Decidable.not_not.1 h1
 have ht:=m5 h1;have e:(checkTypes t != 0)=false:=by rw[h1];rfl
 rw[e,bG,aR<|λh=>h h1,pO ht.sorted hbt hbx.pl hbx.pn hN,aB]
 by_cases h2:cP t x.aU≠0
 ·have e:(cP t x.aU != 0)=true:=by rw[bne_iff_ne];exact h2
  rw[e,bQ,aO h2]
 replace h2:=Decidable.not_not.1 h2
 have hp:=km h2;have e:(cP t x.aU != 0)=false:=by rw[h2];rfl
 rw[e,bG,aR<|λh=>h h2];unfold kQ
 by_cases h3:1000<x.aY.length
 ·rw[aO h3,dT (by omega),bQ]
 ·rw[aR h3,bX (by omega),bG]
  rw[q8 (s:=([]:List (bP×Bool))) (lH x) (lG t x) (by omega) rfl (λi hi _=>by
   have hx:x.aY[i]? =some x.aY[i]:=aZ hi;have hb2:=hbx.nn _<|kT hi
   have hlp:=hbx.np _<|kT hi
   rw[rl hx]
   rw[cD hx,aB,jY (by omega) hN,aB,oS (iB t x.aU) (λp _=>by
    unfold fA
    rw[nA ht hp.sorted hp.typed hbt hpl hN,aB]) (by omega),aB,kc Net.Name hx (by omega)]
   unfold lG;rw[hx];dsimp only
   cases jg x.aY[i].Name
   ·rfl
   simp only[nD,bG,Bool.true_eq_false,if_false]
   by_cases h4:x.aY[i].aJ.length=0
   ·rw[aO h4,h4];rfl
   have e4:(((x.aY[i].aJ.length:Nat):Int)==0)=false:=by rw[beq_eq_false_iff_ne];omega
   rw[aR h4,e4,bG]
   by_cases h5:500<x.aY[i].aJ.length
   ·rw[aO h5,aO h5];rfl
   rw[aR h5,aR h5]
   have e5:(fI x.aY[i].aJ.length (λk=>match x.aY[i].aJ[k]? with
    |none=>none
    |some p=>if iB t x.aU p=false then some (9:Int)else if jJ x.aY[i].aJ k=true then some 8 else if bM (lH x i) p false=true then some 7 else none))=fI x.aY[i].aJ.length (lP t x i x.aY[i].aJ):=by
    congr 1;funext k;unfold lP;split
    ·rfl
    ·rw[rk]
   rw[e5]
   cases h6:fI x.aY[i].aJ.length (lP t x i x.aY[i].aJ)with
   |some r=>
    obtain⟨j,_,hj,_⟩:=fS.1 h6;have e6:(r != 0)=true:=by rw[bne_iff_ne];exact sF hj
    simp only[Option.elim_some,e6,bQ];rfl
   |none=>
    simp only[Option.elim_none,bne_self_eq_false,bG,Option.none_or]
    by_cases h7:0<x.aY[i].jh.length
    ·rw[aO h7,dT (by omega)];rfl
    ·rw[aR h7,bX (by omega)]
     cases d8 Net.Name x.aY i <;> rfl),aB]
  cases fI x.aY.length (lG t x) <;> rfl
theorem i9{t:List aC}{x:aF}(hbt:bk t<=1048576)(hbx:bk x<=1048576)(hN:4194304<=N):dB N t x=some (dR t x):=lY hbt (wK hbx) hN
theorem uv{l:List Net}{p:bP}(hb:bk l<=1048576):eu N l p=some (lF l p):=by
 have:=fH l;unfold eu
 rw[jo (λn=>decide (p∈n.aJ)) true (by omega) (λk n hn=>by
  have hb2:=mi hn;rw[pE]at hb2;have:=fH n.aJ;have e:fM N n.aJ p=ot n.aJ p:=rfl;rw[cD hn,aB,e,ra (by omega),aB]
  cases decide (p∈n.aJ) <;> rfl),aB]
 unfold lF
 cases l.any _ <;> rfl
theorem kR{t:List aC}{x:aF}(hbt:bk t<=1048576)(hbx:bk x<=1048576)(hN:4194304<=N):
  cT N t x=some (if cP t x.aU≠0 then cP t x.aU else kQ t x):=by
 have hb:=ln x;have hln:=fH x.aY;have hlp:=fH x.aU;have hlt:=fH t;unfold cT
 by_cases h1:1000<x.aU.length
 ·have:cP t x.aU=2:=by unfold cP;rw[aO h1]
  rw[dT (by omega),bQ,this];rfl
 rw[bX (by omega),bG]
 rw[eE (iA t x.aU) (by omega) (λk hk _=>by
  have hx:x.aU[k]? =some x.aU[k]:=aZ hk;have hb:=mi hx;rw[rf]at hb;have hb2:=mj x.aU[k].Name;rw[cD hx,aB,m3 (by omega) hN,aB,oB (by omega),aB,kc Part.Name hx (by omega)];refine(pM _ _ _ (λx:Int=>x)).trans ?_
  rw[pN];unfold iA;rw[hx]),aB,lE]
 have hcp:cP t x.aU=(fI x.aU.length<|iA t x.aU).getD 0:=by unfold cP;rw[aR h1]
 cases h2:fI x.aU.length (iA t x.aU)with
 |some r=>
  obtain⟨j,_,hj,_⟩:=fS.1 h2;rw[h2]at hcp;simp only[Option.getD_some]at hcp;rw[hcp,aO<|nB hj];rfl
 |none=>
  rw[h2]at hcp;simp only[Option.getD_none]at hcp;have hp:=km hcp;rw[hcp,aR<|λh=>h rfl];simp only[Option.elim_none];unfold kQ
  by_cases h3:1000<x.aY.length
  ·rw[aO h3,dT (by omega),bQ]
  ·rw[aR h3,bX (by omega),bG]
   rw[eE (lG t x) (by omega) (λi hi _=>by
    have hx:x.aY[i]? =some x.aY[i]:=aZ hi;have hb2:=mi hx;rw[pE,mj]at hb2;have hlp:=fH x.aY[i].aJ;rw[cD hx,aB,m3 (by omega) hN,aB,kc Net.Name hx (by omega)];unfold lG;rw[hx];dsimp only
    cases jg x.aY[i].Name
    ·rfl
    simp only[nD,bG,Bool.true_eq_false,if_false]
    by_cases h4:x.aY[i].aJ.length=0
    ·rw[aO h4,h4];rfl
    have e4:(((x.aY[i].aJ.length:Nat):Int)==0)=false:=by rw[beq_eq_false_iff_ne];omega
    rw[aR h4,e4,bG]
    by_cases h5:500<x.aY[i].aJ.length
    ·rw[aO h5,dT (by omega)];rfl
    rw[aR h5,bX (by omega),bG]
    rw[eE (lP t x i x.aY[i].aJ) (by omega) (λk hk _=>by
     have hy:x.aY[i].aJ[k]? =some x.aY[i].aJ[k]:=aZ hk;rw[cD hy,aB,qc hp.typed hbt hbx,aB,qE (f:=λx522=>(fC N x522 x.aY[i].aJ[k]).bind λx526=>some<|!x526) (λy=>rfl) hy (by omega),aB,mh _ i (by omega),aB,uv (by have:=tD x.aY i;omega),aB];unfold lP;rw[hy];dsimp only
     cases iB t x.aU x.aY[i].aJ[k]
     ·rfl
     ·cases jJ x.aY[i].aJ k
      ·cases lF (x.aY.take i) x.aY[i].aJ[k] <;> rfl
      ·rfl),aB,lE]
    cases fI x.aY[i].aJ.length (lP t x i x.aY[i].aJ)with
    |some r=>rfl
    |none=>
     simp only[Option.elim_none,Option.none_or]
     by_cases h7:0<x.aY[i].jh.length
     ·rw[aO h7,dT (by omega)];rfl
     ·rw[aR h7,bX (by omega)]
      cases d8 Net.Name x.aY i <;> rfl),aB,kP]
theorem oC{t:List aC}{x:aF}(hbt:bk t<=1048576)(hbx:bk x<=1048576)(hN:4194304<=N):dQ N t x=some (dR t x):=by
 unfold dQ dR;rw[n6 hbt,aB,kR hbt hbx hN,aB]
 by_cases h1:checkTypes t=0
 ·rw[h1];rfl
 ·have e:(checkTypes t != 0)=true:=by rw[bne_iff_ne];exact h1
  rw[e,aO h1];rfl
end
section
variable {N:Nat}
structure lI (t:List aC) (x:aF):Prop where
 types:rh t
 parts:tI t x.aU
 wN:x.aU.length<=1000
 mM:x.aY.length<=1000
 rm:∀n∈x.aY,0<n.aJ.length/\n.aJ.length<=500
 xK:∀n∈x.aY,n.jh= []
 gi:fT Net.Name x.aY
 path:∀n∈x.aY,jg n.Name=true
 zm:∀p∈x.aU,jg p.Name=true
 zn:∀n∈x.aY,∀p∈n.aJ,iB t x.aU p=true
 y5:∀n∈x.aY,∀(i j:Nat)(p q:bP),i<j->n.aJ[i]? =some p->n.aJ[j]? =some q->m6 p q=true
 once:∀(i j:Nat)(n m:Net)(p:bP),x.aY[i]? =some n->x.aY[j]? =some m->p∈n.aJ->p∈m.aJ->i=j
theorem sG{a b c:bP}(h1:m6 a b=true)(h2:m6 b c=true):m6 a c=true:=by
 unfold m6 at *;simp only[ee,bV,iP]at *
 rcases h1 with h1|⟨e1,h1⟩
 ·rcases h2 with h2|⟨e2,_⟩
  ·exact .inl<|aQ.lt_trans h1 h2
  ·rw[<-e2];exact .inl h1
 ·rcases h2 with h2|⟨e2,h2⟩
  ·rw[e1];exact .inl h2
  ·exact .inr ⟨e1.trans e2,aQ.lt_trans h1 h2⟩
theorem uw{l:List bP}(h:∀k,k<l.length->jJ l k=false):∀(i j:Nat)(p q:bP),i<j->l[i]? =some p->l[j]? =some q->m6 p q=true:=by
 intro i j
 induction j with
 |zero=>intro p q hij;omega
 |succ j ih=>
  intro p q hij hp hq;have hj:=(bS.1 hq).1;have h1:=h (j+1) hj;unfold jJ at h1;rw[hq,Nat.add_sub_cancel,aZ (by omega:j<l.length)]at h1;simp at h1
  by_cases e:i=j
  ·subst e;rw[aZ (by omega:i<l.length)]at hp;injection hp with hp;subst hp;exact h1
  ·exact sG (ih p l[j] (by omega) hp<|aZ (by omega)) h1
theorem ux{t:List aC}{x:aF}{k:Nat}{r:Int}(h:lG t x k=some r):r≠0:=by
 unfold lG at h;split at h
 ·cases h
 split at h
 ·injection h with h;omega
 split at h
 ·injection h with h;omega
 split at h
 ·injection h with h;omega
 cases hx:fI _ (lP t x k _)with
 |some r'=>
  rw[hx]at h;injection h with h
  subst h;obtain⟨j,_,hj,_⟩:=fS.1 hx;exact sF hj
 |none=>
  rw[hx]at h;simp only[Option.none_or]at h;split at h
  ·injection h with h;omega
  split at h
  ·injection h with h;omega
  ·cases h
theorem n8{t:List aC}{x:aF}(h:dR t x=0):lI t x:=by
 unfold dR at h
 by_cases h1:checkTypes t≠0
 ·rw[aO h1]at h;exact absurd h h1
 rw[aR h1]at h
 by_cases h2:cP t x.aU≠0
 ·rw[aO h2]at h;exact absurd h h2
 rw[aR h2]at h
 replace h1:=Decidable.not_not.1 h1
 replace h2:=Decidable.not_not.1 h2
 unfold kQ at h
 by_cases h3:1000<x.aY.length
 ·rw[aO h3]at h;cases h
 rw[aR h3]at h;have hn:=mJ (λk r hk=>ux hk) h;have key:∀i(hi:i<x.aY.length),jg x.aY[i].Name=true/\0<x.aY[i].aJ.length/\x.aY[i].aJ.length<=500/\x.aY[i].jh= []/\d8 Net.Name x.aY i=false/\
   ∀k(hk:k<x.aY[i].aJ.length),iB t x.aU x.aY[i].aJ[k]=true/\jJ x.aY[i].aJ k=false/\lF (x.aY.take i) x.aY[i].aJ[k]=false:=by
  intro i hi;have h4:=hn i hi;unfold lG at h4;rw[aZ hi]at h4;dsimp only at h4;split at h4
  ·cases h4
  split at h4
  ·cases h4
  split at h4
  ·cases h4
  cases h5:fI x.aY[i].aJ.length (lP t x i x.aY[i].aJ)with
  |some r=>rw[h5]at h4;cases h4
  |none=>
   rw[h5]at h4;simp only[Option.none_or]at h4;split at h4
   ·cases h4
   split at h4
   ·cases h4
   rename_i h6 h7 h8 h9 h10;refine⟨by simpa using h6,by omega,by omega,List.length_eq_zero_iff.1 (by omega),by simpa using h10,λk hk=>?_⟩;have h11:=gr.1 h5 k hk;unfold lP at h11;rw[aZ hk]at h11;dsimp only at h11
   repeat' split at h11
   all_goals first|(simp at h11;done)|simp_all
 have hpe:∀k(hk:k<x.aU.length),jg x.aU[k].Name=true:=by
  intro k hk;have h5:=h2;unfold cP at h5;split at h5
  ·cases h5
  have h4:=mJ (λk r hk=>nB hk) h5 k hk;unfold iA at h4;rw[aZ hk]at h4;dsimp only at h4;split at h4
  ·cases h4
  ·rename_i h6;simpa using h6
 have mem:∀n∈x.aY,∃i,∃hi:i<x.aY.length,n=x.aY[i]:=λn hn=>by
  obtain⟨i,hi⟩:=g3 hn;obtain⟨hlt,rfl⟩:=bS.1 hi;exact⟨i,hlt,rfl⟩
 refine⟨m5 h1,km h2,?_,by omega,λn hn=>?_,λn hn=>?_,gW λi hi=>(key i hi).2.2.2.2.1,λn hn=>?_,λp hp=>?_,λn hn p hp=>?_,λn hn=>?_,?_⟩
 ·unfold cP at h2;split at h2
  ·cases h2
  ·omega
 ·obtain⟨i,hi,rfl⟩:=mem n hn;exact⟨(key i hi).2.1,(key i hi).2.2.1⟩
 ·obtain⟨i,hi,rfl⟩:=mem n hn;exact(key i hi).2.2.2.1
 ·obtain⟨i,hi,rfl⟩:=mem n hn;exact(key i hi).1
 ·obtain⟨k,hk⟩:=g3 hp;obtain⟨hlt,rfl⟩:=bS.1 hk;exact hpe k hlt
 ·obtain⟨i,hi,rfl⟩:=mem n hn;obtain⟨k,hk⟩:=g3 hp;obtain⟨hlt,rfl⟩:=bS.1 hk;exact((key i hi).2.2.2.2.2 k hlt).1
 ·obtain⟨i,hi,rfl⟩:=mem n hn;exact uw λk hk=>((key i hi).2.2.2.2.2 k hk).2.1
 ·have one:∀(i j:Nat)(n m:Net)(p:bP),i<j->x.aY[i]? =some n->x.aY[j]? =some m->p∈n.aJ->p∈m.aJ->False:=by
   intro i j n m p hij hn hm hpn hpm;obtain⟨hj,rfl⟩:=bS.1 hm;obtain⟨k,hk⟩:=g3 hpm;obtain⟨hlt,rfl⟩:=bS.1 hk;have h5:=((key j hj).2.2.2.2.2 k hlt).2.2;unfold lF at h5;rw[List.any_eq_false]at h5;refine h5 n (eP (i:=i) (by rw[List.getElem?_take_of_lt hij];exact hn)) ?_;simpa using hpn
  intro i j n m p hn hm hpn hpm
  rcases Nat.lt_trichotomy i j with h5|h5|h5
  ·exact(one i j n m p h5 hn hm hpn hpm).elim
  ·exact h5
  ·exact(one j i m n p h5 hm hn hpm hpn).elim
def gS(t:List aC)(p:Part):aC:=(t.find?<|λy=>y.Name.fe p.bR).getD default
def y6(t:List aC)(p:Part):List bP:=(gS t p).aJ.map<|λy=>⟨p.Name,y.Name⟩
theorem pQ{t:List aC}{p:Part}(h:0<=nat? aC.Name t p.bR):∃k:Nat,nat? aC.Name t p.bR=((k:Nat):Int)/\t[k]? =some (gS t p):=by
 rcases gK aC.Name t p.bR with⟨h1,_⟩|⟨k,y,h1,h2,_⟩
 ·omega
 ·refine⟨k,h1,?_⟩;unfold gS;rw[n7 h1 h2];exact h2
theorem rn{t:List aC}{p:Part}(hbt:bk t<=1048576)(h:0<=nat? aC.Name t p.bR):(gS t p).aJ.length<=1048576:=by
 obtain⟨k,_,h2⟩:=pQ h;have h3:=mi h2;rw[hQ]at h3;have:=fH (gS t p).aJ;omega
theorem vu(hN:4194304<=N):fN N=some true:=by
 obtain⟨M,rfl⟩:∃M,N=M+64:=⟨N - 64,by omega⟩;rfl
end
section
variable {N:Nat}
theorem n9{x:aF}{s:aQ}(hs:fT Net.Name x.aY)(hl:x.aY.length<=1048576)(hN:4194304<=N):fF N x s=some (nat? Net.Name x.aY s):=by
 obtain⟨r,h1,h2⟩:=oX (N:=N) (key:=Net.Name) (l:=x.aY) (s:=s) (φ:=fQ N) (λy=>rfl) hs hl hN;unfold fF;rw[<-h2];show(t8 N x.aY s<|fQ N).bind _=_;rw[h1];rfl
theorem j3{x:aF}{s:aQ}(hl:x.aY.length<=1048576):cL N x s=some (nat? Net.Name x.aY s):=n0 (by omega)
section
variable {α:Type}
theorem fT.d8{key:α->aQ}{l:List α}(h:fT key l){k:Nat}(hk:k<l.length):Gk.d8 key l k=false:=by
 unfold Gk.d8;rw[aZ hk,aZ (by omega:k - 1<l.length)];dsimp only
 by_cases h0:0<k
 ·rw[tC.2<|h (k - 1) k _ _ (by omega) (aZ (by omega))<|aZ hk];simp
 ·rw[bX h0];simp
end
section
variable {α:Type}
end
end
section
variable {N:Nat}
def qd(t:List aC)(a b:aF):Int:=if dR t a≠0 then dR t a else dR t b
theorem sH{t:List aC}{a b:aF}(hbt:bk t<=1048576)(hba:bk a<=1048576)(hbb:bk b<=1048576)(hN:4194304<=N):fP N t a b=some (qd t a b):=by
 unfold fP qd;rw[i9 hbt hba hN,aB,i9 hbt hbb hN,aB]
 by_cases h:dR t a=0
 ·rw[h];rfl
 ·have e:(dR t a != 0)=true:=by rw[bne_iff_ne];exact h
  rw[e,bQ,aO h]
theorem uy{t:List aC}{a b:aF}(hbt:bk t<=1048576)(hba:bk a<=1048576)(hbb:bk b<=1048576)(hN:4194304<=N):fD N t a b=some (qd t a b):=by
 unfold fD qd;rw[oC hbt hba hN,aB,kR hbt hbb hN,aB]
 by_cases h:dR t a=0
 ·have h1:checkTypes t=0:=by
   unfold dR at h;split at h
   ·exact h
   ·rename_i h1;exact Decidable.not_not.1 h1
  rw[h,aR (show ¬((0:Int)≠0)from λh=>h rfl)]
  conv=>rhs;unfold dR
  rw[aR (show ¬(checkTypes t≠0)from λh=>h h1)];rfl
 ·have e:(dR t a != 0)=true:=by rw[bne_iff_ne];exact h
  rw[e,bQ,aO h]
def eI(bad same:aI->Bool)(l:List aI)(k:Nat):Option Int:=
 match l[k]? with
 |none=>none
 |some p=>if bad p=true then some 9 else if same p=false then some 6 else if d8 aI.A l k=true then some 8 else if(l.take k).any (λq=>q.B.fe p.B)=true then some 7 else none
theorem tk{bad same:aI->Bool}{l:List aI}{k:Nat}{r:Int}(h:eI bad same l k=some r):r≠0:=by
 unfold eI at h
 repeat' split at h
 all_goals (cases h;try decide)
def qF(l:List aI)(k:Nat):List (aQ×Bool):=lO [] ((l.take k).map aI.B) true
theorem tl{l:List aI}{k:Nat}{p:aI}(h:l[k]? =some p):dU (qF l k) p.B true=qF l (k+1):=by
 unfold qF lO;rw[List.take_add_one,h];simp
theorem uz(l:List aI)(k:Nat)(s:aQ):bM (qF l k) s false=(l.take k).any (λq=>q.B.fe s):=by
 unfold qF;rw[pG,ia,jk];simp only[List.mem_map,iP];split
 ·rename_i h;simpa using h
 ·rename_i h;simpa[bM]using h
theorem m7{l:List aI}{f g:aQ->Option Int}{h:Int->Int->Option Bool}{fa ga:aQ->Int}{same:aI->Bool}(hl:l.length<=1048576)(hf:∀s,f s=some (fa s))(hg:∀s,g s=some (ga s))
  (hh:∀p∈l,(decide (fa p.A<0)||decide (ga p.B<0))=false->h (fa p.A) (ga p.B)=some (same p)):
  ej N l f g h=some ((fI l.length<|eI (λp=>decide (fa p.A<0)||decide (ga p.B<0)) same l).getD 0):=by
 unfold ej
 rw[q8 (s:=([]:List (aQ×Bool))) (qF l) (eI (λp=>decide (fa p.A<0)||decide (ga p.B<0)) same l) (by omega) rfl (λk hk _=>by
  have hx:l[k]? =some l[k]:=aZ hk;rw[cD hx,aB,hf,aB,hg,aB,<-tl hx];unfold eI;rw[hx];dsimp only
  rcases Bool.eq_false_or_eq_true (decide (fa l[k].A<0)||decide (ga l[k].B<0))with e1|e1
  ·simp only[e1];rfl
  ·simp only[e1];rw[bG,hh _ (kT hk) e1,aB,kc aI.A hx (by omega),aB,uz]
   cases same l[k]
   ·rfl
   ·cases d8 aI.A l k
    ·cases(l.take k).any (λq=>q.B.fe l[k].B) <;> rfl
    ·rfl),aB]
 cases fI l.length (eI (λp=>decide (fa p.A<0)||decide (ga p.B<0)) same l) <;> rfl
theorem pR{l:List aI}{k:Nat}{p:aI}(hx:l[k]? =some p)(hl:l.length<=1048576):
  cU N l ((k:Nat):Int)=some (if d8 aI.A l k=true then 8 else if(l.take k).any (λq=>q.B.fe p.B)=true then 7 else 0):=by
 have hk:=(bS.1 hx).1;unfold cU;have e:(bif decide (((k:Nat):Int)>0)then((idx l ((k:Nat):Int)).bind λx40=>(idx l<|wrap .i64<|((k:Nat):Int) - 1).bind λx43=>some<|x40.A.iC x43.A||x40.A.fe x43.A)else some false)=some (d8 aI.A l k):=by
  rw[<-kc aI.A hx (by omega),cD hx,aB]
 rw[e,aB]
 cases d8 aI.A l k
 ·simp only[bG,Bool.false_eq_true,if_false]
  rw[mh _ _ (by omega),aB,jo (l:=l.take k) (λq=>q.B.fe p.B) 7 (by simp;omega) (λj y hj=>by
   rw[cD hj,aB,cD hx,aB]
   cases y.B.fe p.B <;> rfl),aB]
  cases(l.take k).any (λq=>q.B.fe p.B) <;> rfl
 ·rfl
def nC(y:aC)(s:aQ):Int:=
 match y.aJ[(nat? aP.Name y.aJ s).toNat]? with
 |some p=>if 0<p.aN then tg y.aJ (λq=>q.aN==p.aN)else nat? aP.Name y.aJ s
 |none=>nat? aP.Name y.aJ s
theorem v7{y:aC}{s:aQ}(hs:fT aP.Name y.aJ)(hl:y.aJ.length<=1048576)(h0:0<=nat? aP.Name y.aJ s)(hN:4194304<=N):fZ N y s=some (nC y s):=by
 unfold fZ nC;rw[sD hs hl hN,aB]
 rcases gK aP.Name y.aJ s with⟨h,_⟩|⟨k,p,h,hp,_⟩
 ·omega
 rw[h,lZ,cD hp,aB,hp];dsimp only
 by_cases hg:0<p.aN
 ·have e:dH N y.aJ (λy0=>fj N y0 p.aN)=ll y.aJ (λy0=>fj N y0 p.aN):=rfl;rw[dT hg,bQ,aO hg,e,iQ (φ:=λy0=>fj N y0 p.aN) (λq:aP=>q.aN==p.aN) (by omega)<|λx _=>rfl,aB]
 ·rw[bX hg,bG,aR hg]
theorem tm{y:aC}{s:aQ}(hl:y.aJ.length<=1048576)(h0:0<=nat? aP.Name y.aJ s)(hN:4194304<=N):eW N y (nat? aP.Name y.aJ s)=some (nC y s):=by
 unfold eW nC
 rcases gK aP.Name y.aJ s with⟨h,_⟩|⟨k,p,h,hp,_⟩
 ·omega
 have hk:=(bS.1 hp).1;rw[h,lZ,hp];dsimp only;generalize hR:(if 0<p.aN then tg y.aJ (λq=>q.aN==p.aN)else((k:Nat):Int))=R;obtain⟨o,ho,hc⟩:=nY (body:=λ(s33:Int)=>(bif decide (s33<((k:Nat):Int))then(((idx y.aJ ((k:Nat):Int)).bind λx115=>bif decide (x115.aN>0)then((idx y.aJ s33).bind λx120=>(idx y.aJ ((k:Nat):Int)).bind λx124=>some<|x120.aN==x124.aN)else some false).bind λs113=>bif s113 then some (.rt s33)else some (.nx<|wrap .i64<|s33+1))else(some<|.br s33):Option (Fl Int Int)))
  (λs=>∃i:Nat,s=((i:Nat):Int)/\i<=k/\(0<p.aN->∀j q,j<i->y.aJ[j]? =some q->(q.aN==p.aN)=false)) (λs=>k - s.toNat) (λ_=>R=((k:Nat):Int)) (λr=>r=R) (by
   rintro s⟨i,rfl,hi,hn⟩
   by_cases hlt:i<k
   ·have hq:y.aJ[i]? =some y.aJ[i]:=aZ (by omega);rw[dT (by omega),bQ,cD hp,aB]
    by_cases hg:0<p.aN
    ·rw[dT hg,bQ,cD hq,aB,aB,aB]
     cases hx:(y.aJ[i].aN==p.aN)
     ·refine⟨_,rfl,⟨i+1,mA (by omega),by omega,λ_ j q hj hjq=>?_⟩,?_⟩
      ·by_cases hji:j=i
       ·subst hji;rw[hq]at hjq;injection hjq with hjq;rw[<-hjq];exact hx
       ·exact hn hg j q (by omega) hjq
      ·rw[mA (by omega)];omega
     ·refine⟨_,rfl,?_⟩;rw[<-hR,aO hg];exact(pD hq hx<|λj q hj hjq=>hn hg j q hj hjq).symm
    ·rw[bX hg,bG,aB];refine⟨_,rfl,⟨i+1,mA (by omega),by omega,λh=>absurd h hg⟩,?_⟩;rw[mA (by omega)];omega
   ·have:i=k:=by omega
    subst this;rw[bX (by omega),bG];refine⟨_,rfl,?_⟩;show R=_;rw[<-hR];split
    ·rename_i hg;exact pD hp (by simp)<|λj q hj hjq=>hn hg j q hj hjq
    ·rfl) N 0 ⟨0,rfl,by omega,λ_ j q hj=>by omega⟩ (by simp;omega)
 rw[ho,aB]
 cases o with
 |go s=>simp only at hc;simp only[Fo.cs];rw[hc]
 |rt r=>simp only at hc;simp only[Fo.cs];rw[hc]
def jK(x:aF)(s:aQ):Part:=(x.aU.find?<|λp=>p.Name.fe s).getD default
def xF(t:List aC)(x:aF)(p:bP):Int:=nC (gS t<|jK x p.Part) p.bP
theorem jL{x:aF}{s:aQ}(h:0<=nat? Part.Name x.aU s):∃k:Nat,nat? Part.Name x.aU s=((k:Nat):Int)/\x.aU[k]? =some (jK x s):=by
 rcases gK Part.Name x.aU s with⟨h1,_⟩|⟨k,y,h1,h2,_⟩
 ·omega
 ·refine⟨k,h1,?_⟩;unfold jK;rw[n7 h1 h2];exact h2
theorem sI{t:List aC}{l:List Part}{p:bP}(h:iB t l p=true):0<=nat? Part.Name l p.Part:=by
 rcases gK Part.Name l p.Part with⟨h1,_⟩|⟨k,y,h1,h2,_⟩
 ·unfold iB at h;rw[qD h1]at h;cases h
 ·omega
theorem pS{t:List aC}{x:aF}{p:bP}(h:iB t x.aU p=true):0<=nat? aP.Name (gS t<|jK x p.Part).aJ p.bP:=by
 unfold iB at h;have e1:jK x p.Part=(x.aU.find?<|λq=>q.Name.fe p.Part).getD default:=rfl;split at h
 ·cases h
 rename_i q hq;rw[hq]at e1;simp only[Option.getD_some]at e1;have e2:gS t q=(t.find?<|λy=>y.Name.fe q.bR).getD default:=rfl;split at h
 ·cases h
 rename_i y hy;rw[hy]at e2;simp only[Option.getD_some]at e2;rw[e1,e2];have:=tH aP.Name y.aJ p.bP;rw[h]at this;exact of_decide_eq_true this
theorem pT{t:List aC}{x:aF}(hbt:bk t<=1048576)(ok:lI t x){s:aQ}(h:0<=nat? Part.Name x.aU s):
  ∃k:Nat,nat? aC.Name t (jK x s).bR=((k:Nat):Int)/\t[k]? =some (gS t<|jK x s)/\fT aP.Name (gS t<|jK x s).aJ/\(gS t<|jK x s).aJ.length<=1048576:=by
 obtain⟨k,_,hk⟩:=jL h;have h1:=ok.parts.typed _<|eP hk
 obtain⟨i,h2,h3⟩:=pQ h1;exact⟨i,h2,h3,ok.types.pins _<|eP h3,rn hbt h1⟩
def oJ(t:List aC)(x:aF)(num:List (aQ×Int))(p:bP):aE:=⟨bM num p.Part 0,0,xF t x p⟩
def eY(t:List aC)(x:aF)(num:List (aQ×Int))(l:List bP):List aE:=(l.filter<|λp=>ig num p.Part).map<|oJ t x num
theorem tJ{t:List aC}{x:aF}(hbt:bk t<=1048576)(hbx:bk x<=1048576)(ok:lI t x)(hN:4194304<=N){n:Net}(hn:n∈x.aY)(num:List (aQ×Int)):
  oK n.aJ.length (λ(k43:Nat)(s44:List (aE×Int))=>((idx n.aJ (k43:Int)).bind λx179=>(bif ig num x179.Part then((dY N x.aU x179.Part).bind λx221=>(idx x.aU x221).bind λx222=>(dI N t x222.bR).bind λx225=>(idx t x225).bind λx226=>(fZ N x226 x179.bP).bind λx242=>some<|dU s44 (⟨bM num x179.Part (0:Int),0,x242⟩:aE)<|wrap .i64<|bM s44 (⟨bM num x179.Part (0:Int),0,x242⟩:aE) (0:Int)+1)else some s44).bind λs214=>some s214:Option (List<|aE×Int))) ([]:List (aE×Int))
  = some (ki<|eY t x num n.aJ):=by
 have hpl:=(ok.rm n hn).2;have hxp:=ok.wN
 rw[oW (s:=([]:List (aE×Int))) (λk=>ki (eY t x num (n.aJ.take k))) (by omega) rfl (λk hk=>by
  have hx:n.aJ[k]? =some n.aJ[k]:=aZ hk;rw[cD hx,aB];have e:n.aJ.take (k+1)=n.aJ.take k++[n.aJ[k]]:=by rw[List.take_add_one,hx];rfl
  rw[e];have hp:=ok.zn n hn _<|kT hk
  generalize n.aJ[k]=p at hp ⊢
  cases hm:ig num p.Part
  ·rw[bG,aB];unfold eY;rw[List.filter_append];simp[hm]
  ·have h0:=sI hp;obtain⟨j,j1,j2⟩:=jL h0;obtain⟨i,i1,i2,i3,i4⟩:=pT hbt ok h0;rw[bQ,mK ok.parts.sorted (by omega) hN,aB,j1,cD j2,aB,oA ok.types.sorted hbt hN,aB,i1,cD i2,aB,v7 i3 i4 (pS hp) hN,aB,aB];have e2:eY t x num (n.aJ.take k++[p])=eY t x num (n.aJ.take k)++[oJ t x num p]:=by
    unfold eY;rw[List.filter_append,List.map_append];simp[hm]
   rw[e2];have e3:ki (eY t x num (n.aJ.take k)++[oJ t x num p])=sy (ki<|eY t x num<|n.aJ.take k) (oJ t x num p):=by
    unfold ki;rw[List.foldl_append];rfl
   rw[e3];unfold sy;have e4:(⟨bM num p.Part 0,0,nC (gS t<|jK x p.Part) p.bP⟩:aE)=oJ t x num p:=rfl;rw[e4,mB];have hc:(eY t x num<|n.aJ.take k).count (oJ t x num p)<=500:=by
    refine Nat.le_trans List.count_le_length ?_;unfold eY;rw[List.length_map];refine Nat.le_trans (List.length_filter_le _ _) ?_;rw[fX];omega
   rw[mA (by omega)];rfl),List.take_length]
def ew(x:aF)(s:aQ):Net:=(x.aY.find?<|λn=>n.Name.fe s).getD default
theorem mN{x:aF}{s:aQ}(h:0<=nat? Net.Name x.aY s):∃k:Nat,nat? Net.Name x.aY s=((k:Nat):Int)/\x.aY[k]? =some (ew x s):=by
 rcases gK Net.Name x.aY s with⟨h1,_⟩|⟨k,y,h1,h2,_⟩
 ·omega
 ·refine⟨k,h1,?_⟩;unfold ew;rw[n7 h1 h2];exact h2
theorem uA{t:List aC}{x:aF}(hbt:bk t<=1048576)(hbx:bk x<=1048576)(ok:lI t x)(hN:4194304<=N){s:aQ}(h:0<=nat? Net.Name x.aY s)(A B:List (aQ×Int)):
  cX N x s A B t=some (ki<|eY t x A (ew x s).aJ):=by
 obtain⟨k,h1,h2⟩:=mN h;have hf:=ok.mM;unfold cX;rw[n9 ok.gi (by omega) hN,aB,h1,cD h2,aB,tJ hbt hbx ok hN (eP h2) A,aB]
theorem uB{t:List aC}{x:aF}(hbt:bk t<=1048576)(hbx:bk x<=1048576)(ok:lI t x)(hN:4194304<=N){s:aQ}(h:0<=nat? Net.Name x.aY s)(A B:List (aQ×Int)):
  cY N x s A B t=some (ki<|eY t x B (ew x s).aJ):=by
 obtain⟨k,h1,h2⟩:=mN h;have hf:=ok.mM;unfold cY;rw[n9 ok.gi (by omega) hN,aB,h1,cD h2,aB,tJ hbt hbx ok hN (eP h2) B,aB]
def eZ(t:List aC)(x:aF)(n:Net)(s:aQ):List Int:=(n.aJ.filter<|λp=>p.Part.fe s).map<|xF t x
theorem pU{t:List aC}{x:aF}(ok:lI t x){n:Net}(hn:n∈x.aY)(s:aQ):(eZ t x n s).length<=500:=by
 unfold eZ;rw[List.length_map];exact Nat.le_trans (List.length_filter_le _ _) (ok.rm n hn).2
theorem pV{t:List aC}{x:aF}(hbt:bk t<=1048576)(hbx:bk x<=1048576)(ok:lI t x)(hN:4194304<=N){n:Net}(hn:n∈x.aY){s:aQ}(hs:0<=nat? Part.Name x.aU s):
  dF N t x n s=some (gT<|eZ t x n s):=by
 have hpl:=(ok.rm n hn).2;have hxp:=ok.wN;have hlt:=fH t;obtain⟨j,j1,j2⟩:=jL hs;obtain⟨i,i1,i2,i3,i4⟩:=pT hbt ok hs;unfold dF;rw[mL (by omega),aB,j1,cD j2,aB,oB (by omega),aB,i1,cD i2,aB]
 rw[oW (s:=([]:List Int)) (λk=>((n.aJ.take k).filter (λp=>p.Part.fe s)).map (xF t x)) (by omega) rfl (λk hk=>by
  have hx:n.aJ[k]? =some n.aJ[k]:=aZ hk;rw[cD hx,aB];have e:n.aJ.take (k+1)=n.aJ.take k++[n.aJ[k]]:=by rw[List.take_add_one,hx];rfl
  rw[e];have hp:=ok.zn n hn _<|kT hk
  generalize n.aJ[k]=p at hp ⊢;rw[List.filter_append,List.map_append]
  cases hm:p.Part.fe s
  ·rw[bG,aB];simp[hm]
  ·have hps:=iP.1 hm;have h3:=pS hp;have e5:xF t x p=nC (gS t<|jK x s) p.bP:=by unfold xF;rw[hps]
   rw[hps]at h3
   rw[bQ,sE i4,aB,tm i4 h3 hN,aB,sm (by
    rw[List.length_map];have:=List.length_filter_le (λp=>p.Part.fe s)<|n.aJ.take k
    rw[fX]at this
    simp only[jR,List.length_nil];omega),aB,aB]
   simp[hm,e5]),aB,List.take_length]
 have hlen:=pU ok hn s;unfold eZ at hlen;rw[uj (by omega),aB];rfl
def lJ(key:aI->aQ)(l:List aI):Nat->List (aQ×Int)
 | 0=>[]
 |k+1=>match l[k]? with|some p=>dU (lJ key l k) (key p) ((k:Nat):Int)|none=>lJ key l k
theorem mO{key:aI->aQ}{l:List aI}{k:Nat}{p:aI}(h:l[k]? =some p):lJ key l (k+1)=dU (lJ key l k) (key p) ((k:Nat):Int):=by
 conv=>lhs;unfold lJ
 rw[h]
theorem pW{key:aI->aQ}{l:List aI}(s:aQ):∀k,k<=l.length->(ig (lJ key l k) s=true↔∃j p,j<k/\l[j]? =some p/\key p=s)
 | 0,_=>by simp[lJ,ig]
 |k+1,hk=>by
  have hx:l[k]? =some l[k]:=aZ (by omega);rw[mO hx,ug,ee,pW s k (by omega),gM];constructor
  ·rintro(h|⟨j,p,h1,h2,h3⟩)
   ·exact⟨k,_,by omega,hx,h.symm⟩
   ·exact⟨j,p,by omega,h2,h3⟩
  ·rintro⟨j,p,h1,h2,h3⟩
   by_cases hj:j=k
   ·subst hj;rw[hx]at h2;injection h2 with h2;subst h2;exact .inl h3.symm
   ·exact .inr ⟨j,p,by omega,h2,h3⟩
def tn(key:aI->aQ)(l:List aI):Prop:=∀(i j:Nat)(p q:aI),l[i]? =some p->l[j]? =some q->key p=key q->i=j
theorem oa{key:aI->aQ}{l:List aI}(hi:tn key l){j:Nat}{p:aI}(hp:l[j]? =some p):∀k,k<=l.length->j<k->bM (lJ key l k) (key p) 0=((j:Nat):Int)
 | 0,_,h=>by omega
 |k+1,hk,h=>by
  have hx:l[k]? =some l[k]:=aZ (by omega);rw[mO hx,oy]
  by_cases e:key p=key l[k]
  ·rw[aO e,hi _ _ _ _ hp hx e]
  ·rw[aR e];have:j≠k:=λh=>by subst h;rw[hx]at hp;injection hp with hp;exact e (by rw[<-hp])
   exact oa hi hp k (by omega) (by omega)
theorem lK{t:List aC}{x:aF}{l:List aI}{key:aI->aQ}(hi:tn key l){j:Nat}{p:aI}(hp:l[j]? =some p)(m:Int)(n:Net):
  (eY t x (lJ key l l.length) n.aJ).count ⟨((j:Nat):Int),0,m⟩=(eZ t x n<|key p).count m:=by
 unfold eY eZ;rw[List.count_eq_countP,List.count_eq_countP,List.countP_map,List.countP_map,List.countP_filter,List.countP_filter];refine List.countP_congr λq _=>?_;simp only[Function.comp,bV,beq_iff_eq];rw[pW q.Part l.length<|cI _,iP];unfold oJ;constructor
 ·rintro⟨h1,i,p',h2,h3,h4⟩;injection h1 with h1 _ h5
  rw[<-h4,oa hi h3 _ (cI _) h2]at h1;have:i=j:=by omega
  subst this;rw[hp]at h3;injection h3 with h3;subst h3
  exact⟨h5,h4.symm⟩
 ·rintro⟨h1,h2⟩;have hj:=(bS.1 hp).1;refine⟨?_,j,p,hj,hp,h2.symm⟩;rw[h2,oa hi hp _ (cI _) hj,h1]
theorem sJ{t:List aC}{x:aF}{l:List aI}{key:aI->aQ}(hi:tn key l){n:Net}{z:aE}(h:z∈eY t x (lJ key l l.length) n.aJ):∃(j:Nat)(p:aI),l[j]? =some p/\z= ⟨((j:Nat):Int),0,z.mark⟩:=by
 unfold eY at h;obtain⟨q,hq,rfl⟩:=List.mem_map.1 h;obtain⟨j,p,h1,h2,h3⟩:=(pW q.Part l.length<|cI _).1 (List.mem_filter.1 hq).2;refine⟨j,p,h2,?_⟩;unfold oJ;rw[<-h3,oa hi h2 _ (cI _) h1]
theorem uC{t:List aC}{a b:aF}{l:List aI}(hA:tn aI.A l)(hB:tn aI.B l)(n m:Net):
  (eY t a (lJ aI.A l l.length) n.aJ).Perm (eY t b (lJ aI.B l l.length) m.aJ)↔∀p∈l,gT (eZ t a n p.A)=gT (eZ t b m p.B):=by
 rw[List.perm_iff_count];constructor
 ·intro h p hp;obtain⟨j,hj⟩:=g3 hp;rw[sA,List.perm_iff_count];intro c;rw[<-lK hA hj c n,<-lK hB hj c m];exact h _
 ·intro h z
  by_cases hz:∃(j:Nat)(p:aI),l[j]? =some p/\z= ⟨((j:Nat):Int),0,z.mark⟩
  ·obtain⟨j,p,hp,e⟩:=hz;rw[e,lK hA hp,lK hB hp];exact List.perm_iff_count.1 (sA.1<|h p<|eP hp) _
  ·rw[List.count_eq_zero_of_not_mem λhm=>hz<|sJ hA hm,List.count_eq_zero_of_not_mem λhm=>hz<|sJ hB hm]
end
section
variable {N:Nat}
def tp(a b:aF)(p:aI):Bool:=decide (nat? Part.Name a.aU p.A<0)||decide (nat? Part.Name b.aU p.B<0)
def sK(a b:aF)(p:aI):Bool:=decide (nat? Net.Name a.aY p.A<0)||decide (nat? Net.Name b.aY p.B<0)
def pX(a b:aF)(p:aI):Bool:=(jK a p.A).bR.fe (jK b p.B).bR
def lL(t:List aC)(a b:aF)(parts:List aI)(w:aI):Bool:=parts.any λp=>decide<|¬gT (eZ t a (ew a w.A) p.A)=gT (eZ t b (ew b w.B) p.B)
def rp(t:List aC)(a b:aF)(parts gi:List aI):Int:=
 if qd t a b≠0 then qd t a b else if(decide (1000<parts.length)||decide (1000<gi.length))=true then 2 else
 ((fI parts.length<|eI (tp a b) (pX a b) parts).or<|(fI gi.length<|eI (sK a b) (λ_=>true) gi).or (if gi.any (lL t a b parts)=true then some 12 else none)).getD 0
theorem tK{t:List aC}{a b:aF}(h:qd t a b=0):lI t a/\lI t b:=by
 unfold qd at h
 by_cases h1:dR t a=0
 ·rw[aR<|λh=>h h1]at h;exact⟨n8 h1,n8 h⟩
 ·rw[aO h1]at h;exact absurd h h1
theorem ob{bad same:aI->Bool}{l:List aI}(h:fI l.length (eI bad same l)=none):
  (∀p∈l,bad p=false/\same p=true)/\tn aI.A l/\tn aI.B l:=by
 have h1:=gr.1 h;have h2:∀k p,l[k]? =some p->bad p=false/\same p=true/\d8 aI.A l k=false/\(l.take k).any (λq=>q.B.fe p.B)=false:=λk p hp=>by
  have:=h1 k (bS.1 hp).1;unfold eI at this;rw[hp]at this;dsimp only at this
  cases e1:bad p
  ·cases e2:same p
   ·simp[e1,e2]at this
   ·cases e3:d8 aI.A l k
    ·cases e4:(l.take k).any (λq=>q.B.fe p.B)
     ·exact⟨rfl,rfl,rfl,rfl⟩
     ·simp[e1,e2,e3,e4]at this
    ·simp[e1,e2,e3]at this
  ·simp[e1]at this
 refine⟨λp hp=>?_,λi j p q hp hq e=>?_,?_⟩
 ·obtain⟨k,hk⟩:=g3 hp;exact⟨(h2 k p hk).1,(h2 k p hk).2.1⟩
 ·exact(gW (key:=aI.A) λk hk=>(h2 k l[k]<|aZ hk).2.2.1).inj hp hq e
 ·have key:∀(i j:Nat)(p q:aI),i<j->l[i]? =some p->l[j]? =some q->p.B=q.B->False:=λi j p q hij hp hq e=>by
   have:=(h2 j q hq).2.2.2;rw[List.any_eq_false]at this;exact this p (eP (by rw[List.getElem?_take_of_lt hij];exact hp))<|iP.2 e
  intro i j p q hp hq e
  rcases Nat.lt_trichotomy i j with h|h|h
  ·exact(key i j p q h hp hq e).elim
  ·exact h
  ·exact(key j i q p h hq hp e.symm).elim
theorem kS{x y:Int}(h:(decide (x<0)||decide (y<0))=false):0<=x/\0<=y:=by
 rw[Bool.or_eq_false_iff,decide_eq_false_iff_not,decide_eq_false_iff_not]at h;omega
theorem sL{m n:Nat}:(bif decide ((m:Int)>1000)then some true else some (decide<|(n:Int)>1000))=some (decide (1000<m)||decide (1000<n)):=by
 have e1:decide ((m:Int)>1000)=decide (1000<m):=decide_eq_decide.2 (by omega);have e2:decide ((n:Int)>1000)=decide (1000<n):=decide_eq_decide.2 (by omega);rw[e1,e2]
 cases decide (1000<m) <;> rfl
theorem jt{x:Int}(h:x≠0):(x != 0)=true:=by rw[bne_iff_ne];exact h
theorem getD_none{e:Option Int}(h:∀r,e=some r->r≠0)(h0:e.getD 0=0):e=none:=by
 cases e with
 |none=>rfl
 |some r=>exact absurd h0 (h r rfl)
theorem sM{bad same:aI->Bool}{l:List aI}{r:Int}(h:fI l.length (eI bad same l)=some r):r≠0:=by
 obtain⟨k,_,hk,_⟩:=fS.1 h;exact tk hk
theorem qe{t:List aC}{a b:aF}{parts gi:List aI}(hbt:bk t<=1048576)(hba:bk a<=1048576)(hbb:bk b<=1048576)(hN:4194304<=N):
  eV N t a b parts gi=some (rp t a b parts gi):=by
 unfold eV rp;rw[sH hbt hba hbb hN,aB]
 by_cases h0:qd t a b=0
 case neg=>rw[jt h0,bQ,aO h0]
 obtain⟨oka,okb⟩:=tK h0;have fa:=oka.wN;have fb:=okb.wN;have fan:=oka.mM;have fbn:=okb.mM;rw[h0,aR<|λh=>h rfl,sL,aB];simp only[bne_self_eq_false,bG]
 cases hl:(decide (1000<parts.length)||decide (1000<gi.length))
 case true=>rfl
 rw[Bool.or_eq_false_iff,decide_eq_false_iff_not,decide_eq_false_iff_not]at hl;simp only[bG,Bool.false_eq_true,if_false];rw[show dD N a=some a from rfl,aB,show dD N b=some b from rfl,aB]
 rw[m7 (fa:=λs=>nat? Part.Name a.aU s) (ga:=λs=>nat? Part.Name b.aU s) (same:=pX a b) (by omega) (λs=>by
   unfold cN;rw[mK oka.parts.sorted (by omega) hN,aB]) (λs=>by
   unfold cN;rw[mK okb.parts.sorted (by omega) hN,aB]) (λp _ hb=>by
   obtain⟨h1,h2⟩:=kS hb;obtain⟨j,j1,j2⟩:=jL h1;obtain⟨i,i1,i2⟩:=jL h2;unfold ff
   rw[j1,i1,cD j2,aB,cD i2,aB];rfl),aB]
 rw[show(λp:aI=>decide (nat? Part.Name a.aU p.A<0)||decide (nat? Part.Name b.aU p.B<0))=tp a b from rfl]
 cases hp:fI parts.length (eI (tp a b) (pX a b) parts)with
 |some r=>
  have:=sM hp;simp only[Option.getD_some,jt this,bQ,Option.some_or]
 |none=>
 simp only[Option.getD_none,bne_self_eq_false,bG,Option.none_or];obtain⟨p1,pA,pB⟩:=ob hp;rw[show dE N a=some a from rfl,aB,show dE N b=some b from rfl,aB]
 rw[m7 (fa:=λs=>nat? Net.Name a.aY s) (ga:=λs=>nat? Net.Name b.aY s) (same:=λ_=>true) (by omega) (λs=>by
   unfold cO;rw[n9 oka.gi (by omega) hN,aB]) (λs=>by
   unfold cO;rw[n9 okb.gi (by omega) hN,aB]) (λp _ hb=>rfl),aB]
 rw[show(λp:aI=>decide (nat? Net.Name a.aY p.A<0)||decide (nat? Net.Name b.aY p.B<0))=sK a b from rfl]
 cases hn:fI gi.length (eI (sK a b) (λ_=>true) gi)with
 |some r=>
  have:=sM hn;simp only[Option.getD_some,jt this,bQ,Option.some_or]
 |none=>
 simp only[Option.getD_none,bne_self_eq_false,bG,Option.none_or];obtain⟨n1,_,_⟩:=ob hn
 rw[oW (s:=(([]:(List (aQ×Int))),([]:(List (aQ×Int))))) (λk=>(lJ aI.A parts k,lJ aI.B parts k)) (by omega) rfl (λk hk=>by
  have hx:parts[k]? =some parts[k]:=aZ hk
  rw[cD hx,aB,mO hx,mO hx]),aB]
 rw[jo (l:=gi) (lL t a b parts) 12 (by omega) (λk w hw=>by
  have hm:=eP hw;obtain⟨h1,h2⟩:=kS (n1 w hm).1;rw[cD hw,aB,uA hbt hba oka hN h1,aB,uB hbt hbb okb hN h2,aB];dsimp only;rw[vo<|λ(e:aE×Int)=>bM (ki<|eY t b (lJ aI.B parts parts.length) (ew b w.B).aJ) e.1 0 != e.2];have hp:=uC (t:=t) (a:=a) (b:=b) pA pB (ew a w.A)<|ew b w.B
  have hs:=ui (ka:=eY t a (lJ aI.A parts parts.length) (ew a w.A).aJ) (kb:=eY t b (lJ aI.B parts parts.length) (ew b w.B).aJ);rw[hp]at hs;generalize ki (eY t a (lJ aI.A parts parts.length) (ew a w.A).aJ)=x at hs ⊢;generalize ki (eY t b (lJ aI.B parts parts.length) (ew b w.B).aJ)=y at hs ⊢;have hc:lL t a b parts w=false↔∀p∈parts,gT (eZ t a (ew a w.A) p.A)=gT (eZ t b (ew b w.B) p.B):=by
   unfold lL;rw[List.any_eq_false];simp
  cases hcl:lL t a b parts w
  ·obtain⟨h3,h4⟩:=hs.2<|hc.1 hcl
   have e1:(((x.length:Nat):Int) != ((y.length:Nat):Int))=false:=by rw[h3];exact bne_self_eq_false _
   have e2:x.any (λe=>bM y e.1 0 != e.2)=false:=by
    rw[List.any_eq_false];intro e he;rw[h4 e he];simp
   rw[e1,e2];rfl
  ·have hno:¬(x.length=y.length/\∀e∈x,bM y e.1 0=e.2):=λh=>by
    rw[hc.2<|hs.1 h]at hcl;cases hcl
   by_cases h3:x.length=y.length
   ·have e1:(((x.length:Nat):Int) != ((y.length:Nat):Int))=false:=by rw[h3];exact bne_self_eq_false _
    have e2:x.any (λe=>bM y e.1 0 != e.2)=true:=by
     cases hx:x.any (λe=>bM y e.1 0 != e.2)
     ·exfalso;rw[List.any_eq_false]at hx;exact hno ⟨h3,λe he=>by simpa using hx e he⟩
     ·rfl
    rw[e1,e2];rfl
   ·have e1:(((x.length:Nat):Int) != ((y.length:Nat):Int))=true:=by rw[bne_iff_ne];omega
    rw[e1];rfl),aB]
 cases gi.any (lL t a b parts) <;> rfl
theorem sN{t:List aC}{a b:aF}{parts gi:List aI}(hbt:bk t<=1048576)(hba:bk a<=1048576)(hbb:bk b<=1048576)(hN:4194304<=N):
  dK N t a b parts gi=some (rp t a b parts gi):=by
 unfold dK rp;rw[uy hbt hba hbb hN,aB]
 by_cases h0:qd t a b=0
 case neg=>rw[jt h0,bQ,aO h0]
 obtain⟨oka,okb⟩:=tK h0;have fa:=oka.wN;have fb:=okb.wN;have fan:=oka.mM;have fbn:=okb.mM;rw[h0,aR<|λh=>h rfl,sL,aB];simp only[bne_self_eq_false,bG]
 cases hl:(decide (1000<parts.length)||decide (1000<gi.length))
 case true=>rfl
 rw[Bool.or_eq_false_iff,decide_eq_false_iff_not,decide_eq_false_iff_not]at hl;simp only[bG,Bool.false_eq_true,if_false]
 rw[eE (eI (tp a b) (pX a b) parts) (by omega) (λk hk _=>by
  have hx:parts[k]? =some parts[k]:=aZ hk;rw[cD hx,aB,mL (by omega),aB,mL (by omega),aB];unfold eI;rw[hx];dsimp only;have e0:tp a b parts[k]=(decide (nat? Part.Name a.aU parts[k].A<0)||decide (nat? Part.Name b.aU parts[k].B<0)):=rfl;rw[<-e0]
  cases hb:tp a b parts[k]
  ·obtain⟨h1,h2⟩:=kS hb;obtain⟨j,j1,j2⟩:=jL h1;obtain⟨i,i1,i2⟩:=jL h2;rw[bG,j1,i1,cD j2,aB,cD i2,aB,pR hx (by omega),aB];have e1:(jK a parts[k].A).bR.fe (jK b parts[k].B).bR=pX a b parts[k]:=rfl;rw[e1]
   cases pX a b parts[k]
   ·rfl
   ·cases d8 aI.A parts k
    ·cases(parts.take k).any (λq=>q.B.fe parts[k].B) <;> rfl
    ·rfl
  ·rfl),aB,lE]
 cases hp:fI parts.length (eI (tp a b) (pX a b) parts)with
 |some r=>rfl
 |none=>
 simp only[Option.elim_none,Option.none_or];obtain⟨p1,pA,pB⟩:=ob hp
 rw[eE (eI (sK a b) (λ_=>true) gi) (by omega) (λk hk _=>by
  have hx:gi[k]? =some gi[k]:=aZ hk;rw[cD hx,aB,j3 (by omega),aB,j3 (by omega),aB,pR hx (by omega)];unfold eI;rw[hx];dsimp only;have e0:(bif decide (nat? Net.Name a.aY gi[k].A<0)then some true else some (decide<|nat? Net.Name b.aY gi[k].B<0))=some (sK a b gi[k]):=by
   unfold sK
   cases decide (nat? Net.Name a.aY gi[k].A<0) <;> rfl
  rw[e0,aB]
  cases sK a b gi[k]
  ·cases d8 aI.A gi k
   ·cases(gi.take k).any (λq=>q.B.fe gi[k].B) <;> rfl
   ·rfl
  ·rfl),aB,lE]
 cases hn:fI gi.length (eI (sK a b) (λ_=>true) gi)with
 |some r=>rfl
 |none=>
 simp only[Option.elim_none,Option.none_or];obtain⟨n1,_,_⟩:=ob hn
 rw[jo (l:=gi) (lL t a b parts) 12 (by omega) (λk w hw=>by
  have hm:=eP hw;obtain⟨h1,h2⟩:=kS (n1 w hm).1;obtain⟨i,i1,i2⟩:=mN h1;obtain⟨j,j1,j2⟩:=mN h2;rw[cD hw,aB]
  rw[jo (l:=parts) (λp=>decide (¬gT (eZ t a (ew a w.A) p.A)=gT (eZ t b (ew b w.B) p.B))) 12 (by omega) (λk p hp=>by
   obtain⟨h3,h4⟩:=kS (p1 p<|eP hp).1;rw[cD hp,aB,j3 (by omega),aB,i1,cD i2,aB,pV hbt hba oka hN (eP i2) h3,aB,j3 (by omega),aB,j1,cD j2,aB,pV hbt hbb okb hN (eP j2) h4,aB];have hlen:=pU oka (eP i2) p.A;have hlen2:=(jI<|eZ t a (ew a w.A) p.A).length_eq;have e:gO N (gT<|eZ t a (ew a w.A) p.A) (gT<|eZ t b (ew b w.B) p.B)=ti (gT<|eZ t a (ew a w.A) p.A) (gT<|eZ t b (ew b w.B) p.B):=rfl;rw[e,t6 (by omega),aB]
   by_cases h:gT (eZ t a (ew a w.A) p.A)=gT (eZ t b (ew b w.B) p.B)
   ·simp[h]
   ·simp[h]),aB]
  unfold lL
  cases parts.any (λp=>decide (¬gT (eZ t a (ew a w.A) p.A)=gT (eZ t b (ew b w.B) p.B))) <;> rfl),aB]
 cases gi.any (lL t a b parts) <;> rfl
theorem jM{t:List aC}{a b:aF}{parts gi:List aI}(hbt:bk t<=1048576)(hba:bk a<=1048576)(hbb:bk b<=1048576)(_:bk parts<=1048576)(_:bk gi<=1048576)(hN:4194304<=N):
  cH N t a b parts gi=some true:=by
 unfold cH;rw[qe hbt hba hbb hN,aB,sN hbt hba hbb hN,aB,beq_self_eq_true,bQ,vu hN];rfl
end
end Go.Gk
