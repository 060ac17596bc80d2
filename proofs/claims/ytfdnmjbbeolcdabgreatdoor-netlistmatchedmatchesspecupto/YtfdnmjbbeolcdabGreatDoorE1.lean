/-
  Helping texts: plain functions and plain laws. No statement of the seed is proved here.
-/
import Derived.Test.YtfdnmjbbeolcdabGreatDoorA1
import Derived.ChangeShapes
import Derived.ChangeSame
import Derived.Carry
import Derived.RowKit
import Derived.Sort.Walk0
import Derived.Test.YtfdnmjbbeolcdabGreatDoorA2
set_option linter.unusedVariables false
set_option linter.unusedSimpArgs false
set_option linter.unusedSectionVars false
namespace Go.Gk
open Go IntKind
noncomputable section
structure bA where
 Name:aU
 Kind:Int
 bC:Int
 deriving DecidableEq,Inhabited
structure aD where
 Name:aU
 aQ:List bA
 deriving DecidableEq,Inhabited
structure Part where
 Name:aU
 cM:aU
 deriving DecidableEq,Inhabited
structure cC where
 Part:aU
 cC:aU
 deriving DecidableEq,Inhabited
structure Net where
 Name:aU
 aQ:List cC
 mh:List aU
 deriving DecidableEq,Inhabited
structure aH where
 aJ:List Part
 aZ:List Net
 deriving DecidableEq,Inhabited
structure aT where
 part:Int
 j6:Int
 mark:Int
 deriving DecidableEq,Inhabited
structure aB where
 e0:Int
 e1:Int
 deriving DecidableEq,Inhabited
def aB.st(x:aB)(k:Fin 2)(y:Int):aB:=if k.val=0 then{x with e0:=y}else{x with e1:=y}
structure aO where
 t:List aD
 l:List aH
 parts:List (List Int)
 pA:List (List Int)
 deriving DecidableEq,Inhabited
structure aX where
 A:aU
 B:aU
 deriving DecidableEq,Inhabited
def fI(N:Nat)(p0:aU)(p1:Int):Option Int:=
 some (Lib.indexByte p0.bX (Int.toNat p1).toUInt8)
def fx(N:Nat)(p0:aU)(p1:Int):Option Int:=
 (fI N p0 p1).bind λj=>some j
def gL(N:Nat)(p0:aU):Option Bool:=
 (lY p0.bX.length (λ(o:Nat)(aa:Unit)=>((xO p0 (o:Int)).bind λj=>(bif((decide ((j.toNat:Int)<65)||decide ((j.toNat:Int)>90))&&(decide ((j.toNat:Int)<97)||decide ((j.toNat:Int)>122)))&&(decide ((j.toNat:Int)<48)||decide ((j.toNat:Int)>57))then((fx N (⟨[95,43,45,35]⟩) (j.toNat:Int)).bind λab=>some<|decide<|ab<0)else some false).bind λad=>bif ad then some (.rt false)else(some<|.nx ()):Option (Fl Unit Bool))) ()).bind λae=>ae.cs (λ(aa:Unit)=>some<|decide ((p0.bX.length:Int)>=1)&&decide ((p0.bX.length:Int)<=40))<|λr=>some r
def eE(N:Nat)(p0 p1:bA):Option Bool:=
 (bif decide (p1.bC>0)then(bif p0.bC==p1.bC then some (p0.Kind != p1.Kind)else some false)else some false).bind λj=>some j
def eU(N:Nat)(p0:List bA)(p1:bA->Option Bool):Option Int:=
 (lY p0.length (λ(j:Nat)(o:Unit)=>((idx p0 (j:Int)).bind λaa=>(p1 aa).bind λab=>bif ab then some (.rt (j:Int))else(some<|.nx ()):Option (Fl Unit Int))) ()).bind λad=>ad.cs (λ(o:Unit)=>some<|-1)<|λr=>some r
def fj(N:Nat)(p0:List bA)(p1:bA->Option Bool):Option Bool:=
 (eU N p0 p1).bind λj=>some<|decide<|j>=0
def hZ(N:Nat)(p0:List bA):Option Int:=
 bif(p0.length:Int)==0 then some 9 else(bif decide ((p0.length:Int)>200)then some 2 else((lY p0.length (λ(o:Nat)(ad:Unit)=>((idx p0 (o:Int)).bind λj=>(gL N j.Name).bind λae=>bif(!ae)then some (.rt 5)else(bif decide (j.Kind<1)||decide (j.Kind>7)then some (.rt 4)else(bif decide (j.bC<0)||decide (j.bC>200)then some (.rt 1)else((bif decide ((o:Int)>0)then((idx p0<|wrap .i64<|(o:Int) - 1).bind λaa=>some<|j.Name.lQ aa.Name||j.Name.jQ aa.Name)else some false).bind λaf=>bif af then some (.rt 8)else some (.nx ())))):Option (Fl Unit Int))) ()).bind λag=>ag.cs (λ(ad:Unit)=>(lY p0.length (λ(ab:Nat)(ah:Unit)=>((idx p0 (ab:Int)).bind λai=>(pQ p0 0 (ab:Int)).bind λaj=>(fj N aj<|λy0=>eE N y0 ai).bind λak=>bif ak then some (.rt 12)else(some<|.nx ()):Option (Fl Unit Int))) ()).bind λal=>al.cs (λ(ah:Unit)=>some 0)<|λr=>some r)<|λr=>some r))
def gM(N:Nat)(p0:List aD):Option Int:=
 bif decide ((p0.length:Int)>200)then some 2 else((lY p0.length (λ(o:Nat)(ad:Unit)=>((idx p0 (o:Int)).bind λj=>(gL N j.Name).bind λae=>bif(!ae)then some (.rt 5)else((hZ N j.aQ).bind λaa=>bif aa != 0 then some (.rt aa)else((bif decide ((o:Int)>0)then((idx p0<|wrap .i64<|(o:Int) - 1).bind λab=>some<|j.Name.lQ ab.Name||j.Name.jQ ab.Name)else some false).bind λaf=>bif af then some (.rt 8)else some (.nx ()))):Option (Fl Unit Int))) ()).bind λag=>ag.cs (λ(ad:Unit)=>some 0)<|λr=>some r)
def cZ(N:Nat)(p0:List aD)(p1:aU)(p2:aD->aU->Option Int):Option (Int×Bool):=
 (mn (λ(j:Int×Int)=>(bif decide (j.1<j.2)then((idx p0<|wrap .i64<|Int.fdiv (wrap .u64<|wrap .i64<|j.1+j.2) 2).bind λaa=>(p2 aa p1).bind λab=>(bif decide (ab<0)then some (wrap .i64<|wrap .i64 (Int.fdiv (wrap .u64<|wrap .i64<|j.1+j.2) 2)+1,j.2)else some (j.1,wrap .i64<|Int.fdiv (wrap .u64<|wrap .i64<|j.1+j.2) 2)).bind λo=>some<|.nx (o.1,o.2))else(some<|.br (j.1,j.2)):Option (Fl (Int×Int) Empty))) N (0,(p0.length:Int))).bind λad=>ad.cs (λ(j:Int×Int)=>(bif decide (j.1<(p0.length:Int))then((idx p0 j.1).bind λae=>(p2 ae p1).bind λaf=>some<|af==0)else some false).bind λag=>some (j.1,ag))<|λr=>r.elim
def jo(N:Nat)(p0 p1:aU):Option Int:=
 some (Lib.compareBytes p0.bX p1.bX)
def ej(N:Nat)(p0 p1:aU):Option Int:=
 (jo N p0 p1).bind λj=>some j
def fY(N:Nat)(p0:aD)(p1:aU):Option Int:=
 (ej N p0.Name p1).bind λj=>some j
def fS(N:Nat)(p0:List aD)(p1:aU):Option Int:=
 (cZ N p0 p1<|fY N).bind λj=>bif(!j.2)then some (-1)else some j.1
def gO(N:Nat)(p0:List aD)(p1:List Part)(p2:aU->Option Bool):Option Int:=
 bif decide ((p1.length:Int)>1000)then some 2 else((lY p1.length (λ(o:Nat)(ab:Unit)=>((idx p1 (o:Int)).bind λj=>(p2 j.Name).bind λad=>bif(!ad)then some (.rt 5)else((fS N p0 j.cM).bind λae=>bif decide (ae<0)then some (.rt 9)else((bif decide ((o:Int)>0)then((idx p1<|wrap .i64<|(o:Int) - 1).bind λaa=>some<|j.Name.lQ aa.Name||j.Name.jQ aa.Name)else some false).bind λaf=>bif af then some (.rt 8)else some (.nx ()))):Option (Fl Unit Int))) ()).bind λag=>ag.cs (λ(ab:Unit)=>some 0)<|λr=>some r)
def ia(N:Nat)(p0 p1:aU):Option Int:=
 bif((p1.bX.length:Int)==0)||p1.jQ p0 then some 0 else(bif(p1.bX.length:Int)==1 then((xO p1 0).bind λj=>(fI N p0 (j.toNat:Int)).bind λo=>some o)else(bif decide ((p1.bX.length:Int)>=(p0.bX.length:Int))then some (-1)else none))
def je(N:Nat)(p0 p1:aU):Option Int:=
 (ia N p0 p1).bind λj=>some j
def j7(N:Nat)(p0 p1:aU):Option Int:=
 bif(p1.bX.length:Int)==0 then none else(bif(p1.bX.length:Int)==1 then((xO p1 0).bind λaa=>some ((Lib.countByte p0.bX (Int.toNat (aa.toNat:Int)).toUInt8:Nat):Int))else((mn (λ(j:aU×Int)=>((je N j.1 p1).bind λo=>bif o==(-1)then some (.rt j.2)else((rl j.1 (wrap .i64<|o+(p1.bX.length:Int)) (j.1.bX.length:Int)).bind λab=>some<|.nx (ab,wrap .i64<|j.2+1)):Option (Fl (aU×Int) Int))) N (p0,0)).bind λad=>ad.cs (λ(j:aU×Int)=>some 0)<|λr=>some r))
def jS(N:Nat)(p0 p1:aU)(p2 p3:Int):Option (List aU):=
 bif p3==0 then some ([]:List aU)else(bif p1.jQ (⟨[]⟩)then none else((bif decide (p3<0)then((j7 N p0 p1).bind λab=>some<|wrap .i64<|ab+1)else some p3).bind λo=>(mk 16 (⟨[]⟩:aU) (if wrap .i64 ((p0.bX.length:Int)+1)<o then wrap .i64 ((p0.bX.length:Int)+1)else o)).bind λad=>(mn (λ(j:aU×List aU×Int)=>(bif decide (j.2.2< wrap .i64 ((if wrap .i64 ((p0.bX.length:Int)+1)<o then wrap .i64 ((p0.bX.length:Int)+1)else o) - 1))then((je N j.1 p1).bind λaa=>bif decide (aa<0)then some (.br (j.1,j.2.1,j.2.2))else((rl j.1 0<|wrap .i64<|aa+p2).bind λae=>(idx j.2.1 j.2.2).bind λai=>(rl j.1 (wrap .i64<|aa+(p1.bX.length:Int)) (j.1.bX.length:Int)).bind λaf=>some<|.nx (af,j.2.1.set (Int.toNat j.2.2) ae,wrap .i64<|j.2.2+1)))else(some<|.br (j.1,j.2.1,j.2.2)):Option (Fl (aU×List aU×Int) Empty))) N (p0,ad,0)).bind λag=>ag.cs (λ(j:aU×List aU×Int)=>(idx j.2.1 j.2.2).bind λaj=>(pQ (j.2.1.set (Int.toNat j.2.2) j.1) 0<|wrap .i64<|j.2.2+1).bind λah=>some ah)<|λr=>r.elim))
def jf(N:Nat)(p0 p1:aU):Option (List aU):=
 (jS N p0 p1 0<|-1).bind λj=>some j
def iJ(N:Nat)(p0:List aU)(p1:aU->Option Bool):Option Int:=
 (lY p0.length (λ(j:Nat)(o:Unit)=>((idx p0 (j:Int)).bind λaa=>(p1 aa).bind λab=>bif ab then some (.rt (j:Int))else(some<|.nx ()):Option (Fl Unit Int))) ()).bind λad=>ad.cs (λ(o:Unit)=>some<|-1)<|λr=>some r
def fy(N:Nat)(p0:List aU)(p1:aU->Option Bool):Option Bool:=
 (iJ N p0 p1).bind λj=>some<|decide<|j>=0
def fz(N:Nat)(p0:aU):Option Bool:=
 (gL N p0).bind λj=>some<|!j
def gP(N:Nat)(p0:aU):Option Bool:=
 (bif decide ((p0.bX.length:Int)<=200)then((jf N p0<|⟨[47]⟩).bind λj=>(fy N j<|fz N).bind λo=>some<|!o)else some false).bind λaa=>some aa
def dS(N:Nat)(p0:List Part)(p1:aU)(p2:Part->aU->Option Int):Option (Int×Bool):=
 (mn (λ(j:Int×Int)=>(bif decide (j.1<j.2)then((idx p0<|wrap .i64<|Int.fdiv (wrap .u64<|wrap .i64<|j.1+j.2) 2).bind λaa=>(p2 aa p1).bind λab=>(bif decide (ab<0)then some (wrap .i64<|wrap .i64 (Int.fdiv (wrap .u64<|wrap .i64<|j.1+j.2) 2)+1,j.2)else some (j.1,wrap .i64<|Int.fdiv (wrap .u64<|wrap .i64<|j.1+j.2) 2)).bind λo=>some<|.nx (o.1,o.2))else(some<|.br (j.1,j.2)):Option (Fl (Int×Int) Empty))) N (0,(p0.length:Int))).bind λad=>ad.cs (λ(j:Int×Int)=>(bif decide (j.1<(p0.length:Int))then((idx p0 j.1).bind λae=>(p2 ae p1).bind λaf=>some<|af==0)else some false).bind λag=>some (j.1,ag))<|λr=>r.elim
def fZ(N:Nat)(p0:Part)(p1:aU):Option Int:=
 (ej N p0.Name p1).bind λj=>some j
def jD(N:Nat)(p0:List Part)(p1:aU):Option Int:=
 (dS N p0 p1<|fZ N).bind λj=>bif(!j.2)then some (-1)else some j.1
def dD(N:Nat)(p0:List bA)(p1:aU)(p2:bA->aU->Option Int):Option (Int×Bool):=
 (mn (λ(j:Int×Int)=>(bif decide (j.1<j.2)then((idx p0<|wrap .i64<|Int.fdiv (wrap .u64<|wrap .i64<|j.1+j.2) 2).bind λaa=>(p2 aa p1).bind λab=>(bif decide (ab<0)then some (wrap .i64<|wrap .i64 (Int.fdiv (wrap .u64<|wrap .i64<|j.1+j.2) 2)+1,j.2)else some (j.1,wrap .i64<|Int.fdiv (wrap .u64<|wrap .i64<|j.1+j.2) 2)).bind λo=>some<|.nx (o.1,o.2))else(some<|.br (j.1,j.2)):Option (Fl (Int×Int) Empty))) N (0,(p0.length:Int))).bind λad=>ad.cs (λ(j:Int×Int)=>(bif decide (j.1<(p0.length:Int))then((idx p0 j.1).bind λae=>(p2 ae p1).bind λaf=>some<|af==0)else some false).bind λag=>some (j.1,ag))<|λr=>r.elim
def gF(N:Nat)(p0:bA)(p1:aU):Option Int:=
 (ej N p0.Name p1).bind λj=>some j
def jg(N:Nat)(p0:aD)(p1:aU):Option Int:=
 (dD N p0.aQ p1<|gF N).bind λj=>bif(!j.2)then some (-1)else some j.1
def kT(N:Nat)(p0:List aD)(p1:List Part)(p2:cC):Option Bool:=
 (jD N p1 p2.Part).bind λj=>(bif decide (j>=0)then((idx p1 j).bind λo=>(fS N p0 o.cM).bind λaa=>(idx p0 aa).bind λab=>(jg N ab p2.cC).bind λad=>some<|decide<|ad>=0)else some false).bind λae=>some ae
def ib(N:Nat)(p0:cC)(p1:List aD)(p2:aH):Option Bool:=
 (kT N p1 p2.aJ p0).bind λj=>some j
def iC(N:Nat)(p0 p1:cC):Option Int:=
 (ej N p0.Part p1.Part).bind λj=>bif j != 0 then some j else((ej N p0.cC p1.cC).bind λo=>some o)
def fT(N:Nat)(p0:List cC)(p1:cC->Option Bool)(p2:List (cC×Bool)):Option (Int×List (cC×Bool)):=
 bif decide ((p0.length:Int)>500)then some (2,p2)else((lY p0.length (λ(j:Nat)(ab:Unit)=>((idx p0 (j:Int)).bind λo=>(p1 o).bind λad=>bif(!ad)then some (.rt (9,p2))else((bif decide ((j:Int)>0)then((idx p0<|wrap .i64<|(j:Int) - 1).bind λae=>(iC N o ae).bind λaf=>some<|decide<|af<=0)else some false).bind λag=>bif ag then some (.rt (8,p2))else(bif ew p2 o (false:Bool)then some (.rt (7,p2))else some (.nx ()))):Option (Fl Unit<|Int×List (cC×Bool)))) ()).bind λah=>ah.cs (λ(ab:Unit)=>(jm p0.length (λ(ai:Nat)(aa:List (cC×Bool))=>((idx p0 (ai:Int)).bind λAJ=>some (fR aa AJ true):Option (List<|cC×Bool))) p2).bind λaa=>some (0,aa))<|λr=>some r)
def fA(N:Nat)(p0:List aD)(p1:aH):Option Int:=
 (gM N p0).bind λab=>bif ab != 0 then some ab else((gO N p0 p1.aJ<|gP N).bind λad=>bif ad != 0 then some ad else(bif decide ((p1.aZ.length:Int)>1000)then some 2 else((lY p1.aZ.length (λ(o:Nat)(ae:List (cC×Bool))=>((idx p1.aZ (o:Int)).bind λj=>(gP N j.Name).bind λag=>bif(!ag)then some (.rt 5)else(bif(j.aQ.length:Int)==0 then some (.rt 9)else((fT N j.aQ (λy0=>ib N y0 p0 p1) ae).bind λaa=>bif aa.1 != 0 then some (.rt aa.1)else(bif decide ((j.mh.length:Int)>0)then some (.rt 3)else((bif decide ((o:Int)>0)then((idx p1.aZ<|wrap .i64<|(o:Int) - 1).bind λaf=>some<|j.Name.lQ af.Name||j.Name.jQ af.Name)else some false).bind λah=>bif ah then some (.rt 8)else some (.nx aa.2))))):Option (Fl (List<|cC×Bool) Int))) ([]:List (cC×Bool))).bind λai=>ai.cs (λ(ae:List (cC×Bool))=>some 0)<|λr=>some r)))
def iK(N:Nat)(p0:List aD)(p1 p2:aH):Option Int:=
 (fA N p0 p1).bind λj=>bif j != 0 then some j else((fA N p0 p2).bind λo=>some o)
def jT(N:Nat)(p0:aH):Option (List<|cC×Int):=
 (jm p0.aZ.length (λ(aa:Nat)(j:List (cC×Int))=>((idx p0.aZ (aa:Int)).bind λab=>(jm ab.aQ.length (λ(ad:Nat)(o:List (cC×Int))=>((idx ab.aQ (ad:Int)).bind λae=>some (fR o ae (aa:Int)):Option (List<|cC×Int))) j).bind λo=>some o:Option (List<|cC×Int))) ([]:List (cC×Int))).bind λj=>some j
def hG(N:Nat)(p0:bA)(p1:Int):Option Bool:=
 some (p0.bC==p1)
def kU(N:Nat)(p0:aD)(p1:aU):Option Int:=
 (jg N p0 p1).bind λj=>(idx p0.aQ j).bind λo=>bif decide (o.bC>0)then((eU N p0.aQ<|λy0=>hG N y0 o.bC).bind λaa=>some aa)else some j
def gb(N:Nat)(p0_0:List aU)(p0_1:List aT)(p0_2 p0_3:Int)(p1:List aD)(p2:aH):Option (List aU×List aT×Int×Int):=
 (jT N p2).bind λae=>(jm p2.aJ.length (λ(af:Nat)(j:List aU×List aT)=>((idx p2.aJ (af:Int)).bind λo=>(fS N p1 o.cM).bind λag=>(idx p1 ag).bind λaa=>(app 16 j.1 ([o.cM]:List aU)).bind λah=>(jm aa.aQ.length (λ(ai:Nat)(ab:List aT)=>((idx aa.aQ (ai:Int)).bind λad=>(bif lA ae (⟨o.Name,ad.Name⟩:cC)then some (wrap .i64<|p0_3+ ew ae (⟨o.Name,ad.Name⟩:cC) (0:Int))else some (-1)).bind λaj=>(kU N aa ad.Name).bind λak=>(app 24 ab ([(⟨wrap .i64<|p0_2+(af:Int),aj,ak⟩:aT)]:List aT)).bind λal=>some al:Option (List aT))) j.2).bind λab=>some (ah,ab):Option (List aU×List aT))) (p0_0,p0_1)).bind λj=>some (j.1,j.2,wrap .i64<|p0_2+(p2.aJ.length:Int),wrap .i64<|p0_3+(p2.aZ.length:Int))
def j1(N:Nat)(p0:List aU):Option (List aU):=
 (app 16 ([]:List aU) p0).bind λj=>some j
def dU(N:Nat)(p0 p1:aU)(p2:rp 39):Option Bool:=
 (ej N p0 p1).bind λj=>some<|j==0
def gW(N:Nat)(p0:List aU)(p1:aU->aU->Option Bool):Option (List aU):=
 bif decide ((p0.length:Int)<2)then some p0 else((mn (λ(o:Int)=>(bif decide (o<(p0.length:Int))then((idx p0 o).bind λab=>(idx p0<|wrap .i64<|o - 1).bind λad=>(p1 ab ad).bind λae=>bif ae then((pQ p0 o (p0.length:Int)).bind λan=>(mn (λ(j:List aU×Int×Int)=>(bif decide (j.2.2<(((j.1.length - Int.toNat o):Nat):Int))then((oE j.1 o j.2.2).bind λaf=>(oE j.1 o<|wrap .i64<|j.2.2 - 1).bind λag=>(p1 af ag).bind λah=>(bif(!ah)then((oE j.1 o j.2.2).bind λai=>(idx j.1 j.2.1).bind λao=>some (j.1.set (Int.toNat j.2.1) ai,wrap .i64<|j.2.1+1))else some (j.1,j.2.1)).bind λaa=>some<|.nx (aa.1,aa.2,wrap .i64<|j.2.2+1))else(some<|.br (j.1,j.2.1,j.2.2)):Option (Fl (List aU×Int×Int) Empty))) N (p0,o,1)).bind λaj=>aj.cs (λ(j:List aU×Int×Int)=>(pQ j.1 j.2.1 (j.1.length:Int)).bind λaq=>(pQ (j.1.take (Int.toNat j.2.1)++List.replicate (j.1.length - Int.toNat j.2.1) (⟨[]⟩:aU)) 0 j.2.1).bind λak=>some<|.rt ak)<|λr=>r.elim)else some (.nx<|wrap .i64<|o+1))else(some<|.br o):Option (Fl Int<|List aU))) N 1).bind λal=>al.cs (λ(o:Int)=>some p0)<|λr=>some r)
def eM(N:Nat)(p0:List aU)(p1:aU)(p2:aU->aU->Option Int):Option (Int×Bool):=
 (mn (λ(j:Int×Int)=>(bif decide (j.1<j.2)then((idx p0<|wrap .i64<|Int.fdiv (wrap .u64<|wrap .i64<|j.1+j.2) 2).bind λaa=>(p2 aa p1).bind λab=>(bif decide (ab<0)then some (wrap .i64<|wrap .i64 (Int.fdiv (wrap .u64<|wrap .i64<|j.1+j.2) 2)+1,j.2)else some (j.1,wrap .i64<|Int.fdiv (wrap .u64<|wrap .i64<|j.1+j.2) 2)).bind λo=>some<|.nx (o.1,o.2))else(some<|.br (j.1,j.2)):Option (Fl (Int×Int) Empty))) N (0,(p0.length:Int))).bind λad=>ad.cs (λ(j:Int×Int)=>(bif decide (j.1<(p0.length:Int))then((idx p0 j.1).bind λae=>(p2 ae p1).bind λaf=>some<|af==0)else some false).bind λag=>some (j.1,ag))<|λr=>r.elim
def dA(N:Nat)(p0:List aU):Option (List Int×Int):=
 (j1 N p0).bind λaa=>(ph (ej N) aa).bind λab=>(gW N ab<|λy0 y1=>dU N y0 y1 (⟨⟩:rp 39)).bind λad=>(mk 8 (0:Int) (p0.length:Int)).bind λae=>(jm p0.length (λ(o:Nat)(j:List aU×List Int)=>((idx p0 (o:Int)).bind λaf=>(eM N j.1 af<|ej N).bind λag=>(idx j.2 (o:Int)).bind λah=>some (j.1,j.2.set (Int.toNat (o:Int)) ag.1):Option (List aU×List Int))) (ad,ae)).bind λj=>some (j.2,(j.1.length:Int))
def jh(N:Nat)(p0:Int):Option Bool:=
 some (p0 != p0)
def i9(N:Nat)(p0 p1:Int):Option Int:=
 (jh N p0).bind λo=>(jh N p1).bind λj=>bif o then(bif j then some 0 else some (-1))else(bif j then some 1 else(bif decide (p0<p1)then some (-1)else(bif decide (p0>p1)then some 1 else some 0)))
def cV(N:Nat)(p0:List Int)(p1:List Int):Option Int:=
 (lY p0.length (λ(j:Nat)(aa:Unit)=>((idx p0 (j:Int)).bind λab=>bif decide ((j:Int)>=(p1.length:Int))then some (.rt 1)else((idx p1 (j:Int)).bind λad=>(i9 N ab ad).bind λo=>bif o != 0 then some (.rt o)else some (.nx ())):Option (Fl Unit Int))) ()).bind λae=>ae.cs (λ(aa:Unit)=>bif decide ((p0.length:Int)<(p1.length:Int))then some (-1)else some 0)<|λr=>some r
def gG(N:Nat)(p0 p1:aB):Option Int:=
 (cV N [p0.e0,p0.e1] [p1.e0,p1.e1]).bind λj=>some j
def gB(N:Nat)(p0:List Int)(p1:List (List aB)):Option (List<|List Int):=
 (jm p0.length (λ(j:Nat)(o:List (List aB)×List (List Int))=>((idx p0 (j:Int)).bind λaf=>(idx o.1 (j:Int)).bind λag=>(ph (gG N) ag).bind λad=>(idx (o.1.set (Int.toNat (j:Int)) ad) (j:Int)).bind λaa=>(jm aa.length (λ(ah:Nat)(ab:List Int)=>((idx aa (ah:Int)).bind λae=>(app 8 ab ([ae.e0,ae.e1]:List Int)).bind λai=>some ai:Option (List Int))) ([af]:List Int)).bind λab=>(app 24 o.2 ([ab]:List (List Int))).bind λaj=>some ((o.1.set (Int.toNat (j:Int)) ad).set (Int.toNat (j:Int)) aa,aj):Option (List (List aB)×List (List Int)))) (p1,([]:List (List Int)))).bind λo=>some o.2
def lB(N:Nat)(p0:List (List Int)):Option (List<|List Int):=
 (app 24 ([]:List (List Int)) p0).bind λj=>some j
def dK(N:Nat)(p0:List Int)(p1:List Int)(p2:rp 42):Option Bool:=
 (cV N p0 p1).bind λj=>some<|j==0
def iX(N:Nat)(p0:List (List Int))(p1:List Int->List Int->Option Bool):Option (List<|List Int):=
 bif decide ((p0.length:Int)<2)then some p0 else((mn (λ(o:Int)=>(bif decide (o<(p0.length:Int))then((idx p0 o).bind λab=>(idx p0<|wrap .i64<|o - 1).bind λad=>(p1 ab ad).bind λae=>bif ae then((pQ p0 o (p0.length:Int)).bind λan=>(mn (λ(j:List (List Int)×Int×Int)=>(bif decide (j.2.2<(((j.1.length - Int.toNat o):Nat):Int))then((oE j.1 o j.2.2).bind λaf=>(oE j.1 o<|wrap .i64<|j.2.2 - 1).bind λag=>(p1 af ag).bind λah=>(bif(!ah)then((oE j.1 o j.2.2).bind λai=>(idx j.1 j.2.1).bind λao=>some (j.1.set (Int.toNat j.2.1) ai,wrap .i64<|j.2.1+1))else some (j.1,j.2.1)).bind λaa=>some<|.nx (aa.1,aa.2,wrap .i64<|j.2.2+1))else(some<|.br (j.1,j.2.1,j.2.2)):Option (Fl (List (List Int)×Int×Int) Empty))) N (p0,o,1)).bind λaj=>aj.cs (λ(j:List (List Int)×Int×Int)=>(pQ j.1 j.2.1 (j.1.length:Int)).bind λaq=>(pQ (j.1.take (Int.toNat j.2.1)++List.replicate (j.1.length - Int.toNat j.2.1) ([]:List Int)) 0 j.2.1).bind λak=>some<|.rt ak)<|λr=>r.elim)else some (.nx<|wrap .i64<|o+1))else(some<|.br o):Option (Fl Int<|List<|List Int))) N 1).bind λal=>al.cs (λ(o:Int)=>some p0)<|λr=>some r)
def fG(N:Nat)(p0:List (List Int))(p1:List Int)(p2:List Int->List Int->Option Int):Option (Int×Bool):=
 (mn (λ(j:Int×Int)=>(bif decide (j.1<j.2)then((idx p0<|wrap .i64<|Int.fdiv (wrap .u64<|wrap .i64<|j.1+j.2) 2).bind λaa=>(p2 aa p1).bind λab=>(bif decide (ab<0)then some (wrap .i64<|wrap .i64 (Int.fdiv (wrap .u64<|wrap .i64<|j.1+j.2) 2)+1,j.2)else some (j.1,wrap .i64<|Int.fdiv (wrap .u64<|wrap .i64<|j.1+j.2) 2)).bind λo=>some<|.nx (o.1,o.2))else(some<|.br (j.1,j.2)):Option (Fl (Int×Int) Empty))) N (0,(p0.length:Int))).bind λad=>ad.cs (λ(j:Int×Int)=>(bif decide (j.1<(p0.length:Int))then((idx p0 j.1).bind λae=>(p2 ae p1).bind λaf=>some<|af==0)else some false).bind λag=>some (j.1,ag))<|λr=>r.elim
def cH(N:Nat)(p0:List (List Int)):Option (List Int×Int):=
 (lB N p0).bind λaa=>(ph (cV N) aa).bind λab=>(iX N ab<|λy0 y1=>dK N y0 y1 (⟨⟩:rp 42)).bind λad=>(mk 8 (0:Int) (p0.length:Int)).bind λae=>(jm p0.length (λ(o:Nat)(j:List (List Int)×List Int)=>((idx p0 (o:Int)).bind λaf=>(fG N j.1 af<|cV N).bind λag=>(idx j.2 (o:Int)).bind λah=>some (j.1,j.2.set (Int.toNat (o:Int)) ag.1):Option (List (List Int)×List Int))) (ad,ae)).bind λj=>some (j.2,(j.1.length:Int))
def gk(N:Nat)(p0_0:List aU)(p0_1:List aT)(p0_2 p0_3:Int):Option (List Int×List Int):=
 (dA N p0_0).bind λae=>(mk 8 (0:Int) p0_3).bind λag=>(mn (λ(j:List Int×List Int×Int×Int)=>((mk 24 ([]:List aB) p0_2).bind λah=>(mk 24 ([]:List aB) p0_3).bind λai=>(jm p0_1.length (λ(aj:Nat)(aa:List (List aB)×List (List aB))=>((idx p0_1 (aj:Int)).bind λo=>(bif decide (o.j6>=0)then((idx j.2.1 o.j6).bind λak=>(idx aa.2 o.j6).bind λal=>(idx j.1 o.part).bind λan=>(app 16 al ([(⟨an,o.mark⟩:aB)]:List aB)).bind λao=>(idx aa.2 o.j6).bind λax=>some (aa.2.set (Int.toNat o.j6) ao,ak))else some (aa.2,(-1))).bind λaf=>(idx aa.1 o.part).bind λaq=>(app 16 aq ([(⟨o.mark,af.2⟩:aB)]:List aB)).bind λar=>(idx aa.1 o.part).bind λay=>some (aa.1.set (Int.toNat o.part) ar,af.1):Option (List (List aB)×List (List aB)))) (ah,ai)).bind λaa=>(gB N j.1 aa.1).bind λau=>(cH N au).bind λab=>(gB N j.2.1 aa.2).bind λav=>(cH N av).bind λad=>bif(ab.2==j.2.2.1)&&(ad.2==j.2.2.2)then some (.rt (j.1,j.2.1))else(some<|.nx (ab.1,ad.1,ab.2,ad.2)):Option (Fl (List Int×List Int×Int×Int)<|List Int×List Int))) N (ae.1,ag,ae.2,(if 1<p0_3 then 1 else p0_3))).bind λaw=>aw.cs (λ(j:List Int×List Int×Int×Int)=>some (j.1,j.2.1))<|λr=>some r
def ie(N:Nat)(p0:List aD)(p1 p2:aH):Option (List Int×List Int×Int):=
 (iK N p0 p1 p2).bind λaa=>bif aa != 0 then some (([]:List Int),([]:List Int),aa)else((gb N ([]:List aU) ([]:List aT) 0 0 p0 p1).bind λj=>(gb N j.1 j.2.1 j.2.2.1 j.2.2.2 p0 p2).bind λo=>(gk N o.1 o.2.1 o.2.2.1 o.2.2.2).bind λab=>some (ab.1,ab.2,0))
def jU(N:Nat)(p0:List Int)(p1:Int):Option Bool:=
 (jm p0.length (λ(aa:Nat)(j:List (Int×Int))=>((idx p0 (aa:Int)).bind λo=>(bif decide ((aa:Int)<p1)then some (fR j o<|wrap .i64<|ew j o (0:Int)+1)else some (fR j o<|wrap .i64<|ew j o (0:Int) - 1)).bind λab=>some ab:Option (List<|Int×Int))) ([]:List (Int×Int))).bind λj=>wZ j (λ(ad:Int×Int)(ae:Unit)=>(bif ad.2 != 0 then some (.rt false)else(some<|.nx ()):Option (Fl Unit Bool))) () (λ(ae:Unit)=>some true)<|λr=>some r
def ji(N:Nat)(p0:List aD)(p1 p2:aH):Option (Bool×Int):=
 (ie N p0 p1 p2).bind λj=>bif j.2.2 != 0 then some (false,j.2.2)else(((jU N j.1 (p1.aJ.length:Int)).bind λo=>bif o then((jU N j.2.1 (p1.aZ.length:Int)).bind λaa=>some aa)else some false).bind λab=>some (ab,0))
def dV(N:Nat)(p0 p1 p2:Int):Option Bool:=
 some (decide (p1<=p0)&&decide (p0<=p2))
def eF(N:Nat)(p0:aU):Option Bool:=
 (lY p0.bX.length (λ(o:Nat)(aa:Unit)=>((xO p0 (o:Int)).bind λj=>(bif((decide ((j.toNat:Int)<97)||decide ((j.toNat:Int)>122))&&(decide ((j.toNat:Int)<65)||decide ((j.toNat:Int)>90)))&&(decide ((j.toNat:Int)<48)||decide ((j.toNat:Int)>57))then((fx N (⟨[95,43,45,35]⟩) (j.toNat:Int)).bind λab=>some<|decide<|ab<0)else some false).bind λad=>bif ad then some (.rt false)else(some<|.nx ()):Option (Fl Unit Bool))) ()).bind λae=>ae.cs (λ(aa:Unit)=>(dV N (p0.bX.length:Int) 1 40).bind λaf=>some af)<|λr=>some r
def fa(N:Nat)(p0:aD):Option Int:=
 (eF N p0.Name).bind λag=>bif(!ag)then some 5 else(bif(p0.aQ.length:Int)==0 then some 9 else(bif decide ((p0.aQ.length:Int)>200)then some 2 else((lY p0.aQ.length (λ(o:Nat)(ah:Unit)=>((idx p0.aQ (o:Int)).bind λj=>(eF N j.Name).bind λai=>bif(!ai)then some (.rt 5)else((dV N j.Kind 1 7).bind λaj=>bif(!aj)then some (.rt 4)else((dV N j.bC 0 200).bind λak=>bif(!ak)then some (.rt 1)else((bif decide ((o:Int)>0)then((idx p0.aQ<|wrap .i64<|(o:Int) - 1).bind λab=>some<|j.Name.lQ ab.Name||j.Name.jQ ab.Name)else some false).bind λal=>bif al then some (.rt 8)else some (.nx ())))):Option (Fl Unit Int))) ()).bind λan=>an.cs (λ(ah:Unit)=>(lY p0.aQ.length (λ(ad:Nat)(ao:Unit)=>((idx p0.aQ (ad:Int)).bind λaa=>(pQ p0.aQ 0 (ad:Int)).bind λae=>(lY ae.length (λ(aq:Nat)(ar:Unit)=>((idx ae (aq:Int)).bind λaf=>bif(decide (aa.bC>0)&&(aa.bC==af.bC))&&(aa.Kind != af.Kind)then some (.rt 12)else(some<|.nx ()):Option (Fl Unit Int))) ()).bind λau=>au.cs (λ(ar:Unit)=>some<|.nx ()) (λr=>some<|.rt r):Option (Fl Unit Int))) ()).bind λav=>av.cs (λ(ao:Unit)=>some 0)<|λr=>some r)<|λr=>some r)))
def eV(N:Nat)(p0:List aD):Option Int:=
 bif decide ((p0.length:Int)>200)then some 2 else((lY p0.length (λ(j:Nat)(ad:Unit)=>((idx p0 (j:Int)).bind λo=>(fa N o).bind λaa=>bif aa != 0 then some (.rt aa)else((bif decide ((j:Int)>0)then((idx p0<|wrap .i64<|(j:Int) - 1).bind λab=>some<|o.Name.lQ ab.Name||o.Name.jQ ab.Name)else some false).bind λae=>bif ae then some (.rt 8)else some (.nx ())):Option (Fl Unit Int))) ()).bind λaf=>af.cs (λ(ad:Unit)=>some 0)<|λr=>some r)
def fb(N:Nat)(p0:aU):Option Bool:=
 (jf N p0<|⟨[47]⟩).bind λj=>(lY j.length (λ(o:Nat)(aa:Unit)=>((idx j (o:Int)).bind λab=>(eF N ab).bind λad=>bif(!ad)then some (.rt false)else(some<|.nx ()):Option (Fl Unit Bool))) ()).bind λae=>ae.cs (λ(aa:Unit)=>some<|decide<|(p0.bX.length:Int)<=200)<|λr=>some r
def eG(N:Nat)(p0:List aD)(p1:aU):Option Int:=
 (lY p0.length (λ(j:Nat)(o:Unit)=>((idx p0 (j:Int)).bind λaa=>bif aa.Name.jQ p1 then some (.rt (j:Int))else(some<|.nx ()):Option (Fl Unit Int))) ()).bind λab=>ab.cs (λ(o:Unit)=>some<|-1)<|λr=>some r
def fU(N:Nat)(p0:List Part)(p1:aU):Option Int:=
 (lY p0.length (λ(j:Nat)(o:Unit)=>((idx p0 (j:Int)).bind λaa=>bif aa.Name.jQ p1 then some (.rt (j:Int))else(some<|.nx ()):Option (Fl Unit Int))) ()).bind λab=>ab.cs (λ(o:Unit)=>some<|-1)<|λr=>some r
def gl(N:Nat)(p0:aD)(p1:aU):Option Int:=
 (lY p0.aQ.length (λ(j:Nat)(o:Unit)=>((idx p0.aQ (j:Int)).bind λaa=>bif aa.Name.jQ p1 then some (.rt (j:Int))else(some<|.nx ()):Option (Fl Unit Int))) ()).bind λab=>ab.cs (λ(o:Unit)=>some<|-1)<|λr=>some r
def ig(N:Nat)(p0:List aD)(p1:aH)(p2:cC):Option Bool:=
 (fU N p1.aJ p2.Part).bind λj=>(bif decide (j>=0)then((idx p1.aJ j).bind λo=>(eG N p0 o.cM).bind λaa=>(idx p0 aa).bind λab=>(gl N ab p2.cC).bind λad=>some<|decide<|ad>=0)else some false).bind λae=>some ae
def ij(N:Nat)(p0 p1:cC):Option Bool:=
 some (p0.Part.lQ p1.Part||(p0.Part.jQ p1.Part&&p0.cC.lQ p1.cC))
def lC(N:Nat)(p0:List cC)(p1:cC):Option Int:=
 (lY p0.length (λ(j:Nat)(o:Unit)=>((idx p0 (j:Int)).bind λaa=>bif decide (p1=aa)then some (.rt (j:Int))else(some<|.nx ()):Option (Fl Unit Int))) ()).bind λab=>ab.cs (λ(o:Unit)=>some<|-1)<|λr=>some r
def fC(N:Nat)(p0:List cC)(p1:cC):Option Bool:=
 (lC N p0 p1).bind λj=>some<|decide<|j>=0
def fV(N:Nat)(p0:List Net)(p1:cC):Option Bool:=
 (lY p0.length (λ(j:Nat)(o:Unit)=>((idx p0 (j:Int)).bind λaa=>(fC N aa.aQ p1).bind λab=>bif ab then some (.rt true)else(some<|.nx ()):Option (Fl Unit Bool))) ()).bind λad=>ad.cs (λ(o:Unit)=>some false)<|λr=>some r
def eA(N:Nat)(p0:List aD)(p1:aH):Option Int:=
 bif decide ((p1.aJ.length:Int)>1000)then some 2 else((lY p1.aJ.length (λ(ab:Nat)(ah:Unit)=>((idx p1.aJ (ab:Int)).bind λo=>(fb N o.Name).bind λai=>bif(!ai)then some (.rt 5)else((eG N p0 o.cM).bind λaj=>bif decide (aj<0)then some (.rt 9)else((bif decide ((ab:Int)>0)then((idx p1.aJ<|wrap .i64<|(ab:Int) - 1).bind λaf=>some<|o.Name.lQ af.Name||o.Name.jQ af.Name)else some false).bind λak=>bif ak then some (.rt 8)else some (.nx ()))):Option (Fl Unit Int))) ()).bind λal=>al.cs (λ(ah:Unit)=>bif decide ((p1.aZ.length:Int)>1000)then some 2 else((lY p1.aZ.length (λ(aa:Nat)(an:Unit)=>((idx p1.aZ (aa:Int)).bind λj=>(fb N j.Name).bind λao=>bif(!ao)then some (.rt 5)else(bif(j.aQ.length:Int)==0 then some (.rt 9)else(bif decide ((j.aQ.length:Int)>500)then some (.rt 2)else((lY j.aQ.length (λ(ad:Nat)(aq:Unit)=>((idx j.aQ (ad:Int)).bind λae=>(ig N p0 p1 ae).bind λar=>bif(!ar)then some (.rt 9)else((bif decide ((ad:Int)>0)then((idx j.aQ<|wrap .i64<|(ad:Int) - 1).bind λau=>(ij N au ae).bind λav=>some<|!av)else some false).bind λaw=>bif aw then some (.rt 8)else((pQ p1.aZ 0 (aa:Int)).bind λax=>(fV N ax ae).bind λay=>bif ay then some (.rt 7)else some (.nx ()))):Option (Fl Unit Int))) ()).bind λaz=>az.cs (λ(aq:Unit)=>bif decide ((j.mh.length:Int)>0)then some (.rt 3)else((bif decide ((aa:Int)>0)then((idx p1.aZ<|wrap .i64<|(aa:Int) - 1).bind λag=>some<|j.Name.lQ ag.Name||j.Name.jQ ag.Name)else some false).bind λa0=>bif a0 then some (.rt 8)else some (.nx ())))<|λr=>some<|.rt r))):Option (Fl Unit Int))) ()).bind λa1=>a1.cs (λ(an:Unit)=>some 0)<|λr=>some r))<|λr=>some r)
def fc(N:Nat)(p0:List aD)(p1:aH):Option Int:=
 (eV N p0).bind λj=>bif j != 0 then some j else((eA N p0 p1).bind λo=>some o)
def f9(N:Nat)(p0:List aD)(p1 p2:aH):Option Int:=
 (fc N p0 p1).bind λj=>bif j != 0 then some j else((eA N p0 p2).bind λo=>some o)
def gT(N:Nat)(p0:List aU):Option (List aU):=
 bif decide ((p0.length:Int)<2)then some p0 else((mn (λ(o:Int)=>(bif decide (o<(p0.length:Int))then((idx p0 o).bind λab=>(idx p0<|wrap .i64<|o - 1).bind λad=>bif ab.jQ ad then((pQ p0 o (p0.length:Int)).bind λak=>(mn (λ(j:List aU×Int×Int)=>(bif decide (j.2.2<(((j.1.length - Int.toNat o):Nat):Int))then((oE j.1 o j.2.2).bind λae=>(oE j.1 o<|wrap .i64<|j.2.2 - 1).bind λaf=>(bif(!ae.jQ af)then((oE j.1 o j.2.2).bind λag=>(idx j.1 j.2.1).bind λal=>some (j.1.set (Int.toNat j.2.1) ag,wrap .i64<|j.2.1+1))else some (j.1,j.2.1)).bind λaa=>some<|.nx (aa.1,aa.2,wrap .i64<|j.2.2+1))else(some<|.br (j.1,j.2.1,j.2.2)):Option (Fl (List aU×Int×Int) Empty))) N (p0,o,1)).bind λah=>ah.cs (λ(j:List aU×Int×Int)=>(pQ j.1 j.2.1 (j.1.length:Int)).bind λan=>(pQ (j.1.take (Int.toNat j.2.1)++List.replicate (j.1.length - Int.toNat j.2.1) (⟨[]⟩:aU)) 0 j.2.1).bind λai=>some<|.rt ai)<|λr=>r.elim)else some (.nx<|wrap .i64<|o+1))else(some<|.br o):Option (Fl Int<|List aU))) N 1).bind λaj=>aj.cs (λ(o:Int)=>some p0)<|λr=>some r)
def fe(N:Nat)(p0:List aH):Option (List aU):=
 (jm p0.length (λ(ab:Nat)(j:List aU)=>((idx p0 (ab:Int)).bind λaa=>(jm aa.aJ.length (λ(ad:Nat)(o:List aU)=>((idx aa.aJ (ad:Int)).bind λae=>(app 16 o ([ae.cM]:List aU)).bind λaf=>some af:Option (List aU))) j).bind λo=>some o:Option (List aU))) ([]:List aU)).bind λj=>(w4 j).bind λag=>(gT N ag).bind λah=>some ah
def fD(N:Nat)(p0:List aU)(p1:aU):Option Int:=
 (lY p0.length (λ(j:Nat)(o:Unit)=>((idx p0 (j:Int)).bind λaa=>bif p1.jQ aa then some (.rt (j:Int))else(some<|.nx ()):Option (Fl Unit Int))) ()).bind λab=>ab.cs (λ(o:Unit)=>some<|-1)<|λr=>some r
def gm(N:Nat)(p0:List aD)(p1:List aH):Option aO:=
 (fe N p1).bind λab=>(jm p1.length (λ(ad:Nat)(j:List (List Int)×List (List Int)×List aU)=>((idx p1 (ad:Int)).bind λo=>(jm o.aJ.length (λ(ae:Nat)(aa:List Int)=>((idx o.aJ (ae:Int)).bind λaf=>(fD N j.2.2 af.cM).bind λag=>(app 8 aa ([ag]:List Int)).bind λah=>some ah:Option (List Int))) ([]:List Int)).bind λaa=>(app 24 j.1 ([aa]:List (List Int))).bind λai=>(mk 8 (0:Int) (o.aZ.length:Int)).bind λaj=>(app 24 j.2.1 ([aj]:List (List Int))).bind λak=>some (ai,ak,j.2.2):Option (List (List Int)×List (List Int)×List aU))) (([]:List (List Int)),([]:List (List Int)),ab)).bind λj=>some (⟨p0,p1,j.1,j.2.1⟩:aO)
def iD(N:Nat)(p0:aH)(p1:cC):Option Int:=
 (lY p0.aZ.length (λ(j:Nat)(o:Unit)=>((idx p0.aZ (j:Int)).bind λaa=>(fC N aa.aQ p1).bind λab=>bif ab then some (.rt (j:Int))else(some<|.nx ()):Option (Fl Unit Int))) ()).bind λad=>ad.cs (λ(o:Unit)=>some<|-1)<|λr=>some r
def fL(N:Nat)(p0:aD)(p1:Int):Option Int:=
 (mn (λ(j:Int)=>(bif decide (j<p1)then(((idx p0.aQ p1).bind λo=>bif decide (o.bC>0)then((idx p0.aQ j).bind λaa=>(idx p0.aQ p1).bind λab=>some<|aa.bC==ab.bC)else some false).bind λad=>bif ad then some (.rt j)else some (.nx<|wrap .i64<|j+1))else(some<|.br j):Option (Fl Int Int))) N 0).bind λae=>ae.cs (λ(j:Int)=>some p1)<|λr=>some r
def dW(N:Nat)(p0:List aB):Option (List Int):=
 (jm p0.length (λ(ae:Nat)(j:List aB)=>((idx p0 (ae:Int)).bind λaa=>(mn (λ(o:Int)=>((bif decide (o>0)then((idx j<|wrap .i64<|o - 1).bind λaf=>bif decide (af.e0>aa.e0)then some true else((idx j<|wrap .i64<|o - 1).bind λag=>bif ag.e0==aa.e0 then((idx j<|wrap .i64<|o - 1).bind λah=>some<|decide<|ah.e1>aa.e1)else some false))else some false).bind λai=>bif ai then some (.nx<|wrap .i64<|o - 1)else(some<|.br o):Option (Fl Int Empty))) N (j.length:Int)).bind λaj=>aj.cs (λ(o:Int)=>(vA 16 j o ([aa]:List aB)).bind λak=>some ak) (λr=>r.elim):Option (List aB))) ([]:List aB)).bind λj=>(jm j.length (λ(al:Nat)(ab:List Int)=>((idx j (al:Int)).bind λad=>(app 8 ab ([ad.e0,ad.e1]:List Int)).bind λan=>some an:Option (List Int))) ([]:List Int)).bind λab=>some ab
def cT(N:Nat)(p0:aO)(p1 p2:Int):Option (List Int):=
 (idx p0.l p1).bind λab=>(idx ab.aJ p2).bind λad=>(eG N p0.t ad.cM).bind λaf=>(idx p0.t af).bind λj=>(jm j.aQ.length (λ(ae:Nat)(o:List aB)=>((idx j.aQ (ae:Int)).bind λag=>(iD N ab (⟨ad.Name,ag.Name⟩:cC)).bind λaa=>(bif decide (aa>=0)then((idx p0.pA p1).bind λah=>(idx ah aa).bind λai=>some ai)else some aa).bind λaj=>(fL N j (ae:Int)).bind λak=>(app 16 o ([(⟨ak,aj⟩:aB)]:List aB)).bind λal=>some al:Option (List aB))) ([]:List aB)).bind λo=>(idx p0.parts p1).bind λan=>(idx an p2).bind λao=>(dW N o).bind λaq=>(app 8 ([ao]:List Int) aq).bind λar=>some ar
def cX(N:Nat)(p0:aO)(p1 p2:Int):Option (List Int):=
 (idx p0.l p1).bind λj=>(idx j.aZ p2).bind λaa=>(jm aa.aQ.length (λ(af:Nat)(o:List aB)=>((idx aa.aQ (af:Int)).bind λab=>(fU N j.aJ ab.Part).bind λad=>(idx j.aJ ad).bind λag=>(eG N p0.t ag.cM).bind λah=>(idx p0.t ah).bind λae=>(idx p0.parts p1).bind λai=>(idx ai ad).bind λaj=>(gl N ae ab.cC).bind λak=>(fL N ae ak).bind λal=>(app 16 o ([(⟨aj,al⟩:aB)]:List aB)).bind λan=>some an:Option (List aB))) ([]:List aB)).bind λo=>(idx p0.pA p1).bind λao=>(idx ao p2).bind λaq=>(dW N o).bind λar=>(app 8 ([aq]:List Int) ar).bind λau=>some au
def eu(N:Nat)(p0:List Int)(p1:List Int):Option Bool:=
 bif(p0.length:Int) != (p1.length:Int)then some false else((lY p0.length (λ(j:Nat)(o:Unit)=>((idx p0 (j:Int)).bind λaa=>(idx p1 (j:Int)).bind λab=>bif aa != ab then some (.rt false)else(some<|.nx ()):Option (Fl Unit Bool))) ()).bind λad=>ad.cs (λ(o:Unit)=>some true)<|λr=>some r)
def fE(N:Nat)(p0:List (List<|List Int)):Option (List (List Int)×Int):=
 (jm p0.length (λ(ai:Nat)(ab:List (List Int))=>((idx p0 (ai:Int)).bind λag=>(jm ag.length (λ(aj:Nat)(o:List (List Int))=>((idx ag (aj:Int)).bind λad=>(mn (λ(j:Int)=>((bif decide (j>0)then((idx o<|wrap .i64<|j - 1).bind λak=>(cV N ak ad).bind λal=>some<|decide<|al>0)else some false).bind λan=>bif an then some (.nx<|wrap .i64<|j - 1)else(some<|.br j):Option (Fl Int Empty))) N (o.length:Int)).bind λao=>ao.cs (λ(j:Int)=>(bif j==0 then some true else((idx o<|wrap .i64<|j - 1).bind λaq=>(eu N aq ad).bind λar=>some<|!ar)).bind λau=>(bif au then((vA 24 o j ([ad]:List (List Int))).bind λav=>some av)else some o).bind λaw=>some aw) (λr=>r.elim):Option (List<|List Int))) ab).bind λo=>some o:Option (List<|List Int))) ([]:List (List Int))).bind λab=>(jm p0.length (λ(ax:Nat)(ae:List (List Int))=>((idx p0 (ax:Int)).bind λah=>(jm ah.length (λ(ay:Nat)(af:List Int)=>((idx ah (ay:Int)).bind λaz=>(mn (λ(aa:Int)=>((idx ab aa).bind λa0=>(eu N a0 az).bind λa1=>bif(!a1)then some (.nx<|wrap .i64<|aa+1)else(some<|.br aa):Option (Fl Int Empty))) N 0).bind λa2=>a2.cs (λ(aa:Int)=>(app 8 af ([aa]:List Int)).bind λa3=>some a3) (λr=>r.elim):Option (List Int))) ([]:List Int)).bind λaf=>(app 24 ae ([af]:List (List Int))).bind λa4=>some a4:Option (List<|List Int))) ([]:List (List Int))).bind λae=>some (ae,(ab.length:Int))
def gq(N:Nat)(p1:Int):Option (List Int):=
 bif decide (p1<0)then none else((bif decide (wrap .i64 (p1 -(wrap .i64<|((0:Nat):Int) -((0:Nat):Int)))>0)then((BP 8 (0:Int)<|wrap .i64<|p1 -(wrap .i64<|((0:Nat):Int) -((0:Nat):Int))).bind λj=>(pQ j 0 ((0:Nat):Int)).bind λo=>some o)else some ([]:List Int)).bind λaa=>some aa)
def ik(N:Nat)(p0:List (List Int)):Option (List Int):=
 (jm p0.length (λ(ab:Nat)(j:Int)=>((idx p0 (ab:Int)).bind λaa=>bif decide (wrap .i64 (j+(aa.length:Int))<0)then none else(some<|wrap .i64<|j+(aa.length:Int)):Option Int)) 0).bind λj=>(gq N j).bind λad=>(jm p0.length (λ(ae:Nat)(o:List Int)=>((idx p0 (ae:Int)).bind λaf=>(app 8 o af).bind λag=>some ag:Option (List Int))) ad).bind λo=>some o
def iY(N:Nat)(p0:List Int):Option (List Int):=
 bif decide ((p0.length:Int)<2)then some p0 else((mn (λ(o:Int)=>(bif decide (o<(p0.length:Int))then((idx p0 o).bind λab=>(idx p0<|wrap .i64<|o - 1).bind λad=>bif ab==ad then((pQ p0 o (p0.length:Int)).bind λak=>(mn (λ(j:List Int×Int×Int)=>(bif decide (j.2.2<(((j.1.length - Int.toNat o):Nat):Int))then((oE j.1 o j.2.2).bind λae=>(oE j.1 o<|wrap .i64<|j.2.2 - 1).bind λaf=>(bif ae != af then((oE j.1 o j.2.2).bind λag=>(idx j.1 j.2.1).bind λal=>some (j.1.set (Int.toNat j.2.1) ag,wrap .i64<|j.2.1+1))else some (j.1,j.2.1)).bind λaa=>some<|.nx (aa.1,aa.2,wrap .i64<|j.2.2+1))else(some<|.br (j.1,j.2.1,j.2.2)):Option (Fl (List Int×Int×Int) Empty))) N (p0,o,1)).bind λah=>ah.cs (λ(j:List Int×Int×Int)=>(pQ j.1 j.2.1 (j.1.length:Int)).bind λan=>(pQ (j.1.take (Int.toNat j.2.1)++List.replicate (j.1.length - Int.toNat j.2.1) (0:Int)) 0 j.2.1).bind λai=>some<|.rt ai)<|λr=>r.elim)else some (.nx<|wrap .i64<|o+1))else(some<|.br o):Option (Fl Int<|List Int))) N 1).bind λaj=>aj.cs (λ(o:Int)=>some p0)<|λr=>some r)
def eB(N:Nat)(p0:List (List Int)):Option Int:=
 (ik N p0).bind λj=>(pV j).bind λo=>(iY N o).bind λaa=>some (aa.length:Int)
def dQ(N:Nat)(p0:List aD)(p1:List aH):Option aO:=
 (gm N p0 p1).bind λai=>(mn (λ(j:aO×Int×Int)=>((jm p1.length (λ(aa:Nat)(o:List (List<|List Int)×List (List<|List Int))=>((idx p1 (aa:Int)).bind λag=>(jm ag.aJ.length (λ(aj:Nat)(ab:List (List Int))=>((cT N j.1 (aa:Int) (aj:Int)).bind λak=>(app 24 ab ([ak]:List (List Int))).bind λal=>some al:Option (List<|List Int))) ([]:List (List Int))).bind λab=>(jm ag.aZ.length (λ(an:Nat)(ad:List (List Int))=>((cX N j.1 (aa:Int) (an:Int)).bind λao=>(app 24 ad ([ao]:List (List Int))).bind λaq=>some aq:Option (List<|List Int))) ([]:List (List Int))).bind λad=>(app 24 o.1 ([ab]:List (List<|List Int))).bind λar=>(app 24 o.2 ([ad]:List (List<|List Int))).bind λau=>some (ar,au):Option (List (List<|List Int)×List (List<|List Int)))) (([]:List (List<|List Int)),([]:List (List<|List Int)))).bind λo=>(fE N o.1).bind λae=>(fE N o.2).bind λaf=>(bif decide (j.2.1<0)then((eB N j.1.parts).bind λav=>(eB N j.1.pA).bind λaw=>some (av,aw))else some (j.2.1,j.2.2)).bind λah=>bif decide (ae.2<=ah.1)&&decide (af.2<=ah.2)then some (.rt j.1)else(some<|.nx ((⟨j.1.t,j.1.l,ae.1,af.1⟩:aO),ae.2,af.2)):Option (Fl (aO×Int×Int) aO))) N (ai,(-1),(-1))).bind λax=>ax.cs (λ(j:aO×Int×Int)=>none)<|λr=>some r
def iE(N:Nat)(p0:List Int):Option (List Int):=
 (app 8 ([]:List Int) p0).bind λj=>some j
def dG(N:Nat)(p0:List Int)(p1:List Int):Option Bool:=
 (iE N p0).bind λj=>(iE N p1).bind λo=>(pV j).bind λaa=>(pV o).bind λab=>(eu N aa ab).bind λad=>some ad
def iF(N:Nat)(p0:List aD)(p1 p2:aH):Option (Bool×Int):=
 (f9 N p0 p1 p2).bind λo=>bif o != 0 then some (false,o)else((dQ N p0 ([p1,p2]:List aH)).bind λj=>((idx j.parts 0).bind λaa=>(idx j.parts 1).bind λab=>(dG N aa ab).bind λad=>bif ad then((idx j.pA 0).bind λae=>(idx j.pA 1).bind λaf=>(dG N ae af).bind λag=>some ag)else some false).bind λah=>some (ah,0))
def jk(N:Nat)(p0:List Int)(p1:Int):Option (List aB):=
 (jm p0.length (λ(ab:Nat)(o:List (Int×List Int))=>((idx p0 (ab:Int)).bind λad=>(app 8 (ew o ad ([]:List Int)) ([(ab:Int)]:List Int)).bind λae=>some (fR o ad ae):Option (List<|Int×List Int))) ([]:List (Int×List Int))).bind λo=>(mn (λ(j:List aB×Int)=>(bif decide (j.2<p1)then((idx p0 j.2).bind λaa=>(bif(((ew o aa ([]:List Int)).length:Nat):Int)==2 then((idx (ew o aa ([]:List Int)) 1).bind λaf=>some<|decide<|af>=p1)else some false).bind λag=>(bif ag then((idx (ew o aa ([]:List Int)) 1).bind λah=>(app 16 j.1 ([(⟨j.2,wrap .i64<|ah - p1⟩:aB)]:List aB)).bind λai=>some ai)else some j.1).bind λaj=>some<|.nx (aj,wrap .i64<|j.2+1))else(some<|.br (j.1,j.2)):Option (Fl (List aB×Int) Empty))) N (([]:List aB),0)).bind λak=>ak.cs (λ(j:List aB×Int)=>some j.1)<|λr=>r.elim
def hU(N:Nat)(p0:List aD)(p1 p2:aH):Option (List aX×List aX×Int):=
 (ie N p0 p1 p2).bind λj=>bif j.2.2 != 0 then some (([]:List aX),([]:List aX),j.2.2)else((jk N j.1 (p1.aJ.length:Int)).bind λab=>(jm ab.length (λ(ag:Nat)(o:List aX)=>((idx ab (ag:Int)).bind λad=>(idx p1.aJ ad.e0).bind λah=>(idx p2.aJ ad.e1).bind λai=>(app 32 o ([(⟨ah.Name,ai.Name⟩:aX)]:List aX)).bind λaj=>some aj:Option (List aX))) ([]:List aX)).bind λo=>(jk N j.2.1 (p1.aZ.length:Int)).bind λae=>(jm ae.length (λ(ak:Nat)(aa:List aX)=>((idx ae (ak:Int)).bind λaf=>(idx p1.aZ af.e0).bind λal=>(idx p2.aZ af.e1).bind λan=>(app 32 aa ([(⟨al.Name,an.Name⟩:aX)]:List aX)).bind λao=>some ao:Option (List aX))) ([]:List aX)).bind λaa=>some (o,aa,0))
def gH(N:Nat)(p0:List Int)(p1:Int):Option Int:=
 (lY p0.length (λ(j:Nat)(o:Unit)=>((idx p0 (j:Int)).bind λaa=>bif p1==aa then some (.rt (j:Int))else(some<|.nx ()):Option (Fl Unit Int))) ()).bind λab=>ab.cs (λ(o:Unit)=>some<|-1)<|λr=>some r
def gr(N:Nat)(p0:List Int)(p1:Int):Option Bool:=
 (gH N p0 p1).bind λj=>some<|decide<|j>=0
def dH(N:Nat)(p0:List Int)(p1:Int):Option Int:=
 (gH N p0 p1).bind λj=>(bif decide (j<0)then some true else((pQ p0 (wrap .i64<|j+1) (p0.length:Int)).bind λo=>(gr N o p1).bind λaa=>some aa)).bind λab=>bif ab then some (-1)else some j
def gU(N:Nat)(p0:List aD)(p1 p2:aH):Option (List aX×List aX×Int):=
 (f9 N p0 p1 p2).bind λae=>bif ae != 0 then some (([]:List aX),([]:List aX),ae)else((dQ N p0 ([p1,p2]:List aH)).bind λj=>(jm p1.aJ.length (λ(ab:Nat)(o:List aX)=>((idx p1.aJ (ab:Int)).bind λah=>(idx j.parts 1).bind λai=>(idx j.parts 0).bind λaj=>(idx aj (ab:Int)).bind λak=>(dH N ai ak).bind λaf=>(bif decide (af>=0)then((idx j.parts 0).bind λal=>(idx j.parts 0).bind λan=>(idx an (ab:Int)).bind λao=>(dH N al ao).bind λaq=>some<|decide<|aq>=0)else some false).bind λar=>(bif ar then((idx p2.aJ af).bind λau=>(app 32 o ([(⟨ah.Name,au.Name⟩:aX)]:List aX)).bind λav=>some av)else some o).bind λaw=>some aw:Option (List aX))) ([]:List aX)).bind λo=>(jm p1.aZ.length (λ(ad:Nat)(aa:List aX)=>((idx p1.aZ (ad:Int)).bind λax=>(idx j.pA 1).bind λay=>(idx j.pA 0).bind λaz=>(idx az (ad:Int)).bind λa0=>(dH N ay a0).bind λag=>(bif decide (ag>=0)then((idx j.pA 0).bind λa1=>(idx j.pA 0).bind λa2=>(idx a2 (ad:Int)).bind λa3=>(dH N a1 a3).bind λa4=>some<|decide<|a4>=0)else some false).bind λa5=>(bif a5 then((idx p2.aZ ag).bind λa6=>(app 32 aa ([(⟨ax.Name,a6.Name⟩:aX)]:List aX)).bind λa7=>some a7)else some aa).bind λa8=>some a8:Option (List aX))) ([]:List aX)).bind λaa=>some (o,aa,0))
def fW(N:Nat)(p0:List aX)(p1:List aX):Option Bool:=
 bif(p0.length:Int) != (p1.length:Int)then some false else((lY p0.length (λ(j:Nat)(o:Unit)=>((idx p0 (j:Int)).bind λaa=>(idx p1 (j:Int)).bind λab=>bif(!(decide<|aa=ab))then some (.rt false)else(some<|.nx ()):Option (Fl Unit Bool))) ()).bind λad=>ad.cs (λ(o:Unit)=>some true)<|λr=>some r)
def mG(N:Nat)(p0:List aD)(p1:Part):Option (List cC):=
 (fS N p0 p1.cM).bind λaa=>(idx p0 aa).bind λo=>(jm o.aQ.length (λ(ab:Nat)(j:List cC)=>((idx o.aQ (ab:Int)).bind λad=>(app 32 j ([(⟨p1.Name,ad.Name⟩:cC)]:List cC)).bind λae=>some ae:Option (List cC))) ([]:List cC)).bind λj=>some j
def l5(N:Nat)(p0:List aD)(p1:aH):Option (List cC):=
 (jT N p1).bind λad=>(jm p1.aJ.length (λ(ae:Nat)(o:List cC)=>((idx p1.aJ (ae:Int)).bind λaf=>(mG N p0 af).bind λaa=>(jm aa.length (λ(ag:Nat)(j:List cC)=>((idx aa (ag:Int)).bind λab=>(bif(!(lA ad ab))then((app 32 j ([ab]:List cC)).bind λah=>some ah)else some j).bind λai=>some ai:Option (List cC))) o).bind λj=>some j:Option (List cC))) ([]:List cC)).bind λo=>some o
def nE(N:Nat)(p0:List aD)(p1:aH):Option (List cC×Int):=
 (fA N p0 p1).bind λj=>bif j != 0 then some (([]:List cC),j)else((l5 N p0 p1).bind λo=>some (o,0))
def iG(N:Nat):Option Bool:=
 (nE N ([(⟨⟨[114]⟩,([(⟨⟨[49]⟩,6,0⟩:bA)]:List bA)⟩:aD)]:List aD) (⟨([(⟨⟨[97]⟩,⟨[114]⟩⟩:Part)]:List Part),[]⟩:aH)).bind λj=>(bif j.2==0 then(bif(j.1.length:Int)==1 then((idx j.1 0).bind λo=>some<|decide<|o=(⟨⟨[97]⟩,⟨[49]⟩⟩:cC))else some false)else some false).bind λaa=>some aa
def dB(N:Nat)(p0:List aD)(p1 p2:aH):Option Bool:=
 (ji N p0 p1 p2).bind λaa=>(iF N p0 p1 p2).bind λab=>(bif aa.2 != ab.2 then some true else some (aa.1 != ab.1)).bind λad=>bif ad then some false else((hU N p0 p1 p2).bind λj=>(gU N p0 p1 p2).bind λo=>(bif j.2.2==o.2.2 then((fW N j.1 o.1).bind λae=>bif ae then((fW N j.2.1 o.2.1).bind λaf=>bif af then((iG N).bind λag=>some ag)else some false)else some false)else some false).bind λah=>some ah)
end
def ke{R:Type}(m:Nat)(e:Nat->Option R):Option R:=(List.range m).findSome? e
theorem jW{R:Type}{m:Nat}{e:Nat->Option R}:ke m e=none↔∀k,k<m->e k=none:=by
 simp[ke]
theorem jl{R:Type}{m:Nat}{e:Nat->Option R}{r:R}:ke m e=some r↔∃k,k<m/\e k=some r/\∀j,j<k->e j=none:=by
 constructor
 ·intro h;obtain⟨l1,a,l2,hl,ha,hn⟩:=List.findSome?_eq_some_iff.1 h;have hlen:l1.length<m:=by have:=congrArg List.length hl;grind
  have hget:∀i,i<l1.length->l1[i]? =some i:=λi hi=>by
   have:=congrArg (·[i]?) hl
   grind
  have hat:a=l1.length:=by
   have:=congrArg (·[l1.length]?) hl
   grind
  grind
 ·rintro⟨k,hk,he,hn⟩;refine List.findSome?_eq_some_iff.2 ⟨List.range k,k,(List.range<|m - k - 1).map (· +(k+1)),?_,he,λx hx=>hn x<|dY.1 hx⟩;refine List.ext_getElem? λi=>?_
  by_cases h1:i<k
  ·grind
  ·rw[gu (by grind),List.length_range]
   by_cases h2:i=k
   all_goals grind
theorem Cn{R R':Type}{m:Nat}{e:Nat->Option R}(f:R->R'):(ke m e).map f=ke m (λk=>(e k).map f):=by
 cases hx:ke m e with
 |none=>grind [jW]
 |some r=>
  grind [jl]
section
variable {S R:Type}
def uS(o:Option R)(s:S):Fl S R:=match o with|some r=> .rt r|none=> .nx s
def yu(o:Option R)(s:S):Fo S R:=match o with|some r=> .rt r|none=> .go s
theorem yv{body:Nat->S->Option (Fl S R)}(F:Nat->S)(e:Nat->Option R)(m:Nat):∀(n k:Nat),k+n=m->
  (∀j,k<=j->j<m->(∀i,k<=i->i<j->e i=none)->body j (F j)=some (uS (e j)<|F<|j+1))->
  ∃o,wR body n k (F k)=some o/\((∀j,k<=j->j<m->e j=none)/\o = .go (F m)\/∃j r,k<=j/\j<m/\e j=some r/\(∀i,k<=i->i<j->e i=none)/\o = .rt r)
 | 0,k,hk,_=>⟨_,rfl, .inl ⟨λj h1 h2=>by omega,by grind⟩⟩
 |n+1,k,hk,h=>by
  have hb:=h k (bR _) (by omega) (λi h1 h2=>by omega);unfold wR;rw[hb]
  cases hx:e k with
  |some r=>exact⟨_,rfl, .inr ⟨k,r,bR _,by omega,hx,λi h1 h2=>by omega,rfl⟩⟩
  |none=>
   obtain⟨o,ho,hc⟩:=yv F e m n (k+1) (by omega) (λj h1 h2 h3=>h j (by omega) h2 λi h4 h5=>by
    grind)
   refine⟨o,ho,?_⟩
   rcases hc with⟨h1,h2⟩|⟨j,r,h1,h2,h3,h4,h5⟩
   ·refine .inl ⟨λj h3 h4=>?_,h2⟩
    by_cases h6:j=k
    ·subst h6;exact hx
    ·exact h1 j (by omega) h4
   ·refine .inr ⟨j,r,by omega,h2,h3,λi h6 h7=>?_,h5⟩
    by_cases h8:i=k
    ·subst h8;exact hx
    ·exact h4 i (by omega) h7
theorem Ac{body:Nat->S->Option (Fl S R)}{m:Nat}{s:S}(F:Nat->S)(e:Nat->Option R)(hm:m<=4611686018427387904)(hs:F 0=s)
  (h:∀k,k<m->(∀i,i<k->e i=none)->body k (F k)=some (uS (e k)<|F<|k+1)):lY m body s=some (yu (ke m e)<|F m):=by
 subst hs;unfold lY;rw[aG hm];obtain⟨o,ho,hc⟩:=yv F e m m 0 (by omega)<|λj _ h2 h3=>h j h2 λi hi=>h3 i (mm _) hi
 rw[ho]
 rcases hc with⟨h1,h2⟩|⟨j,r,_,h2,h3,h4,h5⟩
 ·rw[jW.2 λk hk=>h1 k (mm _) hk,h2];rfl
 ·rw[jl.2 ⟨j,h2,h3,λi hi=>h4 i (mm _) hi⟩,h5];rfl
theorem ir{body:Nat->Unit->Option (Fl Unit R)}{m:Nat}(e:Nat->Option R)(hm:m<=4611686018427387904)
  (h:∀k,k<m->(∀i,i<k->e i=none)->body k ()=some (uS (e k) ())):lY m body ()=some (yu (ke m e) ()):=
 Ac (λ_=>()) e hm rfl h
theorem yw{body:Nat->S->Option S}(F:Nat->S):∀(n k:Nat),(∀j,k<=j->j<k+n->body j (F j)=some (F<|j+1))->zb body n k (F k)=some (F<|k+n)
 | 0,_,_=>rfl
 |n+1,k,h=>by
  unfold zb;rw[h k (bR _) (by omega)];have:=yw F n (k+1)<|λj h1 h2=>h j (by omega) (by omega)
  rw[show k+(n+1)=k+1+n by omega];exact this
theorem k8{body:Nat->S->Option S}{m:Nat}{s:S}(F:Nat->S)(hm:m<=4611686018427387904)(hs:F 0=s)
  (h:∀k,k<m->body k (F k)=some (F<|k+1)):jm m body s=some (F m):=by
 subst hs
 simp_all[jm,aG,yw,fu]
theorem sE{body:S->Option (Fl S R)}(Inv:S->Prop)(μ:S->Nat)(Go:S->Prop)(Rt:R->Prop)
  (h:∀s,Inv s->∃fl,body s=some fl/\match fl with| .nx s'=>Inv s'/\μ s'<μ s| .br s'=>Go s'| .rt r=>Rt r):
  ∀(N:Nat)(s:S),Inv s->μ s<N->∃o,mn body N s=some o/\match o with| .go s'=>Go s'| .rt r=>Rt r
 | 0,s,_,hn=>by omega
 |N+1,s,hi,hn=>by
  obtain⟨fl,hb,hf⟩:=h s hi;unfold mn;rw[hb]
  cases fl with
  |nx s'=>exact sE Inv μ Go Rt h N s' hf.1 (by have:=hf.2;omega)
  |br s'=>exact⟨_,rfl,hf⟩
  |rt r=>exact⟨_,rfl,hf⟩
theorem yx{body:Nat->S->Option (Fl S R)}(Inv:Nat->S->Prop)(Go:S->Prop)(Rt:R->Prop)(m:Nat)
  (h:∀k s,k<m->Inv k s->∃fl,body k s=some fl/\match fl with| .nx s'=>Inv (k+1) s'| .br s'=>Go s'| .rt r=>Rt r) (hg:∀s,Inv m s->Go s):
  ∀(n k:Nat)(s:S),k+n=m->Inv k s->∃o,wR body n k s=some o/\match o with| .go s'=>Go s'| .rt r=>Rt r
 | 0,k,s,hk,hi=>⟨_,rfl,hg s (by rw[<-hk];exact hi)⟩
 |n+1,k,s,hk,hi=>by
  obtain⟨fl,hb,hf⟩:=h k s (by omega) hi;unfold wR;rw[hb]
  cases fl with
  |nx s'=>exact yx Inv Go Rt m h hg n (k+1) s' (by omega) hf
  |br s'=>exact⟨_,rfl,hf⟩
  |rt r=>exact⟨_,rfl,hf⟩
theorem Dr{body:Nat->S->Option (Fl S R)}{m:Nat}{s:S}(Inv:Nat->S->Prop)(Go:S->Prop)(Rt:R->Prop)(hm:m<=4611686018427387904)(h0:Inv 0 s)
  (h:∀k s,k<m->Inv k s->∃fl,body k s=some fl/\match fl with| .nx s'=>Inv (k+1) s'| .br s'=>Go s'| .rt r=>Rt r) (hg:∀s,Inv m s->Go s):
  ∃o,lY m body s=some o/\match o with| .go s'=>Go s'| .rt r=>Rt r:=by
 unfold lY;rw[aG hm];exact yx Inv Go Rt m h hg m 0 s (by omega) h0
theorem yy{body:Nat->S->Option S}(Inv:Nat->S->Prop)(m:Nat)(h:∀k s,k<m->Inv k s->∃s',body k s=some s'/\Inv (k+1) s'):
  ∀(n k:Nat)(s:S),k+n=m->Inv k s->∃s',zb body n k s=some s'/\Inv m s'
 | 0,k,s,hk,hi=>⟨_,rfl,by grind⟩
 |n+1,k,s,hk,hi=>by
  obtain⟨s',hb,hf⟩:=h k s (by omega) hi;unfold zb;rw[hb];exact yy Inv m h n (k+1) s' (by omega) hf
theorem Ds{body:Nat->S->Option S}{m:Nat}{s:S}(Inv:Nat->S->Prop)(hm:m<=4611686018427387904)(h0:Inv 0 s)
  (h:∀k s,k<m->Inv k s->∃s',body k s=some s'/\Inv (k+1) s'):∃s',jm m body s=some s'/\Inv m s':=by
 simp_all[jm,aG,yy]
end
section
variable {α β:Type}
theorem aA(x:α)(f:α->Option β):(some x).bind f=f x:=rfl
theorem iu(l:List α)(k:Nat)(h:k<l.length):idx l ((k:Nat):Int)=some l[k]:=by
 unfold idx;simp
theorem cD{l:List α}{k:Nat}{x:α}(h:l[k]? =some x):idx l ((k:Nat):Int)=some x:=by
 grind [idx,dJ]
theorem yz(s:aU)(k:Nat)(h:k<s.bX.length):xO s ((k:Nat):Int)=some s.bX[k]:=by
 unfold xO;simp
theorem kG{k:Nat}(h:0<k)(hk:k<=4611686018427387904):wrap .i64 (((k:Nat):Int) - 1)=((k - 1:Nat):Int):=by
 grind [dL]
theorem n4(l:List α)(k:Nat)(h:k<=l.length):pQ l 0 ((k:Nat):Int)=some (l.take k):=by
 unfold pQ;grind
theorem uT(l:List α)(k:Nat)(h:k<=l.length):pQ l ((k:Nat):Int) ((l.length:Nat):Int)=some (l.drop k):=by
 grind [pQ,dJ,Option.some.injEq,jM,dR]
theorem dE{b:Nat}{l ys:List α}(h:(l.length+ys.length)*b<=140737488355328):app b l ys=some (l++ys):=by grind [app]
theorem qB{b:Nat}(z:α){n:Nat}(h:n*b<=140737488355328):mk b z ((n:Nat):Int)=some (List.replicate n z):=by
 unfold mk
 grind
end
theorem aU.ext'{a b:aU}(h:a.bX=b.bX):a=b:=by cases a;simp_all
theorem lM{a b:aU}:a.jQ b=true↔a=b:=by
 grind [aU.jQ,aU.ext']
theorem mA{a b:aU}:a.jQ b=false↔a≠b:=by grind [lM]
theorem tN:∀(a:List UInt8),Op.bytesLess a a=false
 | []=>rfl
 |a::l=>by
  unfold Op.bytesLess;rw[tN l];simp
theorem uU:∀{a b c:List UInt8},Op.bytesLess a b=true->Op.bytesLess b c=true->Op.bytesLess a c=true
 | [],[],_,h,_=>by simp[Op.bytesLess]at h
 | [],_::_,[],_,h=>by simp[Op.bytesLess]at h
 | [],_::_,_::_,_,_=>rfl
 |_::_,[],_,h,_=>by simp[Op.bytesLess]at h
 |_::_,_::_,[],_,h=>by simp[Op.bytesLess]at h
 |a::l,b::m,c::n,h1,h2=>by
  unfold Op.bytesLess at h1 h2 ⊢;simp only[fg,cO,fH,beq_iff_eq]at h1 h2 ⊢
  rcases h1 with h1|⟨rfl,h1⟩
  ·rcases h2 with h2|⟨rfl,h2⟩
   ·exact .inl<|UInt8.lt_trans h1 h2
   ·exact .inl h1
  ·rcases h2 with h2|⟨rfl,h2⟩
   ·exact .inl h2
   ·exact .inr ⟨rfl,uU h1 h2⟩
theorem uV:∀(a b:List UInt8),Op.bytesLess a b=true\/a=b\/Op.bytesLess b a=true
 | [],[]=> .inr (.inl rfl)
 | [],_::_=> .inl rfl
 |_::_,[]=> .inr (.inr rfl)
 |a::l,b::m=>by
  unfold Op.bytesLess;simp only[fg,cO,fH,beq_iff_eq]
  by_cases h1:a<b
  ·exact .inl<|.inl h1
  ·by_cases h2:b<a
   ·exact .inr<|.inr<|.inl h2
   ·have e:a=b:=by
     simp only[UInt8.lt_iff_toNat_lt]at h1 h2;exact UInt8.toNat_inj.1 (by omega)
    subst e
    rcases uV l m with h|h|h
    ·exact .inl<|.inr ⟨rfl,h⟩
    ·exact .inr<|.inl (by rw[h])
    ·exact .inr<|.inr<|.inr ⟨rfl,h⟩
theorem ks:∀(a b:List UInt8),Lib.compareBytes a b<0↔Op.bytesLess a b=true
 | [],[]=>by simp[Lib.compareBytes,Op.bytesLess]
 | [],_::_=>by simp[Lib.compareBytes,Op.bytesLess]
 |_::_,[]=>by simp[Lib.compareBytes,Op.bytesLess]
 |a::l,b::m=>by
  unfold Lib.compareBytes Op.bytesLess;simp only[fg,cO,fH,beq_iff_eq];split
  ·simp_all
  ·rename_i h1;split
   ·rename_i h2;have h3:a≠b:=λe=>by subst e;exact h1 h2
    simp[h1,h3]
   ·rename_i h2;have e:a=b:=by
     simp only[UInt8.lt_iff_toNat_lt]at h1 h2;exact UInt8.toNat_inj.1 (by omega)
    subst e;rw[ks l m];simp[h1]
theorem jF:∀(a b:List UInt8),Lib.compareBytes a b=0↔a=b
 | [],[]=>by simp[Lib.compareBytes]
 | [],_::_=>by simp[Lib.compareBytes]
 |_::_,[]=>by simp[Lib.compareBytes]
 |a::l,b::m=>by
  unfold Lib.compareBytes;split
  ·rename_i h1;have h3:a≠b:=λe=>by subst e;exact absurd h1 (by simp)
   simp[h3]
  ·rename_i h1;split
   ·rename_i h2;have h3:a≠b:=λe=>by subst e;exact h1 h2
    simp[h3]
   ·rename_i h2;have e:a=b:=by
     simp only[UInt8.lt_iff_toNat_lt]at h1 h2;exact UInt8.toNat_inj.1 (by omega)
    subst e;rw[jF l m];simp
def aU.lt(a b:aU):Prop:=a.lQ b=true
theorem aU.lt_irrefl(a:aU):¬aU.lt a a:=by simp[aU.lt,aU.lQ,tN,decide]
theorem aU.lt_trans{a b c:aU}(h1:aU.lt a b)(h2:aU.lt b c):aU.lt a c:=uU h1 h2
theorem aU.yA(a b:aU):aU.lt a b\/a=b\/aU.lt b a:=by
 rcases uV a.bX b.bX with h|h|h
 ·exact .inl h
 ·grind [aU.ext']
 ·exact .inr<|.inr h
theorem aU.q8{a b:aU}(h:aU.lt a b):a≠b:=by grind [aU.lt_irrefl]
theorem aU.lt_asymm{a b:aU}(h:aU.lt a b):¬aU.lt b a:=by grind [aU.lt_irrefl,aU.lt_trans]
theorem Ad{a b:aU}:(a.lQ b||a.jQ b)=false↔aU.lt b a:=by
 grind [Bool.or_eq_false_iff,mA,aU.yA,aU.lt,aU.q8,aU.lt_asymm]
end Go.Gk
namespace Go.Gk
open Go IntKind
class Bk (α:Type)where
 bk:α->Nat
 pos:∀x,1<=bk x
def bk{α:Type}[Bk α](x:α):Nat:=Bk.bk x
theorem zx{α:Type}[Bk α](x:α):1<=bk x:=Bk.pos x
instance:Bk aU:=⟨λs=>s.bX.length+1,λ_=>by omega⟩
instance:Bk Int:=⟨λ_=>1,λ_=>by omega⟩
instance:Bk Bool:=⟨λ_=>1,λ_=>by omega⟩
instance {α:Type} [Bk α]:Bk (List α):=⟨λl=>(l.map bk).sum+1,λ_=>by omega⟩
theorem zy{α:Type}[Bk α]:bk ([]:List α)=1:=rfl
theorem sF{α:Type}[Bk α](x:α)(l:List α):bk (x::l)=bk x+bk l:=by
 rfl
theorem p6{α:Type}[Bk α]:∀{l:List α}{x:α},x∈l->bk x+1<=bk l
 |y::l,x,h=>by
  rw[sF]
  rcases iV.1 h with h|h
  ·subst h;have:=zx l;omega
  ·have:=p6 h;omega
theorem p7{α:Type}[Bk α]{l:List α}{k:Nat}{x:α}(h:l[k]? =some x):bk x+1<=bk l:=p6<|fK h
theorem gy{α:Type}[Bk α]:∀(l:List α),l.length+1<=bk l
 | []=>by rw[zy];simp
 |x::l=>by rw[sF,lI];have:=gy l;have:=zx x;omega
theorem p8(s:aU):bk s=s.bX.length+1:=rfl
theorem Ae{α:Type}[Bk α]:∀(l:List α)(k:Nat),bk (l.take k)<=bk l
 | [],k=>by simp
 |x::l,0=>by rw[List.take_zero,zy];exact zx _
 |x::l,k+1=>by rw[List.take_succ_cons,sF,sF];have:=Ae l k;omega
section
variable {α R:Type}
theorem A2{l:List α}{e:Nat->Option R}(f:α->Option R)(h:∀k x,l[k]? =some x->e k=f x):ke l.length e=l.findSome? f:=by
 cases hx:ke l.length e with
 |none=>
  grind [List.findSome?_eq_none_iff,jP,jW,bS]
 |some r=>
  obtain⟨k,hk,he,hn⟩:=jl.1 hx;refine(List.findSome?_eq_some_iff.2 ⟨l.take k,l[k],l.drop<|k+1,?_,?_,λy hy=>?_⟩).symm
  ·simp
  ·grind
  grind [jP,bS,bQ,List.getElem?_take_of_lt]
theorem xl(l:List α)(p:α->Bool)(r:R):l.findSome? (λx=>if p x=true then some r else none)=if l.any p=true then some r else none:=by
 induction l with
 |nil=>simp
 |cons x l ih=>
  grind
theorem Co{l:List α}{body:Nat->Unit->Option (Fl Unit R)}(f:α->Option R)(hl:l.length<=4611686018427387904)
  (h:∀k x,l[k]? =some x->body k ()=some (uS (f x) ())):lY l.length body ()=some (yu (l.findSome? f) ()):=by
 have h2:=ir (body:=body) (m:=l.length) (λk=>(l[k]?).bind f) hl (λk hk _=>by
  grind)
 grind [A2]
theorem sG{l:List α}{body:Nat->Unit->Option (Fl Unit R)}(p:α->Bool)(r:R)(hl:l.length<=4611686018427387904)
  (h:∀k x,l[k]? =some x->body k ()=some (if p x=true then .rt r else .nx ())):lY l.length body ()=some (if l.any p=true then .rt r else .go ()):=by
 rw[Co (λx=>if p x=true then some r else none) hl (λk x hx=>by rw[h k x hx];cases p x <;> rfl),xl]
 cases l.any p <;> rfl
end
section
variable {α β:Type}
def vJ(l:List α)(p:α->Bool):Int:=match l.findIdx? p with|some k=>((k:Nat):Int)|none=> -1
theorem yB{l:List α}{p:α->Bool}(h:l.any p=false):vJ l p = -1:=by
 unfold vJ
 grind
theorem lU{l:List α}{p:α->Bool}{k:Nat}{x:α}(hk:l[k]? =some x)(hp:p x=true)(hn:∀j y,j<k->l[j]? =some y->p y=false):vJ l p=((k:Nat):Int):=by
 unfold vJ;have hlt:=(bS.1 hk).1;have:l.findIdx? p=some k:=by
  rw[List.findIdx?_eq_some_iff_getElem]
  grind
 rw[this]
theorem iN(l:List α)(p:α->Bool):(vJ l p = -1/\∀x∈l,p x=false)\/∃k x,vJ l p=((k:Nat):Int)/\l[k]? =some x/\p x=true/\∀j y,j<k->l[j]? =some y->p y=false:=by
 unfold vJ
 cases h:l.findIdx? p with
 |none=>grind
 |some k=>
  grind [List.findIdx?_eq_some_iff_getElem,aM]
theorem uW(l:List α)(p:α->Bool):decide (vJ l p>=0)=l.any p:=by
 grind [iN,List.any_eq_false,decide,kl,fK]
def oL(p0:List α)(p1:α->Option Bool):Option Int:=
 (lY p0.length (λ(k1:Nat)(_:Unit)=>((idx p0 ((k1:Nat):Int)).bind λx7=>(p1 x7).bind λx10=>bif x10 then some (.rt ((k1:Nat):Int))else(some<|.nx ()):Option (Fl Unit Int))) ()).bind λo11=>o11.cs (λ(_:Unit)=>some<|-1)<|λr=>some r
theorem kf{l:List α}{φ:α->Option Bool}(p:α->Bool)(hl:l.length<=4611686018427387904)(h:∀x∈l,φ x=some (p x)):oL l φ=some (vJ l p):=by
 unfold oL
 rw[ir (λk=>(l[k]?).bind λx=>if p x=true then some ((k:Nat):Int)else none) hl (λk hk _=>by
  grind [iu,aA,eD,aM,uS]),aA]
 grind [iN,jW,aM,eD,yu,Fo.cs,jl,bS]
def lN(p0:List α)(p1:α->Option Bool):Option Bool:=
 (oL p0 p1).bind λx1=>some<|decide<|x1>=0
theorem n7{l:List α}{φ:α->Option Bool}(p:α->Bool)(hl:l.length<=4611686018427387904)(h:∀x∈l,φ x=some (p x)):lN l φ=some (l.any p):=by
 simp_all[lN,kf,aA,uW]
def uX [DecidableEq α](p0:List α)(p1:α):Option Int:=
 (lY p0.length (λ(k2:Nat)(_:Unit)=>((idx p0 ((k2:Nat):Int)).bind λx12=>bif decide (p1=x12)then some (.rt ((k2:Nat):Int))else(some<|.nx ()):Option (Fl Unit Int))) ()).bind λo18=>o18.cs (λ(_:Unit)=>some<|-1)<|λr=>some r
theorem tk [DecidableEq α]{l:List α}{a:α}(hl:l.length<=4611686018427387904):uX l a=some (vJ l<|λx=>decide<|a=x):=by
 have:=kf (l:=l) (φ:=λx=>some<|decide<|a=x) (λx=>decide<|a=x) hl<|λ_ _=>rfl
 rw[<-this];rfl
def tl [DecidableEq α](p0:List α)(p1:α):Option Bool:=(uX p0 p1).bind λx3=>some<|decide<|x3>=0
theorem sH [DecidableEq α]{l:List α}{a:α}(hl:l.length<=4611686018427387904):tl l a=some (decide<|a∈l):=by
 grind [tl,tk,aA,uW,Option.some.injEq]
def Cp [DecidableEq α](p0 p1:List α):Option Bool:=
 bif((p0.length:Nat):Int) != ((p1.length:Nat):Int)then some false else((lY p0.length (λ(k1:Nat)(_:Unit)=>((idx p0 ((k1:Nat):Int)).bind λx13=>(idx p1 ((k1:Nat):Int)).bind λx16=>bif(!(decide<|x13=x16))then some (.rt false)else(some<|.nx ()):Option (Fl Unit Bool))) ()).bind λo23=>o23.cs (λ(_:Unit)=>some true)<|λr=>some r)
theorem wj [DecidableEq α]{l m:List α}(hl:l.length<=4611686018427387904):Cp l m=some (decide<|l=m):=by
 unfold Cp
 by_cases h:l.length=m.length
 ·have e:(((l.length:Nat):Int) != ((m.length:Nat):Int))=false:=by rw[h];simp
  rw[e,bK]
  rw[ir (λk=>if l[k]? =m[k]? then none else some false) hl (λk hk _=>by
   grind [iu,aA,aM,uS]),aA]
  by_cases hx:l=m
  ·grind [jW,yu,Fo.cs]
  ·have:∃r,ke l.length (λk=>if l[k]? =m[k]? then none else some false)=some r:=by
    cases hf:ke l.length (λk=>if l[k]? =m[k]? then none else some false)with
    |some r=>simp
    |none=>
     exfalso;refine hx<|List.ext_getElem? λi=>?_
     grind [jW,List.getElem?_eq_none]
   grind [jl,yu,Fo.cs]
 ·have e:(((l.length:Nat):Int) != ((m.length:Nat):Int))=true:=by simp;omega
  rw[e,bL,bU<|λh'=>h (by rw[h'])]
def gZ(key:α->aU)(l:List α):Prop:=∀(i j:Nat)(x y:α),i<j->l[i]? =some x->l[j]? =some y->aU.lt (key x) (key y)
theorem A3{key:α->aU}{l:List α}(h:∀k x y,l[k]? =some x->l[k+1]? =some y->aU.lt (key x) (key y)):gZ key l:=by
 intro i j
 induction j with
 |zero=>omega
 |succ j ih=>
  grind [bS,aU.lt_trans,aM]
theorem gZ.inj{key:α->aU}{l:List α}(h:gZ key l){i j:Nat}{x y:α}(hx:l[i]? =some x)(hy:l[j]? =some y)(e:key x=key y):i=j:=by
 rcases Nat.lt_trichotomy i j with h1|h1|h1
 ·exact absurd e<|aU.q8<|h i j x y h1 hx hy
 ·exact h1
 ·exact absurd e.symm<|aU.q8<|h j i y x h1 hy hx
def nat?(key:α->aU)(l:List α)(s:aU):Int:=vJ l<|λx=>(key x).jQ s
def xm(N:Nat)(p0:List α)(p1:β)(p2:α->β->Option Int):Option (Int×Bool):=
 (mn (λ(s2:Int×Int)=>(bif decide (s2.1<s2.2)then((idx p0<|wrap .i64<|Int.fdiv (wrap .u64<|wrap .i64<|s2.1+s2.2) 2).bind λx13=>(p2 x13 p1).bind λx16=>(bif decide (x16<0)then some (wrap .i64<|wrap .i64 (Int.fdiv (wrap .u64<|wrap .i64<|s2.1+s2.2) 2)+1,s2.2)else some (s2.1,wrap .i64<|Int.fdiv (wrap .u64<|wrap .i64<|s2.1+s2.2) 2)).bind λs17=>some<|.nx (s17.1,s17.2))else(some<|.br (s2.1,s2.2)):Option (Fl (Int×Int) Empty))) N (0,((p0.length:Nat):Int))).bind λo29=>o29.cs (λ(s2:Int×Int)=>(bif decide (s2.1<((p0.length:Nat):Int))then((idx p0 s2.1).bind λx25=>(p2 x25 p1).bind λx28=>some<|x28==0)else some false).bind λs23=>some (s2.1,s23))<|λr=>r.elim
theorem wk{a b:Nat}(h:a<b)(hb:b<=4611686018427387904):wrap .i64 (Int.fdiv (wrap .u64<|wrap .i64<|((a:Nat):Int)+((b:Nat):Int)) 2)=(((a+b) / 2:Nat):Int):=by
 rw[dL (x:=((a:Nat):Int)+((b:Nat):Int)) (by omega) (by omega)];have e:wrap .u64 (((a:Nat):Int)+((b:Nat):Int))=((a+b:Nat):Int):=by
  show((a:Int)+b) % 18446744073709551616=_;omega
 grind [Int.fdiv_eq_ediv_of_nonneg,dL]
theorem xn{N:Nat}{key:α->aU}{l:List α}{s:aU}{φ:α->aU->Option Int}(hφ:∀x,φ x s=some (Lib.compareBytes (key x).bX s.bX))(hs:gZ key l)
  (hl:l.length<=1048576) (hN:4194304<=N):∃r,xm N l s φ=some r/\(bif(!r.2)then some (-1)else some r.1)=some (nat? key l s):=by
 unfold xm;have h:=sE (S:=Int×Int) (R:=Empty)
  (body:=(λ(s2:Int×Int)=>(bif decide (s2.1<s2.2)then((idx l<|wrap .i64<|Int.fdiv (wrap .u64<|wrap .i64<|s2.1+s2.2) 2).bind λx13=>(φ x13 s).bind λx16=>(bif decide (x16<0)then some (wrap .i64<|wrap .i64 (Int.fdiv (wrap .u64<|wrap .i64<|s2.1+s2.2) 2)+1,s2.2)else some (s2.1,wrap .i64<|Int.fdiv (wrap .u64<|wrap .i64<|s2.1+s2.2) 2)).bind λs17=>some<|.nx (s17.1,s17.2))else(some<|.br (s2.1,s2.2)):Option (Fl (Int×Int) Empty))))
  (λst=>∃a b:Nat,st=(((a:Nat):Int),((b:Nat):Int))/\a<=b/\b<=l.length/\(∀j x,j<a->l[j]? =some x->aU.lt (key x) s)/\(∀j x,b<=j->l[j]? =some x->¬aU.lt (key x) s))
  (λst=>(st.2 - st.1).toNat)
  (λst=>∃a:Nat,st.1=((a:Nat):Int)/\a<=l.length/\(∀j x,j<a->l[j]? =some x->aU.lt (key x) s)/\(∀j x,a<=j->l[j]? =some x->¬aU.lt (key x) s))
  (λ_=>True) (by
   rintro st⟨a,b,rfl,hab,hb,h1,h2⟩
   by_cases hlt:a<b
   ·have hm:(a+b) / 2<l.length:=by omega
    have hd:decide (((a:Nat):Int)<((b:Nat):Int))=true:=by grind
    simp only[hd,bL,wk hlt (by omega),iu l _ hm,aA,hφ]
    by_cases hc:Lib.compareBytes (key l[(a+b) / 2]).bX s.bX<0
    ·have hc':aU.lt (key l[(a+b) / 2]) s:=(ks _ _).1 hc;simp only[hc,decide_true,bL,aA];refine⟨_,rfl,⟨(a+b) / 2+1,b,?_,by omega,hb,λj x hj hx=>?_,h2⟩,?_⟩
     ·grind [dL]
     ·by_cases e:j=(a+b) / 2
      ·grind
      ·exact aU.lt_trans (hs j _ x _ (by omega) hx<|aM hm) hc'
     grind [dL]
    ·have hc':¬aU.lt (key l[(a+b) / 2]) s:=λh=>hc<|(ks _ _).2 h
     simp only[hc,decide_false,bK,aA];refine⟨_,rfl,⟨a,(a+b) / 2,rfl,by omega,by omega,h1,λj x hj hx=>?_⟩,by omega⟩
     by_cases e:j=(a+b) / 2
     ·grind
     ·exact λh3=>hc'<|aU.lt_trans (hs _ j _ x (by omega) (aM hm) hx) h3
   ·have hd:decide (((a:Nat):Int)<((b:Nat):Int))=false:=by rw[decide_eq_false_iff_not];omega
    simp only[hd,bK]
    exact⟨_,rfl,a,rfl,by omega,h1,λj x hj hx=>h2 j x (by omega) hx⟩)
  N (0,((l.length:Nat):Int)) ⟨0,l.length,rfl,by omega,bR _,λj x hj=>by omega,λj x hj hx=>by have:=(bS.1 hx).1;omega⟩ (by simp only;omega)
 obtain⟨o,ho,hc⟩:=h;rw[ho,aA]
 cases o with
 |rt r=>exact r.elim
 |go st=>
  obtain⟨a,ha,hle,h1,h2⟩:=hc;simp only[Fo.cs,ha]
  by_cases hlt:a<l.length
  ·have hd:decide (((a:Nat):Int)<((l.length:Nat):Int))=true:=by rw[fH];omega
   simp only[hd,bL,iu l _ hlt,aA,hφ];refine⟨_,rfl,?_⟩
   by_cases he:key l[a]=s
   ·have e0:Lib.compareBytes (key l[a]).bX s.bX=0:=(jF _ _).2 (by rw[he]);simp only[e0,BEq.rfl,rX,bK];unfold nat?;rw[lU (aM hlt) (lM.2 he) (λj y hj hy=>by rw[mA];exact aU.q8<|h1 j y hj hy)]
   ·have e0:(Lib.compareBytes (key l[a]).bX s.bX==0)=false:=by
     rw[beq_eq_false_iff_ne];intro h;exact he<|aU.ext'<|(jF _ _).1 h
    simp only[e0,rY,bL];unfold nat?;rw[yB];rw[List.any_eq_false];intro x hx;rw[kO,mA];obtain⟨j,hj⟩:=jP hx;intro hk
    by_cases hja:j<a
    ·exact aU.q8 (h1 j x hja hj) hk
    ·by_cases e:j=a
     ·subst e;rw[aM hlt]at hj;injection hj with hj;subst hj;exact he hk
     ·have h3:=hs a j _ x (by omega) (aM hlt) hj;rw[hk]at h3;exact h2 a _ (bR _) (aM hlt) h3
  ·have hd:decide (((a:Nat):Int)<((l.length:Nat):Int))=false:=by rw[decide_eq_false_iff_not];omega
   simp only[hd,bK,aA];refine⟨_,rfl,?_⟩;simp only[rY,bL];unfold nat?;rw[yB];rw[List.any_eq_false];intro x hx;rw[kO,mA];obtain⟨j,hj⟩:=jP hx;have:=(bS.1 hj).1;exact aU.q8<|h1 j x (by omega) hj
def F2(key:α->aU)(p0:List α)(p1:aU):Option Int:=
 (lY p0.length (λ(k1:Nat)(_:Unit)=>((idx p0 ((k1:Nat):Int)).bind λx7=>bif(key x7).jQ p1 then some (.rt ((k1:Nat):Int))else(some<|.nx ()):Option (Fl Unit Int))) ()).bind λo11=>o11.cs (λ(_:Unit)=>some<|-1)<|λr=>some r
theorem uY{key:α->aU}{l:List α}{s:aU}(hl:l.length<=4611686018427387904):F2 key l s=some (nat? key l s):=by
 have:=kf (l:=l) (φ:=λx=>some<|(key x).jQ s) (λx=>(key x).jQ s) hl<|λ_ _=>rfl
 unfold nat?;rw[<-this];rfl
def iO(key:α->aU)(l:List α)(k:Nat):Bool:=match l[k]?,l[k - 1]? with|some x,some y=>decide (0<k)&&((key x).lQ (key y)||(key x).jQ (key y))|_,_=>false
theorem p9(key:α->aU){l:List α}{k:Nat}{x:α}(hx:l[k]? =some x)(hl:l.length<=1048576):
  (bif decide (((k:Nat):Int)>0)then((idx l<|wrap .i64<|((k:Nat):Int) - 1).bind λy=>some<|(key x).lQ (key y)||(key x).jQ (key y))else some false)=some (iO key l k):=by
 grind [bS,iO,cI,kG,iu,aA,aM]
theorem lO{key:α->aU}{l:List α}(h:∀k,k<l.length->iO key l k=false):gZ key l:=by grind [A3,bS,iO,qu,decide_true,Ad]
end
end Go.Gk
namespace Go.Gk
open Go IntKind Go.ChangeShapes Go.WideShapes Go.RowKit
structure UB (ub:(H:Type)->DataW H->Nat) (ua:(H:Type)->List (DataW H)->Nat):Prop where
 str:∀(H:Type)(b:List UInt8),ub H (.lit<|.string b)=b.length+1
 pos:∀(H:Type)(d:DataW H),1<=ub H d
 sl:∀(H:Type)(e s:List (DataW H)),ub H (.slice e s)=ua H e+ua H s+1
 ag:∀(H:Type)(l:List (DataW H)),ub H (.agg l)=ua H l+1
 nil:∀(H:Type),ua H []=0
 cons:∀(H:Type)(x:DataW H)(l:List (DataW H)),ua H (x::l)=ub H x+ua H l
def Hw(w:World):cN:=λb=>w.heap[b]?
structure iP (ub:(H:Type)->DataW H->Nat) (P:Program) (T:TypeId) (α:Type) [GT α] [Bk α]:Prop where
 trod:∀{H:Type}{enc:TypeId×Value->H}{w:World}{base:Nat}{spare:Nat->Bool}{held:Bool}{fuel:Nat}{cs:List Value}{d:DataW H×List MemPlace},
  DataW.trod enc P w base spare held fuel T cs=some d->∃x:α,GT.ok (Hw w) cs x/\bk x<=ub H d.1
 F8:∀{w:World}{r:Reach}{base:Nat}{v:Value},Value.okWide P w r base T v->v=sV α v.cells.toList
section
variable {ub:(H:Type)->DataW H->Nat}{ua:(H:Type)->List (DataW H)->Nat}{P:Program}{T e:TypeId}
theorem A4(u:UB ub ua)(ht:P.underlying T=some (.int .i64)):iP ub P T Int where
 trod:=λh=>by
  obtain⟨n,rfl,rfl,_⟩:=DataW.trod_int ht h;exact⟨n,rfl,u.pos _ _⟩
 F8:=λh=>by obtain⟨n,rfl⟩:=okWide_int ht h;rfl
theorem A5(u:UB ub ua)(ht:P.underlying T=some .string):iP ub P T aU where
 trod:=λh=>by
  obtain⟨s,rfl,rfl,_⟩:=DataW.trod_string ht h;refine⟨⟨s.data.toList⟩,?_,?_⟩
  ·show [Value.string s]= [Gk.str ⟨s.data.toList⟩]
   cases s;rfl
  ·rw[u.str];exact bR _
 F8:=λh=>by obtain⟨n,rfl⟩:=okWide_string ht h;rfl
theorem tO{α:Type}{R:Nat->α->Prop}:∀(n:Nat),(∀i,i<n->∃x,R i x)->∃l:List α,l.length=n/\∀i x,l[i]? =some x->R i x
 | 0,_=>⟨[],rfl,λi x h=>by simp at h⟩
 |n+1,h=>by
  obtain⟨l,h1,h2⟩:=tO n<|λi hi=>h i (by omega)
  obtain⟨x,hx⟩:=h n (by omega);refine⟨l++[x],by simp[h1],λi y hy=>?_⟩
  by_cases hi:i<n
  ·rw[gR (by omega)]at hy;exact h2 i y hy
  ·have:=(bS.1 hy).1;rw[cL]at this;have:i=n:=by simp at this;omega
   subst this;rw[gu (by omega),h1]at hy;simp at hy;subst hy;exact hx
theorem wm{H α:Type}[Bk α](u:UB ub ua):∀{l:List α}{es:List (DataW H×List MemPlace)},l.length=es.length->
  (∀(i:Nat)(x:α)(y:DataW H×List MemPlace),l[i]? =some x->es[i]? =some y->bk x<=ub H y.1)->bk l<=ua H (es.map (·.1))+1
 | [],[],_,_=>by rw[zy];omega
 |x::l,y::es,hl,h=>by
  have h1:=h 0 x y rfl rfl;have h2:=wm (H:=H) u (l:=l) (es:=es) (by simpa using hl)<|λi x y hx hy=>h (i+1) x y (by simpa using hx) (by simpa using hy)
  rw[sF,fh,u.cons];omega
theorem yC{w:World}{base:Nat}{a:Addr}{n:Nat}{cs:List Value}(h:w.cells? base a n=some cs):At (Hw w) a cs:=by
 intro j v hv;obtain⟨_,hlen,hc⟩:=World.cells?_some h;have hj:=(bS.1 hv).1;have h2:=hc j (by omega);rw[hv]at h2;unfold rZ Hw;unfold World.cell? at h2;exact h2
theorem lF{α:Type}[GT α][Bk α](u:UB ub ua)(he:iP ub P e α)(ht:P.underlying T=some (.slice e):=by kernel_rfl)(hc:P.cellsOf e=GT.sz α:=by kernel_rfl):iP ub P T (List α)where
 trod:=λ{H enc w base spare held fuel cs d}h=>by
  rcases DataW.trod_slice ht h with⟨rfl,rfl⟩|⟨a,len,cap,elems,rest,n,_,rfl,rfl,_,hlc,hcm,hlen,hel,_⟩
  ·exact⟨[],⟨_,rfl,none,0,0,rfl,rfl,bR _,by simp[maxLen],λi x hx=>by simp at hx⟩,u.pos _ _⟩
  ·have each:∀i,i<len->∃x:α,(∃c y,GT.ok (Hw w) c x/\At (Hw w) (a.add<|i*GT.sz α) c/\elems[i]? =some y/\bk x<=ub H y.1):=by
    intro i hi;have h1:=hel i hi;rw[aM (by omega:i<elems.length),Option.bind_eq_some_iff]at h1;obtain⟨c,h2,h3⟩:=h1;obtain⟨x,h4,h5⟩:=he.trod h3;refine⟨x,c,_,h4,?_,aM (by omega),h5⟩;rw[hc]at h2;exact yC h2
   obtain⟨l,hl,hr⟩:=tO len each;refine⟨l,⟨_,rfl,some a,len,cap,rfl,hl.symm,hlc,hcm,λi x hx=>?_⟩,?_⟩
   ·obtain⟨c,y,h1,h2,_⟩:=hr i x hx;exact⟨a,c,rfl,h1,h2⟩
   ·have:=wm (H:=H) u (l:=l) (es:=elems) (by omega) (λi x y hx hy=>by
     obtain⟨c,y',_,_,h3,h4⟩:=hr i x hx
     rw[hy]at h3;injection h3 with h3;subst h3;exact h4)
    rw[u.sl];omega
 F8:=λh=>by obtain⟨a,n,c,rfl⟩:=okWide_slice ht h;rfl
def Af(ub:(H:Type)->DataW H->Nat)(ua:(H:Type)->List (DataW H)->Nat)(P:Program)(off:Nat)(fs:List Field)(β:Type)[GT β](m:β->Nat):Prop:=
 ∀{H:Type}{enc:TypeId×Value->H}{w:World}{base:Nat}{spare:Nat->Bool}{held:Bool}{n:Nat}{cs:List Value}{ys:List (DataW H×List MemPlace)},
  (∀(i:Nat)(f:Field),fs[i]? =some f->DataW.trod enc P w base spare held n f.type ((cs.drop f.offset).take<|P.cellsOf f.type)=ys[i]?)->ys.length=fs.length->
  cs.length=off+GT.sz β->∃x:β,GT.ok (Hw w) (cs.drop off) x/\m x<=ua H (ys.map (·.1))
theorem mB{β:Type}[GT β][Bk β]{off:Nat}{f:Field}(u:UB ub ua)(h:iP ub P f.type β)(ho:f.offset=off:=by exact rfl)(hc:P.cellsOf f.type=GT.sz β:=by kernel_rfl):Af ub ua P off [f] β bk:=by
 intro H enc w base spare held n cs ys hf hl hcs
 match ys,hl with
 | [y],_=>
  have h1:=hf 0 f rfl;rw[ho,hc,jM (by rw[dR];omega)]at h1;obtain⟨x,h2,h3⟩:=h.trod (d:=y) h1;exact⟨x,h2,by rw[fh,u.cons];omega⟩
theorem jG{α β:Type}[GT α][GT β][Bk α]{off off':Nat}{f:Field}{fs:List Field}{m:β->Nat}(u:UB ub ua)(h:iP ub P f.type α)(hr:Af ub ua P off' fs β m)(ho:f.offset=off:=by exact rfl)(hc:P.cellsOf f.type=GT.sz α:=by kernel_rfl)(hoff:off'=off+GT.sz α:=by exact rfl):Af ub ua P off (f::fs) (α×β) (λx=>bk x.1+m x.2):=by
 intro H enc w base spare held n cs ys hf hl hcs;have hsz:GT.sz (α×β)=GT.sz α+GT.sz β:=rfl
 match ys,hl with
 |y::ys,hl=>
  have h1:=hf 0 f rfl;rw[ho,hc]at h1;obtain⟨x,h2,h3⟩:=h.trod (d:=y) h1;obtain⟨x',h4,h5⟩:=hr (n:=n) (cs:=cs) (ys:=ys) (λi g hg=>hf (i+1) g hg) (by simpa using hl) (by omega);refine⟨(x,x'),⟨_,_,?_,h2,h4⟩,?_⟩
  ·rw[hoff,<-List.drop_drop,List.take_append_drop]
  ·rw[fh,u.cons];show bk x+m x'<=_;omega
theorem jX{γ β:Type}[GT β][Bk γ]{fs:Array Field}{m:β->Nat}(u:UB ub ua)(f:γ->β)(g:β->γ)(hfg:∀b,f (g b)=b)(ht:P.underlying T=some (.struct fs))(h:Af ub ua P 0 fs.toList β m)(hm:∀b,bk (g b)<=m b+1)(hc:P.cellsOf T=GT.sz β:=by kernel_rfl): @iP ub P T γ (GT.via f) _:=
 @iP.mk ub P T γ (GT.via f) _
  (λ{H enc w base spare held fuel cs d}hd=>by
   obtain⟨xs,n,_,rfl,hl,hlen,hf⟩:=DataW.trod_struct ht hd;obtain⟨b,h1,h2⟩:=h (n:=n) (cs:=cs) (ys:=xs) (λi g hg=>hf i g (by rw[<-Array.getElem?_toList];exact hg)) (by rw[hlen];simp) (by omega);refine⟨g b,?_,?_⟩
   ·show GT.ok (Hw w) cs (f<|g b);rw[hfg];exact h1
   ·rw[u.ag];have:=hm b;omega)
  (λhv=>by
   obtain⟨cs,rfl,_⟩:=okWide_struct ht hv
   cases cs;rfl)
theorem iP.arg{H:Type}{enc:TypeId×Value->H}{w:World}{base:Nat}{spare:Nat->Bool}{held:Bool}{r:Reach}{b0:Nat}{v:Value}{d:DataW H}{ps:List MemPlace}{α:Type}[GT α][Bk α](o:iP ub P T α)
  (hv:Value.okWide P w r b0 T v) (hd:DataW.Trod enc P w base spare held T v d ps):∃x:α,qX (Hw w) v x/\bk x<=ub H d:=by
 obtain⟨fuel,hf⟩:=hd;obtain⟨x,h1,h2⟩:=o.trod hf;exact⟨x,⟨_,o.F8 hv,h1⟩,h2⟩
end
theorem Calls.fin{P:Program}{f:FuncId}{args:Array Value}{w:World}{R Q:Value->World->Prop}(h:Calls P f args w (fi R))(k:∀v w',R v w'->Q v w'):
  Calls P f args w (λe W'=>∃v,e = .returned v/\Q v W'):=Calls.mono h λ_ w'⟨v,e,hr⟩=>⟨v,e,k v w' hr⟩
def A6(W:World):HP:=⟨λM h=>hle (Hw W) M/\h=lP,λk⟨a,b⟩=>⟨Ax a k,b⟩⟩
theorem Holds.begin(W:World):Holds W W [A6 W]:=by
 refine⟨Hw W,λ_=>lP,⟨rfl,rfl,rfl,bR _,λb o h=>h,λi Pr hq=>?_,λ_ _ _ _ h=>(by cases h),λ_ _ _ _ h=>(by cases h),λ_ _ _ _ _ _ _ h=>(by cases h)⟩⟩
 match i,hq with
 | 0,hq=>simp at hq;subst hq;exact⟨BA _,rfl⟩
theorem Holds.Cq{α:Type}[GT α]{W:World}{V:List HP}{v:Value}{x:α}(h:Holds W W (V++[A6 W]))(hv:Gk.qX (Hw W) v x):Holds W W (rd v x::(V++[A6 W])):=
 h.uw λM hs g=>by
  have h1:=(g.sat V.length (A6 W) (by simp)).1;exact⟨hv.mono h1,rfl⟩
theorem Holds.kept{E W w:World}{V:List HP}(h:Holds E w (V++[A6 W]))(he:E=W):Below W.heap.size W w:=by
 subst he;obtain⟨M,hs,g⟩:=h;have h1:=(g.sat V.length (A6 E) (by simp)).1;have h2:∀k o,E.heap[k]? =some o->w.heap[k]? =some o:=λk o ho=>g.im k o<|h1 k o ho
 refine⟨g.os,g.tape,g.out,?_,λk hk=>?_⟩
 ·by_cases h0:E.heap.size=0
  ·omega
  ·have h3:=h2 (E.heap.size - 1) _<|dX (by omega)
   have:=(Array.getElem?_eq_some_iff.1 h3).1;omega
 ·rw[dX hk];exact h2 k _<|dX hk
section
variable {H:Type}{enc:TypeId×Value->H}{P:Program}
theorem A7{f:Func}{s:ChangeSpec}{apart fresh handsOn again:Bool}{W W':World}{args:Array Value}{v:Value}{ds gs:List (DataW H)}{before pa pv:List MemPlace}
  (hW:DataW.Whole enc P f.params.toList s.vars apart W args.toList ds gs before)
  (hres:∀(b:Nat)(sp:Nat->Bool)(hd:Bool),DataW.TrodAll enc P W' b sp hd f.resultTypes.toList (v.resultList f.resultTypes.size) (s.fn H<|ds++gs).results [])
  (hargs:∀sp:Nat->Bool,(∀p∈before,sp p.block=true)->DataW.TrodAll enc P W' 0 sp true f.params.toList args.toList (s.fn H<|ds++gs).args pa)
  (hvars:∀sp:Nat->Bool,(∀p∈before,sp p.block=true)->DataW.TrodVars enc P W' sp s.vars (s.fn H<|ds++gs).vars pv)
  (hps:before=pa++pv) (hb:Below W.heap.size W W')
  (hok:∀(j:Nat)(t:TypeId)(r:Value),f.resultTypes[j]? =some t->(v.resultList f.resultTypes.size)[j]? =some r->Value.okWide P W' .any 0 t r):
  s.post enc P f apart fresh handsOn again W args v W':=by
 have hlt:∀p∈before,p.block<W.heap.size:=λp hp=>hW.lt p hp;have hold:∀p∈before,(λb=>decide<|b<W.heap.size) p.block=true:=λp hp=>by simpa using hlt p hp
 refine⟨ds,gs,before,[],pa,pv,hW,hres _ _ _,hargs _ hold,hvars _ hold,World.keptBut_mono (λp hp=>⟨hp,?_⟩)<|hb.frame (· ∈before),λ_=>?_⟩
 ·rw[hps,jZ]at hp;exact Or.inr hp
 ·obtain⟨_,_,_,_,_,hz,hn⟩:=hW;refine⟨hok,_,_,([]++pa)++pv,⟨[]++pa,pv,trodAll_append (hargs _<|λ_ _=>rfl)<|hres _ _ _,hvars _<|λ_ _=>rfl,rfl,?_,?_⟩,?_⟩
  ·intro b off hp;have hin:MemPlace.cell b off∈before:=by rw[hps];simpa using hp
   rw[hb.frozen<|hlt _ hin];exact hz b off hin
  ·intro ha;have:=hn ha;rw[hps]at this;simpa using this
  ·intro p hp _;rw[hps];simpa using hp
theorem q9{W W':World}(hl:laidOutB P=true)(hb:Below W.heap.size W W'){sp:Nat->Bool}:∀{ts:List TypeId}{vs:List Value}{ds:List (DataW H)}{ps:List MemPlace},
  (∀t∈ts,P.readableRec t=true/\t<P.types.size)->DataW.TrodAll enc P W 0 (λ_=>true) true ts vs ds ps->(∀p∈ps,p.block<W.heap.size)->(∀p∈ps,sp p.block=true)->DataW.TrodAll enc P W' 0 sp true ts vs ds ps
 | [],_,_,_,_,h,_,_=>by
  obtain⟨rfl,rfl,rfl⟩:=trodAll_nil h;rfl
 |t::ts,_,_,_,ht,h,hlt,hsp=>by
  obtain⟨v,vs,d,ds,p,q,rfl,rfl,rfl,h1,h2⟩:=trodAll_cons h;refine⟨p,q,?_,q9 hl hb (λt h=>ht t (by simp[h])) h2 (λx hx=>hlt x (by simp[hx]))<|λx hx=>hsp x (by simp[hx]),rfl⟩;exact WideElems.Trod_stays hl (ht t (by simp)).1 (ht t (by simp)).2 h1 (λx hx=>hb.same<|hlt x (by simp[hx]))<|λx hx=>hsp x (by simp[hx])
end
end Go.Gk
namespace Go.Gk
open Go IntKind
instance:Bk bA:=⟨λx=>bk x.Name+bk x.Kind+bk x.bC+1,λ_=>by omega⟩
theorem rD(x:bA):bk x=bk x.Name+bk x.Kind+bk x.bC+1:=rfl
instance:Bk aD:=⟨λx=>bk x.Name+bk x.aQ+1,λ_=>by omega⟩
theorem kH(x:aD):bk x=bk x.Name+bk x.aQ+1:=rfl
instance:Bk Part:=⟨λx=>bk x.Name+bk x.cM+1,λ_=>by omega⟩
theorem xp(x:Part):bk x=bk x.Name+bk x.cM+1:=rfl
instance:Bk cC:=⟨λx=>bk x.Part+bk x.cC+1,λ_=>by omega⟩
theorem Ev(x:cC):bk x=bk x.Part+bk x.cC+1:=rfl
instance:Bk Net:=⟨λx=>bk x.Name+bk x.aQ+bk x.mh+1,λ_=>by omega⟩
theorem tm(x:Net):bk x=bk x.Name+bk x.aQ+bk x.mh+1:=rfl
instance:Bk aH:=⟨λx=>bk x.aJ+bk x.aZ+1,λ_=>by omega⟩
theorem mK(x:aH):bk x=bk x.aJ+bk x.aZ+1:=rfl
instance:Bk aT:=⟨λx=>bk x.part+bk x.j6+bk x.mark+1,λ_=>by omega⟩
instance:Bk aB:=⟨λx=>bk x.e0+bk x.e1+1,λ_=>by omega⟩
instance:Bk aO:=⟨λx=>bk x.t+bk x.l+bk x.parts+bk x.pA+1,λ_=>by omega⟩
instance:Bk aX:=⟨λx=>bk x.A+bk x.B+1,λ_=>by omega⟩
end Go.Gk
namespace Go.Gk
open Go IntKind Go.Sort
section
variable {α:Type}
theorem tP{β:Type}(a:Array β){n:Nat}(h:a.size=n):a.extract 0 n=a:=by grind
theorem Ew{φ:α->α->Option Int}{l:List α}(cf:α->α->Int)(hφ:∀x∈l,∀y∈l,φ x y=some (cf x y))(h1:∀x∈l,¬cf x x<0)
  (h2:∀x∈l,∀y∈l,∀z∈l,cf x y<0->cf y z<0->cf x z<0) (h3:∀x∈l,∀y∈l,∀z∈l,¬cf x y<0->¬cf y z<0->¬cf x z<0):SWO (DN<|uL φ l):=by
 have hm:∀i:Fin l.length,l[i]∈l:=λi=>eD i.isLt;have e:∀i j:Fin l.length,uL φ l i j=cf l[i] l[j]:=λi j=>by grind [uL]
 refine⟨λx=>?_,λx y z=>?_,λx y z=>?_⟩
 all_goals grind [DN,decide_eq_false_iff_not]
theorem Cv{φ:α->α->Option Int}{l:List α}(cf:α->α->Int)(hφ:∀x∈l,∀y∈l,φ x y=some (cf x y))(h1:∀x∈l,¬cf x x<0)
  (h2:∀x∈l,∀y∈l,∀z∈l,cf x y<0->cf y z<0->cf x z<0) (h3:∀x∈l,∀y∈l,∀z∈l,¬cf x y<0->¬cf y z<0->¬cf x z<0) (hl:l.length<4611686018427387904):
  ∃m,ph φ l=some m/\m.Perm l/\m.Pairwise (λx y=>¬cf y x<0):=by
 have hO:=Ew cf hφ h1 h2 h3;have hm:∀i:Fin l.length,l[i]∈l:=λi=>eD i.isLt;have hc:(∀i j:Fin l.length,∃c,φ l[i] l[j]=some c):=λi j=>⟨_,hφ _ (hm i) _<|hm j⟩;refine⟨yc φ l,by simp_all[ph,aG],?_⟩;unfold yc
 by_cases hn:0<l.length
 ·rw[dif_pos hn]
  letI inh:Inhabited (Fin l.length):=⟨⟨0,hn⟩⟩
  have hds:(Array.ofFn λi:Fin l.length=>i).size=l.length:=by simp
  obtain⟨hp,hs⟩:=pdq_sorts (DN<|uL φ l) hO (Array.ofFn λi:Fin l.length=>i) 0 l.length (Lib.bitLen l.length) true true (mm _) (by omega)<|Or.inl rfl
  show(List.map (λi=>l[i]) (pdq (DN<|uL φ l) (Array.ofFn λi:Fin l.length=>i) 0 l.length (Lib.bitLen l.length) true true).toList).Perm l/\_;generalize pdq (DN<|uL φ l) (Array.ofFn λi:Fin l.length=>i) 0 l.length (Lib.bitLen l.length) true true=d' at hp hs;obtain⟨hz,_,hpm⟩:=hp;have hz':d'.size=l.length:=hz.trans hds;rw[tP d' hz',tP _ hds]at hpm;have hof:(Array.ofFn λi:Fin l.length=>i).toList.map (λi=>l[i])=l:=by
   rw[Array.toList_ofFn,List.map_ofFn];exact List.ofFn_getElem
  refine⟨(hpm.map<|λi=>l[i]).trans<|List.Perm.of_eq hof,?_⟩;rw[List.pairwise_map,nj];intro i j hi hj hij;rw[Array.length_toList]at hi hj;have:=hs i j (mm _) hij (by omega)
  grind [uL,DN,decide_eq_false_iff_not]
 ·rw[dif_neg hn];have:l= []:=List.length_eq_zero_iff.1 (by omega);subst this;exact⟨List.Perm.refl _,List.Pairwise.nil⟩
end
end Go.Gk
namespace Go.Gk
open Go IntKind
def Ok{β:Type}(o:Option β)(P:β->Prop):Prop:=∃r,o=some r/\P r
section
variable {α β S R:Type}{P:α->Prop}{Q:β->Prop}
theorem Ip{x:β}(h:Q x):Ok (some x) Q:=⟨x,rfl,h⟩
theorem Ki{o:Option β}{x:β}(h:o=some x)(hq:Q x):Ok o Q:=⟨x,h,hq⟩
theorem Ok.mono{o:Option α}{P':α->Prop}(h:Ok o P)(k:∀x,P x->P' x):Ok o P':=by obtain⟨x,h1,h2⟩:=h;exact⟨x,h1,k x h2⟩
theorem Ir{o:Option α}{f:α->Option β}(h:Ok o P)(k:∀x,P x->Ok (f x) Q):Ok (o.bind f) Q:=by
 obtain⟨x,h1,h2⟩:=h;grind
theorem IB{o:Option α}{f:α->Option β}{x:α}(h:o=some x)(k:Ok (f x) Q):Ok (o.bind f) Q:=by grind
theorem IZ{b:Bool}{x y:Option β}(ht:b=true->Ok x Q)(hf:b=false->Ok y Q):Ok (bif b then x else y) Q:=by
 grind
theorem Jy{o:Option β}{x:β}(h:Ok o (λr=>r=x)):o=some x:=by obtain⟨r,h1,h2⟩:=h;rw[h1,h2]
def F9(Go:S->Prop)(Rt:R->Prop):Fo S R->Prop| .go s=>Go s| .rt r=>Rt r
def Ex(Nx Br:S->Prop)(Rt:R->Prop):Fl S R->Prop| .nx s=>Nx s| .br s=>Br s| .rt r=>Rt r
theorem I9{Nx Br:S->Prop}{Rt:R->Prop}{s:S}(h:Nx s):Ok (some<|Fl.nx s) (Ex Nx Br Rt):=⟨_,rfl,h⟩
theorem Jz{Nx Br:S->Prop}{Rt:R->Prop}{s:S}(h:Br s):Ok (some<|Fl.br s) (Ex Nx Br Rt):=⟨_,rfl,h⟩
theorem JA{Nx Br:S->Prop}{Rt:R->Prop}{r:R}(h:Rt r):Ok (some (Fl.rt r:Fl S R)) (Ex Nx Br Rt):=⟨_,rfl,h⟩
theorem I_{Go:S->Prop}{Rt:R->Prop}{o:Fo S R}{f:S->Option β}{g:R->Option β}(h:F9 Go Rt o)(hf:∀s,Go s->Ok (f s) Q)(hg:∀r,Rt r->Ok (g r) Q):Ok (o.cs f g) Q:=by
 cases o with
 |go s=>exact hf s h
 |rt r=>exact hg r h
theorem I6{body:Nat->S->Option S}{m:Nat}{s:S}(Inv:Nat->S->Prop)(hm:m<=4611686018427387904)(h0:Inv 0 s)(h:∀k s,k<m->Inv k s->Ok (body k s) (Inv<|k+1)):Ok (jm m body s) (Inv m):=
 Ds Inv hm h0 h
theorem KI{body:Nat->S->Option (Fl S R)}{m:Nat}{s:S}(Inv:Nat->S->Prop){Go:S->Prop}{Rt:R->Prop}(hm:m<=4611686018427387904)(h0:Inv 0 s)
  (h:∀k s,k<m->Inv k s->Ok (body k s) (Ex (Inv<|k+1) Go Rt)) (hg:∀s,Inv m s->Go s):Ok (lY m body s) (F9 Go Rt):=by
 obtain⟨o,h1,h2⟩:=Dr (R:=R) Inv Go Rt hm h0 (λk s hk hi=>by
  obtain⟨fl,a1,a2⟩:=h k s hk hi
  exact⟨fl,a1,by cases fl <;> exact a2⟩) hg
 exact⟨o,h1,by cases o <;> exact h2⟩
theorem Jh{body:S->Option (Fl S R)}{N:Nat}{s:S}(Inv:S->Prop)(μ:S->Nat){Go:S->Prop}{Rt:R->Prop}
  (h:∀s,Inv s->Ok (body s) (Ex (λs'=>Inv s'/\μ s'<μ s) Go Rt)) (hi:Inv s) (hn:μ s<N):Ok (mn body N s) (F9 Go Rt):=by
 obtain⟨o,h1,h2⟩:=sE (R:=R) Inv μ Go Rt (λs hi=>by
  obtain⟨fl,a1,a2⟩:=h s hi
  exact⟨fl,a1,by cases fl <;> exact a2⟩) N s hi hn
 exact⟨o,h1,by cases o <;> exact h2⟩
theorem KU{b:Nat}{l ys:List α}{f:List α->Option β}(h:(l.length+ys.length)*b<=140737488355328)(k:Ok (f<|l++ys) Q):Ok ((Go.Gk.app b l ys).bind f) Q:=by grind [dE]
theorem II{l:List α}{i:Nat}{f:α->Option β}(h:i<l.length)(k:Ok (f l[i]) Q):Ok ((Go.Gk.idx l ((i:Nat):Int)).bind f) Q:=by grind [iu]
theorem JM{l:List α}{i:Nat}{x:α}{f:α->Option β}(h:l[i]? =some x)(k:Ok (f x) Q):Ok ((Go.Gk.idx l ((i:Nat):Int)).bind f) Q:=by grind [cD]
end
theorem wrap_add{n m:Nat}(h:n+m<=4611686018427387904):wrap .i64 (((n:Nat):Int)+((m:Nat):Int))=((n+m:Nat):Int):=by grind [dL]
theorem iv{n:Nat}(h:n+1<=4611686018427387904):wrap .i64 (((n:Nat):Int)+1)=((n+1:Nat):Int):=by grind [dL]
theorem mb{α:Type}[DecidableEq α]:∀{l m:List α},l.Nodup->(∀x∈l,x∈m)->l.length<=m.length
 | [],m,_,_=>mm _
 |a::l,m,hn,hs=>by
  have ha:a∈m:=hs a (by simp);have hn':=List.nodup_cons.1 hn
  have:=mb (l:=l) (m:=m.erase a) hn'.2 (λx hx=>by
   grind)
  rw[List.length_erase_of_mem ha]at this;have:=List.length_pos_of_mem ha;simp;omega
section
variable {α:Type}{N:Nat}
end
section
variable {κ ν:Type}[DecidableEq κ]
theorem tt(m:List (κ×ν))(k k':κ)(x z:ν):ew (fR m k x) k' z=if k'=k then x else ew m k' z:=by
 induction m with
 |nil=>grind [fR,ew]
 |cons p m ih=>
  grind [fR,ew,bU,cI]
theorem A9(m:List (κ×ν))(k k':κ)(x:ν):lA (fR m k x) k'=(decide (k'=k)||lA m k'):=by
 induction m with
 |nil=>rfl
 |cons p m ih=>
  unfold fR
  grind [lA,bU,decide]
def mS(m:List (κ×ν))(l:List κ)(x:ν):List (κ×ν):=l.foldl (λm k=>fR m k x) m
theorem u7(l:List κ)(x z:ν)(k:κ):∀(m:List (κ×ν)),ew (mS m l x) k z=if k∈l then x else ew m k z:=by
 induction l with
 |nil=>simp[mS]
 |cons a l ih=>
  intro m;show ew (mS (fR m a x) l x) k z=_
  grind [tt]
theorem zA(l:List κ)(x:ν)(k:κ):∀(m:List (κ×ν)),lA (mS m l x) k=(decide (k∈l)||lA m k):=by
 induction l with
 |nil=>simp[mS]
 |cons a l ih=>
  intro m;show lA (mS (fR m a x) l x) k=_
  grind [A9]
theorem wq{l:List κ}{m:List (κ×ν)}(x:ν)(hl:l.length<=4611686018427387904):
  jm l.length (λ(k:Nat)(s:List (κ×ν))=>((idx l ((k:Nat):Int)).bind λy=>some (fR s y x):Option (List<|κ×ν))) m=some (mS m l x):=by
 rw[k8 (s:=m) (λk=>mS m (l.take k) x) hl rfl (λk hk=>by
  grind [iu,aA,mS,fo]),eR]
end
structure mx {α:Type} (cf:α->α->Int):Prop where
 refl:∀x,cf x x=0
 eq:∀x y,cf x y=0->x=y
 xr:∀x y,cf x y<0↔0<cf y x
 trans:∀x y z,cf x y<0->cf y z<0->cf x z<0
def gz(a b:Int):Int:=if a<b then -1 else if b<a then 1 else 0
def cmpL:List Int->List Int->Int
 | [],[]=>0
 | [],_::_=> -1
 |_::_,[]=>1
 |x::a,y::b=>if x<y then -1 else if y<x then 1 else cmpL a b
theorem ou:∀a:List Int,cmpL a a=0
 | []=>rfl
 |x::a=>by unfold cmpL;rw[aK (by omega),aK (by omega)];exact ou a
theorem cmpL_eq:∀a b:List Int,cmpL a b=0->a=b
 | [],[],_=>rfl
 | [],_::_,h=>by unfold cmpL at h;omega
 |_::_,[],h=>by unfold cmpL at h;omega
 |x::a,y::b,h=>by
  unfold cmpL at h;split at h
  ·omega
  split at h
  ·omega
  have:=cmpL_eq a b h;have:x=y:=by omega
  grind
theorem tu:∀a b:List Int,cmpL a b<0↔0<cmpL b a
 | [],[]=>by unfold cmpL;omega
 | [],_::_=>by unfold cmpL;omega
 |_::_,[]=>by unfold cmpL;omega
 |x::a,y::b=>by
  have:=tu a b;unfold cmpL;split <;> split <;> (try split) <;> omega
theorem rL:∀a b c:List Int,cmpL a b<0->cmpL b c<0->cmpL a c<0
 | [],[],c,h,_=>by unfold cmpL at h;omega
 | [],y::b,[],h,h2=>by unfold cmpL at h2;omega
 | [],y::b,z::c,h,h2=>by unfold cmpL;omega
 |x::a,[],c,h,_=>by unfold cmpL at h;omega
 |x::a,y::b,[],h,h2=>by unfold cmpL at h2;omega
 |x::a,y::b,z::c,h,h2=>by
  have:=rL a b c;unfold cmpL at h h2 ⊢
  repeat' split at h
  all_goals repeat' split at h2
  all_goals repeat' split
  all_goals omega
theorem jt:mx cmpL:=⟨ou,cmpL_eq,tu,rL⟩
section
variable {α:Type}{cf:α->α->Int}
def SD(cf:α->α->Int)(d:List α):Prop:=d.Pairwise λx y=>cf x y<0
theorem mx.Ey(h:mx cf)(x y:α):cf x y<0\/x=y\/cf y x<0:=by
 have h2:=h.xr y x
 by_cases h0:cf x y=0
 ·exact .inr<|.inl<|h.eq x y h0
 ·omega
theorem mx.EL(h:mx cf){x:α}(hx:cf x x<0):False:=by have:=h.refl x;omega
theorem SD.nodup(h:mx cf){d:List α}(hd:SD cf d):d.Nodup:=List.Pairwise.imp (S:=λa b=>a≠b) (λ{a b}hab e=>by subst e;exact h.EL hab) hd
theorem SD.ext(h:mx cf){d e:List α}(hd:SD cf d)(he:SD cf e)(hm:∀x,x∈d↔x∈e):d=e:=by
 have hp:d.Perm e:=by
  classical
  rw[List.perm_iff_count];intro x;have h1:=List.nodup_iff_count.1 (hd.nodup h) x;have h2:=List.nodup_iff_count.1 (he.nodup h) x
  by_cases hx:x∈d
  ·have:=List.count_pos_iff.2 hx;have:=List.count_pos_iff.2<|(hm x).1 hx
   omega
  ·rw[List.count_eq_zero_of_not_mem hx,List.count_eq_zero_of_not_mem<|λhh=>hx<|(hm x).2 hh]
 exact List.Perm.eq_of_pairwise (le:=λa b=>cf a b<0) (λa b _ _ h1 h2=>(h.EL<|h.trans _ _ _ h1 h2).elim) hd he hp
def eT(cf:α->α->Int)(l d:List α):Prop:=SD cf d/\∀x,x∈d↔x∈l
theorem eT.uniq(h:mx cf){l m d e:List α}(hd:eT cf l d)(he:eT cf m e)(hm:∀x,x∈l↔x∈m):d=e:=
 hd.1.ext h he.1 λx=>by rw[hd.2,he.2,hm]
theorem eT.len [DecidableEq α](h:mx cf){l d:List α}(hd:eT cf l d):d.length<=l.length:=mb (hd.1.nodup h) λx hx=>(hd.2 x).1 hx
def tv [DecidableEq α](d:List α)(x:α):Int:=vJ d λy=>decide<|x=y
theorem Ez [DecidableEq α]{d:List α}(hn:d.Nodup){k:Nat}{x:α}(hk:d[k]? =some x):tv d x=((k:Nat):Int):=by
 refine lU hk (by simp) λj y hj hy=>?_;rw[decide_eq_false_iff_not];rintro rfl;have h1:=(bS.1 hk).1;have h2:=(bS.1 hy).1;have:=(List.getElem_inj hn (h₀:=h2) (h₁:=h1)).1 (by grind);omega
theorem Cw [DecidableEq α]{d:List α}{x:α}(hx:x∈d):∃k,k<d.length/\tv d x=((k:Nat):Int)/\d[k]? =some x:=by
 rcases iN d (λy=>decide<|x=y)with⟨h1,h2⟩|⟨k,y,h1,h2,h3,h4⟩
 ·have:=h2 x hx;simp at this
 ·have:=of_decide_eq_true h3;subst this;exact⟨k,(bS.1 h2).1,h1,h2⟩
theorem yF [DecidableEq α](h:mx cf){l d:List α}(hd:eT cf l d):eT gz (l.map<|tv d) ((List.range d.length).map λ(k:Nat)=>(k:Int)):=by
 refine⟨?_,λx=>?_⟩
 ·unfold SD;rw[List.pairwise_map];refine List.Pairwise.imp (λ{a b}hab=>?_) List.pairwise_lt_range;unfold gz;rw[aG (by omega)];decide
 ·simp only[eL,dY];constructor
  ·rintro⟨k,hk,rfl⟩;exact⟨d[k],(hd.2 _).1<|eD hk,Ez (hd.1.nodup h)<|aM hk⟩
  ·rintro⟨y,hy,rfl⟩;obtain⟨k,hk,h1,_⟩:=Cw<|(hd.2 y).2 hy
   exact⟨k,hk,h1.symm⟩
theorem kx:mx gz:=by
 refine⟨λx=>?_,λx y h=>?_,λx y=>?_,λx y z h h2=>?_⟩
 ·unfold gz;split <;> (try split) <;> omega
 ·unfold gz at h;split at h <;> (try split at h) <;> omega
 ·unfold gz;split <;> split <;> (try split) <;> omega
 ·have h3:x<y:=by unfold gz at h;split at h <;> (try split at h) <;> omega
  have h4:y<z:=by unfold gz at h2;split at h2 <;> (try split at h2) <;> omega
  unfold gz;rw[aG (by omega)];omega
def SW(cf:α->α->Int)(d:List α):Prop:=d.Pairwise λx y=>¬cf y x<0
theorem SW.uniq(h:mx cf){l m:List α}(hl:SW cf l)(hm:SW cf m)(hp:l.Perm m):l=m:=
 List.Perm.eq_of_pairwise (le:=λa b=>¬cf b a<0) (λa b _ _ h1 h2=>by rcases h.Ey a b with e|e|e <;> grind) hl hm hp
theorem mx.sort(h:mx cf){φ:α->α->Option Int}{l:List α}(hφ:∀x∈l,∀y∈l,φ x y=some (cf x y))(hl:l.length<4611686018427387904):∃m,ph φ l=some m/\m.Perm l/\SW cf m:=
 Cv cf hφ (λx _=>λhx=>h.EL hx) (λx _ y _ z _=>h.trans x y z) (λx _ y _ z _ h1 h2 h3=>by
  rcases h.Ey x y with e|e|e
  ·exact h1 e
  ·subst e;exact h2 h3
  ·exact h2 (h.trans _ _ _ e h3)) hl
end
section
variable {α β:Type}[DecidableEq β]{cf:α->α->Int}{cg:β->β->Int}
theorem Ag{l:List α}{m:List β}{d:List α}{e:List β}(hd:eT cf l d)(hc:mx cg)(he:eT cg m e)(f:α->β)(hf:∀y∈m,∃x∈l,f x=y):e.length<=d.length:=by
 have:=mb (m:=d.map f) (he.1.nodup hc) (λy hy=>by
  obtain⟨x,hx,rfl⟩:=hf y<|(he.2 y).1 hy
  exact List.mem_map_of_mem ((hd.2 x).2 hx))
 simpa using this
end
section
variable {N:Nat}
def Ba(c:UInt8):Bool:=
 (((decide (((c.toNat:Nat):Int)<65)||decide (((c.toNat:Nat):Int)>90))&&(decide (((c.toNat:Nat):Int)<97)||decide (((c.toNat:Nat):Int)>122)))&&(decide (((c.toNat:Nat):Int)<48)||decide (((c.toNat:Nat):Int)>57)))&&decide (Lib.indexByte [95,43,45,35] c<0)
def isWord(s:aU):Bool:= !s.bX.any Ba&&(decide (1<=s.bX.length)&&decide (s.bX.length<=40))
theorem sM(s:aU)(c:UInt8):fx N s ((c.toNat:Nat):Int)=some (Lib.indexByte s.bX c):=by
 show some (Lib.indexByte s.bX (Int.toNat ((c.toNat:Nat):Int)).toUInt8)=_;simp
theorem u9{R:Type}(b1:Bool)(c:UInt8)(r:R):
  ((bif b1 then((fx N (⟨[95,43,45,35]⟩) ((c.toNat:Nat):Int)).bind λx14=>some<|decide<|x14<0)else some false).bind λs12=>bif s12 then some (.rt r)else(some<|.nx ()):Option (Fl Unit R))=some (if(b1&&decide (Lib.indexByte [95,43,45,35] c<0))=true then .rt r else .nx ()):=by
 rw[sM,aA]
 grind
theorem lj{s:aU}(h:s.bX.length<=2097152):gL N s=some (isWord s):=by
 unfold gL
 rw[sG Ba false (by omega) (λk x hx=>by
  have hk:=(bS.1 hx).1;have e:xO s ((k:Nat):Int)=some x:=by grind [yz,aM]
  rw[e,aA]
  exact u9 (R:=Bool) _ x false),aA]
 unfold isWord
 grind [Ba,Fo.cs,rY,Bool.false_eq_true,Option.some.injEq]
theorem nR{s:aU}(h:s.bX.length<=2097152):eF N s=some (isWord s):=by
 unfold eF
 rw[sG Ba false (by omega) (λk x hx=>by
  have hk:=(bS.1 hx).1;have e:xO s ((k:Nat):Int)=some x:=by rw[yz s k hk,<-aM hk,hx]
  rw[e,aA];refine(u9 (R:=Bool) _ x false).trans ?_;unfold Ba
  rw[Bool.and_comm (_||_) (_||_)]),aA]
 unfold isWord dV
 cases s.bX.any Ba
 ·simp only[Fo.cs,aA,rY,Bool.true_and,Bool.false_eq_true,if_false,Option.some.injEq];rw[iB,cO,cO];simp only[fH];omega
 ·simp[Fo.cs]
def cutAt(c:UInt8):List UInt8->List (List UInt8)
 | []=>[[]]
 |b::l=>if b==c then []::cutAt c l else match cutAt c l with|h::t=>(b::h)::t| []=>[[b]]
theorem va{c:UInt8}:∀{l:List UInt8},c∉l->cutAt c l= [l]
 | [],_=>rfl
 |b::l,h=>by
  unfold cutAt;have hb:(b==c)=false:=by rw[beq_eq_false_iff_ne];rintro rfl;exact h (by simp)
  rw[hb,va<|λh'=>h (by simp[h'])];rfl
theorem yG{c:UInt8}:∀{a b:List UInt8},c∉a->cutAt c (a++c::b)=a::cutAt c b
 | [],b,_=>by rw[List.nil_append];show(if(c==c)=true then _ else _)=_;simp
 |x::a,b,h=>by
  have hb:(x==c)=false:=by rw[beq_eq_false_iff_ne];rintro rfl;exact h (by simp)
  have ih:=yG (c:=c) (a:=a) (b:=b)<|λh'=>h (by simp[h'])
  show(if(x==c)=true then []::cutAt c (a++c::b)else match cutAt c (a++c::b)with|h::t=>(x::h)::t| []=>[[x]])=_;rw[hb,ih];rfl
theorem qm:∀(l:List UInt8)(c:UInt8),(Lib.indexByte l c = -1/\c∉l)\/∃a b,l=a++c::b/\c∉a/\Lib.indexByte l c=((a.length:Nat):Int)
 | [],c=> .inl ⟨rfl,by simp⟩
 |x::l,c=>by
  unfold Lib.indexByte
  by_cases hx:x=c
  ·subst hx;exact .inr ⟨[],l,rfl,by simp,by simp⟩
  ·have hb:(x==c)=false:=by rw[beq_eq_false_iff_ne];exact hx
   rcases qm l c with⟨h1,h2⟩|⟨a,b,h1,h2,h3⟩
   ·left;rw[hb,h1];refine⟨by simp,?_⟩;simp[h2];exact λh=>hx h.symm
   ·right;refine⟨x::a,b,by rw[h1];rfl,by grind,?_⟩;rw[hb,h3];have:(((a.length:Nat):Int)== -1)=false:=by rw[beq_eq_false_iff_ne];omega
    rw[this];simp
theorem Cx(s:aU)(c:UInt8):je N s ⟨[c]⟩=some (Lib.indexByte s.bX c):=by
 show(ia N s ⟨[c]⟩).bind _=_;unfold ia
 by_cases h:aU.jQ ⟨[c]⟩ s=true
 ·grind [lM,Lib.indexByte]
 ·rw[kO]at h;rw[h];show((fI N s ((c.toNat:Nat):Int)).bind _).bind _=_;have:=sM (N:=N) s c
  grind [fx]
theorem Cy(s:aU)(c:UInt8):j7 N s ⟨[c]⟩=some ((s.bX.count c:Nat):Int):=by
 unfold j7;show(some _:Option Int)=_;simp[Lib.countByte]
theorem Bb{s:aU}{k:Nat}(h:k<=s.bX.length):rl s 0 ((k:Nat):Int)=some ⟨s.bX.take k⟩:=by
 unfold rl;grind
theorem Bc{s:aU}{k:Nat}(h:k<=s.bX.length):rl s ((k:Nat):Int) ((s.bX.length:Nat):Int)=some ⟨s.bX.drop k⟩:=by
 grind [rl,dJ,jM,dR]
def mc(s:aU)(c:UInt8):List aU:=(cutAt c s.bX).map aU.mk
theorem yH{s:aU}(c:UInt8)(h:s.bX.length<=2097152)(hN:4194304<=N):jf N s ⟨[c]⟩=some (mc s c):=by
 have hc:s.bX.count c<=s.bX.length:=List.count_le_length;unfold jf jS;rw[show((-1:Int)==0)=false by decide,bK,show aU.jQ ⟨[c]⟩ ⟨[]⟩=false by simp[aU.jQ],bK,Cy,aA];rw[dL (x:=((s.bX.count c:Nat):Int)+1) (by omega) (by omega),show decide ((-1:Int)<0)=true by decide,bL,aA];rw[dL (x:=((s.bX.length:Nat):Int)+1) (by omega) (by omega)];have e1:(if((s.bX.length:Nat):Int)+1<((s.bX.count c:Nat):Int)+1 then((s.bX.length:Nat):Int)+1 else((s.bX.count c:Nat):Int)+1)=((s.bX.count c+1:Nat):Int):=by
  omega
 rw[e1,qB _ (by omega),aA];rw[dL (x:=((s.bX.count c+1:Nat):Int) - 1) (by omega) (by omega)];have key:=sE (S:=aU×List aU×Int) (R:=Empty) (body:=(λ(s7:aU×List aU×Int)=>(bif decide (s7.2.2<((s.bX.count c+1:Nat):Int) - 1)then((je N s7.1 ⟨[c]⟩).bind λx23=>bif decide (x23<0)then some (.br (s7.1,s7.2.1,s7.2.2))else((rl s7.1 0<|wrap .i64<|x23+0).bind λx24=>(idx s7.2.1 s7.2.2).bind λx25=>(rl s7.1 (wrap .i64<|x23+(((⟨[c]⟩:aU).bX.length:Nat):Int)) ((s7.1.bX.length:Nat):Int)).bind λx27=>some<|.nx (x27,s7.2.1.set (Int.toNat s7.2.2) x24,wrap .i64<|s7.2.2+1)))else(some<|.br (s7.1,s7.2.1,s7.2.2)):Option (Fl (aU×List aU×Int) Empty))))
  (λst=>∃ws:List (List UInt8),st.2.2=((ws.length:Nat):Int)/\cutAt c s.bX=ws++cutAt c st.1.bX/\ws.length+st.1.bX.count c=s.bX.count c/\st.1.bX.length<=s.bX.length/\st.2.1=ws.map aU.mk++List.replicate (s.bX.count c+1 - ws.length) ⟨[]⟩)
  (λst=>s.bX.count c+1 - st.2.2.toNat)
  (λst=>∃ws:List (List UInt8),st.2.2=((ws.length:Nat):Int)/\cutAt c s.bX=ws++[st.1.bX]/\ws.length=s.bX.count c/\st.2.1=ws.map aU.mk++[⟨[]⟩])
  (λ_=>True) (by
   rintro⟨r,arr,i⟩⟨ws,h1,h2,h3,h4,h5⟩;simp only at h1 h2 h3 h4 h5;subst h1 h5
   by_cases hlt:ws.length<s.bX.count c
   ·have hd:decide (((ws.length:Nat):Int)<((s.bX.count c+1:Nat):Int) - 1)=true:=by grind
    simp only[hd,bL,Cx,aA]
    rcases qm r.bX c with⟨_,hn⟩|⟨a,b,hr,ha,hi⟩
    ·grind
    ·have hrl:r.bX.length=a.length+(b.length+1):=by rw[hr];simp
     rw[hi,bU (by omega),bK];rw[show((a.length:Nat):Int)+0=((a.length:Nat):Int)by omega,dL (x:=((a.length:Nat):Int)) (by omega) (by omega),Bb (by omega),aA];rw[iu _ _ (by simp;omega),aA];rw[show((a.length:Nat):Int)+(((⟨[c]⟩:aU).bX.length:Nat):Int)=((a.length+1:Nat):Int)by simp,dL (x:=((a.length+1:Nat):Int)) (by omega) (by omega),Bc (by omega),aA];refine⟨_,rfl,⟨ws++[a],?_,?_,?_,?_,?_⟩,?_⟩
     ·grind [dL]
     ·simp_all[yG]
     ·simp only;rw[hr]at h3 ⊢;simp[List.count_eq_zero_of_not_mem ha]at h3 ⊢;omega
     ·simp;omega
     ·simp only[dJ];rw[List.set_append_right _ _ (by simp)];simp only[dF,Nat.sub_self];obtain⟨d,hd'⟩:∃d,s.bX.count c+1 - ws.length=d+1:=⟨s.bX.count c - ws.length,by omega⟩;rw[hd',List.replicate_succ,List.set_cons_zero,show s.bX.count c+1 -(ws++[a]).length=d by simp;omega];simp[hr]
     ·simp only;rw[dL (by omega) (by omega)];omega
   ·have hd:decide (((ws.length:Nat):Int)<((s.bX.count c+1:Nat):Int) - 1)=false:=by rw[decide_eq_false_iff_not];omega
    simp only[hd,bK];refine⟨_,rfl,ws,rfl,?_,by omega,?_⟩
    ·have h0:r.bX.count c=0:=by omega
     rw[h2,va<|List.count_eq_zero.1 h0]
    ·rw[show s.bX.count c+1 - ws.length=1 by omega];rfl)
  N (s,List.replicate (s.bX.count c+1) ⟨[]⟩,0) ⟨[],rfl,rfl,by simp,bR _,by simp⟩ (by simp only;omega)
 obtain⟨o,ho,hgo⟩:=key;rw[ho,aA]
 cases o with
 |rt r=>exact r.elim
 |go st=>
  obtain⟨r,arr,i⟩:=st;obtain⟨ws,h1,h2,h3,h4⟩:=hgo;simp only at h1 h2 h3 h4;subst h1 h4;simp only[Fo.cs];rw[iu _ _ (by simp),aA,dL (by omega) (by omega)];rw[show((ws.length:Nat):Int)+1=((ws.length+1:Nat):Int)by omega,n4 _ _ (by simp),aA,aA];unfold mc;rw[h2];rw[dJ,List.set_append_right _ _ (by simp),jM (by simp)];simp
def me(s:aU):Bool:=decide (s.bX.length<=200)&&(mc s 47).all isWord
theorem qC{c:UInt8}:∀{l x:List UInt8},x∈cutAt c l->x.length<=l.length
 | [],x,h=>by simp[cutAt]at h;subst h;simp
 |b::l,x,h=>by
  unfold cutAt at h;split at h
  ·rcases iV.1 h with h|h
   ·subst h;simp
   ·have:=qC h;simp;omega
  ·split at h
   ·rename_i t e
    rcases iV.1 h with h|h
    ·subst h;have:=qC (c:=c) (l:=l) (by rw[e];exact List.mem_cons_self);simp;omega
    ·have:=qC (c:=c) (l:=l) (by rw[e];exact List.mem_cons_of_mem _ h);simp;omega
   ·simp at h;subst h;simp
theorem wt(c:UInt8):∀(l:List UInt8),(cutAt c l).length<=l.length+1
 | []=>by simp[cutAt]
 |b::l=>by
  have:=wt c l;unfold cutAt;split
  ·simp;omega
  ·split
   ·rename_i e;rw[e]at this;simp at this ⊢;omega
   ·simp
theorem wu{s x:aU}{c:UInt8}(h:x∈mc s c):x.bX.length<=s.bX.length:=by
 obtain⟨y,hy,rfl⟩:=eL.1 h;exact qC hy
theorem wv(s:aU)(c:UInt8):(mc s c).length<=s.bX.length+1:=by simp[mc,dF,wt]
theorem nz{s:aU}(h:s.bX.length<=2097152)(hN:4194304<=N):gP N s=some (me s):=by
 unfold gP me
 by_cases hl:s.bX.length<=200
 ·rw[cI (by omega),bL,yH 47 h hN,aA]
  have e:=n7 (l:=mc s 47) (φ:=fz N) (λx=> !isWord x) (by have:=wv s 47;omega) (λx hx=>by
   unfold fz
   rw[lj (by have:=wu hx;omega)];rfl)
  have e2:fy N (mc s 47) (fz N)=lN (mc s 47) (fz N):=rfl;rw[e2,e,aA,aA,cI hl,Bool.true_and];congr 1;rw[iB];simp
 ·rw[bU (by omega),bK,aA,bU hl,Bool.false_and]
theorem ra{s:aU}(h:s.bX.length<=2097152)(hN:4194304<=N):fb N s=some (me s):=by
 unfold fb
 rw[yH 47 h hN,aA,sG (λx=> !isWord x) false (by have:=wv s 47;omega) (λk x hx=>by
  rw[cD hx,aA,nR (by have:=wu<|fK hx;omega),aA]
  cases isWord x <;> rfl),aA]
 unfold me;have e:(mc s 47).any (λx=> !isWord x) = !(mc s 47).all isWord:=by rw[iB];simp
 rw[e]
 cases(mc s 47).all isWord
 ·simp[Fo.cs]
 ·simp only[rX,Bool.false_eq_true,if_false,Fo.cs,Bool.and_true];congr 1;rw[iB];simp only[fH];omega
end
theorem vc{α:Type}(l:List α)(a b:Nat)(h:a+b<l.length):oE l ((a:Nat):Int) ((b:Nat):Int)=some l[a+b]:=by
 unfold oE;rw[aG (by omega),show((a:Nat):Int)+((b:Nat):Int)=((a+b:Nat):Int)by omega,iu _ _ h]
section
variable {α:Type}{cf:α->α->Int}{N:Nat}
theorem SD.DZ{l:List α}{a:α}(h:SD cf l)(hl:∀c∈l,cf c a<0):SD cf (l++[a]):=by
 unfold SD at *;rw[List.pairwise_append];exact⟨h,List.pairwise_singleton _ _,λx hx y hy=>by simp at hy;subst hy;exact hl x hx⟩
theorem SD.last{l:List α}{a:α}(h:SD cf l)(hl:l.getLast? =some a):∀c∈l,c=a\/cf c a<0:=by
 intro c hc;obtain⟨m,hs⟩:∃m,l=m++[a]:=by
  have:=List.getLast?_eq_some_iff.1 hl;exact this
 subst hs
 rcases jZ.1 hc with h1|h1
 ·exact .inr<|(List.pairwise_append.1 h).2.2 c h1 a (by simp)
 ·simp at h1;exact .inl h1
theorem mx.step(hO:mx cf){a b c:α}(h:c=a\/cf c a<0)(h1:¬cf b a<0)(h2:b≠a):cf c b<0:=by
 have h3:cf a b<0:=by
  rcases hO.Ey a b with e|e|e
  ·exact e
  ·exact absurd e.symm h2
  ·exact absurd e h1
 rcases h with rfl|h
 ·exact h3
 ·exact hO.trans _ _ _ h h3
def ov(z:α)(N:Nat)(p0:List α)(p1:α->α->Option Bool):Option (List α):=
 bif decide ((p0.length:Int)<2)then some p0 else((mn (λ(s32:Int)=>(bif decide (s32<(p0.length:Int))then((idx p0 s32).bind λx163=>(idx p0<|wrap .i64<|s32 - 1).bind λx164=>(p1 x163 x164).bind λx165=>bif x165 then((pQ p0 s32 (p0.length:Int)).bind λx197=>(mn (λ(s199:List α×Int×Int)=>(bif decide (s199.2.2<(((s199.1.length - Int.toNat s32):Nat):Int))then((oE s199.1 s32 s199.2.2).bind λx216=>(oE s199.1 s32<|wrap .i64<|s199.2.2 - 1).bind λx217=>(p1 x216 x217).bind λx218=>(bif(!x218)then((oE s199.1 s32 s199.2.2).bind λx222=>(idx s199.1 s199.2.1).bind λx223=>some (s199.1.set (Int.toNat s199.2.1) x222,wrap .i64<|s199.2.1+1))else some (s199.1,s199.2.1)).bind λs221=>some<|.nx (s221.1,s221.2,wrap .i64<|s199.2.2+1))else(some<|.br (s199.1,s199.2.1,s199.2.2)):Option (Fl (List α×Int×Int) Empty))) N (p0,s32,1)).bind λo227=>o227.cs (λ(s199:List α×Int×Int)=>(pQ s199.1 s199.2.1 (s199.1.length:Int)).bind λx224=>(pQ (s199.1.take (Int.toNat s199.2.1)++List.replicate (s199.1.length - Int.toNat s199.2.1) z) 0 s199.2.1).bind λx225=>some<|.rt x225)<|λr=>r.elim)else some (.nx<|wrap .i64<|s32+1))else(some<|.br s32):Option (Fl Int<|List α))) N 1).bind λo228=>o228.cs (λ(s32:Int)=>some p0)<|λr=>some r)
theorem mT [DecidableEq α](hO:mx cf){z:α}{φ:α->α->Option Bool}{l:List α}(hφ:∀x∈l,∀y∈l,φ x y=some (decide<|x=y))(hs:SW cf l)(hl:l.length<=4611686018427387000)(hN:l.length<N):
  Ok (ov z N l φ) (λm=>SD cf m/\∀c,c∈m↔c∈l):=by
 unfold ov;refine IZ (λh2=>Ip ⟨?_,λc=>Iff.rfl⟩)<|λh2=>?_
 ·have h2:=of_decide_eq_true h2
  match l,h2 with
  | [],_=>exact List.Pairwise.nil
  | [a],_=>exact List.pairwise_singleton _ _
  |a::b::l,h2=>grind
 ·have h2:=of_decide_eq_false h2;have le:∀(i j:Nat)(x y:α),i<j->l[i]? =some x->l[j]? =some y->¬cf y x<0:=λi j x y hij hx hy=>by
   obtain⟨h1,rfl⟩:=bS.1 hx;obtain⟨h2,rfl⟩:=bS.1 hy;exact nj.1 hs i j h1 h2 hij
  refine Ir (Jh (Go:=λ_=>SD cf l) (Rt:=λm=>SD cf m/\∀c,c∈m↔c∈l) (λs=>∃k:Nat,s=((k:Nat):Int)/\1<=k/\k<=l.length/\SD cf (l.take k)) (λs=>l.length - s.toNat) ?_ ⟨1,rfl,bR _,by omega,?_⟩ (by simp;omega)) ?_
  ·rintro s⟨k,rfl,hk1,hkl,hinc⟩;refine IZ (λh=>?_)<|λh=>Jz ?_
   ·have hk:k<l.length:=by grind
    refine II hk ?_;rw[kG hk1 (by omega)];refine II (by omega) ?_;refine IB (hφ _ (eD _) _<|eD _) ?_;refine IZ (λhe=>?_)<|λhe=>?_
    ·have he:l[k]=l[k - 1]:=by grind
     refine IB (uT l k hkl) ?_
     refine Ir (Jh (Go:=λs=>∃i:Nat,s.2.1=((i:Nat):Int)/\i<=l.length/\s.1.length=l.length/\SD cf (s.1.take i)/\∀c,c∈s.1.take i↔c∈l) (Rt:=λ_=>True)
      (λs=>∃i j:Nat,s.2.1=((i:Nat):Int)/\s.2.2=((j:Nat):Int)/\1<=j/\k+j<=l.length/\i<=k+j - 1/\s.1.length=l.length/\SD cf (s.1.take i)/\(s.1.take i).getLast? =l[k+j - 1]? /\
       (∀c,c∈s.1.take i↔c∈l.take (k+j))/\∀m,k+j - 1<=m->s.1[m]? =l[m]?) (λs=>l.length - s.2.2.toNat) ?_ ?_ (by simp;omega)) ?_
     ·rintro⟨u,a,b⟩⟨i,j,e1,e2,hj,hjl,hij,hlen,hi,hlast,hmem,hrest⟩;dsimp only at e1 e2 hlen hi hlast hmem hrest ⊢;subst e1;subst e2;rw[dJ];refine IZ (λh=>?_)<|λh=>Jz ?_
      ·have hlt:k+j<l.length:=by have:=of_decide_eq_true h;omega
       have hx:u[k+j]'(by omega)=l[k+j]:=by have:=hrest (k+j) (by omega);rw[aM (by omega),aM hlt]at this;injection this
       have hy:u[k+(j - 1)]'(by omega)=l[k+(j - 1)]:=by have:=hrest (k+(j - 1)) (by omega);rw[aM (by omega),aM (by omega)]at this;injection this
       refine IB (vc u k j (by omega)) ?_;rw[kG hj (by omega)];refine IB (vc u k (j - 1) (by omega)) ?_;rw[hx,hy];refine IB (hφ _ (eD _) _<|eD _) ?_;have hts:l.take (k+j+1)=l.take (k+j)++[l[k+j]]:=fo hlt;have hlast':(u.take i).getLast? =some l[k+(j - 1)]:=by rw[hlast,show k+j - 1=k+(j - 1)by omega,aM (by omega)]
       have hxy:¬cf l[k+j] l[k+(j - 1)]<0:=le (k+(j - 1)) (k+j) _ _ (by omega) (aM _)<|aM _
       refine Ir (P:=λs'=>s'.1.length=l.length/\∃i':Nat,s'.2=((i':Nat):Int)/\i'<=k+j/\SD cf (s'.1.take i')/\(s'.1.take i').getLast? =l[k+j]? /\(∀c,c∈s'.1.take i'↔c∈l.take (k+j+1))/\∀m,k+j<=m->s'.1[m]? =l[m]?) ?_ ?_
       ·refine IZ (λhne=>?_)<|λhne=>Ip ?_
        ·have hne:l[k+j]≠l[k+(j - 1)]:=by simpa using hne
         refine IB (vc u k j (by omega)) ?_;rw[hx];refine II (by omega)<|Ip ⟨by simp[hlen],i+1,?_,by omega,?_⟩
         ·rw[iv (by omega)]
         ·dsimp only;rw[dJ];have ht:(u.set i l[k+j]).take (i+1)=u.take i++[l[k+j]]:=by
           rw[fo (by simp;omega),List.take_set_of_le<|bR _];simp
          rw[ht];refine⟨hi.DZ λc hc=>hO.step (hi.last hlast' c hc) hxy hne,by simp[aM hlt],λc=>?_,λm hm=>?_⟩
          ·rw[hts,jZ,jZ,hmem]
          ·rw[gv,aK (by omega)];exact hrest m (by omega)
        ·have he:l[k+j]=l[k+(j - 1)]:=by simpa using hne
         refine⟨hlen,i,rfl,by omega,hi,?_,λc=>?_,λm hm=>hrest m (by omega)⟩
         ·dsimp only;rw[hlast',aM hlt,he]
         ·rw[hts,jZ,<-hmem];constructor
          ·exact .inl
          ·rintro(h|h)
           ·exact h
           ·simp at h;subst h;rw[he];exact List.mem_of_getLast? hlast'
       ·rintro⟨v,a⟩⟨g1,i',g2,g3,g4,g5,g6,g7⟩;dsimp only at g1 g2 g4 g5 g6 g7 ⊢;refine I9 ⟨⟨i',j+1,g2,?_,by omega,by omega,by omega,g1,g4,?_,g6,λm hm=>g7 m (by omega)⟩,?_⟩
        ·rw[iv (by omega)]
        ·rw[show k+(j+1) - 1=k+j by omega];exact g5
        ·rw[iv (by omega)];simp only[dJ];omega
      ·have hge:k+j=l.length:=by have:=of_decide_eq_false h;omega
       refine⟨i,rfl,by omega,hlen,hi,λc=>?_⟩;rw[hmem,hge,eR]
     ·refine⟨k,1,rfl,rfl,bR _,by omega,by omega,rfl,hinc,?_,λc=>?_,λm _=>rfl⟩
      ·dsimp only;rw[show k+1 - 1=k by omega,aM hk,he,List.getLast?_eq_getElem?,bQ,Nat.min_eq_left hkl,List.getElem?_take_of_lt (by omega),aM (by omega)]
      ·dsimp only;rw[fo hk,jZ];constructor
       ·exact .inl
       ·rintro(h|h)
        ·exact h
        ·simp at h;subst h;rw[he];refine fK (i:=k - 1) ?_;rw[List.getElem?_take_of_lt (by omega),aM (by omega)]
     ·rintro o ho;refine I_ ho ?_<|λr=>r.elim
      rintro⟨u,a,b⟩⟨i,e1,hi,hlen,hinc',hmem⟩;dsimp only at e1 hlen hinc' hmem ⊢;subst e1;refine IB (uT u i (by omega)) ?_;rw[dJ];refine IB (n4 _ i (by simp;omega))<|JA ?_
      rw[List.take_append_of_le_length (by simp;omega),List.take_take,Nat.min_self];exact⟨hinc',hmem⟩
    ·have he:l[k]≠l[k - 1]:=by simpa using he
     refine I9 ⟨⟨k+1,by rw[iv (by omega)],by omega,by omega,?_⟩,by rw[iv (by omega)];simp only[dJ];omega⟩;rw[fo hk];refine hinc.DZ λc hc=>?_;have hlast:(l.take k).getLast? =some l[k - 1]:=by
      rw[List.getLast?_eq_getElem?,bQ,Nat.min_eq_left hkl,List.getElem?_take_of_lt (by omega),aM (by omega)]
     exact hO.step (hinc.last hlast c hc) (le (k - 1) k _ _ (by omega) (aM (by omega:k - 1<l.length))<|aM hk) he
   ·have hge:k=l.length:=by have:=of_decide_eq_false h;omega
    subst hge;rw[eR]at hinc;exact hinc
  ·match l,h2 with
   | [],h2=>simp at h2
   |a::l,_=>exact List.pairwise_singleton _ _
  ·rintro o ho;exact I_ ho (λs h=>Ip ⟨h,λc=>Iff.rfl⟩) (λr h=>Ip h)end
section
variable {N:Nat}
theorem Bd(a b:Int):i9 N a b=some (gz a b):=by
 have e:∀x:Int,jh N x=some false:=λx=>by unfold jh;simp
 unfold i9 gz;rw[e,aA,e,aA]
 by_cases h1:a<b
 ·simp[h1]
 ·by_cases h2:b<a <;> simp[h1,h2]
theorem qD:∀(a b:List Int)(k:Nat),a.take k=b.take k->k<=a.length->k<=b.length->cmpL a b=cmpL (a.drop k) (b.drop k)
 |a,b,0,_,_,_=>by simp
 |x::a,y::b,k+1,h,h1,h2=>by
  simp only[List.take_succ_cons,List.cons.injEq]at h;obtain⟨rfl,h⟩:=h;rw[List.drop_succ_cons,List.drop_succ_cons,<-qD a b k h (by simpa using h1) (by simpa using h2)]
  conv=>lhs;unfold cmpL
  rw[aK (by omega),aK (by omega)]
 | [],_,k+1,_,h1,_=>by simp at h1
 |_::_,[],k+1,_,_,h2=>by simp at h2
theorem vd{a b:List Int}(ha:a.length<=4611686018427387904):cV N a b=some (cmpL a b):=by
 refine Jy ?_;unfold cV
 refine Ir (KI (Inv:=λk _=>k<=b.length/\a.take k=b.take k) (Go:=λ_=>a.length<=b.length/\a=b.take a.length) (Rt:=λr=>r=cmpL a b) ha ⟨by omega,by simp⟩ (λk s hk hi=>?_) (λs hi=>by
  refine⟨hi.1,?_⟩;have:=hi.2
  rw[eR]at this;exact this)) ?_
 ·obtain⟨h1,h2⟩:=hi;refine II hk ?_;refine IZ (λh=>JA ?_)<|λh=>?_
  ·have hb:k=b.length:=by have:=of_decide_eq_true h;omega
   rw[qD a b k h2 (by omega) (by omega),hb,List.drop_length,<-hb,lJ hk];rfl
  ·have hkb:k<b.length:=by have:=of_decide_eq_false h;omega
   refine II hkb ?_;refine IB (Bd _ _) ?_;have e:cmpL a b=if gz a[k] b[k]≠0 then gz a[k] b[k]else cmpL (a.drop<|k+1) (b.drop<|k+1):=by
    rw[qD a b k h2 (by omega) (by omega),lJ hk,lJ hkb]
    conv=>lhs;unfold cmpL
    unfold gz
    by_cases h1:a[k]<b[k]
    ·rw[aG h1,aG h1,aG (by omega)]
    ·rw[aK h1,aK h1]
     by_cases h2:b[k]<a[k]
     ·rw[aG h2,aG h2,aG (by omega)]
     ·rw[aK h2,aK h2,aK (by omega)]
   refine IZ (λhc=>JA ?_)<|λhc=>I9 ⟨by omega,?_⟩
   ·have hc:gz a[k] b[k]≠0:=by simpa using hc
    rw[e,aG hc]
   ·have hc:gz a[k] b[k]=0:=by simpa using hc
    have:=kx.eq _ _ hc;rw[fo hk,fo hkb,h2,this]
 ·intro o ho;refine I_ ho (λs hs=>?_)<|λr hr=>Ip hr
  obtain⟨h1,h2⟩:=hs;have e:cmpL a b=cmpL [] (b.drop a.length):=by rw[qD a b a.length (by rw[eR];exact h2) (bR _) h1,List.drop_length]
  refine IZ (λh=>Ip ?_)<|λh=>Ip ?_
  ·have hlt:a.length<b.length:=by have:=of_decide_eq_true h;omega
   rw[e,lJ hlt];rfl
  ·have hge:b.length<=a.length:=by have:=of_decide_eq_false h;omega
   rw[e,List.drop_eq_nil_of_le hge];rfl
theorem tw{l m:List Int}(hl:l.length<=4611686018427387904):eu N l m=some (decide<|l=m):=by
 rw[<-wj (l:=l) (m:=m) hl];rfl
def o7(a b:aU):Int:=Lib.compareBytes a.bX b.bX
end
section
variable {α β:Type}
theorem Cz{N:Nat}{l:List α}{s:β}{φ:α->β->Option Int}(c:α->Int)(hφ:∀x∈l,φ x s=some (c x))(hs:∀(i j:Nat)(x y:α),i<j->l[i]? =some x->l[j]? =some y->0<=c x->0<c y)
  (hl:l.length<=1048576) (hN:4194304<=N):∃r,xm N l s φ=some r/\r.2=l.any (λx=>c x==0)/\(r.2=true->r.1=vJ l (λx=>c x==0)):=by
 show Ok (xm N l s φ) (λr=>r.2=l.any (λx=>c x==0)/\(r.2=true->r.1=vJ l (λx=>c x==0)));unfold xm
 refine Ir (Jh (Go:=λst:Int×Int=>∃a:Nat,st.1=((a:Nat):Int)/\a<=l.length/\(∀j x,j<a->l[j]? =some x->c x<0)/\(∀j x,a<=j->l[j]? =some x->0<=c x)) (Rt:=λ_=>True)
  (λst=>∃a b:Nat,st=(((a:Nat):Int),((b:Nat):Int))/\a<=b/\b<=l.length/\(∀j x,j<a->l[j]? =some x->c x<0)/\(∀j x,b<=j->l[j]? =some x->0<=c x))
  (λst=>(st.2 - st.1).toNat) ?_ ⟨0,l.length,rfl,by omega,bR _,λj x hj=>by omega,λj x hj hx=>by grind⟩ (by omega)) ?_
 ·rintro st⟨a,b,rfl,hab,hb,h1,h2⟩;dsimp only
  by_cases hlt:a<b
  ·have hm:(a+b) / 2<l.length:=by omega
   have hx:l[(a+b) / 2]? =some l[(a+b) / 2]:=aM hm;rw[show decide (((a:Nat):Int)<((b:Nat):Int))=true by grind,bL,wk hlt (by omega)];refine JM hx<|IB (hφ _<|eD _) ?_
   by_cases hc:c l[(a+b) / 2]<0
   ·rw[cI hc,bL,aA];refine I9 ⟨⟨(a+b) / 2+1,b,?_,by omega,hb,λj x hj hx'=>?_,h2⟩,?_⟩
    ·rw[iv (by omega)]
    ·by_cases e:j=(a+b) / 2
     ·subst e;rw[hx]at hx';injection hx' with hx';rw[<-hx'];exact hc
     ·by_cases h0:c x<0
      ·exact h0
      ·have:=hs j _ x _ (by omega) hx' hx (by omega);omega
    ·rw[iv (by omega)];simp only;omega
   ·rw[bU hc,bK,aA];refine I9 ⟨⟨a,(a+b) / 2,rfl,by omega,by omega,h1,λj x hj hx'=>?_⟩,by simp only;omega⟩
    by_cases e:j=(a+b) / 2
    ·subst e;rw[hx]at hx';injection hx' with hx';rw[<-hx'];omega
    ·have:=hs _ j _ x (by omega) hx hx' (by omega);omega
  ·rw[show decide (((a:Nat):Int)<((b:Nat):Int))=false by rw[decide_eq_false_iff_not];omega,bK];exact Jz ⟨a,rfl,by omega,h1,λj x hj hx=>h2 j x (by omega) hx⟩
 intro o ho;refine I_ ho ?_<|λr hr=>r.elim
 rintro⟨st1,st2⟩⟨a,ha,hle,h1,h2⟩;dsimp only at ha ⊢;subst ha
 by_cases hlt:a<l.length
 ·have hx:l[a]? =some l[a]:=aM hlt;rw[show decide (((a:Nat):Int)<((l.length:Nat):Int))=true by rw[fH];omega,bL,cD hx,aA,hφ _<|eD _,aA,aA];refine Ip ?_
  by_cases he:c l[a]=0
  ·have hb:(c l[a]==0)=true:=by rw[beq_iff_eq];exact he
   rw[hb];refine⟨(kl.2 ⟨_,eD hlt,hb⟩).symm,λ_=>?_⟩;rw[lU hx hb (λj y hj hy=>by have:=h1 j y hj hy;rw[beq_eq_false_iff_ne];omega)]
  ·have hb:(c l[a]==0)=false:=by rw[beq_eq_false_iff_ne];exact he
   rw[hb];refine⟨?_,λh=>by cases h⟩;symm;rw[List.any_eq_false];intro x hx';obtain⟨j,hj⟩:=jP hx';rw[kO,beq_eq_false_iff_ne]
   by_cases hja:j<a
   ·have:=h1 j x hja hj;omega
   ·by_cases e:j=a
    ·subst e;rw[hx]at hj;injection hj with hj;rw[<-hj];exact he
    ·have h3:=h2 a _ (bR _) hx;have:=hs a j _ x (by omega) hx hj h3;omega
 ·rw[show decide (((a:Nat):Int)<((l.length:Nat):Int))=false by rw[decide_eq_false_iff_not];omega,bK,aA];refine Ip ⟨?_,λh=>by cases h⟩;symm;rw[List.any_eq_false];intro x hx';obtain⟨j,hj⟩:=jP hx';have:=(bS.1 hj).1;have:=h1 j x (by omega) hj;rw[kO,beq_eq_false_iff_ne];omega
end
section
variable {N:Nat}
def o8(l:List bA)(k:Nat):Option Int:=
 match l[k]? with
 |none=>none
 |some p=>if isWord p.Name=false then some 5 else if(decide (p.Kind<1)||decide (p.Kind>7))=true then some 4 else if(decide (p.bC<0)||decide (p.bC>200))=true then some 1 else if iO bA.Name l k=true then some 8 else none
def o9(p q:bA):Bool:=decide (p.bC>0)&&(q.bC==p.bC)&&(q.Kind != p.Kind)
def ve(l:List bA)(k:Nat):Option Int:=
 match l[k]? with
 |none=>none
 |some p=>if(l.take k).any (o9 p)=true then some 12 else none
def gI(l:List bA):Int:=if l.length=0 then 9 else if 200<l.length then 2 else((ke l.length<|o8 l).or<|ke l.length<|ve l).getD 0
def nA(t:List aD)(k:Nat):Option Int:=
 match t[k]? with
 |none=>none
 |some x=>if isWord x.Name=false then some 5 else if gI x.aQ≠0 then some (gI x.aQ)else if iO aD.Name t k=true then some 8 else none
def checkTypes(t:List aD):Int:=if 200<t.length then 2 else(ke t.length<|nA t).getD 0
theorem sN{R β:Type}(o:Option R)(f:Unit->Option β)(g:R->Option β):(yu o ()).cs f g=o.elim (f ()) g:=by cases o <;> rfl
theorem ow(o:Option Int):(yu o ()).cs (λ_=>some (0:Int)) (λr=>some r)=some (o.getD 0):=by cases o <;> rfl
theorem getD_or(a b:Option Int):(a.elim (some<|b.getD 0) λr=>some r)=some ((a.or b).getD 0):=by cases a <;> rfl
theorem qn{l:List bA}(h:bk l<=1048576):hZ N l=some (gI l):=by
 have hlen:=gy l;unfold hZ gI
 by_cases h0:l.length=0
 ·rw[aG h0,h0];rfl
 ·have e0:(((l.length:Nat):Int)==0)=false:=by rw[beq_eq_false_iff_ne];omega
  rw[aK h0,e0,bK]
  by_cases h1:200<l.length
  ·rw[aG h1,cI (by omega),bL]
  ·rw[aK h1,bU (by omega),bK]
   rw[ir (o8 l) (by omega) (λk hk _=>by
    have hx:l[k]? =some l[k]:=aM hk;have hb:=p7 hx;rw[rD,p8]at hb;rw[cD hx,aA,lj (by omega),aA,p9 bA.Name hx (by omega)];unfold o8;rw[hx];dsimp only
    cases isWord l[k].Name
    ·rfl
    ·cases decide (l[k].Kind<1)||decide (l[k].Kind>7)
     ·cases decide (l[k].bC<0)||decide (l[k].bC>200)
      ·cases iO bA.Name l k <;> rfl
      ·rfl
     ·rfl),aA]
   rw[sN]
   rw[ir (ve l) (by omega) (λk hk _=>by
    have hx:l[k]? =some l[k]:=aM hk;rw[cD hx,aA,n4 l k (by omega),aA]
    have e:=n7 (l:=l.take k) (φ:=λy0=>eE N y0 l[k]) (o9 l[k]) (by rw[bQ];omega) (λq _=>by
     unfold eE o9
     cases decide (l[k].bC>0)
     ·rfl
     ·cases q.bC==l[k].bC <;> rfl)
    have e2:fj N (l.take k) (λy0=>eE N y0 l[k])=lN (l.take k) (λy0=>eE N y0 l[k]):=rfl;rw[e2,e,aA];unfold ve;rw[hx];dsimp only
    cases(l.take k).any (o9 l[k]) <;> rfl),aA,ow]
   exact getD_or _ _
theorem pJ{t:List aD}(h:bk t<=1048576):gM N t=some (checkTypes t):=by
 have hlen:=gy t;unfold gM checkTypes
 by_cases h1:200<t.length
 ·rw[aG h1,cI (by omega),bL]
 ·rw[aK h1,bU (by omega),bK]
  rw[ir (nA t) (by omega) (λk hk _=>by
   have hx:t[k]? =some t[k]:=aM hk;have hb:=p7 hx;rw[kH]at hb;have hb2:=p8 t[k].Name;rw[cD hx,aA,lj (by omega),aA,qn (by omega),aA,p9 aD.Name hx (by omega)];unfold nA;rw[hx];dsimp only
   cases isWord t[k].Name
   ·rfl
   ·by_cases hc:gI t[k].aQ=0
    ·rw[hc];cases iO aD.Name t k <;> rfl
    ·have:(gI t[k].aQ != 0)=true:=by rw[bne_iff_ne];exact hc
     rw[this];simp[hc,uS]),aA,ow]
theorem rf(a b c:Int):dV N a b c=some (!(decide (a<b)||decide (a>c))):=by
 unfold dV;congr 1;rw[iB];simp
theorem tx{x:aD}(h:bk x<=1048576):fa N x=some (if isWord x.Name=false then 5 else gI x.aQ):=by
 rw[kH]at h;have hs:=p8 x.Name;have hlen:=gy x.aQ;unfold fa;rw[nR (by omega),aA]
 cases isWord x.Name
 ·rfl
 simp only[rX,bK,Bool.true_eq_false,if_false];unfold gI;generalize hl:x.aQ=l at *
 by_cases h0:l.length=0
 ·rw[aG h0,h0];rfl
 ·have e0:(((l.length:Nat):Int)==0)=false:=by rw[beq_eq_false_iff_ne];omega
  rw[aK h0,e0,bK]
  by_cases h1:200<l.length
  ·rw[aG h1,cI (by omega),bL]
  ·rw[aK h1,bU (by omega),bK]
   rw[ir (o8 l) (by omega) (λk hk _=>by
    have hx:l[k]? =some l[k]:=aM hk;have hb:=p7 hx;rw[rD,p8]at hb;rw[cD hx,aA,nR (by omega),aA,rf,aA,rf,aA,p9 bA.Name hx (by omega)];unfold o8;rw[hx];dsimp only
    cases isWord l[k].Name
    ·rfl
    ·cases decide (l[k].Kind<1)||decide (l[k].Kind>7)
     ·cases decide (l[k].bC<0)||decide (l[k].bC>200)
      ·cases iO bA.Name l k <;> rfl
      ·rfl
     ·rfl),aA]
   rw[sN]
   rw[ir (ve l) (by omega) (λk hk _=>by
    have hx:l[k]? =some l[k]:=aM hk;rw[cD hx,aA,n4 l k (by omega),aA]
    rw[sG (o9 l[k]) (12:Int) (by rw[bQ];omega) (λj q hq=>by
     rw[cD hq,aA];have e:((decide (l[k].bC>0)&&(l[k].bC==q.bC))&&(l[k].Kind != q.Kind))=o9 l[k] q:=by
      unfold o9;rw[iB];simp;omega
     rw[e];cases o9 l[k] q <;> rfl),aA]
    unfold ve;rw[hx];dsimp only
    cases(l.take k).any (o9 l[k]) <;> rfl),aA,ow]
   exact getD_or _ _
theorem sO{t:List aD}(h:bk t<=1048576):eV N t=some (checkTypes t):=by
 have hlen:=gy t;unfold eV checkTypes
 by_cases h1:200<t.length
 ·rw[aG h1,cI (by omega),bL]
 ·rw[aK h1,bU (by omega),bK]
  rw[ir (nA t) (by omega) (λk hk _=>by
   have hx:t[k]? =some t[k]:=aM hk;have hb:=p7 hx;rw[cD hx,aA,tx (by omega),aA,p9 aD.Name hx (by omega)];unfold nA;rw[hx];dsimp only
   cases isWord t[k].Name
   ·rfl
   ·simp only[Bool.true_eq_false,if_false]
    by_cases hc:gI t[k].aQ=0
    ·rw[hc];cases iO aD.Name t k <;> rfl
    ·have:(gI t[k].aQ != 0)=true:=by rw[bne_iff_ne];exact hc
     rw[this];simp[hc,uS]),aA,ow]
structure xt (t:List aD):Prop where
 sorted:gZ aD.Name t
 pins:∀x∈t,gZ bA.Name x.aQ
theorem qE{e:Nat->Option Int}{m:Nat}(hz:∀k r,e k=some r->r≠0)(h:(ke m e).getD 0=0):∀k,k<m->e k=none:=by
 cases hx:ke m e with
 |none=>exact jW.1 hx
 |some r=>
  obtain⟨k,_,hk,_⟩:=jl.1 hx;rw[hx]at h;exact absurd h<|hz k r hk
theorem Be{l:List bA}{k:Nat}{r:Int}(h:o8 l k=some r):r≠0:=by
 unfold o8 at h
 repeat' split at h
 all_goals first|(injection h with h;omega)|cases h
theorem xu{l:List bA}(h:gI l=0):gZ bA.Name l:=by
 unfold gI at h;split at h
 ·cases h
 split at h
 ·cases h
 refine lO λk hk=>?_
 cases hx:ke l.length (o8 l)with
 |some r=>
  obtain⟨j,_,hj,_⟩:=jl.1 hx;rw[hx]at h;exact absurd h<|Be hj
 |none=>
  have:=jW.1 hx k hk;unfold o8 at this;rw[aM hk]at this;dsimp only at this
  repeat' split at this
  all_goals first|(simp at this;done)|simp_all
theorem rh{t:List aD}(h:checkTypes t=0):xt t:=by
 unfold checkTypes at h;split at h
 ·cases h
 have hz:∀k r,nA t k=some r->r≠0:=by
  intro k r hk;unfold nA at hk
  repeat' split at hk
  all_goals first|(injection hk with hk;subst hk;first|assumption|omega)|cases hk
 have hn:=qE hz h;have key:∀k(hk:k<t.length),gI t[k].aQ=0/\iO aD.Name t k=false:=by
  intro k hk;have:=hn k hk;unfold nA at this;rw[aM hk]at this;dsimp only at this
  repeat' split at this
  all_goals first|(simp at this;done)|simp_all
 refine⟨lO λk hk=>(key k hk).2,λx hx=>?_⟩;obtain⟨k,hk⟩:=jP hx;obtain⟨hlt,rfl⟩:=bS.1 hk;exact xu (key k hlt).1
end
section
variable {N:Nat}
theorem tz{t:List aD}{s:aU}(hs:gZ aD.Name t)(ht:bk t<=1048576)(hN:4194304<=N):fS N t s=some (nat? aD.Name t s):=by
 have:=gy t;obtain⟨r,h1,h2⟩:=xn (N:=N) (key:=aD.Name) (l:=t) (s:=s) (φ:=fY N) (λx=>rfl) hs (by omega) hN;have e:cZ N t s (fY N)=xm N t s (fY N):=rfl;unfold fS;rw[e,h1,aA];exact h2
theorem Bf{l:List Part}{s:aU}(hs:gZ Part.Name l)(hl:l.length<=1048576)(hN:4194304<=N):jD N l s=some (nat? Part.Name l s):=by
 obtain⟨r,h1,h2⟩:=xn (N:=N) (key:=Part.Name) (l:=l) (s:=s) (φ:=fZ N) (λx=>rfl) hs (by omega) hN;have e:dS N l s (fZ N)=xm N l s (fZ N):=rfl;unfold jD;rw[e,h1,aA];exact h2
theorem yI{y:aD}{s:aU}(hs:gZ bA.Name y.aQ)(hl:y.aQ.length<=1048576)(hN:4194304<=N):jg N y s=some (nat? bA.Name y.aQ s):=by
 obtain⟨r,h1,h2⟩:=xn (N:=N) (key:=bA.Name) (l:=y.aQ) (s:=s) (φ:=gF N) (λx=>rfl) hs (by omega) hN;have e:dD N y.aQ s (gF N)=xm N y.aQ s (gF N):=rfl;unfold jg;rw[e,h1,aA];exact h2
theorem qF{t:List aD}{s:aU}(hl:t.length<=1048576):eG N t s=some (nat? aD.Name t s):=by
 rw[<-uY (by omega)];rfl
theorem wx{l:List Part}{s:aU}(hl:l.length<=1048576):fU N l s=some (nat? Part.Name l s):=by
 rw[<-uY (by omega)];rfl
theorem yJ{y:aD}{s:aU}(hl:y.aQ.length<=1048576):gl N y s=some (nat? bA.Name y.aQ s):=by
 rw[<-uY (by omega)];rfl
theorem i7{α:Type}(key:α->aU)(l:List α)(s:aU):(nat? key l s = -1/\∀x∈l,key x≠s)\/∃k x,nat? key l s=((k:Nat):Int)/\l[k]? =some x/\key x=s:=by
 rcases iN l (λx=>(key x).jQ s)with⟨h1,h2⟩|⟨k,x,h1,h2,h3,_⟩
 ·exact .inl ⟨h1,λx hx=>mA.1<|h2 x hx⟩
 ·exact .inr ⟨k,x,h1,h2,lM.1 h3⟩
theorem Ah{α:Type}(key:α->aU)(l:List α)(s:aU):decide (nat? key l s>=0)=l.any (λx=>(key x).jQ s):=uW _ _
def lk(t:List aD)(l:List Part)(k:Nat):Option Int:=
 match l[k]? with
 |none=>none
 |some p=>if me p.Name=false then some 5 else if nat? aD.Name t p.cM<0 then some 9 else if iO Part.Name l k=true then some 8 else none
def ey(t:List aD)(l:List Part):Int:=if 1000<l.length then 2 else(ke l.length<|lk t l).getD 0
theorem vf{R:Type}(a:Bool)(z:Int)(b:Bool)(f:Int->R):
  ((bif(!a)then some (.rt<|f 5)else(bif decide (z<0)then some (.rt<|f 9)else((some b).bind λs=>bif s then some (.rt<|f 8)else some (.nx ())))):Option (Fl Unit R)) =
  some (uS ((if a=false then some (5:Int)else if z<0 then some 9 else if b=true then some 8 else none).map f) ()):=by
 cases a
 ·rfl
 ·by_cases hz:z<0
  ·rw[cI hz];simp[uS,hz]
  ·rw[bU hz];cases b <;> simp[uS,hz]
theorem vg(o:Option Int):o.map (λx=>x)=o:=by cases o <;> rfl
theorem vh{t:List aD}{l:List Part}(hs:gZ aD.Name t)(ht:bk t<=1048576)(hl:l.length<=1048576)(hln:∀p∈l,p.Name.bX.length<=2097152)(hN:4194304<=N):
  gO N t l (gP N)=some (ey t l):=by
 unfold gO ey
 by_cases h1:1000<l.length
 ·rw[aG h1,cI (by omega),bL]
 ·rw[aK h1,bU (by omega),bK]
  rw[ir (lk t l) (by omega) (λk hk _=>by
   have hx:l[k]? =some l[k]:=aM hk;have hb:=hln _<|eD hk
   rw[cD hx,aA,nz (by omega) hN,aA,tz hs ht hN,aA,p9 Part.Name hx (by omega)];refine(vf _ _ _ (λx:Int=>x)).trans ?_
   rw[vg];unfold lk;rw[hx]),aA,ow]
def ky(t:List aD)(l:List Part)(p:cC):Bool:=
 match l.find? (λx=>x.Name.jQ p.Part)with
 |none=>false
 |some x=>match t.find? (λy=>y.Name.jQ x.cM)with
  |none=>false
  |some y=>y.aQ.any (λq=>q.Name.jQ p.cC)
theorem sP{α:Type}{l:List α}{p:α->Bool}{k:Nat}{x:α}(hk:vJ l p=((k:Nat):Int))(hx:l[k]? =some x):l.find? p=some x:=by
 rcases iN l p with⟨h1,_⟩|⟨k',x',h1,h2,h3,h4⟩
 ·omega
 ·have:k'=k:=by omega
  subst this;rw[hx]at h2;injection h2 with h2;subst h2
  rw[List.find?_eq_some_iff_getElem];obtain⟨hlt,hxx⟩:=bS.1 hx;exact⟨h3,k',hlt,hxx,λj hj=>by rw[h4 j l[j] hj<|aM (by omega)];rfl⟩
theorem wy{α:Type}{l:List α}{p:α->Bool}(hk:vJ l p = -1):l.find? p=none:=by
 rcases iN l p with⟨_,h⟩|⟨k',x',h1,_⟩
 ·rw[List.find?_eq_none];intro x hx;rw[h x hx];decide
 ·omega
def Typed(t:List aD)(l:List Part):Prop:=∀x∈l,0<=nat? aD.Name t x.cM
theorem tQ{t:List aD}{l:List Part}{p:cC}(htl:Typed t l){fp:Option Int}{ft:aU->Option Int}{fq:aD->Option Int}
  (h1:fp=some (nat? Part.Name l p.Part)) (h2:∀s,ft s=some (nat? aD.Name t s)) (h3:∀y∈t,fq y=some (nat? bA.Name y.aQ p.cC)):
  (fp.bind λx2=>(bif decide (x2>=0)then((idx l x2).bind λx18=>(ft x18.cM).bind λx21=>(idx t x21).bind λEJ=>(fq EJ).bind λx25=>some<|decide<|x25>=0)else some false).bind λs16=>some s16)=some (ky t l p):=by
 rw[h1,aA];unfold ky
 rcases i7 Part.Name l p.Part with⟨h4,_⟩|⟨k,x,h4,h5,h6⟩
 ·rw[wy h4,h4];rfl
 ·rw[sP h4 h5,h4,cI (by omega),bL,cD h5,aA,h2,aA];dsimp only;have h7:=htl x<|fK h5
  rcases i7 aD.Name t x.cM with⟨h8,_⟩|⟨j,y,h8,h9,_⟩
  ·omega
  ·rw[sP h8 h9,h8,cD h9,aA,h3 y<|fK h9,aA,aA,Ah]
theorem rM{t:List aD}{l:List Part}{p:cC}(ht:xt t)(hl:gZ Part.Name l)(htl:Typed t l)(hbt:bk t<=1048576)(hbl:l.length<=1048576)(hN:4194304<=N):
  kT N t l p=some (ky t l p):=by
 exact tQ htl (Bf hl (by omega) hN) (λs=>tz ht.sorted hbt hN) (λy hy=>yI (ht.pins y hy) (by
  have h1:=p6 hy;rw[kH]at h1;have h2:=gy y.aQ;omega) hN)
theorem vK{t:List aD}{x:aH}{p:cC}(htl:Typed t x.aJ)(hbt:bk t<=1048576)(hbl:bk x<=1048576):ig N t x p=some (ky t x.aJ p):=by
 rw[mK]at hbl;have h1:=gy x.aJ;have h2:=gy t
 exact tQ htl (wx (by omega)) (λs=>qF (by omega)) (λy hy=>yJ (by
  have h1:=p6 hy;rw[kH]at h1;have h2:=gy y.aQ;omega))
def nB(a b:cC):Bool:=a.Part.lQ b.Part||(a.Part.jQ b.Part&&a.cC.lQ b.cC)
def mU(l:List cC)(k:Nat):Bool:=match l[k]?,l[k - 1]? with|some p,some q=>decide (0<k)&& !nB q p|_,_=>false
theorem zB(a b:aU):0<Lib.compareBytes a.bX b.bX↔aU.lt b a:=by
 have h1:=ks a.bX b.bX;have h2:=jF a.bX b.bX
 rcases aU.yA a b with h|h|h
 ·have h3:=h1.2 h;exact⟨λh'=>by omega,λh'=>absurd h'<|aU.lt_asymm h⟩
 ·subst h;have h3:=h2.2 rfl;exact⟨λh'=>by omega,λh'=>absurd h'<|aU.lt_irrefl _⟩
 ·refine⟨λ_=>h,λ_=>?_⟩;have h3:¬Lib.compareBytes a.bX b.bX<0:=λh'=>aU.lt_asymm h<|h1.1 h'
  have h4:¬Lib.compareBytes a.bX b.bX=0:=λh'=>aU.q8 h (aU.ext'<|h2.1 h').symm;omega
def xv(a b:cC):Int:=if Lib.compareBytes a.Part.bX b.Part.bX=0 then Lib.compareBytes a.cC.bX b.cC.bX else Lib.compareBytes a.Part.bX b.Part.bX
theorem vj(a b:cC):iC N a b=some (xv a b):=by
 show(bif Lib.compareBytes a.Part.bX b.Part.bX != 0 then some (Lib.compareBytes a.Part.bX b.Part.bX)else some (Lib.compareBytes a.cC.bX b.cC.bX))=_;unfold xv
 by_cases h:Lib.compareBytes a.Part.bX b.Part.bX=0
 ·rw[h];rfl
 ·have:(Lib.compareBytes a.Part.bX b.Part.bX != 0)=true:=by rw[bne_iff_ne];exact h
  rw[this,aK h];rfl
theorem Bg(a b:cC):decide (xv a b<=0) = !nB b a:=by
 unfold xv nB
 by_cases h:Lib.compareBytes a.Part.bX b.Part.bX=0
 ·have e:a.Part=b.Part:=aU.ext'<|(jF _ _).1 h
  have e2:b.Part.lQ a.Part=false:=by rw[e,<-kO];exact aU.lt_irrefl _
  rw[aG h,e2,lM.2 e.symm,Bool.false_or,Bool.true_and];have:=zB a.cC b.cC;rw[iB,fH,Bool.not_eq_true',<-kO];constructor
  ·intro h1 h2;have:=this.2 h2;omega
  ·intro h1
   by_cases h3:0<Lib.compareBytes a.cC.bX b.cC.bX
   ·exact absurd (this.1 h3) h1
   ·omega
 ·have e:b.Part≠a.Part:=λe=>h<|(jF _ _).2 (by rw[e])
  rw[aK h,mA.2 e,Bool.false_and,Bool.or_false];have:=zB a.Part b.Part;rw[iB,fH,Bool.not_eq_true',<-kO];constructor
  ·intro h1 h2;have:=this.2 h2;omega
  ·intro h1
   by_cases h3:0<Lib.compareBytes a.Part.bX b.Part.bX
   ·exact absurd (this.1 h3) h1
   ·omega
theorem wz{l:List cC}{k:Nat}{x:cC}{f:cC->Option Bool}(hf:∀y,f y=some (!nB y x))(hx:l[k]? =some x)(hl:l.length<=1048576):
  (bif decide (((k:Nat):Int)>0)then(idx l<|wrap .i64<|((k:Nat):Int) - 1).bind f else some false)=some (mU l k):=by
 have hk:=(bS.1 hx).1;unfold mU
 by_cases h0:0<k
 ·rw[cI (by omega),bL,kG h0 (by omega),iu l _ (by omega),aA,hx,aM (by omega:k - 1<l.length),hf];simp[h0]
 ·have:k=0:=by omega
  subst this;rw[hx];simp
def pb(l:List Net)(p:cC):Bool:=l.any<|λn=>decide<|p∈n.aQ
def pw(t:List aD)(x:aH)(i:Nat)(l:List cC)(k:Nat):Option Int:=
 match l[k]? with
 |none=>none
 |some p=>if ky t x.aJ p=false then some 9 else if mU l k=true then some 8 else if pb (x.aZ.take i) p=true then some 7 else none
def pc(t:List aD)(x:aH)(i:Nat):Option Int:=
 match x.aZ[i]? with
 |none=>none
 |some n=>if me n.Name=false then some 5 else if n.aQ.length=0 then some 9 else if 500<n.aQ.length then some 2 else
   (ke n.aQ.length<|pw t x i n.aQ).or (if 0<n.mh.length then some 3 else if iO Net.Name x.aZ i=true then some 8 else none)
def ox(t:List aD)(x:aH):Int:=if 1000<x.aZ.length then 2 else(ke x.aZ.length<|pc t x).getD 0
def fO(t:List aD)(x:aH):Int:=
 if checkTypes t≠0 then checkTypes t else if ey t x.aJ≠0 then ey t x.aJ else ox t x
theorem rN{t:List aD}{l:List Part}{k:Nat}{r:Int}(h:lk t l k=some r):r≠0:=by
 unfold lk at h
 repeat' split at h
 all_goals first|(injection h with h;omega)|cases h
structure Ai (t:List aD) (l:List Part):Prop where
 sorted:gZ Part.Name l
 typed:Typed t l
theorem nS{t:List aD}{l:List Part}(h:ey t l=0):Ai t l:=by
 unfold ey at h;split at h
 ·cases h
 have hn:=qE (λk r hk=>rN hk) h;have key:∀k(hk:k<l.length),0<=nat? aD.Name t l[k].cM/\iO Part.Name l k=false:=by
  intro k hk;have:=hn k hk;unfold lk at this;rw[aM hk]at this;dsimp only at this
  repeat' split at this
  all_goals first|(simp at this;done)|simp_all
 refine⟨lO λk hk=>(key k hk).2,λx hx=>?_⟩;obtain⟨k,hk⟩:=jP hx;obtain⟨hlt,rfl⟩:=bS.1 hk;exact(key k hlt).1
theorem yK{t:List aD}{x:aH}{i:Nat}{l:List cC}{k:Nat}{r:Int}(h:pw t x i l k=some r):r≠0:=by
 unfold pw at h
 repeat' split at h
 all_goals first|(injection h with h;omega)|cases h
theorem ug{l:List cC}{has:cC->Option Bool}{m:List (cC×Bool)}(hB:cC->Bool)(hh:∀p∈l,has p=some (hB p))(hl:l.length<=1048576):
  fT N l has m=some (if 500<l.length then((2:Int),m)else
   (ke l.length (λk=>match l[k]? with
    |none=>none
    |some p=>if hB p=false then some (9:Int)else if mU l k=true then some 8 else if ew m p false=true then some 7 else none)).elim ((0:Int),mS m l true) (λr=>(r,m))):=by
 unfold fT
 by_cases h1:500<l.length
 ·rw[aG h1,cI (by omega),bL]
 ·rw[aK h1,bU (by omega),bK]
  rw[ir (λk=>Option.map (λ(r:Int)=>(r,m)) (match l[k]? with
    |none=>none
    |some p=>if hB p=false then some (9:Int)else if mU l k=true then some 8 else if ew m p false=true then some 7 else none)) (by omega) (λk hk _=>by
   have hx:l[k]? =some l[k]:=aM hk;rw[cD hx,aA,hh _<|eD hk,aA,wz (λy=>by rw[vj,aA,Bg]) hx hl,hx];dsimp only
   cases hB l[k]
   ·rfl
   ·cases mU l k
    ·cases ew m l[k] false <;> rfl
    ·rfl),aA,sN,wq true (by omega),aA]
  rw[<-Cn];generalize ke l.length _=o
  cases o <;> rfl
def pd(x:aH)(i:Nat):List (cC×Bool):=(x.aZ.take i).foldl (λm n=>mS m n.aQ true) []
theorem Bh(l:List Net)(p:cC):∀(m:List (cC×Bool)),ew (l.foldl (λm n=>mS m n.aQ true) m) p false=(pb l p||ew m p false):=by
 induction l with
 |nil=>intro m;rfl
 |cons n l ih=>
  intro m;rw[List.foldl_cons,ih,u7];unfold pb;rw[List.any_cons]
  by_cases h:p∈n.aQ <;> simp[h]
theorem xw(x:aH)(i:Nat)(p:cC):ew (pd x i) p false=pb (x.aZ.take i) p:=by
 unfold pd;rw[Bh];simp[ew]
theorem xx{x:aH}{i:Nat}{n:Net}(h:x.aZ[i]? =some n):pd x (i+1)=mS (pd x i) n.aQ true:=by
 unfold pd;obtain⟨hlt,rfl⟩:=bS.1 h;rw[fo hlt,List.foldl_append];rfl
structure Aj (x:aH):Prop where
 pl:x.aJ.length<=1048576
 pn:∀p∈x.aJ,p.Name.bX.length<=2097152
 nl:x.aZ.length<=1048576
 nn:∀n∈x.aZ,n.Name.bX.length<=2097152
 np:∀n∈x.aZ,n.aQ.length<=1048576
theorem CA{x:aH}(h:bk x<=1048576):Aj x:=by
 rw[mK]at h;have h1:=gy x.aJ;have h2:=gy x.aZ;refine⟨by omega,λp hp=>?_,by omega,λn hn=>?_,λn hn=>?_⟩
 ·have:=p6 hp;rw[xp]at this;have h3:=p8 p.Name;omega
 ·have:=p6 hn;rw[tm,p8]at this;omega
 ·have:=p6 hn;rw[tm]at this;have h3:=gy n.aQ;omega
theorem lx{t:List aD}{x:aH}(hbt:bk t<=1048576)(hbx:Aj x)(hN:4194304<=N):fA N t x=some (fO t x):=by
 have hpl:=hbx.pl;have hln:=hbx.nl;unfold fA fO;rw[pJ hbt,aA]
 by_cases h1:checkTypes t≠0
 ·have e:(checkTypes t != 0)=true:=by rw[bne_iff_ne];exact h1
  rw[e,bL,aG h1]
 replace h1:=Decidable.not_not.1 h1
 have ht:=rh h1;have e:(checkTypes t != 0)=false:=by rw[h1];rfl
 rw[e,bK,aK<|λh=>h h1,vh ht.sorted hbt hbx.pl hbx.pn hN,aA]
 by_cases h2:ey t x.aJ≠0
 ·have e:(ey t x.aJ != 0)=true:=by rw[bne_iff_ne];exact h2
  rw[e,bL,aG h2]
 replace h2:=Decidable.not_not.1 h2
 have hp:=nS h2;have e:(ey t x.aJ != 0)=false:=by rw[h2];rfl
 rw[e,bK,aK<|λh=>h h2];unfold ox
 by_cases h3:1000<x.aZ.length
 ·rw[aG h3,cI (by omega),bL]
 ·rw[aK h3,bU (by omega),bK]
  rw[Ac (s:=([]:List (cC×Bool))) (pd x) (pc t x) (by omega) rfl (λi hi _=>by
   have hx:x.aZ[i]? =some x.aZ[i]:=aM hi;have hb2:=hbx.nn _<|eD hi
   have hlp:=hbx.np _<|eD hi
   rw[xx hx]
   rw[cD hx,aA,nz (by omega) hN,aA,ug (ky t x.aJ) (λp _=>by
    unfold ib
    rw[rM ht hp.sorted hp.typed hbt hpl hN,aA]) (by omega),aA,p9 Net.Name hx (by omega)]
   unfold pc;rw[hx];dsimp only
   cases me x.aZ[i].Name
   ·rfl
   simp only[rX,bK,Bool.true_eq_false,if_false]
   by_cases h4:x.aZ[i].aQ.length=0
   ·rw[aG h4,h4];rfl
   have e4:(((x.aZ[i].aQ.length:Nat):Int)==0)=false:=by rw[beq_eq_false_iff_ne];omega
   rw[aK h4,e4,bK]
   by_cases h5:500<x.aZ[i].aQ.length
   ·rw[aG h5,aG h5];rfl
   rw[aK h5,aK h5]
   have e5:(ke x.aZ[i].aQ.length (λk=>match x.aZ[i].aQ[k]? with
    |none=>none
    |some p=>if ky t x.aJ p=false then some (9:Int)else if mU x.aZ[i].aQ k=true then some 8 else if ew (pd x i) p false=true then some 7 else none))=ke x.aZ[i].aQ.length (pw t x i x.aZ[i].aQ):=by
    congr 1;funext k;unfold pw;split
    ·rfl
    ·rw[xw]
   rw[e5]
   cases h6:ke x.aZ[i].aQ.length (pw t x i x.aZ[i].aQ)with
   |some r=>
    obtain⟨j,_,hj,_⟩:=jl.1 h6;have e6:(r != 0)=true:=by rw[bne_iff_ne];exact yK hj
    simp only[Option.elim_some,e6,bL];rfl
   |none=>
    simp only[Option.elim_none,bne_self_eq_false,bK,Option.none_or]
    by_cases h7:0<x.aZ[i].mh.length
    ·rw[aG h7,cI (by omega)];rfl
    ·rw[aK h7,bU (by omega)]
     cases iO Net.Name x.aZ i <;> rfl),aA]
  cases ke x.aZ.length (pc t x) <;> rfl
theorem Bi{l:List Net}{p:cC}(hb:bk l<=1048576):fV N l p=some (pb l p):=by
 have:=gy l;unfold fV
 rw[sG (λn=>decide (p∈n.aQ)) true (by omega) (λk n hn=>by
  have hb2:=p7 hn;rw[tm]at hb2;have:=gy n.aQ;have e:fC N n.aQ p=tl n.aQ p:=rfl;rw[cD hn,aA,e,sH (by omega),aA]
  cases decide (p∈n.aQ) <;> rfl),aA]
 unfold pb
 cases l.any _ <;> rfl
theorem oy{t:List aD}{x:aH}(hbt:bk t<=1048576)(hbx:bk x<=1048576)(hN:4194304<=N):
  eA N t x=some (if ey t x.aJ≠0 then ey t x.aJ else ox t x):=by
 have hb:=mK x;have hln:=gy x.aZ;have hlp:=gy x.aJ;have hlt:=gy t;unfold eA
 by_cases h1:1000<x.aJ.length
 ·have:ey t x.aJ=2:=by unfold ey;rw[aG h1]
  rw[cI (by omega),bL,this];rfl
 rw[bU (by omega),bK]
 rw[ir (lk t x.aJ) (by omega) (λk hk _=>by
  have hx:x.aJ[k]? =some x.aJ[k]:=aM hk;have hb:=p7 hx;rw[xp]at hb;have hb2:=p8 x.aJ[k].Name;rw[cD hx,aA,ra (by omega) hN,aA,qF (by omega),aA,p9 Part.Name hx (by omega)];refine(vf _ _ _ (λx:Int=>x)).trans ?_
  rw[vg];unfold lk;rw[hx]),aA,sN]
 have hcp:ey t x.aJ=(ke x.aJ.length<|lk t x.aJ).getD 0:=by unfold ey;rw[aK h1]
 cases h2:ke x.aJ.length (lk t x.aJ)with
 |some r=>
  obtain⟨j,_,hj,_⟩:=jl.1 h2;rw[h2]at hcp;simp only[Option.getD_some]at hcp;rw[hcp,aG<|rN hj];rfl
 |none=>
  rw[h2]at hcp;simp only[Option.getD_none]at hcp;have hp:=nS hcp;rw[hcp,aK<|λh=>h rfl];simp only[Option.elim_none];unfold ox
  by_cases h3:1000<x.aZ.length
  ·rw[aG h3,cI (by omega),bL]
  ·rw[aK h3,bU (by omega),bK]
   rw[ir (pc t x) (by omega) (λi hi _=>by
    have hx:x.aZ[i]? =some x.aZ[i]:=aM hi;have hb2:=p7 hx;rw[tm,p8]at hb2;have hlp:=gy x.aZ[i].aQ;rw[cD hx,aA,ra (by omega) hN,aA,p9 Net.Name hx (by omega)];unfold pc;rw[hx];dsimp only
    cases me x.aZ[i].Name
    ·rfl
    simp only[rX,bK,Bool.true_eq_false,if_false]
    by_cases h4:x.aZ[i].aQ.length=0
    ·rw[aG h4,h4];rfl
    have e4:(((x.aZ[i].aQ.length:Nat):Int)==0)=false:=by rw[beq_eq_false_iff_ne];omega
    rw[aK h4,e4,bK]
    by_cases h5:500<x.aZ[i].aQ.length
    ·rw[aG h5,cI (by omega)];rfl
    rw[aK h5,bU (by omega),bK]
    rw[ir (pw t x i x.aZ[i].aQ) (by omega) (λk hk _=>by
     have hy:x.aZ[i].aQ[k]? =some x.aZ[i].aQ[k]:=aM hk;rw[cD hy,aA,vK hp.typed hbt hbx,aA,wz (f:=λx522=>(ij N x522 x.aZ[i].aQ[k]).bind λx526=>some<|!x526) (λy=>rfl) hy (by omega),aA,n4 _ i (by omega),aA,Bi (by have:=Ae x.aZ i;omega),aA];unfold pw;rw[hy];dsimp only
     cases ky t x.aJ x.aZ[i].aQ[k]
     ·rfl
     ·cases mU x.aZ[i].aQ k
      ·cases pb (x.aZ.take i) x.aZ[i].aQ[k] <;> rfl
      ·rfl),aA,sN]
    cases ke x.aZ[i].aQ.length (pw t x i x.aZ[i].aQ)with
    |some r=>rfl
    |none=>
     simp only[Option.elim_none,Option.none_or]
     by_cases h7:0<x.aZ[i].mh.length
     ·rw[aG h7,cI (by omega)];rfl
     ·rw[aK h7,bU (by omega)]
      cases iO Net.Name x.aZ i <;> rfl),aA,ow]
theorem tA{t:List aD}{x:aH}(hbt:bk t<=1048576)(hbx:bk x<=1048576)(hN:4194304<=N):fc N t x=some (fO t x):=by
 unfold fc fO;rw[sO hbt,aA,oy hbt hbx hN,aA]
 by_cases h1:checkTypes t=0
 ·rw[h1];rfl
 ·have e:(checkTypes t != 0)=true:=by rw[bne_iff_ne];exact h1
  rw[e,aG h1];rfl
end
theorem mV:mx o7:=⟨λx=>(jF _ _).2 rfl,λx y h=>aU.ext' ((jF _ _).1 h),λx y=>by
 unfold o7;rw[zB,ks];rfl,λx y z h h2=>by
 unfold o7 at *;rw[ks]at *
 exact aU.lt_trans (a:=x) (b:=y) (c:=z) h h2⟩
section
variable {α:Type}{cf:α->α->Int}{N:Nat}
theorem CB{β:Type}(l:List α)(f:α->β)(z:β)(k:Nat)(hk:k<l.length):((l.take k).map f++List.replicate (l.length - k) z).set k (f l[k])=(l.take<|k+1).map f++List.replicate (l.length -(k+1)) z:=by
 have e1:((l.take k).map f).length=k:=by rw[dF,bQ];omega
 rw[List.set_append_right _ _ (by omega),e1,Nat.sub_self,show l.length - k=(l.length -(k+1))+1 by omega,List.replicate_succ,List.set_cons_zero,fo hk,fX];simp
noncomputable def CC(z:α)(b N:Nat)(φ:α->α->Option Int)(p0:List α):Option (List Int×Int):=
 ((app b ([]:List α) p0).bind λx32=>some x32).bind λx32=>(ph φ x32).bind λx34=>(ov z N x34<|λy0 y1=>(φ y0 y1).bind λx31=>some<|x31==0).bind λx35=>(mk 8 (0:Int) (p0.length:Int)).bind λx37=>(jm p0.length (λ(k39:Nat)(s40:List α×List Int)=>((idx p0 (k39:Int)).bind λx54=>(xm N s40.1 x54 φ).bind λx56=>(idx s40.2 (k39:Int)).bind λx57=>some (s40.1,s40.2.set (Int.toNat (k39:Int)) x56.1):Option (List α×List Int))) (x35,x37)).bind λs40=>some (s40.2,(s40.1.length:Int))
theorem wA [DecidableEq α](hO:mx cf){z:α}{b:Nat}{φ:α->α->Option Int}{l:List α}(hφ:∀x∈l,∀y∈l,φ x y=some (cf x y))(hl:l.length<=1048576)(hb:b<=1000)(hN:4194304<=N):
  Ok (CC z b N φ l) (λr=>∃d,eT cf l d/\r=(l.map<|tv d,(d.length:Int))):=by
 unfold CC
 rw[dE (by
  have:l.length*b<=1048576*1000:=Nat.mul_le_mul hl hb
  simpa using by omega),aA,aA,List.nil_append]
 obtain⟨m,hm,hp,hw⟩:=hO.sort hφ (by omega);refine IB hm ?_;have hmm:∀x,x∈m↔x∈l:=λx=>hp.mem_iff;have hml:m.length=l.length:=hp.length_eq
 refine Ir (mT hO (λx hx y hy=>by
  rw[hφ x ((hmm x).1 hx) y<|(hmm y).1 hy,aA];congr 1
  by_cases e:x=y
  ·subst e;rw[hO.refl];simp
  ·rw[bU e];exact beq_eq_false_iff_ne.2 λh=>e (hO.eq _ _ h)) hw (by omega) (by omega)) (λd hd=>?_)
 have hD:eT cf l d:=⟨hd.1,λx=>(hd.2 x).trans<|hmm x⟩;have hdl:=hD.len hO;refine IB (qB _ (by omega)) ?_;refine Ir (I6 (λk s=>s=(d,(l.take k).map (tv d)++List.replicate (l.length - k) (0:Int))) (by omega) (by simp)<|λk s hk hs=>?_)<|λs hs=>Ip ⟨d,hD,?_⟩
 ·subst hs;refine II hk ?_;have hx:l[k]∈l:=eD hk
  obtain⟨r,h1,h2,h3⟩:=Cz (N:=N) (l:=d) (s:=l[k]) (φ:=φ) (λy=>cf y l[k]) (λy hy=>hφ y ((hD.2 y).1 hy) _ hx) (λi j x y hij hxi hyj hc=>by
   obtain⟨g1,rfl⟩:=bS.1 hxi;obtain⟨g2,rfl⟩:=bS.1 hyj;have h0:=nj.1 hD.1 i j g1 g2 hij;have h4:=hO.xr l[k] d[j]
   rcases hO.Ey d[j] l[k]with e|e|e
   ·have:=hO.trans _ _ _ h0 e;omega
   ·rw[e]at h0;omega
   ·omega) (by omega) hN
  refine IB h1 ?_;have e:(λy=>cf y l[k]==0)=λy=>decide (l[k]=y):=by
   funext y
   by_cases e:l[k]=y
   ·subst e;rw[hO.refl];simp
   ·rw[bU e];exact beq_eq_false_iff_ne.2 λh=>e (hO.eq _ _ h).symm
  rw[e]at h2 h3;have ht:r.2=true:=by
   rw[h2,kl];exact⟨l[k],(hD.2 _).2 hx,by simp⟩
  have h3:=h3 ht;refine II (by simp;omega)<|Ip ?_
  rw[h3,dJ];congr 1;exact CB l (tv d) 0 k hk
 ·subst hs;simp
end
section
variable {N:Nat}
theorem Bj{l:List aU}(hl:l.length<=1048576)(hN:4194304<=N):Ok (dA N l) (λr=>∃d,eT o7 l d/\r=(l.map<|tv d,(d.length:Int))):=
 wA (z:=⟨[]⟩) (b:=16) (φ:=ej N) mV (λx _ y _=>rfl) hl (by omega) hN
theorem wB{l:List (List Int)}(hl:l.length<=1048576)(h:∀x∈l,x.length<=4611686018427387904)(hN:4194304<=N):Ok (cH N l) (λr=>∃d,eT cmpL l d/\r=(l.map<|tv d,(d.length:Int))):=
 wA (z:=[]) (b:=24) (φ:=cV N) jt (λx hx y _=>vd<|h x hx) hl (by omega) hN
end
section
variable {α:Type}{cf:α->α->Int}{N:Nat}
theorem yL{all:List α}{s:α}{body:Int->Option (Fl Int Empty)}(hO:mx cf)(hw:SW cf all)(h0:body 0=some (.br 0))(hl:all.length<N)
  (hs:∀k(hk:k<all.length),body ((k+1:Nat):Int)=some (if 0<cf all[k] s then .nx ((k:Nat):Int)else .br ((k+1:Nat):Int))):
  Ok (mn body N ((all.length:Nat):Int)) (F9 (λr=>∃k:Nat,r=((k:Nat):Int)/\k<=all.length/\(∀j(hj:j<all.length),k<=j->0<cf all[j] s)/\(∀j(hj:j<all.length),j<k->¬0<cf all[j] s))<|λ_=>True):=by
 refine Jh (λr=>∃k:Nat,r=((k:Nat):Int)/\k<=all.length/\(∀j(hj:j<all.length),k<=j->0<cf all[j] s)) (λr=>r.toNat) ?_ ⟨all.length,rfl,bR _,λj hj h=>by omega⟩ (by simp;omega);rintro r⟨k,rfl,hk,h1⟩
 cases k with
 |zero=>
  refine Ki h0 ?_;exact⟨0,rfl,by omega,h1,λj hj h=>by omega⟩
 |succ k=>
  refine Ki (hs k (by omega)) ?_
  by_cases hc:0<cf all[k] s
  ·rw[aG hc];refine⟨⟨k,rfl,by omega,λj hj h=>?_⟩,by simp⟩
   by_cases e:j=k
   ·subst e;exact hc
   ·exact h1 j hj (by omega)
  ·rw[aK hc];refine⟨k+1,rfl,hk,h1,λj hj h=>?_⟩
   by_cases e:j=k
   ·subst e;exact hc
   ·have h2:=nj.1 hw j k hj (by omega) (by omega);intro h3;have h4:=hO.xr s all[j];have h5:=hO.xr s all[k]
    rcases hO.Ey all[j] all[k]with g|g|g
    ·exact hc<|h5.1<|hO.trans _ _ _ (h4.2 h3) g
    ·rw[g]at h3;exact hc h3
    ·exact h2 g
theorem vL{all:List α}{k j:Nat}{x:α}(h:x∈all.take k):∃j,∃hj:j<all.length,j<k/\all[j]=x:=by
 obtain⟨j,hj,rfl⟩:=List.mem_iff_getElem.1 h;rw[bQ]at hj;exact⟨j,by omega,by omega,by rw[List.getElem_take]⟩
theorem yM{all:List α}{k:Nat}{x:α}(h:x∈all.drop k):∃j,∃hj:j<all.length,k<=j/\all[j]=x:=by
 obtain⟨j,hj,rfl⟩:=List.mem_iff_getElem.1 h;rw[dR]at hj;exact⟨k+j,by omega,by omega,by rw[List.getElem_drop]⟩
theorem yN{R:α->α->Prop}{all:List α}{s:α}{k:Nat}(hw:all.Pairwise R)(h1:∀j(hj:j<all.length),k<=j->R s all[j])(h2:∀j(hj:j<all.length),j<k->R all[j] s):(all.take k++[s]++all.drop k).Pairwise R:=by
 rw[iA,List.pairwise_append];refine⟨hw.sublist<|List.take_sublist _ _,?_,λx hx y hy=>?_⟩
 ·rw[List.singleton_append,List.pairwise_cons];refine⟨λy hy=>?_,hw.sublist<|List.drop_sublist _ _⟩;obtain⟨j,hj,h3,rfl⟩:=yM hy;exact h1 j hj h3
 ·obtain⟨j,hj,h3,rfl⟩:=vL (j:=0) hx;rw[List.singleton_append,iV]at hy
  rcases hy with rfl|hy
  ·exact h2 j hj h3
  ·obtain⟨i,hi,h4,rfl⟩:=yM hy;exact nj.1 hw j i hj hi (by omega)
theorem yO(all:List α)(s:α)(k:Nat):(all.take k++[s]++all.drop k).Perm (all++[s]):=by
 have h1:(all.take k++[s]++all.drop k).Perm (all.take k++(all.drop k++[s])):=by
  rw[iA];exact List.Perm.append_left _ List.perm_append_comm
 rwa[<-iA,List.take_append_drop]at h1
theorem wC{b:Nat}{l:List α}{s:α}{k:Nat}(hk:k<=l.length)(hl:l.length<=1048576)(hb:b<=1000):vA b l ((k:Nat):Int) [s]=some (l.take k++[s]++l.drop k):=by
 have h3:(l.length+1)*b<=1048577*1000:=Nat.mul_le_mul (by omega) hb;unfold vA;rw[aG ⟨by omega,by omega,rfl,by simp only[List.length_singleton];omega⟩,dJ]
end
section
variable {N:Nat}
theorem SD.sw{α:Type}{cf:α->α->Int}(hO:mx cf){l:List α}(h:SD cf l):SW cf l:=h.imp λ{a b}hab h2=>hO.EL<|hO.trans _ _ _ hab h2
theorem EA{all:List (List Int)}{s:List Int}{done:List (List Int)}(hd:eT cmpL done all)(hn:done.length<=1048576)(hr:∀x∈done,x.length<=4611686018427387904)(hN:4194304<=N):
  Ok ((mn (λ(s484:Int)=>((bif decide (s484>0)then((idx all<|wrap .i64<|s484 - 1).bind λx509=>(cV N x509 s).bind λx511=>some<|decide<|x511>0)else some false).bind λs507=>bif s507 then some (.nx<|wrap .i64<|s484 - 1)else(some<|.br s484):Option (Fl Int Empty))) N (all.length:Int)).bind λo529=>o529.cs (λ(s484:Int)=>(bif s484==0 then some true else((idx all<|wrap .i64<|s484 - 1).bind λx518=>(eu N x518 s).bind λx520=>some<|!x520)).bind λs516=>(bif s516 then((vA 24 all s484 ([s]:List (List Int))).bind λx527=>some x527)else some all).bind λs524=>some s524)<|λr=>r.elim)
   (λr=>eT cmpL (done++[s]) r):=by
 have uk:=hd.len jt;have hla:∀j(hj:j<all.length),all[j].length<=4611686018427387904:=λj hj=>hr _<|(hd.2 _).1<|eD hj
 have hidx:∀k(hk:k<all.length),idx all (wrap .i64<|((k+1:Nat):Int) - 1)=some all[k]:=λk hk=>by
  rw[kG (by omega) (by omega),qu,iu _ _ hk]
 refine Ir (yL (s:=s) jt (hd.1.sw jt) (by rfl) (by omega)<|λk hk=>?_)<|λo ho=>?_
 ·rw[cI (by omega),bL,hidx k hk,aA,vd<|hla k hk,aA,aA,kG (by omega) (by omega),qu]
  by_cases hc:0<cmpL all[k] s
  ·rw[aG hc,cI (by omega),bL]
  ·rw[aK hc,bU (by omega),bK]
 ·refine I_ ho ?_<|λr=>r.elim
  rintro r⟨k,rfl,hk,h1,h2⟩;have key:∀b:Bool,(b=true↔¬s∈done)->Ok ((bif b then((vA 24 all ((k:Nat):Int) ([s]:List (List Int))).bind λx527=>some x527)else some all).bind λs524=>some s524) (λr=>eT cmpL (done++[s]) r):=by
   intro b hb
   cases b
   ·rw[bK,aA];have hm:s∈done:=Decidable.not_not.1 λh=>by have:=hb.2 h;cases this
    refine Ip ⟨hd.1,λx=>?_⟩;rw[hd.2,jZ];constructor
    ·exact .inl
    ·rintro(h|h)
     ·exact h
     ·simp at h;subst h;exact hm
   ·rw[bL,wC hk (by omega) (by omega),aA,aA];have hm:=hb.1 rfl;refine Ip ⟨yN hd.1 (λj hj h=>(jt.xr _ _).2<|h1 j hj h)<|λj hj h=>?_,λx=>?_⟩
    ·have h3:=h2 j hj h
     rcases jt.Ey all[j] s with e|e|e
     ·exact e
     ·exact absurd ((hd.2 _).1<|e▸eD hj) hm
     ·exact absurd ((jt.xr _ _).1 e) h3
    ·rw[(yO all s k).mem_iff,jZ,jZ,hd.2]
  cases k with
  |zero=>
   rw[show(((0:Nat):Int)==0)=true from rfl,bL,aA];refine key true ⟨λ_ h=>?_,λ_=>rfl⟩;obtain⟨j,hj,e⟩:=List.mem_iff_getElem.1<|(hd.2 s).2 h
   have:=h1 j hj (by omega);rw[e,ou]at this;omega
  |succ k=>
   rw[show(((k+1:Nat):Int)==0)=false by rw[beq_eq_false_iff_ne];omega,bK,hidx k (by omega),aA,tw<|hla k (by omega),aA,aA];refine key _ ⟨λhb h=>?_,λh=>?_⟩
   ·have hne:all[k]≠s:=by simpa using hb
    obtain⟨j,hj,e⟩:=List.mem_iff_getElem.1<|(hd.2 s).2 h
    by_cases hjk:k+1<=j
    ·have:=h1 j hj hjk;rw[e,ou]at this;omega
    ·have h3:=h2 k (by omega) (by omega)
     by_cases e2:j=k
     ·subst e2;exact hne e
     ·have h4:=nj.1 hd.1 j k hj (by omega) (by omega);rw[e]at h4;exact h3<|(jt.xr _ _).1 h4
   ·have hne:all[k]≠s:=λe=>h<|(hd.2 _).1<|e▸eD _
    simp[hne]
theorem Dx{d:List (List Int)}{s:List Int}(hs:s∈d)(hl:d.length<=1048576)(hr:∀x∈d,x.length<=4611686018427387904)(hN:4194304<=N):
  mn (λ(s728:Int)=>((idx d s728).bind λx735=>(eu N x735 s).bind λx737=>bif(!x737)then some (.nx<|wrap .i64<|s728+1)else(some<|.br s728):Option (Fl Int Empty))) N 0=some (.go<|tv d s):=by
 obtain⟨m,hm,h1,h2⟩:=Cw hs;have:=Jh (N:=N) (R:=Empty) (s:=(0:Int)) (body:=λ(s728:Int)=>((idx d s728).bind λx735=>(eu N x735 s).bind λx737=>bif(!x737)then some (.nx<|wrap .i64<|s728+1)else(some<|.br s728):Option (Fl Int Empty)))
  (λr=>∃k:Nat,r=((k:Nat):Int)/\k<=m/\∀j y,j<k->d[j]? =some y->decide (s=y)=false) (λr=>d.length - r.toNat) (Go:=λr=>r=tv d s) (Rt:=λ_=>True) (by
   rintro r⟨k,rfl,hk,h3⟩;have hkl:k<d.length:=by omega
   refine II hkl<|IB (tw<|hr _<|eD hkl) ?_
   refine IZ (λhb=>?_)<|λhb=>Jz ?_
   ·have hne:d[k]≠s:=by simpa using hb
    have hkm:k≠m:=λe=>by
     subst e;rw[aM hkl]at h2;injection h2 with h2;exact hne h2
    rw[iv (by omega)];refine I9 ⟨⟨k+1,rfl,by omega,λj y hj hy=>?_⟩,by simp only[dJ];omega⟩
    by_cases e:j=k
    ·subst e;rw[aM hkl]at hy;injection hy with hy
     rw[decide_eq_false_iff_not];rintro rfl;exact hne hy
    ·exact h3 j y (by omega) hy
   ·have he:d[k]=s:=by simpa using hb
    unfold tv
    rw[lU (k:=k) (x:=d[k]) (aM hkl) (by simp[he]) h3]) ⟨0,rfl,by omega,λj y hj=>by omega⟩ (by simp;omega)
 obtain⟨o,h3,h4⟩:=this;rw[h3]
 cases o with
 |go r=>rw[show r=tv d s from h4]
 |rt r=>exact r.elim
theorem qG{α:Type}{L:List (List α)}{i:Nat}(hi:i<L.length):(L.take<|i+1).flatten=(L.take i).flatten++L[i]:=by
 rw[fo hi,List.flatten_append,List.flatten_singleton]
theorem yP{α:Type}{L:List (List α)}{i:Nat}:(L.take i).flatten.length<=L.flatten.length:=by
 conv=>rhs;rw[<-List.take_append_drop i L,List.flatten_append,cL]
 omega
theorem Ak{α:Type}{L:List (List α)}{i:Nat}(hi:i<L.length):(L.take i).flatten.length+L[i].length<=L.flatten.length:=by
 have:=yP (L:=L) (i:=i+1);rw[qG hi,cL]at this;exact this
theorem tT{L:List (List<|List Int)}(hL:L.length<=1048576)(hl:L.flatten.length<=1048576)(hr:∀x∈L.flatten,x.length<=4611686018427387904)(hN:4194304<=N):
  Ok (fE N L) (λr=>∃d,eT cmpL L.flatten d/\r=(L.map<|λl=>l.map<|tv d,(d.length:Int))):=by
 unfold fE;have hsub:∀i,∀x∈(L.take i).flatten,x∈L.flatten:=λi x hx=>by
  rw[<-List.take_append_drop i L,List.flatten_append];exact List.mem_append_left _ hx
 refine Ir (I6 (λi s=>eT cmpL (L.take i).flatten s) (by omega) ⟨by simp[SD],by simp⟩<|λi s hi hs=>?_)<|λd hd=>?_
 ·refine II hi ?_;have hin:∀x∈L[i],x∈L.flatten:=λx hx=>List.mem_flatten.2 ⟨_,eD hi,hx⟩;have hfi:=Ak hi;refine Ir (P:=λr=>eT cmpL ((L.take i).flatten++L[i]) r) (Ok.mono (I6 (λk s=>eT cmpL ((L.take i).flatten++L[i].take k) s) (by omega) (by simpa using hs)<|λk s hk hs=>?_) (λr hr=>by rwa[eR]at hr))<|λr hr=>Ip ?_
  ·refine II hk ?_;rw[fo hk,<-iA];refine EA hs (by rw[cL,bQ];omega) (λx hx=>?_) hN
   rcases jZ.1 hx with h|h
   ·exact hr x<|hsub i x h
   ·exact hr x<|hin x<|List.take_subset _ _ h
  ·rw[qG hi];exact hr
 ·rw[eR]at hd;have hdl:=hd.len jt;have hdr:∀x∈d,x.length<=4611686018427387904:=λx hx=>hr x<|(hd.2 x).1 hx
  refine Ir (I6 (λi s=>s=(L.take i).map (λl=>l.map<|tv d)) (by omega) (by simp)<|λi s hi hs=>?_)<|λs hs=>Ip ⟨d,hd,by rw[hs,eR]⟩
  subst hs;refine II hi ?_;have hfi:=Ak hi;refine Ir (I6 (λk s=>s=(L[i].take k).map (tv d)) (by omega) (by simp)<|λk s hk hs=>?_)<|λs hs=>?_
  ·subst hs;refine II hk ?_;rw[Dx ((hd.2 _).2<|List.mem_flatten.2 ⟨_,eD hi,eD hk⟩) (by omega) hdr hN,aA];show Ok ((app 8 ((L[i].take k).map<|tv d) [tv d L[i][k]]).bind λx=>some x) _;rw[dE (by simp only[dF,bQ,List.length_singleton];omega),aA];exact Ip (by rw[fo hk,fX];rfl)
  ·subst hs;rw[eR,dE (by simp only[dF,bQ,List.length_singleton];omega),aA];exact Ip (by rw[fo hi,fX];rfl)
end
section
variable {N:Nat}
structure j5 (t:List aD) (x:aH):Prop where
 types:xt t
 parts:Ai t x.aJ
 xy:x.aJ.length<=1000
 ll:x.aZ.length<=1000
 Al:∀n∈x.aZ,0<n.aQ.length/\n.aQ.length<=500
 Ga:∀n∈x.aZ,n.mh= []
 pA:gZ Net.Name x.aZ
 path:∀n∈x.aZ,me n.Name=true
 HT:∀p∈x.aJ,me p.Name=true
 HU:∀n∈x.aZ,∀p∈n.aQ,ky t x.aJ p=true
 EB:∀n∈x.aZ,∀(i j:Nat)(p q:cC),i<j->n.aQ[i]? =some p->n.aQ[j]? =some q->nB p q=true
 once:∀(i j:Nat)(n m:Net)(p:cC),x.aZ[i]? =some n->x.aZ[j]? =some m->p∈n.aQ->p∈m.aQ->i=j
theorem xz(a:cC):nB a a=false:=by
 unfold nB;have h1:a.Part.lQ a.Part=false:=by rw[<-kO];exact aU.lt_irrefl _
 have h2:a.cC.lQ a.cC=false:=by rw[<-kO];exact aU.lt_irrefl _
 rw[h1,h2];simp
theorem yQ{a b c:cC}(h1:nB a b=true)(h2:nB b c=true):nB a c=true:=by
 unfold nB at *;simp only[fg,cO,lM]at *
 rcases h1 with h1|⟨e1,h1⟩
 ·rcases h2 with h2|⟨e2,_⟩
  ·exact .inl<|aU.lt_trans h1 h2
  ·rw[<-e2];exact .inl h1
 ·rcases h2 with h2|⟨e2,h2⟩
  ·rw[e1];exact .inl h2
  ·exact .inr ⟨e1.trans e2,aU.lt_trans h1 h2⟩
theorem Bl{l:List cC}(h:∀k,k<l.length->mU l k=false):∀(i j:Nat)(p q:cC),i<j->l[i]? =some p->l[j]? =some q->nB p q=true:=by
 intro i j
 induction j with
 |zero=>intro p q hij;omega
 |succ j ih=>
  intro p q hij hp hq;have hj:=(bS.1 hq).1;have h1:=h (j+1) hj;unfold mU at h1;rw[hq,qu,aM (by omega:j<l.length)]at h1;simp at h1
  by_cases e:i=j
  ·subst e;rw[aM (by omega:i<l.length)]at hp;injection hp with hp;subst hp;exact h1
  ·exact yQ (ih p l[j] (by omega) hp<|aM (by omega)) h1
theorem Bm{t:List aD}{x:aH}{k:Nat}{r:Int}(h:pc t x k=some r):r≠0:=by
 unfold pc at h;split at h
 ·cases h
 split at h
 ·injection h with h;omega
 split at h
 ·injection h with h;omega
 split at h
 ·injection h with h;omega
 cases hx:ke _ (pw t x k _)with
 |some r'=>
  rw[hx]at h;injection h with h
  subst h;obtain⟨j,_,hj,_⟩:=jl.1 hx;exact yK hj
 |none=>
  rw[hx]at h;simp only[Option.none_or]at h;split at h
  ·injection h with h;omega
  split at h
  ·injection h with h;omega
  ·cases h
theorem sQ{t:List aD}{x:aH}(h:fO t x=0):j5 t x:=by
 unfold fO at h
 by_cases h1:checkTypes t≠0
 ·rw[aG h1]at h;exact absurd h h1
 rw[aK h1]at h
 by_cases h2:ey t x.aJ≠0
 ·rw[aG h2]at h;exact absurd h h2
 rw[aK h2]at h
 replace h1:=Decidable.not_not.1 h1
 replace h2:=Decidable.not_not.1 h2
 unfold ox at h
 by_cases h3:1000<x.aZ.length
 ·rw[aG h3]at h;cases h
 rw[aK h3]at h;have hn:=qE (λk r hk=>Bm hk) h;have key:∀i(hi:i<x.aZ.length),me x.aZ[i].Name=true/\0<x.aZ[i].aQ.length/\x.aZ[i].aQ.length<=500/\x.aZ[i].mh= []/\iO Net.Name x.aZ i=false/\
   ∀k(hk:k<x.aZ[i].aQ.length),ky t x.aJ x.aZ[i].aQ[k]=true/\mU x.aZ[i].aQ k=false/\pb (x.aZ.take i) x.aZ[i].aQ[k]=false:=by
  intro i hi;have h4:=hn i hi;unfold pc at h4;rw[aM hi]at h4;dsimp only at h4;split at h4
  ·cases h4
  split at h4
  ·cases h4
  split at h4
  ·cases h4
  cases h5:ke x.aZ[i].aQ.length (pw t x i x.aZ[i].aQ)with
  |some r=>rw[h5]at h4;cases h4
  |none=>
   rw[h5]at h4;simp only[Option.none_or]at h4;split at h4
   ·cases h4
   split at h4
   ·cases h4
   rename_i h6 h7 h8 h9 h10;refine⟨by simpa using h6,by omega,by omega,List.length_eq_zero_iff.1 (by omega),by simpa using h10,λk hk=>?_⟩;have h11:=jW.1 h5 k hk;unfold pw at h11;rw[aM hk]at h11;dsimp only at h11
   repeat' split at h11
   all_goals first|(simp at h11;done)|simp_all
 have hpe:∀k(hk:k<x.aJ.length),me x.aJ[k].Name=true:=by
  intro k hk;have h5:=h2;unfold ey at h5;split at h5
  ·cases h5
  have h4:=qE (λk r hk=>rN hk) h5 k hk;unfold lk at h4;rw[aM hk]at h4;dsimp only at h4;split at h4
  ·cases h4
  ·rename_i h6;simpa using h6
 have mem:∀n∈x.aZ,∃i,∃hi:i<x.aZ.length,n=x.aZ[i]:=λn hn=>by
  obtain⟨i,hi⟩:=jP hn;obtain⟨hlt,rfl⟩:=bS.1 hi;exact⟨i,hlt,rfl⟩
 refine⟨rh h1,nS h2,?_,by omega,λn hn=>?_,λn hn=>?_,lO λi hi=>(key i hi).2.2.2.2.1,λn hn=>?_,λp hp=>?_,λn hn p hp=>?_,λn hn=>?_,?_⟩
 ·unfold ey at h2;split at h2
  ·cases h2
  ·omega
 ·obtain⟨i,hi,rfl⟩:=mem n hn;exact⟨(key i hi).2.1,(key i hi).2.2.1⟩
 ·obtain⟨i,hi,rfl⟩:=mem n hn;exact(key i hi).2.2.2.1
 ·obtain⟨i,hi,rfl⟩:=mem n hn;exact(key i hi).1
 ·obtain⟨k,hk⟩:=jP hp;obtain⟨hlt,rfl⟩:=bS.1 hk;exact hpe k hlt
 ·obtain⟨i,hi,rfl⟩:=mem n hn;obtain⟨k,hk⟩:=jP hp;obtain⟨hlt,rfl⟩:=bS.1 hk;exact((key i hi).2.2.2.2.2 k hlt).1
 ·obtain⟨i,hi,rfl⟩:=mem n hn;exact Bl λk hk=>((key i hi).2.2.2.2.2 k hk).2.1
 ·have one:∀(i j:Nat)(n m:Net)(p:cC),i<j->x.aZ[i]? =some n->x.aZ[j]? =some m->p∈n.aQ->p∈m.aQ->False:=by
   intro i j n m p hij hn hm hpn hpm;obtain⟨hj,rfl⟩:=bS.1 hm;obtain⟨k,hk⟩:=jP hpm;obtain⟨hlt,rfl⟩:=bS.1 hk;have h5:=((key j hj).2.2.2.2.2 k hlt).2.2;unfold pb at h5;rw[List.any_eq_false]at h5;refine h5 n (fK (i:=i) (by rw[List.getElem?_take_of_lt hij];exact hn)) ?_;simpa using hpn
  intro i j n m p hn hm hpn hpm
  rcases Nat.lt_trichotomy i j with h5|h5|h5
  ·exact(one i j n m p h5 hn hm hpn hpm).elim
  ·exact h5
  ·exact(one j i m n p h5 hm hn hpm hpn).elim
def ff(x:aH)(p:cC):Int:=vJ x.aZ<|λn=>decide<|p∈n.aQ
theorem xA{x:aH}{p:cC}(hb:bk x<=1048576):iD N x p=some (ff x p):=by
 rw[mK]at hb;have:=gy x.aZ
 have e:=kf (l:=x.aZ) (φ:=λn=>fC N n.aQ p) (λn=>decide (p∈n.aQ)) (by omega) (λn hn=>by
  have hb2:=p6 hn;rw[tm]at hb2;have:=gy n.aQ
  exact sH (by omega))
 unfold ff;rw[<-e];rfl
def ln(x:aH)(i:Nat):List (cC×Int):=(List.range i).foldl (λm k=>mS m ((x.aZ[k]?.map Net.aQ).getD []) ((k:Nat):Int)) []
theorem qo{x:aH}{i:Nat}{n:Net}(h:x.aZ[i]? =some n):ln x (i+1)=mS (ln x i) n.aQ ((i:Nat):Int):=by
 unfold ln;rw[List.range_succ,List.foldl_append,List.foldl_cons,List.foldl_nil,h];rfl
theorem CD{x:aH}(hb:Aj x):jT N x=some (ln x x.aZ.length):=by
 have:=hb.nl;unfold jT
 rw[k8 (s:=([]:List (cC×Int))) (ln x) (by omega) rfl (λk hk=>by
  have hx:x.aZ[k]? =some x.aZ[k]:=aM hk;have:=hb.np _<|eD hk
  rw[cD hx,aA,wq _ (by omega),aA,qo hx]),aA]
theorem tU{x:aH}{p:cC}:∀(i:Nat),i<=x.aZ.length->lA (ln x i) p=(x.aZ.take i).any (λn=>decide<|p∈n.aQ)
 | 0,_=>by simp[ln,lA]
 |i+1,h=>by
  have hx:x.aZ[i]? =some x.aZ[i]:=aM (by omega);rw[qo hx,zA,tU i (by omega),fo (by omega),List.any_append];simp[Bool.or_comm]
theorem tV{x:aH}{p:cC}{j:Nat}(hj:∀k n,x.aZ[k]? =some n->p∈n.aQ->k=j)(z:Int):∀(i:Nat),i<=x.aZ.length->ew (ln x i) p z=if(x.aZ.take i).any (λn=>decide<|p∈n.aQ)=true then((j:Nat):Int)else z
 | 0,_=>by simp[ln,ew]
 |i+1,h=>by
  have hx:x.aZ[i]? =some x.aZ[i]:=aM (by omega);rw[qo hx,u7,tV hj z i (by omega),fo (by omega),List.any_append]
  by_cases hp:p∈x.aZ[i].aQ
  ·have hji:=hj i _ hx hp;rw[aG hp,aG (by simp[hp])];omega
  ·rw[aK hp];simp[hp]
theorem Bn{t:List aD}{x:aH}(h:j5 t x)(p:cC):
  lA (ln x x.aZ.length) p=decide (ff x p>=0)/\(0<=ff x p->∀z,ew (ln x x.aZ.length) p z=ff x p):=by
 have e:lA (ln x x.aZ.length) p=x.aZ.any (λn=>decide<|p∈n.aQ):=by rw[tU _<|bR _,eR]
 unfold ff;refine⟨by rw[e,uW],λh0 z=>?_⟩
 rcases iN x.aZ (λn=>decide<|p∈n.aQ)with⟨h1,_⟩|⟨k,n,h1,h2,h3,_⟩
 ·rw[h1]at h0;omega
 ·have h3':p∈n.aQ:=by simpa using h3
  rw[tV (j:=k) (λi m hm hp=>h.once i k m n p hm h2 hp h3') z _<|bR _,eR,h1,aG];exact kl.2 ⟨n,fK h2,h3⟩
def eY(t:List aD)(p:Part):aD:=(t.find?<|λy=>y.Name.jQ p.cM).getD default
def HD(t:List aD)(p:Part):List cC:=(eY t p).aQ.map<|λy=>⟨p.Name,y.Name⟩
theorem mW{t:List aD}{p:Part}(h:0<=nat? aD.Name t p.cM):∃k:Nat,nat? aD.Name t p.cM=((k:Nat):Int)/\t[k]? =some (eY t p):=by
 rcases i7 aD.Name t p.cM with⟨h1,_⟩|⟨k,y,h1,h2,_⟩
 ·omega
 ·refine⟨k,h1,?_⟩;unfold eY;rw[sP h1 h2];exact h2
theorem oz{α β:Type}{l:List α}{body:Nat->List β->Option (List β)}{s0:List β}(f:α->List β)(hl:l.length<=4611686018427387904)
  (h:∀k y,l[k]? =some y->body k (s0++(l.take k).flatMap f)=some (s0++(l.take k).flatMap f++f y)):jm l.length body s0=some (s0++l.flatMap f):=by
 rw[k8 (s:=s0) (λk=>s0++(l.take k).flatMap f) hl (by simp) (λk hk=>by
  rw[h k l[k] (aM hk),fo hk,List.flatMap_append,iA];simp),eR]
theorem kL{α β:Type}(f:α->List β)(b:Nat):∀(l:List α),(∀x∈l,(f x).length<=b)->(l.flatMap f).length<=l.length*b
 | [],_=>by simp
 |x::l,h=>by
  have h1:=h x (by simp);have h2:=kL f b l<|λy hy=>h y (by simp[hy])
  rw[List.flatMap_cons,cL,lI,Nat.succ_mul];omega
theorem lp{t:List aD}{p:Part}(hbt:bk t<=1048576)(h:0<=nat? aD.Name t p.cM):(eY t p).aQ.length<=1048576:=by
 obtain⟨k,_,h2⟩:=mW h;have h3:=p7 h2;rw[kH]at h3;have:=gy (eY t p).aQ;omega
theorem yR(hN:4194304<=N):iG N=some true:=by
 obtain⟨M,rfl⟩:∃M,N=M+64:=⟨N - 64,by omega⟩;rfl
end
section
variable {N:Nat}
section
variable {α:Type}
theorem zC{key:α->aU}{l:List α}:gZ key l↔l.Pairwise (λa b=>aU.lt (key a)<|key b):=by
 rw[nj];constructor
 ·intro h i j hi hj hij;exact h i j _ _ hij (aM hi)<|aM hj
 ·intro h i j x y hij hx hy;obtain⟨hi,rfl⟩:=bS.1 hx;obtain⟨hj,rfl⟩:=bS.1 hy;exact h i j hi hj hij
def Am(l:List cC):Prop:=l.Pairwise<|λa b=>nB a b=true
theorem zD{l:List cC}:(∀(i j:Nat)(p q:cC),i<j->l[i]? =some p->l[j]? =some q->nB p q=true)↔Am l:=by
 unfold Am;rw[nj];constructor
 ·intro h i j hi hj hij;exact h i j _ _ hij (aM hi)<|aM hj
 ·intro h i j x y hij hx hy;obtain⟨hi,rfl⟩:=bS.1 hx;obtain⟨hj,rfl⟩:=bS.1 hy;exact h i j hi hj hij
theorem gZ.iO{key:α->aU}{l:List α}(h:gZ key l){k:Nat}(hk:k<l.length):Gk.iO key l k=false:=by
 unfold Gk.iO;rw[aM hk,aM (by omega:k - 1<l.length)];dsimp only
 by_cases h0:0<k
 ·rw[Ad.2<|h (k - 1) k _ _ (by omega) (aM (by omega))<|aM hk];simp
 ·rw[bU h0];simp
end
section
variable {α:Type}
end
end
section
variable {N:Nat}
def mX(y:aD)(s:aU):Int:=
 match y.aQ[(nat? bA.Name y.aQ s).toNat]? with
 |some p=>if 0<p.bC then vJ y.aQ (λq=>q.bC==p.bC)else nat? bA.Name y.aQ s
 |none=>nat? bA.Name y.aQ s
theorem Dy{y:aD}{s:aU}(hs:gZ bA.Name y.aQ)(hl:y.aQ.length<=1048576)(h0:0<=nat? bA.Name y.aQ s)(hN:4194304<=N):kU N y s=some (mX y s):=by
 unfold kU mX;rw[yI hs hl hN,aA]
 rcases i7 bA.Name y.aQ s with⟨h,_⟩|⟨k,p,h,hp,_⟩
 ·omega
 rw[h,dJ,cD hp,aA,hp];dsimp only
 by_cases hg:0<p.bC
 ·have e:eU N y.aQ (λy0=>hG N y0 p.bC)=oL y.aQ (λy0=>hG N y0 p.bC):=rfl;rw[cI hg,bL,aG hg,e,kf (φ:=λy0=>hG N y0 p.bC) (λq:bA=>q.bC==p.bC) (by omega)<|λx _=>rfl,aA]
 ·rw[bU hg,bK,aK hg]
theorem vk{y:aD}{s:aU}(hl:y.aQ.length<=1048576)(h0:0<=nat? bA.Name y.aQ s)(hN:4194304<=N):fL N y (nat? bA.Name y.aQ s)=some (mX y s):=by
 unfold fL mX
 rcases i7 bA.Name y.aQ s with⟨h,_⟩|⟨k,p,h,hp,_⟩
 ·omega
 have hk:=(bS.1 hp).1;rw[h,dJ,hp];dsimp only;generalize hR:(if 0<p.bC then vJ y.aQ (λq=>q.bC==p.bC)else((k:Nat):Int))=R;obtain⟨o,ho,hc⟩:=sE (body:=λ(s33:Int)=>(bif decide (s33<((k:Nat):Int))then(((idx y.aQ ((k:Nat):Int)).bind λx115=>bif decide (x115.bC>0)then((idx y.aQ s33).bind λx120=>(idx y.aQ ((k:Nat):Int)).bind λx124=>some<|x120.bC==x124.bC)else some false).bind λs113=>bif s113 then some (.rt s33)else some (.nx<|wrap .i64<|s33+1))else(some<|.br s33):Option (Fl Int Int)))
  (λs=>∃i:Nat,s=((i:Nat):Int)/\i<=k/\(0<p.bC->∀j q,j<i->y.aQ[j]? =some q->(q.bC==p.bC)=false)) (λs=>k - s.toNat) (λ_=>R=((k:Nat):Int)) (λr=>r=R) (by
   rintro s⟨i,rfl,hi,hn⟩
   by_cases hlt:i<k
   ·have hq:y.aQ[i]? =some y.aQ[i]:=aM (by omega);rw[cI (by omega),bL,cD hp,aA]
    by_cases hg:0<p.bC
    ·rw[cI hg,bL,cD hq,aA,aA,aA]
     cases hx:(y.aQ[i].bC==p.bC)
     ·refine⟨_,rfl,⟨i+1,iv (by omega),by omega,λ_ j q hj hjq=>?_⟩,?_⟩
      ·by_cases hji:j=i
       ·subst hji;rw[hq]at hjq;injection hjq with hjq;rw[<-hjq];exact hx
       ·exact hn hg j q (by omega) hjq
      ·rw[iv (by omega)];omega
     ·refine⟨_,rfl,?_⟩;rw[<-hR,aG hg];exact(lU hq hx<|λj q hj hjq=>hn hg j q hj hjq).symm
    ·rw[bU hg,bK,aA];refine⟨_,rfl,⟨i+1,iv (by omega),by omega,λh=>absurd h hg⟩,?_⟩;rw[iv (by omega)];omega
   ·have:i=k:=by omega
    subst this;rw[bU (by omega),bK];refine⟨_,rfl,?_⟩;show R=_;rw[<-hR];split
    ·rename_i hg;exact lU hp (by simp)<|λj q hj hjq=>hn hg j q hj hjq
    ·rfl) N 0 ⟨0,rfl,by omega,λ_ j q hj=>by omega⟩ (by simp;omega)
 rw[ho,aA]
 cases o with
 |go s=>simp only at hc;simp only[Fo.cs];rw[hc]
 |rt r=>simp only at hc;simp only[Fo.cs];rw[hc]
def oA(x:aH)(s:aU):Part:=(x.aJ.find?<|λp=>p.Name.jQ s).getD default
def HV(t:List aD)(x:aH)(p:cC):Int:=mX (eY t<|oA x p.Part) p.cC
theorem yS{x:aH}{s:aU}(h:0<=nat? Part.Name x.aJ s):∃k:Nat,nat? Part.Name x.aJ s=((k:Nat):Int)/\x.aJ[k]? =some (oA x s):=by
 rcases i7 Part.Name x.aJ s with⟨h1,_⟩|⟨k,y,h1,h2,_⟩
 ·omega
 ·refine⟨k,h1,?_⟩;unfold oA;rw[sP h1 h2];exact h2
theorem tW{t:List aD}{l:List Part}{p:cC}(h:ky t l p=true):0<=nat? Part.Name l p.Part:=by
 rcases i7 Part.Name l p.Part with⟨h1,_⟩|⟨k,y,h1,h2,_⟩
 ·unfold ky at h;rw[wy h1]at h;cases h
 ·omega
theorem vl{t:List aD}{x:aH}{p:cC}(h:ky t x.aJ p=true):0<=nat? bA.Name (eY t<|oA x p.Part).aQ p.cC:=by
 unfold ky at h;have e1:oA x p.Part=(x.aJ.find?<|λq=>q.Name.jQ p.Part).getD default:=rfl;split at h
 ·cases h
 rename_i q hq;rw[hq]at e1;simp only[Option.getD_some]at e1;have e2:eY t q=(t.find?<|λy=>y.Name.jQ q.cM).getD default:=rfl;split at h
 ·cases h
 rename_i y hy;rw[hy]at e2;simp only[Option.getD_some]at e2;rw[e1,e2];have:=Ah bA.Name y.aQ p.cC;rw[h]at this;exact of_decide_eq_true this
theorem zF{t:List aD}{x:aH}(hbt:bk t<=1048576)(ok:j5 t x){s:aU}(h:0<=nat? Part.Name x.aJ s):
  ∃k:Nat,nat? aD.Name t (oA x s).cM=((k:Nat):Int)/\t[k]? =some (eY t<|oA x s)/\gZ bA.Name (eY t<|oA x s).aQ/\(eY t<|oA x s).aQ.length<=1048576:=by
 obtain⟨k,_,hk⟩:=yS h;have h1:=ok.parts.typed _<|fK hk
 obtain⟨i,h2,h3⟩:=mW h1;exact⟨i,h2,h3,ok.types.pins _<|fK h3,lp hbt h1⟩
end
section
variable {κ:Type}[DecidableEq κ]
theorem nT(k a:κ)(x:Int):∀(m:List (κ×Int)),a∈(fR m k x).map Prod.fst↔a=k\/a∈m.map Prod.fst
 | []=>by simp[fR]
 |p::m=>by
  have ih:=nT k a x m;unfold fR
  by_cases h:k=p.1
  ·rw[aG h];simp only[fh,iV,h];constructor
   ·rintro(h|h)
    ·exact .inl h
    ·exact .inr<|.inr h
   ·rintro(h|h|h)
    ·exact .inl h
    ·exact .inl h
    ·exact .inr h
  ·rw[aK h];simp only[fh,iV,ih];constructor
   ·rintro(h|h|h)
    ·exact .inr<|.inl h
    ·exact .inl h
    ·exact .inr<|.inr h
   ·rintro(h|h|h)
    ·exact .inr<|.inl h
    ·exact .inl h
    ·exact .inr<|.inr h
theorem An(k:κ)(x:Int):∀{m:List (κ×Int)},(m.map Prod.fst).Nodup->((fR m k x).map Prod.fst).Nodup
 | [],_=>by simp[fR]
 |p::m,h=>by
  rw[fh,List.nodup_cons]at h;unfold fR
  by_cases hk:k=p.1
  ·rw[aG hk,fh,List.nodup_cons];exact⟨hk▸h.1,h.2⟩
  ·rw[aK hk,fh,List.nodup_cons];refine⟨λhm=>?_,An k x h.2⟩
   rcases(nT k _ x m).1 hm with e|e
   ·exact hk e.symm
   ·exact h.1 e
theorem qp:∀{m:List (κ×Int)}{e:κ×Int},(m.map Prod.fst).Nodup->e∈m->ew m e.1 0=e.2
 |p::m,e,hn,h=>by
  rw[fh,List.nodup_cons]at hn;unfold ew;rw[List.find?_cons]
  rcases iV.1 h with rfl|h
  ·simp
  ·have hne:¬e.1=p.1:=λhe=>hn.1<|he▸List.mem_map_of_mem h
   rw[bU hne];exact qp hn.2 h
end
section
variable {κ ν:Type}
end
def tX(l:List Int):List Int:=l.mergeSort λx y=>decide<|x<=y
theorem tB{l:List Int}(h:l.length<4611686018427387904):pV l=some (tX l):=aG h
theorem lH(l:List Int):(tX l).Perm l:=List.mergeSort_perm _ _
theorem CE{l m:List Int}:tX l=tX m↔l.Perm m:=by
 constructor
 ·intro h;exact(lH l).symm.trans<|h▸lH m
 ·intro h;have srt:∀l:List Int,(tX l).Pairwise (λa b=>a<=b):=λl=>by
   have:=List.pairwise_mergeSort (le:=λx y:Int=>decide (x<=y)) (λa b c h h'=>by
    rw[fH]at h h' ⊢;omega) (λa b=>by
    rw[fg,fH,fH];omega) l
   exact this.imp λh=>by simpa using h
  exact List.Perm.eq_of_pairwise (le:=λa b=>a<=b) (λa b _ _ h h'=>by omega) (srt l) (srt m)<|(lH l).trans<|h.trans (lH m).symm
section
variable {N:Nat}
structure UF (n:Nat) (up:List Int) (r:Nat->Nat):Prop where
 len:up.length=n
 rt:∀i,i<n->∃u:Nat,up[i]? =some ((u:Nat):Int)/\u<=i/\r u=r i/\(u=i↔r i=i)
theorem UF.le{n:Nat}{up:List Int}{r:Nat->Nat}(h:UF n up r):∀i,i<n->r i<=i:=by
 intro i
 induction i using Nat.strongRecOn with
 |ind i ih=>
  intro hi;obtain⟨u,_,h2,h3,h4⟩:=h.rt i hi
  grind
def vQ(r:Nat->Nat)(a b:Nat):Nat->Nat:=λx=>if r x=max a b then min a b else r x
def vm(r:Nat->Nat)(E:List (Nat×Nat)):Prop:=∀p∈E,r p.1=r p.2
def CF(n:Nat)(r:Nat->Nat)(E:List (Nat×Nat)):Prop:=∀S:Nat->Prop,(∀p∈E,S p.1↔S p.2)->∀i j,i<n->j<n->r i=r j->S i->S j
theorem vm.join{r:Nat->Nat}{E:List (Nat×Nat)}(h:vm r E)(i k:Nat)(_h2:r (r i)=r i):vm (vQ r (r i)<|r k) (E++[(i,k)]):=λp hp=>by
 rcases jZ.1 hp with hp|hp
 ·unfold vQ;rw[h p hp]
 ·simp at hp;subst hp;unfold vQ;dsimp only;split <;> split <;> omega
theorem CF.join{n:Nat}{r:Nat->Nat}{E:List (Nat×Nat)}(h:CF n r E){i k:Nat}(hi:i<n)(hk:k<n):CF n (vQ r (r i)<|r k) (E++[(i,k)]):=λS hS x y hx hy hr hSx=>by
 have hE:∀p∈E,S p.1↔S p.2:=λp hp=>hS p<|List.mem_append_left _ hp
 have hik:S i↔S k:=hS (i,k) (by simp);have key:=h S hE;unfold vQ at hr
 by_cases h1:r x=r y
 ·exact key x y hx hy h1 hSx
 ·have:(r x=r i/\r y=r k)\/(r x=r k/\r y=r i):=by
   split at hr <;> split at hr <;> omega
  rcases this with⟨e1,e2⟩|⟨e1,e2⟩
  ·exact key k y hk hy e2.symm<|hik.1<|key x i hx hi e1 hSx
  ·exact key i y hi hy e2.symm<|hik.2<|key x k hx hk e1 hSx
theorem CF.id(n:Nat):CF n (λi=>i) []:=λS _ i j _ _ h hs=>by
 have h:i=j:=h;subst h;exact hs
theorem vm.id:vm (λi=>i) []:=λp hp=>by simp at hp
end
theorem aU.EC{a b:aU}(h:aU.lt a b):a.bX<b.bX:=by
 have:Op.bytesLess a.bX b.bX=true:=h;rw[Go.Proofs.bytesLess_eq]at this;simpa using this
def vM(a b:aB):Int:=cmpL [a.e0,a.e1] [b.e0,b.e1]
theorem mY:mx vM:=⟨λx=>ou _,λx y h=>by
 have:=cmpL_eq _ _ h
 cases x;cases y;simp_all,λx y=>tu _ _,λx y z=>rL _ _ _⟩
def wD(l:List aB):List Int:=l.flatMap λp=>[p.e0,p.e1]
theorem qH(l:List aB):(wD l).length=2*l.length:=by
 induction l with
 |nil=>rfl
 |cons a l ih=>simp only[wD,List.flatMap_cons,cL,lI,List.length_nil]at *;omega
def vN(l:List aB):List aB:=l.mergeSort λa b=>decide<|¬vM b a<0
theorem tC(l:List aB):(vN l).Perm l:=List.mergeSort_perm _ _
theorem Ao(l:List aB):SW vM (vN l):=by
 have:=List.pairwise_mergeSort (le:=λa b:aB=>decide (¬vM b a<0)) (λa b c h h'=>by
  rw[fH]at h h' ⊢;intro h3
  rcases mY.Ey a b with e|e|e
  ·exact h'<|mY.trans _ _ _ h3 e
  ·subst e;exact h' h3
  ·exact h e) (λa b=>by
  rw[fg,fH,fH]
  by_cases h:vM b a<0
  ·exact .inr λh2=>mY.EL<|mY.trans _ _ _ h h2
  ·exact .inl h) l
 exact this.imp λh=>by simpa using h
theorem xB{l m:List aB}(hp:m.Perm l)(hm:SW vM m):m=vN l:=SW.uniq mY hm (Ao l)<|hp.trans (tC l).symm
theorem zG{l m:List aB}(h:l.Perm m):vN l=vN m:=xB ((tC l).trans h)<|Ao l
theorem qq(l:List aB):(vN l).length=l.length:=(tC l).length_eq
section
variable {N:Nat}
theorem Bo(a x:aB):(bif decide (a.e0>x.e0)then some true else(bif a.e0==x.e0 then some (decide<|a.e1>x.e1)else some false))=some (decide<|0<vM a x):=by
 unfold vM;have e:cmpL [a.e0,a.e1] [x.e0,x.e1]=if a.e0<x.e0 then -1 else if x.e0<a.e0 then 1 else if a.e1<x.e1 then -1 else if x.e1<a.e1 then 1 else 0:=by
  simp only[cmpL]
 rw[e]
 by_cases h1:x.e0<a.e0
 ·rw[cI (by omega),bL,aK (by omega),aG h1];rfl
 ·rw[bU (by omega),bK]
  by_cases h2:a.e0=x.e0
  ·rw[show(a.e0==x.e0)=true by rw[beq_iff_eq];exact h2,bL,aK (by omega),aK h1]
   by_cases h3:x.e1<a.e1
   ·rw[cI (by omega),aK (by omega),aG h3];rfl
   ·rw[bU (by omega)];split <;> simp[h3]
  ·rw[show(a.e0==x.e0)=false by rw[beq_eq_false_iff_ne];exact h2,bK,aG (by omega)];rfl
theorem wE{row:List aB}{s0:List Int}(hl:row.length<=1048576)(h0:s0.length<=1048576):
  jm row.length (λ(k145:Nat)(s146:List Int)=>((idx row (k145:Int)).bind λx164=>(app 8 s146 ([x164.e0,x164.e1]:List Int)).bind λx168=>some x168:Option (List Int))) s0=some (s0++wD row):=by
 refine oz (λp:aB=>[p.e0,p.e1]) (by omega)<|λk y hy=>?_
 have hk:=(bS.1 hy).1;have h1:=qH<|row.take k
 unfold wD at h1;rw[cD hy,aA,dE (by simp only[cL,lI,List.length_nil];rw[h1,bQ];omega),aA]
theorem qs{l:List aB}(hl:l.length<=1048576)(hN:4194304<=N):dW N l=some (wD<|vN l):=by
 refine Jy ?_;unfold dW;refine Ir (I6 (λk s=>s.Perm (l.take k)/\SW vM s) (by omega) ⟨by simp,List.Pairwise.nil⟩<|λk s hk hs=>?_)<|λs hs=>?_
 ·obtain⟨hp,hw⟩:=hs;have hsl:s.length=k:=by rw[hp.length_eq,bQ];omega
  refine II hk ?_;refine Ir (yL (s:=l[k]) mY hw (by rfl) (by omega)<|λj hj=>?_)<|λo ho=>?_
  ·have hi:idx s (wrap .i64<|((j+1:Nat):Int) - 1)=some s[j]:=by rw[kG (by omega) (by omega),qu,iu _ _ hj]
   rw[cI (by omega),bL];simp only[hi,aA];rw[Bo,aA,kG (by omega) (by omega),qu]
   by_cases hc:0<vM s[j] l[k]
   ·rw[aG hc,cI hc,bL]
   ·rw[aK hc,bU hc,bK]
  ·refine I_ ho ?_<|λr=>r.elim
   rintro r⟨j,rfl,hj,h1,h2⟩;rw[wC hj (by omega) (by omega),aA];refine Ip ⟨?_,yN hw (λi hi h=>?_)<|λi hi h=>?_⟩
   ·rw[fo hk];exact(yO s l[k] j).trans<|hp.append_right _
   ·have:=h1 i hi h;have:=mY.xr l[k] s[i];intro h3;exact mY.EL<|mY.trans _ _ _ h3<|this.2<|h1 i hi h
   ·intro h3;exact h2 i hi h<|(mY.xr _ _).1 h3
 ·rw[eR]at hs;rw[xB hs.1 hs.2,wE (by rw[qq];omega) (by simp),aA];exact Ip (by simp)
def CV(c:Int)(r:List aB):List Int:=c::wD (vN r)
theorem Ap(c:Int)(r:List aB):(CV c r).length=2*r.length+1:=by unfold CV;rw[lI,qH,qq]
theorem zH{r:List aB}(hr:r.length<=1048576):ph (gG N) r=some (vN r):=by
 obtain⟨m,h1,h2,h3⟩:=mY.sort (φ:=gG N) (l:=r) (λx _ y _=>by
  unfold gG
  rw[vd (by simp),aA];rfl) (by omega)
 rw[h1,xB h2 h3]
theorem yT{cs:List Int}{rows:List (List aB)}(hc:rows.length=cs.length)(hl:cs.length<=1048576)(hr:∀r∈rows,r.length<=1048576):gB N cs rows=some (List.zipWith CV cs rows):=by
 refine Jy ?_;unfold gB;refine Ir (I6 (λk s=>(s.1.length=rows.length/\∀j,k<=j->s.1[j]? =rows[j]?)/\s.2=(List.zipWith CV cs rows).take k) (by omega) ⟨⟨rfl,λ_ _=>rfl⟩,rfl⟩<|λk s hk hs=>?_)<|λs hs=>Ip ?_
 ·obtain⟨⟨h1,h2⟩,h3⟩:=hs;have hkr:k<rows.length:=by omega
  have hx:s.1[k]? =some rows[k]:=by rw[h2 k<|bR _,aM hkr]
  have hrl:=hr _<|eD hkr
  refine II hk<|JM hx<|IB (zH hrl) ?_
  rw[dJ];refine JM (x:=vN rows[k]) (by rw[gv];simp;omega) ?_;rw[wE (by rw[qq];exact hrl) (by simp),aA,h3,dE (by simp only[bQ,List.length_zipWith,List.length_singleton];omega),aA];refine Ip ⟨⟨by simp[h1],λj hj=>?_⟩,?_⟩
  ·rw[gv,aK (by omega),gv,aK (by omega)];exact h2 j (by omega)
  ·have hz:k<(List.zipWith CV cs rows).length:=by rw[List.length_zipWith];omega
   rw[fo hz,List.getElem_zipWith];rfl
 ·rw[hs.2,jM (by rw[List.length_zipWith];omega)]
theorem CG{n:Nat}(hn:n<=1048576):gq N ((n:Nat):Int)=some []:=by
 unfold gq;rw[bU (by omega),bK];have e1:wrap .i64 (((n:Nat):Int) -(wrap .i64<|((0:Nat):Int) -((0:Nat):Int)))=((n:Nat):Int):=by
  have:wrap .i64 (((0:Nat):Int) -((0:Nat):Int))=0:=by rw[dL (by omega) (by omega)];rfl
  rw[this,dL (by omega) (by omega)];omega
 rw[e1]
 by_cases h:0<n
 ·rw[cI (by omega),bL];have:BP 8 (0:Int) ((n:Nat):Int)=some (List.replicate n 0):=by
   unfold BP;rw[aG (by omega)];rfl
  rw[this,aA,n4 _ _ (by omega),aA,aA];rfl
 ·rw[bU (by omega),bK,aA]
theorem zI{L:List (List Int)}(h1:L.length<=1048576)(h2:L.flatten.length<=1048576):ik N L=some L.flatten:=by
 unfold ik;have hlen:∀k,(L.take k).flatten.length<=1048576:=λk=>jN yP h2
 rw[k8 (s:=(0:Int)) (λk=>(((L.take k).flatten.length:Nat):Int)) (by omega) rfl (λk hk=>by
  have h3:=hlen<|k+1
  rw[qG hk,cL]at h3 ⊢;rw[iu _ _ hk,aA];have e:wrap .i64 ((((L.take k).flatten.length:Nat):Int)+((L[k].length:Nat):Int))=(((L.take k).flatten.length+L[k].length:Nat):Int):=by rw[dL (by omega) (by omega)];omega
  rw[e,bU (by omega),bK]),aA,eR,CG h2,aA]
 rw[k8 (s:=([]:List Int)) (λk=>(L.take k).flatten) (by omega) rfl (λk hk=>by
  have h3:=hlen<|k+1
  rw[qG hk,cL]at h3
  rw[iu _ _ hk,aA,dE (by omega),aA,qG hk]),aA,eR]
theorem sR{L:List (List Int)}(h1:L.length<=1048576)(h2:L.flatten.length<=1048576)(hN:4194304<=N):Ok (eB N L) (λr=>∃d,eT gz L.flatten d/\r=(d.length:Int)):=by
 unfold eB;refine IB (zI h1 h2)<|IB (tB (by omega)) ?_
 have hp:=lH L.flatten;have hw:SW gz (tX L.flatten):=by
  have:=List.pairwise_mergeSort (le:=λx y:Int=>decide (x<=y)) (λa b c h h'=>by
   rw[fH]at h h' ⊢;omega) (λa b=>by
   rw[fg,fH,fH];omega) L.flatten
  refine this.imp λ{a b}h=>?_;have h:a<=b:=by simpa using h
  unfold gz;rw[aK (by omega)];split <;> omega
 have e:iY N (tX L.flatten)=ov 0 N (tX L.flatten) (λx y=>some<|x==y):=rfl;rw[e];refine Ir (mT kx (λx _ y _=>by by_cases h:x=y <;> simp[h]) hw (by rw[hp.length_eq];omega) (by rw[hp.length_eq];omega))<|λd hd=>Ip ⟨d,⟨hd.1,λx=>(hd.2 x).trans hp.mem_iff⟩,rfl⟩
theorem zJ{l:List aU}(hl:l.length<4611686018427387904):∃m,w4 l=some m/\m.Perm l/\SW o7 m:=by
 refine⟨((l.map aU.bX).mergeSort λx y=>decide<|x<=y).map aU.mk,aG hl,?_,?_⟩
 ·have:=(List.mergeSort_perm (l.map aU.bX) λx y=>decide<|x<=y).map aU.mk;rw[List.map_map]at this;exact this.trans<|List.Perm.of_eq<|List.map_id' _
 ·have:=List.pairwise_mergeSort (le:=λx y:List UInt8=>decide (x<=y)) (λa b c h h'=>by
   rw[fH]at h h' ⊢;exact List.le_trans h h') (λa b=>by
   rw[fg,fH,fH];exact List.le_total _ _) (l.map aU.bX)
  unfold SW;rw[List.pairwise_map];refine this.imp λ{a b}h h2=>?_;have h:a<=b:=by simpa using h
  have h3:aU.lt ⟨b⟩ ⟨a⟩:=(ks b a).1 h2;have:=aU.EC h3;exact absurd this<|List.not_lt.2 h
def typesOf(ls:List aH):List aU:=ls.flatMap λx=>x.aJ.map Part.cM
theorem sS{ls:List aH}{k:Nat}(hk:k<ls.length):typesOf (ls.take<|k+1)=typesOf (ls.take k)++ls[k].aJ.map Part.cM:=by
 unfold typesOf;rw[fo hk,List.flatMap_append];simp
theorem yU{ls:List aH}(k:Nat):(typesOf<|ls.take k).length<=(typesOf ls).length:=by
 conv=>rhs;rw[<-List.take_append_drop k ls]
 unfold typesOf;rw[List.flatMap_append,cL];omega
theorem xC{ls:List aH}(h1:ls.length<=1048576)(h2:(typesOf ls).length<=1048576)(hN:4194304<=N):Ok (fe N ls) (λd=>eT o7 (typesOf ls) d):=by
 unfold fe;refine Ir (P:=λs=>s=typesOf ls) (Ok.mono (I6 (λk s=>s=typesOf (ls.take k)) (by omega) rfl<|λk s hk hs=>?_) (λs hs=>by rwa[eR]at hs))<|λs hs=>?_
 ·subst hs;refine II hk ?_;have h3:=yU (ls:=ls)<|k+1
  rw[sS hk,cL,dF]at h3
  rw[oz (λp:Part=>[p.cM]) (by omega) (λj y hy=>by
   have hj:=(bS.1 hy).1;have h4:=kL (λp:Part=>[p.cM]) 1 (ls[k].aJ.take j) (λ_ _=>by simp);rw[bQ]at h4
   rw[cD hy,aA,dE (by simp only[cL,List.length_singleton];omega),aA]),aA]
  refine Ip ?_;rw[sS hk];congr 1;exact(List.map_eq_flatMap ..).symm
 ·subst hs;obtain⟨m,g1,g2,g3⟩:=zJ (l:=typesOf ls) (by omega);refine IB g1 ?_;have e:gT N m=ov ⟨[]⟩ N m (λx y=>some<|x.jQ y):=rfl;rw[e]
  refine Ir (mT mV (λx _ y _=>by
   congr 1
   rw[iB,lM,decide_eq_true_iff]) g3 (by rw[g2.length_eq];omega) (by rw[g2.length_eq];omega)) (λd hd=>Ip ⟨hd.1,λx=>(hd.2 x).trans g2.mem_iff⟩)
theorem Bp{d:List aU}{s:aU}(hl:d.length<=4611686018427387904):fD N d s=some (tv d s):=by
 have e:fD N d s=uX d s:=by
  unfold fD uX;have:∀x:aU,s.jQ x=decide (s=x):=λx=>by rw[iB,lM,decide_eq_true_iff]
  simp only[this]
 rw[e,tk hl];rfl
def vn(d:List aU)(x:aH):List Int:=x.aJ.map λp=>tv d p.cM
def xD(x:aH):List Int:=List.replicate x.aZ.length 0
theorem CH{t:List aD}{ls:List aH}(h1:ls.length<=1000)(h2:(typesOf ls).length<=1048576)(h3:∀x∈ls,x.aJ.length<=1048576/\x.aZ.length<=1048576)(hN:4194304<=N):
  Ok (gm N t ls) (λc=>∃d,eT o7 (typesOf ls) d/\c= ⟨t,ls,ls.map<|vn d,ls.map xD⟩):=by
 unfold gm;refine Ir (xC (by omega) h2 hN)<|λd hd=>?_
 have hdl:=hd.len mV;have hd4:d.length<=4611686018427387904:=by omega
 refine Ir (I6 (λk s=>s=((ls.take k).map<|vn d,(ls.take k).map xD,d)) (by omega) rfl<|λk s hk hs=>?_)<|λs hs=>Ip ⟨d,hd,by rw[hs,eR]⟩
 subst hs;have hx:=h3 _<|eD hk
 refine II hk ?_
 rw[oz (s0:=([]:List Int)) (λp:Part=>[tv d p.cM]) (by omega) (λj y hy=>by
  have hj:=(bS.1 hy).1;have h4:=kL (λp:Part=>[tv d p.cM]) 1 (ls[k].aJ.take j) (λ_ _=>by simp);rw[bQ]at h4
  rw[cD hy,aA,Bp hd4,aA,dE (by simp only[cL,List.length_singleton,List.length_nil];omega),aA]),aA]
 rw[dE (by simp only[dF,bQ,List.length_singleton];omega),aA,qB _ (by omega),aA,dE (by simp only[dF,bQ,List.length_singleton];omega),aA];refine Ip ?_;rw[fo hk,fX,fX];congr 2;rw[List.nil_append,<-List.map_eq_flatMap];rfl
end
section
variable {N:Nat}
def pe(t:List aD)(x:aH)(a b k:Nat)(p:Part)(z:bA):aT:=
 ⟨((a+k:Nat):Int),if 0<=ff x ⟨p.Name,z.Name⟩then(b:Int)+ff x ⟨p.Name,z.Name⟩else -1,mX (eY t p) z.Name⟩
def px(t:List aD)(x:aH)(a b k:Nat):List aT:=(eY t<|x.aJ.getD k default).aQ.map<|pe t x a b k<|x.aJ.getD k default
def ml(t:List aD)(x:aH)(a b:Nat):List aT:=(List.range x.aJ.length).flatMap<|px t x a b
theorem uu{α:Type}(l:List α)(p:α->Bool):vJ l p<(l.length:Int):=by
 rcases iN l p with⟨h,_⟩|⟨k,x,h,h2,_⟩
 ·omega
 ·have:=(bS.1 h2).1;omega
theorem qI{α:Type}{key:α->aU}{l:List α}(hs:gZ key l){k:Nat}{x:α}(hx:l[k]? =some x):nat? key l (key x)=((k:Nat):Int):=by
 refine lU hx (by rw[lM]) λj y hj hy=>?_;rw[Bool.eq_false_iff];intro h;rw[lM]at h;exact aU.q8 (hs j k y x hj hy hx) h
theorem Bq{t:List aD}{x:aH}(hbt:bk t<=1048576)(ok:j5 t x)(a b:Nat){k:Nat}(hk:k<x.aJ.length):(px t x a b k).length<=1048576:=by
 unfold px;rw[dF,List.getD_eq_getElem?_getD,aM hk];exact lp hbt<|ok.parts.typed _<|eD hk
theorem mZ{α:Type}(f:Nat->List α)(b:Nat):∀(n:Nat),(∀k,k<n->(f k).length<=b)->((List.range n).flatMap f).length<=n*b
 | 0,_=>by simp
 |n+1,h=>by
  have:=mZ f b n λk hk=>h k (by omega);have:=h n (by omega);rw[List.range_succ,List.flatMap_append,cL,Nat.add_mul,Nat.one_mul];simp only[List.flatMap_cons,List.flatMap_nil,fP];omega
theorem tD{t:List aD}{x:aH}(hbt:bk t<=1048576)(ok:j5 t x)(a b:Nat){n:Nat}(hn:n<=x.aJ.length):((List.range n).flatMap<|px t x a b).length<=1048576000:=by
 have h1:=mZ (px t x a b) 1048576 n λk hk=>Bq hbt ok a b (by omega);have h2:n*1048576<=1000*1048576:=Nat.mul_le_mul_right _ (by have:=ok.xy;omega);omega
theorem wF{t:List aD}{x:aH}{ty:List aU}{ti:List aT}{a b:Nat}(hbt:bk t<=1048576)(hx:Aj x)(ok:j5 t x)(hty:ty.length<=1048576)(hti:ti.length<=1048576000)(ha:a<=1048576)(hb:b<=1048576)(hN:4194304<=N):
  gb N ty ti ((a:Nat):Int) ((b:Nat):Int) t x=some (ty++x.aJ.map Part.cM,ti++ml t x a b,((a+x.aJ.length:Nat):Int),((b+x.aZ.length:Nat):Int)):=by
 have hfew:=ok.xy;have hfn:=ok.ll;unfold gb;rw[CD hx,aA]
 rw[k8 (s:=(ty,ti)) (λk=>(ty++(x.aJ.take k).map Part.cM,ti++(List.range k).flatMap (px t x a b))) (by omega) (by simp) (λk hk=>by
  have hp:x.aJ[k]? =some x.aJ[k]:=aM hk;have hd:x.aJ.getD k default=x.aJ[k]:=by rw[List.getD_eq_getElem?_getD,hp];rfl
  have htyp:=ok.parts.typed _<|eD hk
  obtain⟨i,h1,h2⟩:=mW htyp;have hpl:=lp hbt htyp;have hlen:=tD hbt ok a b<|Nat.le_of_lt hk
  have hsp:=ok.types.pins _<|fK h2
  rw[cD hp,aA,tz ok.types.sorted hbt hN,aA,h1,cD h2,aA,dE (by simp only[cL,dF,bQ,List.length_singleton];omega),aA]
  rw[oz (λz:bA=>[pe t x a b k x.aJ[k] z]) (by omega) (λj z hz=>by
   have hj:=(bS.1 hz).1;have hm:=Bn ok ⟨x.aJ[k].Name,z.Name⟩;have hnl:ff x ⟨x.aJ[k].Name,z.Name⟩<(x.aZ.length:Int):=uu _ _;have e:(bif lA (ln x x.aZ.length) (⟨x.aJ[k].Name,z.Name⟩:cC)then some (wrap .i64<|((b:Nat):Int)+ ew (ln x x.aZ.length) (⟨x.aJ[k].Name,z.Name⟩:cC) (0:Int))else some (-1))=some (if 0<=ff x ⟨x.aJ[k].Name,z.Name⟩then(b:Int)+ff x ⟨x.aJ[k].Name,z.Name⟩else -1):=by
    rw[hm.1]
    by_cases h0:0<=ff x ⟨x.aJ[k].Name,z.Name⟩
    ·rw[cI h0,bL,hm.2 h0,aG h0,dL (by omega) (by omega)]
    ·rw[bU h0,bK,aK h0]
   have h4:=kL (λz:bA=>[pe t x a b k x.aJ[k] z]) 1 ((eY t x.aJ[k]).aQ.take j) (λ_ _=>by simp);rw[bQ]at h4;rw[cD hz,aA,e,aA,Dy hsp hpl (by rw[qI hsp hz];omega) hN,aA,dE (by simp only[cL,List.length_singleton];omega),aA,wrap_add (by omega)]
   rfl),aA]
  congr 2
  ·rw[fo hk,fX,<-iA];rfl
  ·rw[List.range_succ,List.flatMap_append,<-iA];congr 1;unfold px
   rw[List.flatMap_singleton,hd,<-List.map_eq_flatMap]),aA]
 rw[eR,wrap_add (by omega),wrap_add (by omega)];rfl
def sT(Q:List Int)(n:Int):Int:=if 0<=n then Q.getD n.toNat 0 else -1
def D0(Q:List Int)(z:aT):aB:=⟨z.mark,sT Q z.j6⟩
def Aq(P:List Int)(z:aT):aB:=⟨P.getD z.part.toNat 0,z.mark⟩
def oB(T:List aT)(Q:List Int)(j:Nat):List aB:=(T.filter λz=>z.part==(j:Int)).map<|D0 Q
def qV(T:List aT)(P:List Int)(j:Nat):List aB:=(T.filter λz=>z.j6==(j:Int)).map<|Aq P
theorem wG{α:Type}(f:Nat->α)(n j:Nat)(v:α):((List.range n).map f).set j v=(List.range n).map (λi=>if i=j then v else f i):=by
 apply List.ext_getElem?;intro i;rw[gv,ki,ki]
 by_cases h:j=i
 ·subst h;rw[aG rfl]
  by_cases hl:j<n
  ·rw[aG (by simpa using hl),List.getElem?_range hl];simp
  ·rw[aK (by simpa using hl),List.getElem?_eq_none (by simpa using hl)];rfl
 ·rw[aK h]
  by_cases hl:i<n
  ·have h':¬i=j:=λe=>h e.symm;rw[List.getElem?_range hl];simp[h']
  ·rw[List.getElem?_eq_none (by simpa using hl)];rfl
def D1(np nn:Nat)(z:aT):Prop:=(0<=z.part/\z.part<(np:Int))/\(0<=z.j6/\z.j6<(nn:Int)\/z.j6 = -1)
theorem Bs{T:List aT}{P Q:List Int}{np nn:Nat}(hP:P.length=np)(hQ:Q.length=nn)(hT:∀z∈T,D1 np nn z)(hl:T.length<=4194304000):
  jm T.length (λ(k633:Nat)(s634:List (List aB)×List (List aB))=>((idx T (k633:Int)).bind λx815=>(bif decide (x815.j6>=0)then((idx Q x815.j6).bind λx848=>(idx s634.2 x815.j6).bind λx849=>(idx P x815.part).bind λx854=>(app 16 x849 ([(⟨x854,x815.mark⟩:aB)]:List aB)).bind λx857=>(idx s634.2 x815.j6).bind λx859=>some (s634.2.set (Int.toNat x815.j6) x857,x848))else some (s634.2,(-1))).bind λs846=>(idx s634.1 x815.part).bind λx875=>(app 16 x875 ([(⟨x815.mark,s846.2⟩:aB)]:List aB)).bind λx882=>(idx s634.1 x815.part).bind λx884=>some (s634.1.set (Int.toNat x815.part) x882,s846.1):Option (List (List aB)×List (List aB)))) (List.replicate np [],List.replicate nn [])=some ((List.range np).map<|oB T Q,(List.range nn).map<|qV T P):=by
 refine(k8 (λk=>((List.range np).map (oB (T.take k) Q),(List.range nn).map (qV (T.take k) P))) (by omega) (by
  have:∀(f:Nat->List aB)(n:Nat),(∀j,f j= [])->(List.range n).map f=List.replicate n []:=λf n h=>by
   rw[List.map_congr_left (g:=λ_=>[])<|λj _=>h j,List.map_const',List.length_range]
  show((List.range np).map<|oB [] Q,(List.range nn).map<|qV [] P)=_
  rw[this (oB [] Q) np (λ_=>rfl),this (qV [] P) nn (λ_=>rfl)]) (λk hk=>?_)).trans (by rw[eR])
 have hz:=hT _<|eD hk
 obtain⟨⟨p0,p1⟩,hn⟩:=hz;rw[iu _ _ hk,aA];obtain⟨j,hj⟩:∃j:Nat,T[k].part=(j:Int):=⟨T[k].part.toNat,by omega⟩;have hjn:j<np:=by omega
 have hrl:∀(p:aT->Bool)(f:aT->aB),(((T.take k).filter p).map f).length<=4194304000:=λp f=>by
  rw[dF];have:=List.length_filter_le p<|T.take k
  rw[bQ]at this;omega
 have hfil:∀(p:aT->Bool)(f:aT->aB),((T.take<|k+1).filter p).map f=((T.take k).filter p).map f++(if p T[k]=true then [f T[k]]else []):=λp f=>by
  rw[fo hk,List.filter_append,fX];congr 1
  cases h:p T[k] <;> simp[h]
 have eP:∀c:Int,c=sT Q T[k].j6->((idx ((List.range np).map<|oB (T.take k) Q) T[k].part).bind λx875=>(app 16 x875 ([(⟨T[k].mark,c⟩:aB)]:List aB)).bind λx882=>(idx ((List.range np).map<|oB (T.take k) Q) T[k].part).bind λx884=>some<|((List.range np).map<|oB (T.take k) Q).set (Int.toNat T[k].part) x882)=some ((List.range np).map<|oB (T.take<|k+1) Q):=by
  intro c hc;have hg:((List.range np).map<|oB (T.take k) Q)[j]? =some (oB (T.take k) Q j):=by rw[ki,List.getElem?_range hjn];rfl
  rw[hj,cD hg,aA,dE (by have:=hrl (λz=>z.part==(j:Int))<|D0 Q;simp only[List.length_singleton];unfold oB;omega),aA,aA,dJ,wG];congr 1;refine List.map_congr_left λi _=>?_;unfold oB;rw[hfil]
  by_cases e:i=j
  ·subst e;rw[aG rfl,aG (by rw[hj];simp),hc];rfl
  ·rw[aK e,aK (by rw[hj,beq_iff_eq];omega),fP]
 have fin:∀(c:Int)(s2:List (List aB)),c=sT Q T[k].j6->s2=(List.range nn).map (qV (T.take<|k+1) P)->((idx ((List.range np).map<|oB (T.take k) Q) T[k].part).bind λx875=>(app 16 x875 ([(⟨T[k].mark,c⟩:aB)]:List aB)).bind λx882=>(idx ((List.range np).map<|oB (T.take k) Q) T[k].part).bind λx884=>some (((List.range np).map<|oB (T.take k) Q).set (Int.toNat T[k].part) x882,s2))=some ((List.range np).map<|oB (T.take<|k+1) Q,(List.range nn).map<|qV (T.take<|k+1) P):=by
  intro c s2 hc h2;have:=eP c hc;subst h2;generalize hA:idx ((List.range np).map<|oB (T.take k) Q) T[k].part=A at this ⊢
  cases A with
  |none=>cases this
  |some r=>
   rw[aA]at this ⊢;generalize hB:app 16 r [(⟨T[k].mark,c⟩:aB)]=B at this ⊢
   cases B with
   |none=>cases this
   |some r2=>
    rw[aA,aA]at this ⊢;injection this with this
    rw[this]
 dsimp only
 rcases hn with⟨n0,n1⟩|hn
 ·obtain⟨i,hi⟩:∃i:Nat,T[k].j6=(i:Int):=⟨T[k].j6.toNat,by omega⟩;have hin:i<nn:=by omega
  have hg:((List.range nn).map<|qV (T.take k) P)[i]? =some (qV (T.take k) P i):=by rw[ki,List.getElem?_range hin];rfl
  have hq:Q[i]? =some Q[i]:=aM (by omega);have hp:P[j]? =some P[j]:=aM (by omega);rw[cI n0,bL];have e1:idx Q T[k].j6=some Q[i]:=by rw[hi];exact cD hq
  have e2:idx ((List.range nn).map<|qV (T.take k) P) T[k].j6=some (qV (T.take k) P i):=by rw[hi];exact cD hg
  have e3:idx P T[k].part=some P[j]:=by rw[hj];exact cD hp
  rw[e1,aA,e2,aA,e3,aA,dE (by have:=hrl (λz=>z.j6==(i:Int))<|Aq P;simp only[List.length_singleton];unfold qV;omega),aA,aA,aA];refine fin _ _ ?_ ?_
  ·unfold sT;rw[aG n0,hi,dJ,List.getD_eq_getElem?_getD,hq];rfl
  ·rw[hi,dJ,wG];refine List.map_congr_left λm _=>?_;unfold qV;rw[hfil]
   by_cases e:m=i
   ·subst e;rw[aG rfl,aG (by rw[hi];simp)];congr 1;unfold Aq;rw[hj,dJ,List.getD_eq_getElem?_getD,hp];rfl
   ·rw[aK e,aK (by rw[hi,beq_iff_eq];omega),fP]
 ·rw[bU (by omega),bK,aA];refine fin _ _ ?_ ?_
  ·unfold sT;rw[aK (by omega)]
  ·refine List.map_congr_left λm _=>?_;unfold qV;rw[hfil,aK (by rw[hn,beq_iff_eq];omega),fP]
end
def off(len:Nat->Nat):Nat->Nat
 | 0=>0
 |i+1=>off len i+len i
theorem CI{len:Nat->Nat}{i j:Nat}(h:i<=j):off len i<=off len j:=by
 obtain⟨d,rfl⟩:∃d,j=i+d:=⟨j - i,by omega⟩;clear h
 induction d with
 |zero=>exact bR _
 |succ d ih=>
  have e:off len (i+(d+1))=off len (i+d)+len (i+d):=rfl;omega
theorem tE{len:Nat->Nat}{i j:Nat}(h:i<j):off len i+len i<=off len j:=CI (len:=len) (i:=i+1) h
theorem range_add{α:Type}(f:Nat->α)(a b:Nat):(List.range<|a+b).map f=(List.range a).map f++(List.range b).map (λk=>f<|a+k):=by
 rw[List.range_add,fX,List.map_map];rfl
theorem m0{α:Type}(f:Nat->α)(len:Nat->Nat):∀n,(List.range<|off len n).map f=((List.range n).map<|λi=>(List.range<|len i).map<|λk=>f<|off len i+k).flatten
 | 0=>by simp[off]
 |n+1=>by
  rw[List.range_succ,fX,List.flatten_append,<-m0 f len n];simp only[off,fh,List.map_nil,List.flatten_cons,List.flatten_nil,fP];exact range_add f _ _
theorem vo{α:Type}(l:List α)(d:α):l=(List.range l.length).map (λj=>l.getD j d):=by
 apply List.ext_getElem?;intro i;rw[ki]
 by_cases h:i<l.length
 ·rw[List.getElem?_range h,aM h,Option.map_some,List.getD_eq_getElem?_getD,aM h];rfl
 ·rw[List.getElem?_eq_none (by omega),List.getElem?_eq_none (by simpa using h)];rfl
theorem wH{α β γ:Type}(f:α->β->γ)(a:Nat->α)(b:Nat->β)(n:Nat):List.zipWith f ((List.range n).map a) ((List.range n).map b)=(List.range n).map (λj=>f (a j)<|b j):=by
 rw[List.zipWith_map,List.zipWith_self]
theorem zK{α β:Type}{f g:α->List β}{l:List α}(h:∀a∈l,f a=g a):l.flatMap f=l.flatMap g:=by
 unfold List.flatMap;rw[List.map_congr_left h]
theorem qt{α:Type}{g:Nat->List α}:∀{n:Nat},(∀j,j<n->g j= [])->(List.range n).flatMap g= []
 | 0,_=>by simp
 |n+1,h=>by
  rw[List.range_succ,List.flatMap_append,qt λj hj=>h j (by omega)];simp[h n (by omega)]
theorem ko{α:Type}{g:Nat->List α}{i:Nat}:∀{n:Nat},i<n->(∀j,j<n->j≠i->g j= [])->(List.range n).flatMap g=g i
 | 0,h,_=>by omega
 |n+1,hi,h=>by
  rw[List.range_succ,List.flatMap_append]
  by_cases e:i=n
  ·subst e;rw[qt λj hj=>h j (by omega) (by omega)];simp
  ·rw[ko (i:=i) (by omega) λj hj hne=>h j (by omega) hne];have:=h n (by omega) (by omega);simp[this]
def qW{α:Type}(len:Nat->Nat)(n:Nat)(L:List (List α)):Prop:=L.length=n/\∀i,i<n->(L.getD i []).length=len i
theorem qW.flat{α:Type}{len:Nat->Nat}{n:Nat}{L:List (List α)}(h:qW len n L):∀i,i<=n->(L.take i).flatten.length=off len i
 | 0,_=>by simp[off]
 |i+1,hi=>by
  have hl:i<L.length:=by rw[h.1];omega
  have h2:=h.2 i (by omega);rw[List.getD_eq_getElem?_getD,aM hl]at h2;rw[qG hl,cL,h.flat i (by omega)];simp only[off];simpa using h2
theorem qW.len{α:Type}{len:Nat->Nat}{n:Nat}{L:List (List α)}(h:qW len n L):L.flatten.length=off len n:=by
 have:=h.flat n<|bR _
 rwa[jM (by rw[h.1];omega)]at this
theorem qW.get{α:Type}{len:Nat->Nat}{n:Nat}{L:List (List α)}(h:qW len n L){i k:Nat}(hi:i<n)(hk:k<len i)(d:α):L.flatten.getD (off len i+k) d=(L.getD i []).getD k d:=by
 have hl:i<L.length:=by rw[h.1];omega
 have h2:=h.2 i hi;have e:L.getD i []=L[i]:=by rw[List.getD_eq_getElem?_getD,aM hl];rfl
 rw[e]at h2 ⊢
 conv=>lhs;rw[<-List.take_append_drop i L,List.flatten_append]
 rw[List.getD_eq_getElem?_getD,gu (by rw[h.flat i (by omega)];omega),h.flat i (by omega),show off len i+k - off len i=k by omega,lJ hl,List.flatten_cons,gR (by omega),List.getD_eq_getElem?_getD]
def nth(ls:List aH)(i:Nat):aH:=ls.getD i default
def iS(ls:List aH)(i:Nat):Nat:=(nth ls i).aJ.length
def gi(ls:List aH)(i:Nat):Nat:=(nth ls i).aZ.length
def rO(t:List aD)(ls:List aH)(n:Nat):List aT:=(List.range n).flatMap λi=>ml t (nth ls i) (off (iS ls) i)<|off (gi ls) i
structure jy (t:List aD) (ls:List aH):Prop where
 bt:bk t<=1048576
 ok:∀i,i<ls.length->j5 t (nth ls i)
 xy:ls.length<=2
section
variable {t:List aD}{ls:List aH}
theorem jy.F5(h:jy t ls):∀i,i<=ls.length->off (iS ls) i<=i*1000
 | 0,_=>by simp[off]
 |i+1,hi=>by
  have:=h.F5 i (by omega);have:=(h.ok i (by omega)).xy;simp only[off,iS];omega
theorem jy.F6(h:jy t ls):∀i,i<=ls.length->off (gi ls) i<=i*1000
 | 0,_=>by simp[off]
 |i+1,hi=>by
  have:=h.F6 i (by omega);have:=(h.ok i (by omega)).ll;simp only[off,gi];omega
theorem jy.nP(h:jy t ls):off (iS ls) ls.length<=2000:=by have:=h.F5 _<|bR _;have:=h.xy;omega
theorem jy.nN(h:jy t ls):off (gi ls) ls.length<=2000:=by have:=h.F6 _<|bR _;have:=h.xy;omega
theorem tF{x:aH}{a b:Nat}{z:aT}:z∈ml t x a b↔∃k,k<x.aJ.length/\∃y∈(eY t<|x.aJ.getD k default).aQ,z=pe t x a b k (x.aJ.getD k default) y:=by
 unfold ml px;simp only[List.mem_flatMap,dY,eL];constructor
 ·rintro⟨k,hk,y,hy,rfl⟩;exact⟨k,hk,y,hy,rfl⟩
 ·rintro⟨k,hk,y,hy,rfl⟩;exact⟨k,hk,y,hy,rfl⟩
theorem yV(x:aH)(a b k:Nat)(p:Part)(y:bA):(pe t x a b k p y).j6 = -1\/∃n:Nat,n<x.aZ.length/\ff x ⟨p.Name,y.Name⟩=(n:Int)/\(pe t x a b k p y).j6=((b+n:Nat):Int):=by
 unfold pe;dsimp only;split
 ·have:ff x ⟨p.Name,y.Name⟩<(x.aZ.length:Int):=uu _ _;exact .inr ⟨(ff x ⟨p.Name,y.Name⟩).toNat,by omega,by omega,by omega⟩
 ·exact .inl rfl
theorem Dz{n:Nat}(hn:n<=ls.length):∀z∈rO t ls n,D1 (off (iS ls) ls.length) (off (gi ls) ls.length) z:=by
 intro z hz;obtain⟨i,hi,hz⟩:=List.mem_flatMap.1 hz;have hi:=dY.1 hi;obtain⟨k,hk,y,_,rfl⟩:=tF.1 hz;have h1:=tE (len:=iS ls) (i:=i) (j:=ls.length) (by omega);have h2:=tE (len:=gi ls) (i:=i) (j:=ls.length) (by omega);unfold iS at h1;unfold gi at h2;refine⟨⟨by unfold pe;dsimp only;omega,by unfold pe;dsimp only;unfold iS;omega⟩,?_⟩
 rcases yV (nth ls i) (off (iS ls) i) (off (gi ls) i) k ((nth ls i).aJ.getD k default) y with e|⟨m,hm,_,e⟩
 ·exact .inr e
 ·rw[e];unfold gi at *;exact .inl ⟨by omega,by omega⟩
theorem CJ(h:jy t ls){n:Nat}(hn:n<=ls.length):(rO t ls n).length<=n*1048576000:=
 mZ _ _ n λi hi=>tD h.bt (h.ok i (by omega)) _ _<|bR _
theorem yW{x:aH}{a b k:Nat}(hk:k<x.aJ.length):(ml t x a b).filter (λz=>z.part==((a+k:Nat):Int))=px t x a b k:=by
 unfold ml;rw[List.filter_flatMap,ko hk<|λj hj hne=>?_]
 ·rw[List.filter_eq_self];intro z hz;obtain⟨y,_,rfl⟩:=eL.1 hz;exact beq_iff_eq.2 rfl
 ·rw[List.filter_eq_nil_iff];intro z hz;obtain⟨y,_,rfl⟩:=eL.1 hz;rw[beq_iff_eq];unfold pe;dsimp only;omega
theorem DA{i k:Nat}(hi:i<ls.length)(hk:k<iS ls i):(rO t ls ls.length).filter (λz=>z.part==((off (iS ls) i+k:Nat):Int))=px t (nth ls i) (off (iS ls) i) (off (gi ls) i) k:=by
 unfold rO;rw[List.filter_flatMap,ko hi<|λj hj hne=>?_,yW hk];rw[List.filter_eq_nil_iff];intro z hz;obtain⟨m,hm,y,_,rfl⟩:=tF.1 hz;rw[beq_iff_eq];unfold pe;dsimp only
 rcases Nat.lt_or_gt_of_ne hne with h|h
 ·have:=tE (len:=iS ls) h;unfold iS at *;omega
 ·have:=tE (len:=iS ls) h;unfold iS at *;omega
theorem DB{i n:Nat}(hi:i<ls.length)(hn:n<gi ls i):(rO t ls ls.length).filter (λz=>z.j6==((off (gi ls) i+n:Nat):Int))=(ml t (nth ls i) (off (iS ls) i)<|off (gi ls) i).filter (λz=>z.j6==((off (gi ls) i+n:Nat):Int)):=by
 unfold rO;rw[List.filter_flatMap,ko hi<|λj hj hne=>?_];rw[List.filter_eq_nil_iff];intro z hz;obtain⟨m,hm,y,_,rfl⟩:=tF.1 hz;rw[beq_iff_eq]
 rcases yV (t:=t) (nth ls j) (off (iS ls) j) (off (gi ls) j) m ((nth ls j).aJ.getD m default) y with e|⟨q,hq,_,e⟩
 ·rw[e];omega
 ·rw[e]
  rcases Nat.lt_or_gt_of_ne hne with h|h
  ·have:=tE (len:=gi ls) h;unfold gi at *;omega
  ·have:=tE (len:=gi ls) h;unfold gi at *;omega
def my(t:List aD)(x:aH):List cC:=(List.range x.aJ.length).flatMap λk=>(eY t<|x.aJ.getD k default).aQ.map λz=>⟨(x.aJ.getD k default).Name,z.Name⟩
def gN(t:List aD)(x:aH)(P:List Int)(q:cC):aB:=⟨P.getD (nat? Part.Name x.aJ q.Part).toNat 0,HV t x q⟩
theorem vq{x:aH}(hs:gZ Part.Name x.aJ){k:Nat}{p:Part}(hp:x.aJ[k]? =some p):oA x p.Name=p:=by
 unfold oA;rw[sP (qI hs hp) hp];rfl
theorem m1{x:aH}{k:Nat}(hk:k<x.aJ.length):x.aJ[k]? =some (x.aJ.getD k default):=by rw[List.getD_eq_getElem?_getD,aM hk];rfl
theorem CK{x:aH}(ok:j5 t x)(a b n:Nat)(P Pl:List Int)(hP:∀k,k<x.aJ.length->P.getD (a+k) 0=Pl.getD k 0):
  ((ml t x a b).filter<|λz=>z.j6==((b+n:Nat):Int)).map (Aq P)=((my t x).filter<|λq=>ff x q==(n:Int)).map (gN t x Pl):=by
 unfold ml my px;rw[List.filter_flatMap,List.filter_flatMap,List.map_flatMap,List.map_flatMap];refine zK λk hk=>?_;have hk:=dY.1 hk;have hp:=m1 hk;generalize x.aJ.getD k default=p at hp;rw[List.filter_map,List.filter_map,List.map_map,List.map_map];have e:((λz:aT=>z.j6==((b+n:Nat):Int))∘pe t x a b k p)=((λq=>ff x q==(n:Int))∘λz:bA=>(⟨p.Name,z.Name⟩:cC)):=by
  funext y;show((pe t x a b k p y).j6==((b+n:Nat):Int))=(ff x ⟨p.Name,y.Name⟩==(n:Int));unfold pe;dsimp only;rw[iB,beq_iff_eq,beq_iff_eq];split <;> omega
 rw[e];refine List.map_congr_left λy hy=>?_;show(⟨P.getD (pe t x a b k p y).part.toNat 0,(pe t x a b k p y).mark⟩:aB)= ⟨Pl.getD (nat? Part.Name x.aJ p.Name).toNat 0,mX (eY t<|oA x p.Name) y.Name⟩;rw[qI ok.parts.sorted hp,vq ok.parts.sorted hp];unfold pe;dsimp only;rw[dJ,dJ,hP k hk]
theorem vO{x:aH}(ok:j5 t x):(my t x).Nodup:=by
 unfold my List.Nodup;rw[List.pairwise_flatMap];refine⟨λk hk=>?_,?_⟩
 ·have hk:=dY.1 hk;obtain⟨i,_,h2⟩:=mW<|ok.parts.typed _<|fK<|m1 hk
  rw[List.pairwise_map];refine(zC.1<|ok.types.pins _<|fK h2).imp λ{a b}h e=>?_;injection e with _ e
  exact aU.q8 h e
 ·refine List.Pairwise.imp_of_mem (λ{a b}ha hb hab y hy z hz=>?_) List.pairwise_lt_range;have ha:=dY.1 ha;have hb:=dY.1 hb;obtain⟨u,_,rfl⟩:=eL.1 hy;obtain⟨v,_,rfl⟩:=eL.1 hz;intro e;injection e with e _
  exact aU.q8 (ok.parts.sorted a b _ _ hab (m1 ha)<|m1 hb) e
theorem yX{x:aH}(ok:j5 t x){q:cC}(h:ky t x.aJ q=true):q∈my t x:=by
 have h1:=tW h;have h2:=vl h;unfold my;rw[List.mem_flatMap]
 rcases i7 Part.Name x.aJ q.Part with⟨g1,_⟩|⟨k,p,g1,g2,g3⟩
 ·omega
 have hk:=(bS.1 g2).1;have hp:=m1 hk;rw[g2]at hp;injection hp with hp
 refine⟨k,dY.2 hk,?_⟩;rw[<-hp];have e:oA x q.Part=p:=by rw[<-g3];exact vq ok.parts.sorted g2
 rw[e]at h2
 rcases i7 bA.Name (eY t p).aQ q.cC with⟨f1,_⟩|⟨j,z,f1,f2,f3⟩
 ·omega
 refine eL.2 ⟨z,fK f2,?_⟩
 cases q;simp_all
theorem Bt{x:aH}{n:Nat}{q:cC}(ok:j5 t x)(hn:n<x.aZ.length):ff x q=(n:Int)↔q∈x.aZ[n].aQ:=by
 unfold ff;constructor
 ·intro h
  rcases iN x.aZ (λm=>decide<|q∈m.aQ)with⟨h1,_⟩|⟨k,m,h1,h2,h3,_⟩
  ·omega
  ·have:k=n:=by omega
   subst this;rw[aM hn]at h2;injection h2 with h2
   rw[h2];exact of_decide_eq_true h3
 ·intro h;refine lU (aM hn) (cI h) λj m hj hm=>?_;rw[decide_eq_false_iff_not];intro h2;have:=ok.once j n m _ q hm (aM hn) h2 h;omega
theorem CL{x:aH}(ok:j5 t x){n:Nat}(hn:n<x.aZ.length):((my t x).filter<|λq=>ff x q==(n:Int)).Perm x.aZ[n].aQ:=by
 have h1:((my t x).filter<|λq=>ff x q==(n:Int)).Nodup:=(vO ok).sublist List.filter_sublist;have h2:x.aZ[n].aQ.Nodup:=(zD.1<|ok.EB _<|eD hn).imp λ{a b}h e=>by subst e;rw[xz]at h;cases h
 have hm:∀q,q∈(my t x).filter (λq=>ff x q==(n:Int))↔q∈x.aZ[n].aQ:=λq=>by
  rw[List.mem_filter,beq_iff_eq,Bt ok hn];exact⟨λh=>h.2,λh=>⟨yX ok<|ok.HU _ (eD hn) q h,h⟩⟩
 rw[List.perm_iff_count];intro q;have a1:=List.nodup_iff_count.1 h1 q;have a2:=List.nodup_iff_count.1 h2 q
 by_cases hq:q∈x.aZ[n].aQ
 ·have:=List.count_pos_iff.2 hq;have:=List.count_pos_iff.2<|(hm q).2 hq
  omega
 ·rw[List.count_eq_zero_of_not_mem hq,List.count_eq_zero_of_not_mem<|λh=>hq<|(hm q).1 h]
end
def tG(t:List aD)(x:aH)(Q:List Int)(k:Nat):List aB:=
 (eY t<|x.aJ.getD k default).aQ.map λz=>⟨mX (eY t<|x.aJ.getD k default) z.Name,sT Q<|ff x ⟨(x.aJ.getD k default).Name,z.Name⟩⟩
def tH(t:List aD)(x:aH)(P:List Int)(n:Nat):List aB:=(x.aZ.getD n default).aQ.map<|gN t x P
def EM(t:List aD)(x:aH)(P Q:List Int)(k:Nat):List Int:=CV (P.getD k 0)<|tG t x Q k
def EN(t:List aD)(x:aH)(P Q:List Int)(n:Nat):List Int:=CV (Q.getD n 0)<|tH t x P n
def SP(t:List aD)(ls:List aH)(Pn Qn:List (List Int)):List (List<|List Int):=(List.range ls.length).map λi=>(List.range<|iS ls i).map<|EM t (nth ls i) (Pn.getD i [])<|Qn.getD i []
def SN(t:List aD)(ls:List aH)(Pn Qn:List (List Int)):List (List<|List Int):=(List.range ls.length).map λi=>(List.range<|gi ls i).map<|EN t (nth ls i) (Pn.getD i [])<|Qn.getD i []
section
variable {t:List aD}{ls:List aH}{Pn Qn:List (List Int)}{N:Nat}
theorem Ar(hQ:qW (gi ls) ls.length Qn){i k:Nat}(hi:i<ls.length)(hk:k<iS ls i):oB (rO t ls ls.length) Qn.flatten (off (iS ls) i+k)=tG t (nth ls i) (Qn.getD i []) k:=by
 unfold oB tG;rw[DA hi hk];unfold px;rw[List.map_map];refine List.map_congr_left λy _=>?_;show(⟨_,sT Qn.flatten (pe t (nth ls i) _ _ k _ y).j6⟩:aB)=_;unfold pe;dsimp only;congr 1
 by_cases h:0<=ff (nth ls i) ⟨((nth ls i).aJ.getD k default).Name,y.Name⟩
 ·have hl:ff (nth ls i) ⟨((nth ls i).aJ.getD k default).Name,y.Name⟩<((nth ls i).aZ.length:Int):=uu _ _;rw[aG h];unfold sT;rw[aG (by omega),aG h,show((off (gi ls) i:Int)+ff (nth ls i) ⟨((nth ls i).aJ.getD k default).Name,y.Name⟩).toNat=off (gi ls) i+(ff (nth ls i) ⟨((nth ls i).aJ.getD k default).Name,y.Name⟩).toNat by omega];exact hQ.get hi (by unfold gi;omega) 0
 ·rw[aK h];unfold sT;rw[aK (by omega),aK h]
theorem As(h:jy t ls)(hP:qW (iS ls) ls.length Pn){i n:Nat}(hi:i<ls.length)(hn:n<gi ls i):(qV (rO t ls ls.length) Pn.flatten<|off (gi ls) i+n).Perm (tH t (nth ls i) (Pn.getD i []) n):=by
 have ok:=h.ok i hi;unfold qV tH;rw[DB hi hn,CK ok _ _ n _ (Pn.getD i [])<|λk hk=>hP.get hi hk 0];have hn':n<(nth ls i).aZ.length:=hn;have e:(nth ls i).aZ.getD n default=(nth ls i).aZ[n]:=by rw[List.getD_eq_getElem?_getD,aM hn'];rfl
 rw[e];exact(CL ok hn').map _
theorem Bu{c:Int}{r s:List aB}(h:r.Perm s):CV c r=CV c s:=by unfold CV;rw[zG h]
theorem rP(h:jy t ls){i k:Nat}(hi:i<ls.length)(hk:k<iS ls i)(Q:List Int):(tG t (nth ls i) Q k).length<=1048576:=by
 have ok:=h.ok i hi;unfold tG;rw[dF];exact lp h.bt<|ok.parts.typed _<|fK<|m1 hk
theorem rQ(h:jy t ls){i n:Nat}(hi:i<ls.length)(hn:n<gi ls i)(P:List Int):(tH t (nth ls i) P n).length<=500:=by
 have ok:=h.ok i hi;have hn':n<(nth ls i).aZ.length:=hn;unfold tH;rw[dF,List.getD_eq_getElem?_getD,aM hn'];exact(ok.Al _<|eD hn').2
theorem ED(h:jy t ls)(hP:qW (iS ls) ls.length Pn)(hQ:qW (gi ls) ls.length Qn):
  gB N Pn.flatten ((List.range<|off (iS ls) ls.length).map<|oB (rO t ls ls.length) Qn.flatten)=some (SP t ls Pn Qn).flatten:=by
 have hl:=hP.len;have h2000:=h.nP;rw[yT (by rw[dF,List.length_range,hl]) (by omega)<|λr hr=>?_]
 ·congr 1
  conv=>lhs;rw[vo Pn.flatten 0,hl]
  rw[wH,m0];unfold SP;congr 1;refine List.map_congr_left λi hi=>List.map_congr_left λk hk=>?_;have hi:=dY.1 hi;have hk:=dY.1 hk;rw[hP.get hi hk,Ar hQ hi hk];rfl
 ·rw[m0]at hr;obtain⟨l,hl,hr⟩:=List.mem_flatten.1 hr;obtain⟨i,hi,rfl⟩:=eL.1 hl;obtain⟨k,hk,rfl⟩:=eL.1 hr;have hi:=dY.1 hi;have hk:=dY.1 hk;rw[Ar hQ hi hk];exact rP h hi hk _
theorem EE(h:jy t ls)(hP:qW (iS ls) ls.length Pn)(hQ:qW (gi ls) ls.length Qn):
  gB N Qn.flatten ((List.range<|off (gi ls) ls.length).map<|qV (rO t ls ls.length) Pn.flatten)=some (SN t ls Pn Qn).flatten:=by
 have hl:=hQ.len;have h2000:=h.nN;rw[yT (by rw[dF,List.length_range,hl]) (by omega)<|λr hr=>?_]
 ·congr 1
  conv=>lhs;rw[vo Qn.flatten 0,hl]
  rw[wH,m0];unfold SN;congr 1;refine List.map_congr_left λi hi=>List.map_congr_left λk hk=>?_;have hi:=dY.1 hi;have hk:=dY.1 hk;rw[hQ.get hi hk,Bu<|As h hP hi hk];rfl
 ·rw[m0]at hr;obtain⟨l,hl,hr⟩:=List.mem_flatten.1 hr;obtain⟨i,hi,rfl⟩:=eL.1 hl;obtain⟨k,hk,rfl⟩:=eL.1 hr;have hi:=dY.1 hi;have hk:=dY.1 hk;have:=(As h hP hi hk).length_eq;have:=rQ h hi hk<|Pn.getD i []
  omega
theorem vr{i:Nat}(hi:i<ls.length):ls[i]? =some (nth ls i):=by unfold nth;rw[List.getD_eq_getElem?_getD,aM hi];rfl
theorem qW.DC{α:Type}{len:Nat->Nat}{n:Nat}{L:List (List α)}(h:qW len n L){i:Nat}(hi:i<n):L[i]? =some (L.getD i []):=by
 rw[List.getD_eq_getElem?_getD,aM (by rw[h.1];exact hi)];rfl
theorem qW.DD{α:Type}{len:Nat->Nat}{n:Nat}{L:List (List α)}(h:qW len n L){i k:Nat}(hi:i<n)(hk:k<len i)(d:α):(L.getD i [])[k]? =some ((L.getD i []).getD k d):=by
 rw[List.getD_eq_getElem?_getD (l:=L.getD i []),aM (by rw[h.2 i hi];exact hk)];rfl
theorem Bv{x:aH}{q:cC}(h:¬0<=ff x q):ff x q = -1:=by
 unfold ff at *
 rcases iN x.aZ (λn=>decide<|q∈n.aQ)with⟨h1,_⟩|⟨k,m,h1,_⟩
 ·exact h1
 ·omega
theorem yY(h:jy t ls)(hb:∀i,i<ls.length->bk (nth ls i)<=1048576)(hP:qW (iS ls) ls.length Pn)(hQ:qW (gi ls) ls.length Qn){i k:Nat}(hi:i<ls.length)(hk:k<iS ls i)(hN:4194304<=N):
  cT N ⟨t,ls,Pn,Qn⟩ ((i:Nat):Int) ((k:Nat):Int)=some (EM t (nth ls i) (Pn.getD i []) (Qn.getD i []) k):=by
 have ok:=h.ok i hi;have hp:=m1 hk;have htyp:=ok.parts.typed _<|fK hp
 obtain⟨j,h1,h2⟩:=mW htyp;have hpl:=lp h.bt htyp;have hsp:=ok.types.pins _<|fK h2
 have htl:=gy t;have hbt:=h.bt;unfold cT;dsimp only;rw[cD<|vr hi,aA,cD hp,aA,qF (by omega),aA,h1,cD h2,aA]
 rw[oz (s0:=([]:List aB)) (λz:bA=>[(⟨mX (eY t ((nth ls i).aJ.getD k default)) z.Name,sT (Qn.getD i []) (ff (nth ls i) ⟨((nth ls i).aJ.getD k default).Name,z.Name⟩)⟩:aB)]) (by omega) (λm z hz=>by
  have hm:=(bS.1 hz).1;have h4:=kL (λz:bA=>[(⟨mX (eY t<|(nth ls i).aJ.getD k default) z.Name,sT (Qn.getD i [])<|ff (nth ls i) ⟨((nth ls i).aJ.getD k default).Name,z.Name⟩⟩:aB)]) 1 ((eY t<|(nth ls i).aJ.getD k default).aQ.take m) (λ_ _=>by simp);rw[bQ]at h4;have hself:=qI hsp hz;have e:(bif decide (ff (nth ls i) ⟨((nth ls i).aJ.getD k default).Name,z.Name⟩>=0)then((idx Qn ((i:Nat):Int)).bind λx129=>(idx x129<|ff (nth ls i) ⟨((nth ls i).aJ.getD k default).Name,z.Name⟩).bind λx132=>some x132)else some (ff (nth ls i) ⟨((nth ls i).aJ.getD k default).Name,z.Name⟩))=some (sT (Qn.getD i [])<|ff (nth ls i) ⟨((nth ls i).aJ.getD k default).Name,z.Name⟩):=by
   by_cases h0:0<=ff (nth ls i) ⟨((nth ls i).aJ.getD k default).Name,z.Name⟩
   ·have hl:ff (nth ls i) ⟨((nth ls i).aJ.getD k default).Name,z.Name⟩<((nth ls i).aZ.length:Int):=uu _ _;generalize ff (nth ls i) ⟨((nth ls i).aJ.getD k default).Name,z.Name⟩=n at h0 hl;obtain⟨n,rfl⟩:∃a:Nat,n=(a:Int):=⟨n.toNat,by omega⟩;rw[cI h0,bL,cD<|hQ.DC hi,aA,cD<|hQ.DD hi (by unfold gi;omega) 0,aA];unfold sT;rw[aG h0,dJ]
   ·rw[bU h0,bK,Bv h0];rfl
  rw[cD hz,aA,xA (hb i hi),aA,e,aA,<-hself,vk hpl (by rw[hself];omega) hN,aA,dE (by simp only[List.nil_append,List.length_singleton];omega),aA]),aA]
 rw[cD<|hP.DC hi,aA,cD<|hP.DD hi hk 0,aA];have e2:([]:List aB)++(eY t<|(nth ls i).aJ.getD k default).aQ.flatMap (λz:bA=>[(⟨mX (eY t<|(nth ls i).aJ.getD k default) z.Name,sT (Qn.getD i [])<|ff (nth ls i) ⟨((nth ls i).aJ.getD k default).Name,z.Name⟩⟩:aB)])=tG t (nth ls i) (Qn.getD i []) k:=by
  rw[List.nil_append,<-List.map_eq_flatMap];rfl
 have hpl2:=rP h hi hk<|Qn.getD i []
 rw[e2,qs hpl2 hN,aA,dE (by rw[qH,qq];simp only[List.length_singleton];omega),aA];rfl
theorem zL(h:jy t ls)(hP:qW (iS ls) ls.length Pn)(hQ:qW (gi ls) ls.length Qn){i n:Nat}(hi:i<ls.length)(hn:n<gi ls i)(hN:4194304<=N):
  cX N ⟨t,ls,Pn,Qn⟩ ((i:Nat):Int) ((n:Nat):Int)=some (EN t (nth ls i) (Pn.getD i []) (Qn.getD i []) n):=by
 have ok:=h.ok i hi;have hn':n<(nth ls i).aZ.length:=hn;have hnn:(nth ls i).aZ[n]? =some ((nth ls i).aZ.getD n default):=by rw[List.getD_eq_getElem?_getD,aM hn'];rfl
 have hmem:=fK hnn;have h500:=(ok.Al _ hmem).2;have htl:=gy t;have hbt:=h.bt;have hfew:=ok.xy;unfold cX;dsimp only;rw[cD<|vr hi,aA,cD hnn,aA]
 rw[oz (s0:=([]:List aB)) (λq:cC=>[gN t (nth ls i) (Pn.getD i []) q]) (by omega) (λm q hq=>by
  have hm:=(bS.1 hq).1;have h4:=kL (λq:cC=>[gN t (nth ls i) (Pn.getD i []) q]) 1 (((nth ls i).aZ.getD n default).aQ.take m) (λ_ _=>by simp);rw[bQ]at h4;have hh:=ok.HU _ hmem q<|fK hq
  have g1:=tW hh;have g2:=vl hh;obtain⟨a,a1,a2⟩:=yS g1;have hak:=(bS.1 a2).1;obtain⟨b,b1,b2,b3,b4⟩:=zF h.bt ok g1;rw[cD hq,aA,wx (by omega),aA,a1,cD a2,aA,qF (by omega),aA,b1,cD b2,aA,cD<|hP.DC hi,aA,cD<|hP.DD hi hak 0,aA,yJ b4,aA,vk b4 g2 hN,aA,dE (by simp only[List.nil_append,List.length_singleton];omega),aA];unfold gN HV
  rw[a1,dJ]),aA]
 rw[cD<|hQ.DC hi,aA,cD<|hQ.DD hi hn 0,aA];have e2:([]:List aB)++((nth ls i).aZ.getD n default).aQ.flatMap (λq:cC=>[gN t (nth ls i) (Pn.getD i []) q])=tH t (nth ls i) (Pn.getD i []) n:=by
  rw[List.nil_append,<-List.map_eq_flatMap];rfl
 have hpl2:=rQ h hi hn<|Pn.getD i []
 rw[e2,qs (by omega) hN,aA,dE (by rw[qH,qq];simp only[List.length_singleton];omega),aA];rfl
end
noncomputable def dO{α:Type}(cf:α->α->Int)(l:List α):List α:=Classical.epsilon λd=>eT cf l d
theorem eT.dO{α:Type}{cf:α->α->Int}(hO:mx cf){l d:List α}(h:eT cf l d):Gk.dO cf l=d:=by
 have h2:eT cf l (Gk.dO cf l):=Classical.epsilon_spec (p:=λd=>eT cf l d) ⟨d,h⟩;exact h2.uniq hO h λ_=>Iff.rfl
abbrev CS:=List (List Int)×List (List Int)
noncomputable def Bz(S:List (List<|List Int)):List (List Int):=S.map λl=>l.map<|tv<|dO cmpL S.flatten
noncomputable def CW(t:List aD)(ls:List aH)(s:CS):CS:=(Bz<|SP t ls s.1 s.2,Bz<|SN t ls s.1 s.2)
def Au(t:List aD)(ls:List aH)(s:CS):Prop:=
 (dO cmpL (SP t ls s.1 s.2).flatten).length=(dO gz s.1.flatten).length/\(dO cmpL (SN t ls s.1 s.2).flatten).length=(dO gz s.2.flatten).length
inductive rR (t:List aD) (ls:List aH):CS->CS->Prop
 |stop {s:CS}:Au t ls s->rR t ls s s
 |step {s r:CS}:¬Au t ls s->rR t ls (CW t ls s) r->rR t ls s r
theorem rR.uniq{t:List aD}{ls:List aH}{s r r':CS}(h:rR t ls s r)(h':rR t ls s r'):r=r':=by
 induction h with
 |stop hs=>cases h' with
  |stop _=>rfl
  |step hn _=>exact absurd hs hn
 |step hn _ ih=>cases h' with
  |stop hs=>exact absurd hs hn
  |step _ h2=>exact ih h2
structure oC (ls:List aH) (s:CS):Prop where
 sp:qW (iS ls) ls.length s.1
 sn:qW (gi ls) ls.length s.2
 dp:∃e,eT gz s.1.flatten e
 dn:∃e,eT gz s.2.flatten e
theorem wI{α:Type}(len:Nat->Nat)(n:Nat)(f:Nat->Nat->α):qW len n ((List.range n).map λi=>(List.range<|len i).map<|f i):=by
 refine⟨by simp,λi hi=>?_⟩;rw[List.getD_eq_getElem?_getD,ki,List.getElem?_range hi];simp
theorem qW.map{α β:Type}{len:Nat->Nat}{n:Nat}{L:List (List α)}(h:qW len n L)(f:α->β):qW len n (L.map λl=>l.map f):=by
 refine⟨by rw[dF,h.1],λi hi=>?_⟩;have:=h.2 i hi;rw[List.getD_eq_getElem?_getD]at this ⊢;rw[ki];rw[aM (by rw[h.1];exact hi)]at this ⊢;simpa using this
theorem zM(t:List aD)(ls:List aH)(P Q:List (List Int)):qW (iS ls) ls.length (SP t ls P Q):=wI _ _ _
theorem zN(t:List aD)(ls:List aH)(P Q:List (List Int)):qW (gi ls) ls.length (SN t ls P Q):=wI _ _ _
theorem yZ{α β:Type}(L:List (List α))(f:α->β):(L.map λl=>l.map f).flatten=L.flatten.map f:=by rw[List.map_flatten]
section
variable {t:List aD}{ls:List aH}{N:Nat}
theorem vt{S:List (List<|List Int)}{d:List (List Int)}(h:eT cmpL S.flatten d):eT gz (Bz S).flatten ((List.range d.length).map λ(k:Nat)=>(k:Int)):=by
 unfold Bz;rw[yZ,h.dO jt];exact yF jt h
theorem nC{S:List (List<|List Int)}{d:List (List Int)}(h:eT cmpL S.flatten d):(dO gz (Bz S).flatten).length=d.length:=by
 rw[(vt h).dO kx,dF,List.length_range]
theorem qJ{s:CS}{dP dN:List (List Int)}(hP:eT cmpL (SP t ls s.1 s.2).flatten dP)(hN:eT cmpL (SN t ls s.1 s.2).flatten dN):oC ls (CW t ls s):=
 ⟨(zM t ls s.1 s.2).map _,(zN t ls s.1 s.2).map _,⟨_,vt hP⟩,⟨_,vt hN⟩⟩
theorem D2{s:CS}(h:oC ls s){d:List (List Int)}(hd:eT cmpL (SP t ls s.1 s.2).flatten d):(dO gz s.1.flatten).length<=d.length:=by
 obtain⟨e,he⟩:=h.dp;rw[he.dO kx];refine Ag hd kx he (λl=>l.headD 0) λy hy=>?_;obtain⟨l,hl,hy⟩:=List.mem_flatten.1 hy;obtain⟨i,hi,rfl⟩:=List.mem_iff_getElem.1 hl;obtain⟨k,hk,rfl⟩:=List.mem_iff_getElem.1 hy;have hi':i<ls.length:=by rw[<-h.sp.1];exact hi
 have e2:s.1.getD i []=s.1[i]:=by rw[List.getD_eq_getElem?_getD,aM hi];rfl
 have hk':k<iS ls i:=by rw[<-h.sp.2 i hi',e2];exact hk
 refine⟨EM t (nth ls i) (s.1.getD i []) (s.2.getD i []) k,List.mem_flatten.2 ⟨_,eL.2 ⟨i,dY.2 hi',rfl⟩,eL.2 ⟨k,dY.2 hk',rfl⟩⟩,?_⟩;show(s.1.getD i []).getD k 0=_;rw[e2,List.getD_eq_getElem?_getD,aM hk];rfl
theorem D3{s:CS}(h:oC ls s){d:List (List Int)}(hd:eT cmpL (SN t ls s.1 s.2).flatten d):(dO gz s.2.flatten).length<=d.length:=by
 obtain⟨e,he⟩:=h.dn;rw[he.dO kx];refine Ag hd kx he (λl=>l.headD 0) λy hy=>?_;obtain⟨l,hl,hy⟩:=List.mem_flatten.1 hy;obtain⟨i,hi,rfl⟩:=List.mem_iff_getElem.1 hl;obtain⟨k,hk,rfl⟩:=List.mem_iff_getElem.1 hy;have hi':i<ls.length:=by rw[<-h.sn.1];exact hi
 have e2:s.2.getD i []=s.2[i]:=by rw[List.getD_eq_getElem?_getD,aM hi];rfl
 have hk':k<gi ls i:=by rw[<-h.sn.2 i hi',e2];exact hk
 refine⟨EN t (nth ls i) (s.1.getD i []) (s.2.getD i []) k,List.mem_flatten.2 ⟨_,eL.2 ⟨i,dY.2 hi',rfl⟩,eL.2 ⟨k,dY.2 hk',rfl⟩⟩,?_⟩;show(s.2.getD i []).getD k 0=_;rw[e2,List.getD_eq_getElem?_getD,aM hk];rfl
theorem D4(h:jy t ls)(P Q:List (List Int)):(SP t ls P Q).flatten.length<=2000/\∀x∈(SP t ls P Q).flatten,x.length<=4611686018427387904:=by
 refine⟨by rw[(zM t ls P Q).len];exact h.nP,λx hx=>?_⟩;obtain⟨l,hl,hx⟩:=List.mem_flatten.1 hx;obtain⟨i,hi,rfl⟩:=eL.1 hl;obtain⟨k,hk,rfl⟩:=eL.1 hx;have:=rP h (dY.1 hi) (dY.1 hk)<|Q.getD i []
 unfold EM;rw[Ap];omega
theorem D5(h:jy t ls)(P Q:List (List Int)):(SN t ls P Q).flatten.length<=2000/\∀x∈(SN t ls P Q).flatten,x.length<=4611686018427387904:=by
 refine⟨by rw[(zN t ls P Q).len];exact h.nN,λx hx=>?_⟩;obtain⟨l,hl,hx⟩:=List.mem_flatten.1 hx;obtain⟨i,hi,rfl⟩:=eL.1 hl;obtain⟨k,hk,rfl⟩:=eL.1 hx;have:=rQ h (dY.1 hi) (dY.1 hk)<|P.getD i []
 unfold EN;rw[Ap];omega
theorem wJ{s:CS}(h:jy t ls)(g:oC ls s):(dO gz s.1.flatten).length<=2000:=by
 obtain⟨e,he⟩:=g.dp;have:=he.len kx;rw[g.sp.len]at this;rw[he.dO kx];exact jN this h.nP
theorem wK{s:CS}(h:jy t ls)(g:oC ls s):(dO gz s.2.flatten).length<=2000:=by
 obtain⟨e,he⟩:=g.dn;have:=he.len kx;rw[g.sn.len]at this;rw[he.dO kx];exact jN this h.nN
theorem y2{s:CS}{dP dN:List (List Int)}(hP:eT cmpL (SP t ls s.1 s.2).flatten dP)(hN:eT cmpL (SN t ls s.1 s.2).flatten dN):
  Au t ls s↔dP.length=(dO gz s.1.flatten).length/\dN.length=(dO gz s.2.flatten).length:=by
 unfold Au;rw[hP.dO jt,hN.dO jt]
theorem y3{S:List (List<|List Int)}{d:List (List Int)}(h:eT cmpL S.flatten d):S.flatten.map (tv d)=(Bz S).flatten:=by
 unfold Bz;rw[yZ,h.dO jt]
noncomputable def mz(ls:List aH):CS:=(ls.map<|vn<|dO o7<|typesOf ls,ls.map xD)
theorem xE{α:Type}{len:Nat->Nat}(f:aH->List α)(hf:∀i,i<ls.length->(f<|nth ls i).length=len i):qW len ls.length (ls.map f):=by
 refine⟨by rw[dF],λi hi=>?_⟩;rw[List.getD_eq_getElem?_getD,ki,vr hi];exact hf i hi
theorem tI(d:List aU):(ls.map<|vn d).flatten=(typesOf ls).map (tv d):=by
 unfold typesOf vn;rw[List.map_flatMap];unfold List.flatMap;congr 1;refine List.map_congr_left λx _=>?_;rw[List.map_map];rfl
theorem tJ:∀ls:List aH,(ls.map xD).flatten=List.replicate (ls.map xD).flatten.length 0
 | []=>rfl
 |x::ls=>by
  have ih:=tJ ls;rw[fh,List.flatten_cons,cL,<-List.replicate_append_replicate,<-ih];congr 1;unfold xD;rw[kj]
theorem Bw(n:Nat):eT gz (List.replicate n 0) (if n=0 then []else [0]):=by
 by_cases h:n=0
 ·subst h;exact⟨List.Pairwise.nil,λx=>by simp⟩
 ·rw[aK h];refine⟨List.pairwise_singleton _ _,λx=>?_⟩;rw[List.mem_replicate];simp[h]
theorem wL{d:List aU}(h:eT o7 (typesOf ls) d):oC ls (mz ls)/\(dO gz (mz ls).1.flatten).length=d.length/\(dO gz (mz ls).2.flatten).length=(if 1<off (gi ls) ls.length then 1 else off (gi ls) ls.length):=by
 have hp:eT gz (mz ls).1.flatten ((List.range d.length).map λ(k:Nat)=>(k:Int)):=by
  unfold mz;rw[tI,h.dO mV];exact yF mV h
 have sn:qW (gi ls) ls.length (mz ls).2:=xE xD λi hi=>by unfold xD gi;rw[kj]
 have hn:eT gz (mz ls).2.flatten (if off (gi ls) ls.length=0 then []else [0]):=by
  have e:(mz ls).2.flatten=List.replicate (off (gi ls) ls.length) 0:=by
   rw[<-sn.len];exact tJ ls
  rw[e];exact Bw _
 refine⟨⟨xE (vn _) λi hi=>by unfold vn iS;rw[dF],sn,⟨_,hp⟩,⟨_,hn⟩⟩,?_,?_⟩
 ·rw[hp.dO kx,dF,List.length_range]
 ·rw[hn.dO kx];split <;> split <;> simp <;> omega
theorem tY(ls:List aH):(typesOf ls).length=off (iS ls) ls.length:=by
 have:qW (iS ls) ls.length (ls.map<|vn []):=xE (vn []) λi hi=>by unfold vn iS;rw[dF]
 rw[<-this.len,tI,dF]
theorem xF(h:jy t ls)(hN:4194304<=N):
  Ok (gk N (typesOf ls) (rO t ls ls.length) ((off (iS ls) ls.length:Nat):Int) ((off (gi ls) ls.length:Nat):Int)) (λr=>∃s,oC ls s/\rR t ls (mz ls) s/\r=(s.1.flatten,s.2.flatten)):=by
 have hnP:=h.nP;have hnN:=h.nN;unfold gk;refine Ir (Bj (by rw[tY];omega) hN) ?_;rintro x31⟨d,hd,rfl⟩;obtain⟨hg,hc1,hc2⟩:=wL hd;refine IB (qB _ (by omega)) ?_;have e1:(typesOf ls).map (tv d)=(mz ls).1.flatten:=by unfold mz;rw[tI,hd.dO mV]
 have e2:List.replicate (off (gi ls) ls.length) (0:Int)=(mz ls).2.flatten:=by
  rw[<-hg.sn.len];exact(tJ ls).symm
 have e3:(if 1<((off (gi ls) ls.length:Nat):Int)then(1:Int)else((off (gi ls) ls.length:Nat):Int))=(((dO gz (mz ls).2.flatten).length:Nat):Int):=by
  rw[hc2];split <;> split <;> omega
 dsimp only;rw[e1,e2,e3,<-hc1];have hwl:=CJ h<|bR ls.length
 have hwl:(rO t ls ls.length).length<=4194304000:=by have:=h.xy;omega
 refine Ir (Jh (λs=>∃c,oC ls c/\(∀r,rR t ls c r->rR t ls (mz ls) r)/\s=(c.1.flatten,c.2.flatten,(((dO gz c.1.flatten).length:Nat):Int),(((dO gz c.2.flatten).length:Nat):Int)))
  (λs=>4001 -(s.2.2.1.toNat+s.2.2.2.toNat)) (Go:=λ_=>False) (Rt:=λr=>∃s,oC ls s/\rR t ls (mz ls) s/\r=(s.1.flatten,s.2.flatten)) ?_ ⟨mz ls,hg,λr hr=>hr,rfl⟩ (by omega)) (λo ho=>I_ ho (λs hs=>hs.elim) (λr hr=>Ip hr))
 rintro s⟨c,g,hf,rfl⟩;dsimp only;refine IB (qB _ (by omega))<|IB (qB _ (by omega)) ?_
 refine IB (Bs g.sp.len g.sn.len (Dz<|bR _) hwl) ?_;dsimp only;obtain⟨l1,l2⟩:=D4 h c.1 c.2;obtain⟨l3,l4⟩:=D5 h c.1 c.2;refine IB (ED h g.sp g.sn)<|Ir (wB (by omega) l2 hN) ?_
 rintro x904⟨dP,hdP,rfl⟩;refine IB (EE h g.sp g.sn)<|Ir (wB (by omega) l4 hN) ?_
 rintro x908⟨dN,hdN,rfl⟩;dsimp only;have hst:=y2 hdP hdN;have gp:=D2 g hdP;have gn:=D3 g hdN;refine IZ (λhb=>JA ⟨c,g,hf _<|.stop<|hst.2 ?_,rfl⟩)<|λhb=>I9 ⟨⟨CW t ls c,qJ hdP hdN,λr hr=>hf r<|.step (λhs=>?_) hr,?_⟩,?_⟩
 ·rw[cO,beq_iff_eq,beq_iff_eq]at hb;exact⟨by omega,by omega⟩
 ·have:=hst.1 hs;rw[this.1,this.2]at hb;simp at hb
 ·rw[y3 hdP,y3 hdN];unfold CW;dsimp only;rw[nC hdP,nC hdN]
 ·have q1:=wJ h<|qJ hdP hdN
  have q2:=wK h<|qJ hdP hdN
  unfold CW at q1 q2;dsimp only at q1 q2;rw[nC hdP]at q1;rw[nC hdN]at q2;have:¬(dP.length=(dO gz c.1.flatten).length/\dN.length=(dO gz c.2.flatten).length):=λhs=>by
   rw[hs.1,hs.2]at hb;simp at hb
  simp only[dJ];omega
end
section
variable {t:List aD}{ls:List aH}{N:Nat}
theorem wM{α:Type}{n:Nat}{body:Nat->List α->Option (List α)}(f:Nat->α)(hn:n<=4611686018427387904)(h:∀k,k<n->body k ((List.range k).map f)=some ((List.range k).map f++[f k])):jm n body []=some ((List.range n).map f):=
 k8 (λk=>(List.range k).map f) hn (by simp) λk hk=>by rw[h k hk,List.range_succ,fX];rfl
theorem CM{P Q:List (List Int)}(h:jy t ls)(hb:∀i,i<ls.length->bk (nth ls i)<=1048576)(sp:qW (iS ls) ls.length P)(sn:qW (gi ls) ls.length Q)(hN:4194304<=N):
  (jm ls.length (λ(k523:Nat)(s524:List (List<|List Int)×List (List<|List Int))=>((idx ls (k523:Int)).bind λx667=>(jm x667.aJ.length (λ(k672:Nat)(s673:List (List Int))=>((cT N ⟨t,ls,P,Q⟩ (k523:Int) (k672:Int)).bind λx692=>(app 24 s673 ([x692]:List (List Int))).bind λx695=>some x695:Option (List<|List Int))) ([]:List (List Int))).bind λs673=>(jm x667.aZ.length (λ(k699:Nat)(s700:List (List Int))=>((cX N ⟨t,ls,P,Q⟩ (k523:Int) (k699:Int)).bind λx719=>(app 24 s700 ([x719]:List (List Int))).bind λx722=>some x722:Option (List<|List Int))) ([]:List (List Int))).bind λs700=>(app 24 s524.1 ([s673]:List (List<|List Int))).bind λx726=>(app 24 s524.2 ([s700]:List (List<|List Int))).bind λx729=>some (x726,x729):Option (List (List<|List Int)×List (List<|List Int)))) (([]:List (List<|List Int)),([]:List (List<|List Int))))=some (SP t ls P Q,SN t ls P Q):=by
 have hfew:=h.xy;refine k8 (λk=>((List.range k).map λi=>(List.range<|iS ls i).map<|EM t (nth ls i) (P.getD i [])<|Q.getD i [],(List.range k).map λi=>(List.range<|gi ls i).map<|EN t (nth ls i) (P.getD i [])<|Q.getD i [])) (by omega) rfl<|λi hi=>?_
 have ok:=h.ok i hi;have h1:=ok.xy;have h2:=ok.ll;rw[cD<|vr hi,aA]
 rw[wM (EM t (nth ls i) (P.getD i []) (Q.getD i [])) (by omega) (λk hk=>by
  rw[yY h hb sp sn hi hk hN,aA,dE (by simp only[dF,List.length_range,List.length_singleton];omega),aA]),aA]
 rw[wM (EN t (nth ls i) (P.getD i []) (Q.getD i [])) (by omega) (λk hk=>by
  rw[zL h sp sn hi hk hN,aA,dE (by simp only[dF,List.length_range,List.length_singleton];omega),aA]),aA]
 rw[dE (by simp only[dF,List.length_range,List.length_singleton];omega),aA,dE (by simp only[dF,List.length_range,List.length_singleton];omega),aA];rw[List.range_succ,fX,fX];rfl
theorem y4(h:jy t ls)(hb:∀i,i<ls.length->bk (nth ls i)<=1048576)(hN:4194304<=N):
  Ok (dQ N t ls) (λr=>∃s,oC ls s/\rR t ls (mz ls) s/\r= ⟨t,ls,s.1,s.2⟩):=by
 have hnP:=h.nP;have hnN:=h.nN;have hfew:=h.xy;unfold dQ
 refine Ir (CH (by omega) (by rw[tY];omega) (λx hx=>by
  obtain⟨i,hi,rfl⟩:=List.mem_iff_getElem.1 hx;have:=h.ok i hi;have e:nth ls i=ls[i]:=by have:=vr hi;rw[aM hi]at this;injection this with this;exact this.symm
  rw[e]at this;have h1:=this.xy;have h2:=this.ll
  exact⟨by omega,by omega⟩) hN) ?_
 rintro x32⟨d,hd,rfl⟩;obtain⟨hg,hc1,hc2⟩:=wL hd;have e1:(⟨t,ls,ls.map<|vn d,ls.map xD⟩:aO)= ⟨t,ls,(mz ls).1,(mz ls).2⟩:=by unfold mz;rw[hd.dO mV]
 rw[e1]
 refine Ir (Jh (λs=>∃c,oC ls c/\(∀r,rR t ls c r->rR t ls (mz ls) r)/\s.1= ⟨t,ls,c.1,c.2⟩/\((s.2.1 = -1/\s.2.2 = -1)\/(s.2.1=(((dO gz c.1.flatten).length:Nat):Int)/\s.2.2=(((dO gz c.2.flatten).length:Nat):Int))))
  (λs=>4001 -((dO gz s.1.parts.flatten).length+(dO gz s.1.pA.flatten).length)) (Go:=λ_=>False) (Rt:=λr=>∃s,oC ls s/\rR t ls (mz ls) s/\r= ⟨t,ls,s.1,s.2⟩) ?_ ⟨mz ls,hg,λr hr=>hr,rfl, .inl ⟨rfl,rfl⟩⟩ (by omega)) (λo ho=>I_ ho (λs hs=>hs.elim) (λr hr=>Ip hr))
 rintro⟨s1,s2,s3⟩⟨c,g,hf,hs1,hs2⟩;dsimp only at hs1 hs2 ⊢;subst hs1;refine IB (CM h hb g.sp g.sn hN) ?_;dsimp only;obtain⟨l1,l2⟩:=D4 h c.1 c.2;obtain⟨l3,l4⟩:=D5 h c.1 c.2;have hSl:(SP t ls c.1 c.2).length<=1048576:=by rw[(zM t ls c.1 c.2).1];omega
 have hNl:(SN t ls c.1 c.2).length<=1048576:=by rw[(zN t ls c.1 c.2).1];omega
 refine Ir (tT hSl (by omega) l2 hN) ?_;rintro x741⟨dP,hdP,rfl⟩;refine Ir (tT hNl (by omega) l4 hN) ?_;rintro x743⟨dN,hdN,rfl⟩;dsimp only;refine Ir (P:=λs=>s=((((dO gz c.1.flatten).length:Nat):Int),(((dO gz c.2.flatten).length:Nat):Int))) ?_ ?_
 ·rcases hs2 with⟨rfl,rfl⟩|⟨rfl,rfl⟩
  ·rw[show decide ((-1:Int)<0)=true from rfl,bL];refine Ir (sR (by rw[g.sp.1];omega) (by rw[g.sp.len];omega) hN) ?_;rintro _⟨e,he,rfl⟩;refine Ir (sR (by rw[g.sn.1];omega) (by rw[g.sn.len];omega) hN) ?_;rintro _⟨e',he',rfl⟩;exact Ip (by rw[he.dO kx,he'.dO kx])
  ·rw[bU (by omega),bK];exact Ip rfl
 ·rintro _ rfl;dsimp only;have hst:=y2 hdP hdN;have gp:=D2 g hdP;have gn:=D3 g hdN;refine IZ (λhb=>JA ⟨c,g,hf _<|.stop<|hst.2 ?_,rfl⟩)<|λhb=>I9 ⟨⟨CW t ls c,qJ hdP hdN,λr hr=>hf r<|.step (λhs=>?_) hr,?_, .inr ⟨?_,?_⟩⟩,?_⟩
  ·rw[cO,decide_eq_true_iff,decide_eq_true_iff]at hb;exact⟨by omega,by omega⟩
  ·have:=hst.1 hs;rw[this.1,this.2]at hb;simp at hb
  ·unfold CW Bz;dsimp only;rw[hdP.dO jt,hdN.dO jt]
  ·unfold CW;dsimp only;rw[nC hdP]
  ·unfold CW;dsimp only;rw[nC hdN]
  ·have q1:=wJ h<|qJ hdP hdN
   have q2:=wK h<|qJ hdP hdN
   unfold CW at q1 q2;dsimp only at q1 q2;have f1:(SP t ls c.1 c.2).map (λl=>l.map<|tv dP)=Bz (SP t ls c.1 c.2):=by unfold Bz;rw[hdP.dO jt]
   have f2:(SN t ls c.1 c.2).map (λl=>l.map<|tv dN)=Bz (SN t ls c.1 c.2):=by unfold Bz;rw[hdN.dO jt]
   rw[f1,f2];rw[nC hdP]at q1 ⊢;rw[nC hdN]at q2 ⊢;have:¬(dP.length=(dO gz c.1.flatten).length/\dN.length=(dO gz c.2.flatten).length):=λhs=>by
    rw[hs.1,hs.2]at hb;simp at hb
   omega
end
section
variable {t:List aD}{N:Nat}
end
section
variable {κ ν:Type}
theorem y5(f:κ×ν->Bool):∀p:List (κ×ν),q4 (λe(_:Unit)=>(bif f e then some (.rt false)else(some<|.nx ()):Option (Fl Unit Bool))) p ()=some (if p.any f=true then .rt false else .go ())
 | []=>rfl
 |e::p=>by
  unfold q4;rw[List.any_cons]
  cases h:f e
  ·simp only[bK,aA,Bool.false_or];exact y5 f p
  ·simp
theorem DE{m:List (κ×ν)}(f:κ×ν->Bool):
  wZ m (λe(_:Unit)=>(bif f e then some (.rt false)else(some<|.nx ()):Option (Fl Unit Bool))) () (λ_=>some true) (λr=>some r)=some (!m.any f):=
 Dc λp hp=>by
  rw[y5,hp.any_eq]
  cases m.any f <;> rfl
end
section
variable {N:Nat}
theorem Av{l:List Int}{f:Nat}(hl:l.length<=1048576):jU N l ((f:Nat):Int)=some (decide<|(l.take f).Perm<|l.drop f):=by
 refine Jy ?_;unfold jU;refine Ir (I6 (λk m=>(m.map Prod.fst).Nodup/\(∀c,c∈m.map Prod.fst↔c∈l.take k)/\∀c,ew m c 0=((((l.take f).take k).count c:Nat):Int) -((((l.drop f).take<|k - f).count c:Nat):Int)) (by omega) ⟨by simp,by simp,λc=>by simp[ew]⟩<|λk m hk hm=>?_)<|λm hm=>?_
 ·obtain⟨h1,h2,h3⟩:=hm;have hc1:=λc=>List.count_le_length (a:=c) (l:=(l.take f).take k);have hc2:=λc=>List.count_le_length (a:=c) (l:=(l.drop f).take<|k - f);simp only[bQ,dR]at hc1 hc2;refine II hk ?_;have key:∀d:Int,(∀c,((((l.take f).take<|k+1).count c:Nat):Int) -((((l.drop f).take<|k+1 - f).count c:Nat):Int)=((((l.take f).take k).count c:Nat):Int) -((((l.drop f).take<|k - f).count c:Nat):Int)+(if c=l[k]then d else 0))->
    Ok (some<|fR m l[k]<|ew m l[k] 0+d) (λm=>(m.map Prod.fst).Nodup/\(∀c,c∈m.map Prod.fst↔c∈l.take (k+1))/\∀c,ew m c 0=((((l.take f).take<|k+1).count c:Nat):Int) -((((l.drop f).take<|k+1 - f).count c:Nat):Int)):=by
   intro d hd;refine Ip ⟨An _ _ h1,λc=>?_,λc=>?_⟩
   ·rw[nT,h2,fo hk,jZ];simp only[List.mem_singleton];exact Or.comm
   ·rw[tt,hd c]
    by_cases e:c=l[k]
    ·rw[aG e,aG e,h3,<-e]
    ·rw[aK e,aK e,h3];omega
  have a1:=hc1 l[k];have a2:=hc2 l[k];have a3:=h3 l[k];refine Ir (P:=λm=>(m.map Prod.fst).Nodup/\(∀c,c∈m.map Prod.fst↔c∈l.take (k+1))/\∀c,ew m c 0=((((l.take f).take<|k+1).count c:Nat):Int) -((((l.drop f).take<|k+1 - f).count c:Nat):Int)) (IZ (λhb=>?_)<|λhb=>?_)<|λm hm=>Ip hm
  ·have hb:k<f:=by have:=of_decide_eq_true hb;omega
   rw[dL (by omega) (by omega)];refine key 1 λc=>?_;have hkf:k<(l.take f).length:=by rw[bQ];omega
   rw[fo hkf,List.count_append,List.getElem_take,show k+1 - f=0 by omega,show k - f=0 by omega]
   by_cases e:c=l[k]
   ·subst e;simp
   ·have e':¬l[k]=c:=λh=>e h.symm;simp[e,e',List.count_cons]
  ·have hb:f<=k:=by have:=of_decide_eq_false hb;omega
   rw[dL (by omega) (by omega)];refine key (-1) λc=>?_;have hkf:k - f<(l.drop f).length:=by rw[dR];omega
   rw[jM (l:=l.take f) (i:=k+1) (by rw[bQ];omega),jM (l:=l.take f) (i:=k) (by rw[bQ];omega),show k+1 - f=(k - f)+1 by omega,fo hkf,List.count_append,List.getElem_drop];have e0:f+(k - f)=k:=by omega
   simp only[e0]
   by_cases e:c=l[k]
   ·subst e;simp;omega
   ·have e':¬l[k]=c:=λh=>e h.symm;simp[e,e',List.count_cons]
 ·obtain⟨h1,h2,h3⟩:=hm;rw[DE (λx44:Int×Int=>x44.2 != 0)];refine Ip ?_;rw[eR]at h2;have h3:∀c,ew m c 0=(((l.take f).count c:Nat):Int) -(((l.drop f).count c:Nat):Int):=λc=>by
   rw[h3,jM (l:=l.take f) (by rw[bQ];omega),jM (l:=l.drop f) (by rw[dR];omega)]
  rw[iB,Bool.not_eq_true',List.any_eq_false,decide_eq_true_iff,List.perm_iff_count];constructor
  ·intro h c;have hc:=h3 c
   by_cases hm:c∈l
   ·obtain⟨e,he,rfl⟩:=eL.1<|(h2 c).2 hm
    have:=h e he;rw[<-qp h1 he]at this;simp only[bne_iff_ne,ne_eq,Decidable.not_not]at this;omega
   ·rw[List.count_eq_zero_of_not_mem λh=>hm<|List.mem_of_mem_take h,List.count_eq_zero_of_not_mem λh=>hm<|List.mem_of_mem_drop h]
  ·intro h e he;have:=h3 e.1;rw[qp h1 he,h e.1]at this;simp only[bne_iff_ne,ne_eq,Decidable.not_not];omega
def D6(N:Nat)(p0 p1:List Int):Option Bool:=
 ((app 8 ([]:List Int) p0).bind λx=>some x).bind λx31=>((app 8 ([]:List Int) p1).bind λx=>some x).bind λx33=>(pV x31).bind λx35=>(pV x33).bind λx36=>(eu N x35 x36).bind λx37=>some x37
theorem ri{a b:List Int}(ha:a.length<=1048576)(hb:b.length<=1048576):dG N a b=some (decide<|a.Perm b):=by
 show D6 N a b=_;unfold D6;rw[dE (by simp;omega),aA,aA,dE (by simp;omega),aA,aA,List.nil_append,List.nil_append,tB (by omega),aA,tB (by omega),aA,tw (by rw[(lH a).length_eq];omega),aA];congr 1;rw[iB,decide_eq_true_iff,decide_eq_true_iff];exact CE
def rj(l:List Int)(c:Int):List Nat:=(List.range l.length).filter λi=>l.getD i 0==c
theorem m5(a b:List Int)(c:Int):rj (a++b) c=rj a c++(rj b c).map (λj=>a.length+j):=by
 unfold rj;rw[cL,List.range_add,List.filter_append,List.filter_map];congr 1
 ·refine List.filter_congr λi hi=>?_;have hi:=dY.1 hi;rw[List.getD_eq_getElem?_getD,List.getD_eq_getElem?_getD,gR hi]
 ·congr 1;refine List.filter_congr λi hi=>?_;show((a++b).getD (a.length+i) 0==c)=(b.getD i 0==c);rw[List.getD_eq_getElem?_getD,List.getD_eq_getElem?_getD,gu (by omega),show a.length+i - a.length=i by omega]
theorem uv{l:List Int}{c:Int}:rj l c= []↔c∉l:=by
 unfold rj;rw[List.filter_eq_nil_iff];constructor
 ·intro h hc;obtain⟨i,hi,e⟩:=List.mem_iff_getElem.1 hc;refine h i (dY.2 hi) ?_;rw[List.getD_eq_getElem?_getD,aM hi];simpa using e
 ·intro h i hi;have hi:=dY.1 hi;rw[List.getD_eq_getElem?_getD,aM hi,beq_iff_eq];intro e;exact h<|e▸eD hi
theorem xG{l:List Int}{c:Int}{i:Nat}:i∈rj l c↔l[i]? =some c:=by
 unfold rj;rw[List.mem_filter,dY,beq_iff_eq,List.getD_eq_getElem?_getD];constructor
 ·rintro⟨h,e⟩;rw[aM h]at e ⊢;simpa using e
 ·intro h;exact⟨(bS.1 h).1,by rw[h];rfl⟩
def jY(l:List Int)(c:Int):Int:=match rj l c with| [j]=>(j:Int)|_=> -1
theorem Aw{l:List Int}{c:Int}(hl:l.length<=1048576):dH N l c=some (jY l c):=by
 unfold dH;have e1:∀l:List Int,l.length<=1048576->gH N l c=some (vJ l<|λx=>decide<|c=x):=λl hl=>by
  rw[<-tk (l:=l) (a:=c) (by omega)];unfold gH uX;simp only[Bool.beq_eq_decide_eq]
 have e2:∀l:List Int,l.length<=1048576->gr N l c=some (decide<|c∈l):=λl hl=>by
  unfold gr;rw[e1 l hl,aA,uW];congr 1;rw[iB,kl,decide_eq_true_iff];exact⟨λ⟨x,hx,e⟩=>by have:=of_decide_eq_true e;subst this;exact hx,λh=>⟨c,h,by simp⟩⟩
 rw[e1 l hl,aA]
 rcases iN l (λx=>decide<|c=x)with⟨h1,h2⟩|⟨k,x,h1,h2,h3,h4⟩
 ·have hn:c∉l:=λh=>by have:=h2 c h;simp at this
  rw[h1];unfold jY;rw[uv.2 hn];rfl
 ·have:=of_decide_eq_true h3;subst this;have hk:=(bS.1 h2).1;have hs:l=l.take k++(c::l.drop (k+1)):=by
   have e:=lJ hk;rw[aM hk]at h2;injection h2 with h2
   rw[h2]at e;rw[<-e,List.take_append_drop]
  have hp:rj l c=k::(rj (l.drop<|k+1) c).map (λj=>k+1+j):=by
   conv=>lhs;rw[hs]
   rw[m5];have t0:rj (l.take k) c= []:=uv.2 λh=>by
    obtain⟨j,hj,e⟩:=List.mem_iff_getElem.1 h;rw[bQ]at hj;rw[List.getElem_take]at e;have:=h4 j c (by omega) (by rw[aM (by omega),e]);simp at this
   have t1:rj (c::l.drop (k+1)) c=0::(rj (l.drop<|k+1) c).map (λj=>1+j):=by
    have:=m5 [c] (l.drop<|k+1) c;rw[List.singleton_append]at this;rw[this];unfold rj;simp[List.range_succ]
   rw[t0,t1,List.nil_append,fh,List.map_map,bQ,Nat.min_eq_left (by omega)];congr 1;refine List.map_congr_left λj _=>?_;show k+(1+j)=_;omega
  rw[h1,bU (by omega),bK,iv (by omega),uT l (k+1) (by omega),aA,e2 _ (by rw[dR];omega),aA,aA];unfold jY;rw[hp]
  by_cases hd:c∈l.drop (k+1)
  ·rw[cI hd,bL];have:rj (l.drop<|k+1) c≠[]:=λh=>uv.1 h hd
   match rj (l.drop<|k+1) c,this with
   |a::m,_=>rfl
  ·rw[bU hd,bK,uv.2 hd];rfl
end
section
variable {N:Nat}
def rS(t:List aD)(a b:aH):Int:=if fO t a≠0 then fO t a else fO t b
theorem sU{t:List aD}{a b:aH}(hbt:bk t<=1048576)(hba:Aj a)(hbb:Aj b)(hN:4194304<=N):iK N t a b=some (rS t a b):=by
 unfold iK rS;rw[lx hbt hba hN,aA,lx hbt hbb hN,aA]
 by_cases h:fO t a=0
 ·rw[h];rfl
 ·have e:(fO t a != 0)=true:=by rw[bne_iff_ne];exact h
  rw[e,bL,aG h]
theorem Bx{t:List aD}{a b:aH}(hbt:bk t<=1048576)(hba:bk a<=1048576)(hbb:bk b<=1048576)(hN:4194304<=N):f9 N t a b=some (rS t a b):=by
 unfold f9 rS;rw[tA hbt hba hN,aA,oy hbt hbb hN,aA]
 by_cases h:fO t a=0
 ·have h1:checkTypes t=0:=by
   unfold fO at h;split at h
   ·exact h
   ·rename_i h1;exact Decidable.not_not.1 h1
  rw[h,aK (show ¬((0:Int)≠0)from λh=>h rfl)]
  conv=>rhs;unfold fO
  rw[aK (show ¬(checkTypes t≠0)from λh=>h h1)];rfl
 ·have e:(fO t a != 0)=true:=by rw[bne_iff_ne];exact h
  rw[e,bL,aG h]
end
def lq(p1 p2:List Int)(k:Nat):Option aB:=
 if 0<=jY p2 (p1.getD k 0)/\0<=jY p1 (p1.getD k 0)then some ⟨(k:Int),jY p2<|p1.getD k 0⟩else none
def kz(p1 p2:List Int):List aB:=(List.range p1.length).filterMap<|lq p1 p2
theorem vu(l:List Int)(c:Int):jY l c<(l.length:Int):=by
 unfold jY;split
 ·rename_i j h;have:j∈rj l c:=by rw[h];simp
  have:=(bS.1<|xG.1 this).1;omega
 ·omega
theorem zO{p1 p2:List Int}{z:aB}(h:z∈kz p1 p2):∃k j:Nat,z= ⟨(k:Int),(j:Int)⟩/\k<p1.length/\j<p2.length:=by
 unfold kz at h;obtain⟨k,hk,h⟩:=List.mem_filterMap.1 h;have hk:=dY.1 hk;unfold lq at h;split at h
 ·rename_i hc;injection h with h
  have:=vu p2<|p1.getD k 0
  exact⟨k,(jY p2<|p1.getD k 0).toNat,by rw[<-h,Int.toNat_of_nonneg hc.1],hk,by omega⟩
 ·cases h
theorem rT(p1 p2:List Int):(kz p1 p2).length<=p1.length:=by
 unfold kz;have:=List.length_filterMap_le (lq p1 p2)<|List.range p1.length
 rwa[List.length_range]at this
theorem DF{p1 p2:List Int}{i:Nat}(hi:i<p1.length):((((rj (p1++p2)<|p1.getD i 0).length:Nat):Int)==2)=true/\(∃j:Nat,(rj (p1++p2)<|p1.getD i 0)[1]? =some j/\p1.length<=j)↔0<=jY p2 (p1.getD i 0)/\0<=jY p1 (p1.getD i 0):=by
 have hm:i∈rj p1 (p1.getD i 0):=xG.2 (by rw[List.getD_eq_getElem?_getD,aM hi];rfl);rw[m5];unfold jY;generalize hA:rj p1 (p1.getD i 0)=A at hm;have hlt:∀a∈A,a<p1.length:=λa ha=>by rw[<-hA]at ha;exact(bS.1<|xG.1 ha).1
 generalize rj p2 (p1.getD i 0)=B
 match A,hm,hlt with
 | [a],_,_=>
  match B with
  | []=>simp
  | [j]=>simp
  |j::j2::B=>simp;omega
 |a::b::A,_,hlt=>
  have hb:=hlt b (by simp);simp;intro _;omega
theorem zP{p1 p2:List Int}{i j:Nat}(hi:i<p1.length)(h:0<=jY p2 (p1.getD i 0)/\0<=jY p1 (p1.getD i 0))(hj:(rj (p1++p2)<|p1.getD i 0)[1]? =some j):((j:Nat):Int)=(p1.length:Int)+jY p2 (p1.getD i 0):=by
 rw[m5]at hj;unfold jY at h ⊢;generalize rj p1 (p1.getD i 0)=A at h hj;generalize rj p2 (p1.getD i 0)=B at h hj ⊢
 match A,B with
 | [a],[b]=>simp at hj;dsimp only;omega
 | [],_=>simp at h
 | [a],[]=>simp at h
 | [a],_::_::_=>simp at h
 |_::_::_,_=>simp at h
section
variable {N:Nat}
theorem y6{p1 p2:List Int}(h1:p1.length<=1048576)(h2:p2.length<=1048576)(hN:4194304<=N):jk N (p1++p2) ((p1.length:Nat):Int)=some (kz p1 p2):=by
 refine Jy ?_;unfold jk;have hll:(p1++p2).length<=2097152:=by rw[cL];omega
 generalize hl:p1++p2=l at hll;have hpl:∀k c,(rj (l.take k) c).length<=2097152:=λk c=>by
  refine jN (List.length_filter_le _ _) ?_;rw[List.length_range,bQ];omega
 refine Ir (I6 (λk m=>∀c,ew m c []=(rj (l.take k) c).map λ(j:Nat)=>(j:Int)) (by omega) (λc=>by simp[ew,rj])<|λk m hk hm=>?_)<|λm hm=>?_
 ·refine II hk ?_;have:=hpl k l[k];rw[dE (by rw[hm,dF,List.length_singleton];omega),aA];refine Ip λc=>?_;rw[tt,fo hk,m5,bQ,Nat.min_eq_left (by omega)]
  by_cases e:c=l[k]
  ·rw[aG e,hm,e,fX];congr 1;unfold rj;simp[List.range_succ]
  ·have e':¬l[k]=c:=λh=>e h.symm;rw[aK e,hm];unfold rj;simp[List.range_succ,e']
 ·rw[eR]at hm;refine Ir (Jh (λs=>∃i:Nat,s=((List.range i).filterMap<|lq p1 p2,(i:Int))/\i<=p1.length) (λs=>p1.length - s.2.toNat) (Go:=λs=>s.1=kz p1 p2) (Rt:=λ_=>True) ?_ ⟨0,by simp,by omega⟩ (by simp;omega))<|λo ho=>I_ ho (λs hs=>Ip hs)<|λr=>r.elim
  rintro s⟨i,rfl,hi⟩;dsimp only;refine IZ (λhb=>?_)<|λhb=>Jz ?_
  ·have hb:i<p1.length:=by have:=of_decide_eq_true hb;omega
   have hx:l[i]? =some (p1.getD i 0):=by rw[<-hl,gR hb,List.getD_eq_getElem?_getD,aM hb];rfl
   refine JM hx ?_;rw[hm,<-hl];have htwo:=DF (p2:=p2) hb;have htw2:=λj=>zP (p2:=p2) (j:=j) hb;generalize hX:rj (p1++p2) (p1.getD i 0)=X at htwo htw2;have hfl:((List.range i).filterMap<|lq p1 p2).length<=1048576:=by
    have:=List.length_filterMap_le (lq p1 p2)<|List.range i
    rw[List.length_range]at this;omega
   have hnext:∀out:List aB,out=(List.range i).filterMap (lq p1 p2)++(match lq p1 p2 i with|some z=>[z] |none=>[])->Ok (some (Fl.nx (out,wrap .i64<|((i:Nat):Int)+1):Fl (List aB×Int) Empty)) (Ex (λs'=>(∃i:Nat,s'=((List.range i).filterMap<|lq p1 p2,(i:Int))/\i<=p1.length)/\p1.length - s'.2.toNat<p1.length - Int.toNat ((i:Nat):Int)) (λs=>s.1=kz p1 p2)<|λ_=>True):=by
    intro out ho;rw[iv (by omega)];refine I9 ⟨⟨i+1,?_,by omega⟩,by simp only[dJ];omega⟩;have eg:List.filterMap (lq p1 p2) [i]=match lq p1 p2 i with|some z=>[z] |none=>[]:=by
     simp only[List.filterMap_cons,List.filterMap_nil]
     cases lq p1 p2 i <;> rfl
    rw[ho,List.range_succ,List.filterMap_append,eg]
   have hno:¬(0<=jY p2 (p1.getD i 0)/\0<=jY p1 (p1.getD i 0))->Ok (some (Fl.nx ((List.range i).filterMap (lq p1 p2),wrap .i64 (((i:Nat):Int)+1)):Fl (List aB×Int) Empty)) (Ex (λs'=>(∃i:Nat,s'=((List.range i).filterMap (lq p1 p2),(i:Int))/\i<=p1.length)/\p1.length - s'.2.toNat<p1.length - Int.toNat ((i:Nat):Int)) (λs=>s.1=kz p1 p2) (λ_=>True)):=λhn=>hnext _ (by
    unfold lq
    rw[aK hn,fP])
   rw[dF]
   by_cases hlen:(((X.length:Nat):Int)==2)=true
   ·rw[hlen,bL];have hl2:X.length=2:=by rw[beq_iff_eq]at hlen;omega
    have hj:X[1]? =some X[1]:=aM (by omega);have hjx:(X.map λ(j:Nat)=>(j:Int))[1]? =some ((X[1]:Nat):Int):=by rw[ki,hj];rfl
    have e1:idx (X.map λ(j:Nat)=>(j:Int)) 1=some ((X[1]:Nat):Int):=cD (k:=1) hjx;rw[e1,aA,aA]
    by_cases hge:p1.length<=X[1]
    ·have hc:=htwo.1 ⟨hlen,X[1],hj,hge⟩;have hv:=htw2 X[1] hc hj;have hlt:=vu p2<|p1.getD i 0
     rw[cI (by omega),bL,aA,dE (by simp only[List.length_singleton];omega),aA,aA,dL (by omega) (by omega)];refine hnext _ ?_;unfold lq;rw[aG hc];show _++[_]=_++[_];rw[hv];congr 3;omega
    ·rw[bU (by omega),bK,aA];refine hno λhc=>?_;obtain⟨_,j,hj2,hj3⟩:=htwo.2 hc;rw[hj]at hj2;injection hj2 with hj2
     omega
   ·rw[kO]at hlen;rw[hlen,bK,aA,bK,aA];refine hno λhc=>?_;have:=(htwo.2 hc).1;rw[hlen]at this;cases this
  ·have hb:i=p1.length:=by have:=of_decide_eq_false hb;omega
   subst hb;rfl
def DG{α:Type}[Inhabited α](na:α->aU)(A B:List α)(z:aB):aX:=⟨na<|A.getD z.e0.toNat default,na<|B.getD z.e1.toNat default⟩
theorem vv{α:Type}[Inhabited α](na:α->aU){A B:List α}{p1 p2:List Int}(hA:A.length=p1.length)(hB:B.length=p2.length)(h1:p1.length<=1048576):
  jm (kz p1 p2).length (λ(k41:Nat)(s42:List aX)=>((idx (kz p1 p2) (k41:Int)).bind λx78=>(idx A x78.e0).bind λx82=>(idx B x78.e1).bind λx86=>(app 32 s42 ([(⟨na x82,na x86⟩:aX)]:List aX)).bind λx91=>some x91:Option (List aX))) ([]:List aX)=some ((kz p1 p2).map<|DG na A B):=by
 have hl:=rT p1 p2;refine(k8 (λk=>((kz p1 p2).take k).map<|DG na A B) (by omega) (by simp)<|λk hk=>?_).trans (by rw[eR]);obtain⟨i,j,e,hi,hj⟩:=zO<|eD hk
 rw[iu _ _ hk,aA,e];dsimp only;have ea:A[i]? =some (A.getD i default):=by rw[List.getD_eq_getElem?_getD,aM (by omega)];rfl
 have eb:B[j]? =some (B.getD j default):=by rw[List.getD_eq_getElem?_getD,aM (by omega)];rfl
 rw[cD ea,aA,cD eb,aA,dE (by simp only[dF,bQ,List.length_singleton];omega),aA,fo hk,fX];congr 2;rw[e];unfold DG;simp
theorem wN{α:Type}[Inhabited α](na:α->aU){A B:List α}{p1 p2:List Int}(hA:A.length=p1.length)(hB:B.length=p2.length)(h1:p1.length<=1048576)(h2:p2.length<=1048576):
  jm A.length (λ(k43:Nat)(s44:List aX)=>((idx A (k43:Int)).bind λx166=>(idx [p1,p2] 1).bind λx171=>(idx [p1,p2] 0).bind λx175=>(idx x175 (k43:Int)).bind λx178=>(dH N x171 x178).bind λx180=>(bif decide (x180>=0)then((idx [p1,p2] 0).bind λx196=>(idx [p1,p2] 0).bind λx200=>(idx x200 (k43:Int)).bind λx203=>(dH N x196 x203).bind λx205=>some<|decide<|x205>=0)else some false).bind λs193=>(bif s193 then((idx B x180).bind λx217=>(app 32 s44 ([(⟨na x166,na x217⟩:aX)]:List aX)).bind λx222=>some x222)else some s44).bind λs214=>some s214:Option (List aX))) ([]:List aX)=some ((kz p1 p2).map<|DG na A B):=by
 have i0:idx [p1,p2] 0=some p1:=rfl;have i1:idx [p1,p2] 1=some p2:=rfl;refine(k8 (λk=>((List.range k).filterMap<|lq p1 p2).map<|DG na A B) (by omega) (by simp)<|λk hk=>?_).trans (by rw[hA];rfl);have ea:A[k]? =some (A.getD k default):=by rw[List.getD_eq_getElem?_getD,aM hk];rfl
 have ep:p1[k]? =some (p1.getD k 0):=by rw[List.getD_eq_getElem?_getD,aM (by omega)];rfl
 have hlt:=vu p2<|p1.getD k 0
 have hfl:((List.range k).filterMap<|lq p1 p2).length<=k:=by
  have:=List.length_filterMap_le (lq p1 p2)<|List.range k
  rwa[List.length_range]at this
 rw[cD ea,aA,i1,aA,i0,aA,cD ep,aA,Aw h2,aA,List.range_succ,List.filterMap_append,fX];have eg:(List.filterMap (lq p1 p2) [k]).map (DG na A B)=match lq p1 p2 k with|some z=>[DG na A B z] |none=>[]:=by
  simp only[List.filterMap_cons,List.filterMap_nil]
  cases lq p1 p2 k <;> rfl
 rw[eg]
 by_cases g1:0<=jY p2 (p1.getD k 0)
 ·rw[cI g1,bL,aA,aA,cD ep,aA,Aw h1,aA,aA]
  by_cases g2:0<=jY p1 (p1.getD k 0)
  ·obtain⟨j,hj⟩:∃j:Nat,jY p2 (p1.getD k 0)=(j:Int):=⟨(jY p2<|p1.getD k 0).toNat,by omega⟩;have eb:B[j]? =some (B.getD j default):=by rw[List.getD_eq_getElem?_getD,aM (by omega)];rfl
   have e:lq p1 p2 k=some ⟨(k:Int),(j:Int)⟩:=by unfold lq;rw[aG ⟨g1,g2⟩,hj]
   rw[cI g2,bL,e,hj,cD eb,aA,dE (by simp only[dF,List.length_singleton];omega),aA,aA];rfl
  ·have e:lq p1 p2 k=none:=by unfold lq;rw[aK λh=>g2 h.2]
   rw[bU g2,bK,e,aA,fP]
 ·have e:lq p1 p2 k=none:=by unfold lq;rw[aK λh=>g1 h.1]
  rw[bU g1,bK,aA,bK,e,aA,fP]
end
section
variable {t:List aD}{a b:aH}{N:Nat}
theorem wO(hbt:bk t<=1048576)(oka:j5 t a)(okb:j5 t b):jy t [a,b]:=⟨hbt,λi hi=>by
 match i,hi with
 | 0,_=>exact oka
 | 1,_=>exact okb
 |i+2,hi=>simp at hi;omega,by simp⟩
theorem y7:typesOf [a,b]=([]++a.aJ.map Part.cM)++b.aJ.map Part.cM:=by unfold typesOf;simp
theorem CN:rO t [a,b] 2=([]++ml t a 0 0)++ml t b (0+a.aJ.length) (0+a.aZ.length):=by
 unfold rO;simp[List.range_succ,off,nth,iS,gi]
theorem m6{t:List aD}{a b:aH}(h:rS t a b=0):j5 t a/\j5 t b:=by
 unfold rS at h;split at h
 ·rename_i h1;exact absurd h h1
 ·rename_i h1;exact⟨sQ<|Decidable.not_not.1 h1,sQ h⟩
structure DH (t:List aD) (a b:aH) (p1 p2 q1 q2:List Int):Prop where
 fin:rR t [a,b] (mz [a,b]) ([p1,p2],[q1,q2])
 HE:p1.length=a.aJ.length
 HF:p2.length=b.aJ.length
 HG:q1.length=a.aZ.length
 HH:q2.length=b.aZ.length
theorem CO{s:CS}(g:oC [a,b] s):∃p1 p2 q1 q2:List Int,s=([p1,p2],[q1,q2])/\p1.length=a.aJ.length/\p2.length=b.aJ.length/\q1.length=a.aZ.length/\q2.length=b.aZ.length:=by
 obtain⟨s1,s2⟩:=s;obtain⟨g1,g2,_,_⟩:=g;dsimp only at g1 g2;have l1:=g1.1;have l2:=g2.1
 match s1,s2,l1,l2 with
 | [p1,p2],[q1,q2],_,_=>exact⟨p1,p2,q1,q2,rfl,g1.2 0 (by simp),g1.2 1 (by simp),g2.2 0 (by simp),g2.2 1 (by simp)⟩
theorem xH(hbt:bk t<=1048576)(ha:Aj a)(hb:Aj b)(h0:rS t a b=0)(hN:4194304<=N):
  ∃p1 p2 q1 q2,DH t a b p1 p2 q1 q2/\ie N t a b=some (p1++p2,q1++q2,0):=by
 obtain⟨oka,okb⟩:=m6 h0;have h:=wO hbt oka okb;obtain⟨_,hr,s,g,f,rfl⟩:=xF (N:=N) h hN;obtain⟨p1,p2,q1,q2,rfl,l1,l2,l3,l4⟩:=CO g;refine⟨p1,p2,q1,q2,⟨f,l1,l2,l3,l4⟩,?_⟩;have hfa:=oka.xy;have hna:=oka.ll;have hta:(ml t a 0 0).length<=1048576000:=tD hbt oka 0 0<|bR _
 have hput:gb N ([]:List aU) ([]:List aT) 0 0 t a=some ([]++a.aJ.map Part.cM,[]++ml t a 0 0,((0+a.aJ.length:Nat):Int),((0+a.aZ.length:Nat):Int)):=
  wF (a:=0) (b:=0) hbt ha oka (by simp) (by simp) (by omega) (by omega) hN
 have hput2:=wF (N:=N) (ty:=[]++a.aJ.map Part.cM) (ti:=[]++ml t a 0 0) (a:=0+a.aJ.length) (b:=0+a.aZ.length) hbt hb okb (by simp;omega) (by simpa using hta) (by omega) (by omega) hN;have e3:off (iS [a,b]) [a,b].length=0+a.aJ.length+b.aJ.length:=rfl;have e4:off (gi [a,b]) [a,b].length=0+a.aZ.length+b.aZ.length:=rfl;have e2:rO t [a,b] [a,b].length=([]++ml t a 0 0)++ml t b (0+a.aJ.length) (0+a.aZ.length):=CN;rw[y7,e2,e3,e4]at hr;unfold ie;rw[sU hbt ha hb hN,aA,h0,show((0:Int) != 0)=false from rfl,bK,hput,aA];dsimp only;rw[hput2,aA];dsimp only;rw[hr,aA];simp
theorem DI(hbt:bk t<=1048576)(ha:Aj a)(hb:Aj b)(h0:rS t a b≠0)(hN:4194304<=N):ie N t a b=some ([],[],rS t a b):=by
 unfold ie;have e:(rS t a b != 0)=true:=by rw[bne_iff_ne];exact h0
 rw[sU hbt ha hb hN,aA,e,bL]
theorem CP(hbt:bk t<=1048576)(ha:Aj a)(hb:Aj b)(h0:rS t a b=0)(hN:4194304<=N){p1 p2 q1 q2:List Int}(hc:DH t a b p1 p2 q1 q2):
  ji N t a b=some (decide (p1.Perm p2)&&decide (q1.Perm q2),0):=by
 obtain⟨oka,okb⟩:=m6 h0;have hfa:=oka.xy;have hfb:=okb.xy;have hna:=oka.ll;have hnb:=okb.ll;obtain⟨p1',p2',q1',q2',hc',hr⟩:=xH hbt ha hb h0 hN;have e:=hc.fin.uniq hc'.fin;simp only[Prod.mk.injEq,List.cons.injEq,and_true]at e;obtain⟨⟨rfl,rfl⟩,rfl,rfl⟩:=e;have l1:=hc.HE;have l2:=hc.HF;have l3:=hc.HG;have l4:=hc.HH;unfold ji;rw[hr,aA];dsimp only;rw[show((0:Int) != 0)=false from rfl,bK,Av (by rw[cL];omega),aA,<-l1,List.take_left',List.drop_left',Av (by rw[cL];omega),<-l3,List.take_left',List.drop_left']
 all_goals try rfl
 by_cases g:p1.Perm p2
 ·rw[cI g,bL,aA,aA];rfl
 ·rw[bU g,bK,aA];rfl
theorem zQ(hbt:bk t<=1048576)(ha:Aj a)(hb:Aj b)(h0:rS t a b=0)(hN:4194304<=N){p1 p2 q1 q2:List Int}(hc:DH t a b p1 p2 q1 q2):
  hU N t a b=some ((kz p1 p2).map<|DG Part.Name a.aJ b.aJ,(kz q1 q2).map<|DG Net.Name a.aZ b.aZ,0):=by
 obtain⟨oka,okb⟩:=m6 h0;have hfa:=oka.xy;have hfb:=okb.xy;have hna:=oka.ll;have hnb:=okb.ll;obtain⟨p1',p2',q1',q2',hc',hr⟩:=xH hbt ha hb h0 hN;have e:=hc.fin.uniq hc'.fin;simp only[Prod.mk.injEq,List.cons.injEq,and_true]at e;obtain⟨⟨rfl,rfl⟩,rfl,rfl⟩:=e;have l1:=hc.HE;have l2:=hc.HF;have l3:=hc.HG;have l4:=hc.HH;unfold hU;rw[hr,aA];dsimp only;rw[show((0:Int) != 0)=false from rfl,bK,<-l1,y6 (by omega) (by omega) hN,aA,vv Part.Name l1.symm l2.symm (by omega),aA,<-l3,y6 (by omega) (by omega) hN,aA,vv Net.Name l3.symm l4.symm (by omega),aA]
theorem zR(hbt:bk t<=1048576)(hba:bk a<=1048576)(hbb:bk b<=1048576)(h0:rS t a b=0)(hN:4194304<=N){p1 p2 q1 q2:List Int}(hc:DH t a b p1 p2 q1 q2):
  dQ N t [a,b]=some ⟨t,[a,b],[p1,p2],[q1,q2]⟩:=by
 obtain⟨oka,okb⟩:=m6 h0
 obtain⟨_,hr,s,g,f,rfl⟩:=y4 (N:=N) (wO hbt oka okb) (λi hi=>by
  match i,hi with
  | 0,_=>exact hba
  | 1,_=>exact hbb
  |i+2,hi=>simp at hi;omega) hN
 have e:=hc.fin.uniq f;rw[hr,<-e]
theorem zS{l m:List aX}(hl:l.length<=4611686018427387904):fW N l m=some (decide<|l=m):=by
 rw[<-wj (l:=l) (m:=m) hl];rfl
theorem mf(hbt:bk t<=1048576)(hba:bk a<=1048576)(hbb:bk b<=1048576)(hN:4194304<=N):dB N t a b=some true:=by
 have ha:=CA hba;have hb:=CA hbb;unfold dB iF gU;rw[Bx hbt hba hbb hN,aA]
 by_cases h0:rS t a b=0
 ·obtain⟨oka,okb⟩:=m6 h0;have hfa:=oka.xy;have hfb:=okb.xy;have hna:=oka.ll;have hnb:=okb.ll;obtain⟨p1,p2,q1,q2,hc,_⟩:=xH hbt ha hb h0 hN;have l1:=hc.HE;have l2:=hc.HF;have l3:=hc.HG;have l4:=hc.HH;have hal1:=rT p1 p2;have hal2:=rT q1 q2;rw[CP hbt ha hb h0 hN hc,aA,zQ hbt ha hb h0 hN hc,h0,show((0:Int) != 0)=false from rfl,bK,zR hbt hba hbb h0 hN hc,aA,aA];dsimp only;have i0:∀x y:List Int,idx [x,y] 0=some x:=λ_ _=>rfl;have i1:∀x y:List Int,idx [x,y] 1=some y:=λ_ _=>rfl;have er:((idx [p1,p2] 0).bind λx72=>(idx [p1,p2] 1).bind λx76=>(dG N x72 x76).bind λx79=>bif x79 then((idx [q1,q2] 0).bind λx82=>(idx [q1,q2] 1).bind λx86=>(dG N x82 x86).bind λx89=>some x89)else some false)=some (decide (p1.Perm p2)&&decide (q1.Perm q2)):=by
   rw[i0,aA,i1,aA,ri (by omega) (by omega),aA]
   by_cases g:p1.Perm p2
   ·rw[cI g,bL,i0,aA,i1,aA,ri (by omega) (by omega),aA];rfl
   ·rw[bU g,bK];rfl
  rw[er,aA,aA];dsimp only;rw[show((0:Int) != 0)=false from rfl,bK,bne_self_eq_false,aA,bK,aA];rw[show((0:Int) != 0)=false from rfl,bK,aA];dsimp only;rw[wN Part.Name l1.symm l2.symm (by omega) (by omega),aA,wN Net.Name l3.symm l4.symm (by omega) (by omega),aA,aA];dsimp only;rw[show((0:Int)==0)=true from rfl,bL,zS (by rw[dF];omega),aA,cI rfl,bL,zS (by rw[dF];omega),aA,cI rfl,bL,yR hN];rfl
 ·have e:(rS t a b != 0)=true:=by rw[bne_iff_ne];exact h0
  unfold ji hU;rw[DI hbt ha hb h0 hN,aA,aA,e,bL,aA,bL,aA];simp only[e,bne_self_eq_false,bK,bL,aA,beq_self_eq_true];rw[zS (by simp),aA,cI rfl,bL,aA,bL,yR hN];rfl
end
end Go.Gk
