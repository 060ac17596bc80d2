/-
  Helping texts: plain functions and plain laws. No statement of the seed is proved here.
-/
import Derived.Test.YtnpfijpoffemhaaGreatDoorA1
import Derived.ChangeShapes
import Derived.ChangeSame
import Derived.Carry
import Derived.RowKit
import Derived.Test.YtnpfijpoffemhaaGreatDoorA2
set_option linter.unusedVariables false
set_option linter.unusedSimpArgs false
set_option linter.unusedSectionVars false
namespace Go.Gk
open Go IntKind
noncomputable section
structure cE where
 Name:bG
 Kind:Int
 bK:Int
 deriving DecidableEq,Inhabited
structure aJ where
 Name:bG
 aP:List cE
 deriving DecidableEq,Inhabited
structure Part where
 Name:bG
 iB:bG
 deriving DecidableEq,Inhabited
structure aS where
 Part:bG
 aS:bG
 deriving DecidableEq,Inhabited
structure Net where
 Name:bG
 aP:List aS
 rU:List bG
 deriving DecidableEq,Inhabited
structure aT where
 cJ:List Part
 bA:List Net
 deriving DecidableEq,Inhabited
structure aI where
 X0:Int
 Y0:Int
 X1:Int
 Y1:Int
 deriving DecidableEq,Inhabited
structure kG where
 X:Int
 Y:Int
 deriving DecidableEq,Inhabited
structure cK where
 At:kG
 eU:Int
 dZ:Int
 To:Int
 jL:Bool
 deriving DecidableEq,Inhabited
structure dD where
 Part:bG
 aS:bG
 eX:Int
 At:kG
 deriving DecidableEq,Inhabited
structure jg where
 aN:List (List aI)
 cL:List aI
 bN:List cK
 bC:List dD
 deriving DecidableEq,Inhabited
structure aA where
 Y0:Int
 Y1:Int
 Xs:List Int
 deriving DecidableEq,Inhabited
structure aH where
 eX:Int
 Set:List aA
 nZ:List aI
 deriving DecidableEq,Inhabited
structure bK where
 mA:List Int
 bN:List Int
 aP:List aS
 deriving DecidableEq,Inhabited
structure j4 where
 cK:Bool
 Number:Int
 deriving DecidableEq,Inhabited
structure cP where
 Kind:Int
 bA:List bG
 aP:List aS
 deriving DecidableEq,Inhabited
def gF(N:Nat)(p0:bG)(p1:Int):Option Int:=
 some (Lib.indexByte p0.bX (Int.toNat p1).toUInt8)
def hU(N:Nat)(p0:bG)(p1:Int):Option Int:=
 (gF N p0 p1).bind λj=>some j
def fD(N:Nat)(p0:bG):Option Bool:=
 (pg p0.bX.length (λ(o:Nat)(aa:Unit)=>((Gi p0 (o:Int)).bind λj=>(bif((decide ((j.toNat:Int)<65)||decide ((j.toNat:Int)>90))&&(decide ((j.toNat:Int)<97)||decide ((j.toNat:Int)>122)))&&(decide ((j.toNat:Int)<48)||decide ((j.toNat:Int)>57))then((hU N (⟨[95,43,45,35]⟩) (j.toNat:Int)).bind λab=>some<|decide<|ab<0)else some false).bind λad=>bif ad then some (.rt false)else(some<|.nx ()):Option (Fl Unit Bool))) ()).bind λae=>ae.cs (λ(aa:Unit)=>some<|decide ((p0.bX.length:Int)>=1)&&decide ((p0.bX.length:Int)<=40))<|λr=>some r
def eN(N:Nat)(p0 p1:cE):Option Bool:=
 (bif decide (p1.bK>0)then(bif p0.bK==p1.bK then some (p0.Kind != p1.Kind)else some false)else some false).bind λj=>some j
def jM(N:Nat)(p0:List cE)(p1:cE->Option Bool):Option Int:=
 (pg p0.length (λ(j:Nat)(o:Unit)=>((idx p0 (j:Int)).bind λaa=>(p1 aa).bind λab=>bif ab then some (.rt (j:Int))else(some<|.nx ()):Option (Fl Unit Int))) ()).bind λad=>ad.cs (λ(o:Unit)=>some<|-1)<|λr=>some r
def fZ(N:Nat)(p0:List cE)(p1:cE->Option Bool):Option Bool:=
 (jM N p0 p1).bind λj=>some<|decide<|j>=0
def jy(N:Nat)(p0:List cE):Option Int:=
 bif(p0.length:Int)==0 then some 9 else(bif decide ((p0.length:Int)>200)then some 2 else((pg p0.length (λ(o:Nat)(ad:Unit)=>((idx p0 (o:Int)).bind λj=>(fD N j.Name).bind λae=>bif(!ae)then some (.rt 5)else(bif decide (j.Kind<1)||decide (j.Kind>7)then some (.rt 4)else(bif decide (j.bK<0)||decide (j.bK>200)then some (.rt 1)else((bif decide ((o:Int)>0)then((idx p0<|wrap .i64<|(o:Int) - 1).bind λaa=>some<|j.Name.wT aa.Name||j.Name.pW aa.Name)else some false).bind λaf=>bif af then some (.rt 8)else some (.nx ())))):Option (Fl Unit Int))) ()).bind λag=>ag.cs (λ(ad:Unit)=>(pg p0.length (λ(ab:Nat)(ah:Unit)=>((idx p0 (ab:Int)).bind λai=>(u3 p0 0 (ab:Int)).bind λaj=>(fZ N aj<|λy0=>eN N y0 ai).bind λak=>bif ak then some (.rt 12)else(some<|.nx ()):Option (Fl Unit Int))) ()).bind λal=>al.cs (λ(ah:Unit)=>some 0)<|λr=>some r)<|λr=>some r))
def iP(N:Nat)(p0:List aJ):Option Int:=
 bif decide ((p0.length:Int)>200)then some 2 else((pg p0.length (λ(o:Nat)(ad:Unit)=>((idx p0 (o:Int)).bind λj=>(fD N j.Name).bind λae=>bif(!ae)then some (.rt 5)else((jy N j.aP).bind λaa=>bif aa != 0 then some (.rt aa)else((bif decide ((o:Int)>0)then((idx p0<|wrap .i64<|(o:Int) - 1).bind λab=>some<|j.Name.wT ab.Name||j.Name.pW ab.Name)else some false).bind λaf=>bif af then some (.rt 8)else some (.nx ()))):Option (Fl Unit Int))) ()).bind λag=>ag.cs (λ(ad:Unit)=>some 0)<|λr=>some r)
def dH(N:Nat)(p0:List aJ)(p1:bG)(p2:aJ->bG->Option Int):Option (Int×Bool):=
 (mZ (λ(j:Int×Int)=>(bif decide (j.1<j.2)then((idx p0<|wrap .i64<|Int.fdiv (wrap .u64<|wrap .i64<|j.1+j.2) 2).bind λaa=>(p2 aa p1).bind λab=>(bif decide (ab<0)then some (wrap .i64<|wrap .i64 (Int.fdiv (wrap .u64<|wrap .i64<|j.1+j.2) 2)+1,j.2)else some (j.1,wrap .i64<|Int.fdiv (wrap .u64<|wrap .i64<|j.1+j.2) 2)).bind λo=>some<|.nx (o.1,o.2))else(some<|.br (j.1,j.2)):Option (Fl (Int×Int) Empty))) N (0,(p0.length:Int))).bind λad=>ad.cs (λ(j:Int×Int)=>(bif decide (j.1<(p0.length:Int))then((idx p0 j.1).bind λae=>(p2 ae p1).bind λaf=>some<|af==0)else some false).bind λag=>some (j.1,ag))<|λr=>r.elim
def kx(N:Nat)(p0 p1:bG):Option Int:=
 some (Lib.compareBytes p0.bX p1.bX)
def ir(N:Nat)(p0 p1:bG):Option Int:=
 (kx N p0 p1).bind λj=>some j
def hZ(N:Nat)(p0:aJ)(p1:bG):Option Int:=
 (ir N p0.Name p1).bind λj=>some j
def iQ(N:Nat)(p0:List aJ)(p1:bG):Option Int:=
 (dH N p0 p1<|hZ N).bind λj=>bif(!j.2)then some (-1)else some j.1
def iR(N:Nat)(p0:List aJ)(p1:List Part)(p2:bG->Option Bool):Option Int:=
 bif decide ((p1.length:Int)>1000)then some 2 else((pg p1.length (λ(o:Nat)(ab:Unit)=>((idx p1 (o:Int)).bind λj=>(p2 j.Name).bind λad=>bif(!ad)then some (.rt 5)else((iQ N p0 j.iB).bind λae=>bif decide (ae<0)then some (.rt 9)else((bif decide ((o:Int)>0)then((idx p1<|wrap .i64<|(o:Int) - 1).bind λaa=>some<|j.Name.wT aa.Name||j.Name.pW aa.Name)else some false).bind λaf=>bif af then some (.rt 8)else some (.nx ()))):Option (Fl Unit Int))) ()).bind λag=>ag.cs (λ(ab:Unit)=>some 0)<|λr=>some r)
def jz(N:Nat)(p0 p1:bG):Option Int:=
 bif((p1.bX.length:Int)==0)||p1.pW p0 then some 0 else(bif(p1.bX.length:Int)==1 then((Gi p1 0).bind λj=>(gF N p0 (j.toNat:Int)).bind λo=>some o)else(bif decide ((p1.bX.length:Int)>=(p0.bX.length:Int))then some (-1)else none))
def ko(N:Nat)(p0 p1:bG):Option Int:=
 (jz N p0 p1).bind λj=>some j
def lO(N:Nat)(p0 p1:bG):Option Int:=
 bif(p1.bX.length:Int)==0 then none else(bif(p1.bX.length:Int)==1 then((Gi p1 0).bind λaa=>some ((Lib.countByte p0.bX (Int.toNat (aa.toNat:Int)).toUInt8:Nat):Int))else((mZ (λ(j:bG×Int)=>((ko N j.1 p1).bind λo=>bif o==(-1)then some (.rt j.2)else((u4 j.1 (wrap .i64<|o+(p1.bX.length:Int)) (j.1.bX.length:Int)).bind λab=>some<|.nx (ab,wrap .i64<|j.2+1)):Option (Fl (bG×Int) Int))) N (p0,0)).bind λad=>ad.cs (λ(j:bG×Int)=>some 0)<|λr=>some r))
def lu(N:Nat)(p0 p1:bG)(p2 p3:Int):Option (List bG):=
 bif p3==0 then some ([]:List bG)else(bif p1.pW (⟨[]⟩)then none else((bif decide (p3<0)then((lO N p0 p1).bind λab=>some<|wrap .i64<|ab+1)else some p3).bind λo=>(mk 16 (⟨[]⟩:bG) (if wrap .i64 ((p0.bX.length:Int)+1)<o then wrap .i64 ((p0.bX.length:Int)+1)else o)).bind λad=>(mZ (λ(j:bG×List bG×Int)=>(bif decide (j.2.2< wrap .i64 ((if wrap .i64 ((p0.bX.length:Int)+1)<o then wrap .i64 ((p0.bX.length:Int)+1)else o) - 1))then((ko N j.1 p1).bind λaa=>bif decide (aa<0)then some (.br (j.1,j.2.1,j.2.2))else((u4 j.1 0<|wrap .i64<|aa+p2).bind λae=>(idx j.2.1 j.2.2).bind λai=>(u4 j.1 (wrap .i64<|aa+(p1.bX.length:Int)) (j.1.bX.length:Int)).bind λaf=>some<|.nx (af,j.2.1.set (Int.toNat j.2.2) ae,wrap .i64<|j.2.2+1)))else(some<|.br (j.1,j.2.1,j.2.2)):Option (Fl (bG×List bG×Int) Empty))) N (p0,ad,0)).bind λag=>ag.cs (λ(j:bG×List bG×Int)=>(idx j.2.1 j.2.2).bind λaj=>(u3 (j.2.1.set (Int.toNat j.2.2) j.1) 0<|wrap .i64<|j.2.2+1).bind λah=>some ah)<|λr=>r.elim))
def lP(N:Nat)(p0 p1:bG):Option (List bG):=
 (lu N p0 p1 0<|-1).bind λj=>some j
def jR(N:Nat)(p0:List bG)(p1:bG->Option Bool):Option Int:=
 (pg p0.length (λ(j:Nat)(o:Unit)=>((idx p0 (j:Int)).bind λaa=>(p1 aa).bind λab=>bif ab then some (.rt (j:Int))else(some<|.nx ()):Option (Fl Unit Int))) ()).bind λad=>ad.cs (λ(o:Unit)=>some<|-1)<|λr=>some r
def gm(N:Nat)(p0:List bG)(p1:bG->Option Bool):Option Bool:=
 (jR N p0 p1).bind λj=>some<|decide<|j>=0
def gp(N:Nat)(p0:bG):Option Bool:=
 (fD N p0).bind λj=>some<|!j
def gQ(N:Nat)(p0:bG):Option Bool:=
 (bif decide ((p0.bX.length:Int)<=200)then((lP N p0<|⟨[47]⟩).bind λj=>(gm N j<|gp N).bind λo=>some<|!o)else some false).bind λaa=>some aa
def dY(N:Nat)(p0:List Part)(p1:bG)(p2:Part->bG->Option Int):Option (Int×Bool):=
 (mZ (λ(j:Int×Int)=>(bif decide (j.1<j.2)then((idx p0<|wrap .i64<|Int.fdiv (wrap .u64<|wrap .i64<|j.1+j.2) 2).bind λaa=>(p2 aa p1).bind λab=>(bif decide (ab<0)then some (wrap .i64<|wrap .i64 (Int.fdiv (wrap .u64<|wrap .i64<|j.1+j.2) 2)+1,j.2)else some (j.1,wrap .i64<|Int.fdiv (wrap .u64<|wrap .i64<|j.1+j.2) 2)).bind λo=>some<|.nx (o.1,o.2))else(some<|.br (j.1,j.2)):Option (Fl (Int×Int) Empty))) N (0,(p0.length:Int))).bind λad=>ad.cs (λ(j:Int×Int)=>(bif decide (j.1<(p0.length:Int))then((idx p0 j.1).bind λae=>(p2 ae p1).bind λaf=>some<|af==0)else some false).bind λag=>some (j.1,ag))<|λr=>r.elim
def ig(N:Nat)(p0:Part)(p1:bG):Option Int:=
 (ir N p0.Name p1).bind λj=>some j
def kR(N:Nat)(p0:List Part)(p1:bG):Option Int:=
 (dY N p0 p1<|ig N).bind λj=>bif(!j.2)then some (-1)else some j.1
def dP(N:Nat)(p0:List cE)(p1:bG)(p2:cE->bG->Option Int):Option (Int×Bool):=
 (mZ (λ(j:Int×Int)=>(bif decide (j.1<j.2)then((idx p0<|wrap .i64<|Int.fdiv (wrap .u64<|wrap .i64<|j.1+j.2) 2).bind λaa=>(p2 aa p1).bind λab=>(bif decide (ab<0)then some (wrap .i64<|wrap .i64 (Int.fdiv (wrap .u64<|wrap .i64<|j.1+j.2) 2)+1,j.2)else some (j.1,wrap .i64<|Int.fdiv (wrap .u64<|wrap .i64<|j.1+j.2) 2)).bind λo=>some<|.nx (o.1,o.2))else(some<|.br (j.1,j.2)):Option (Fl (Int×Int) Empty))) N (0,(p0.length:Int))).bind λad=>ad.cs (λ(j:Int×Int)=>(bif decide (j.1<(p0.length:Int))then((idx p0 j.1).bind λae=>(p2 ae p1).bind λaf=>some<|af==0)else some false).bind λag=>some (j.1,ag))<|λr=>r.elim
def iL(N:Nat)(p0:cE)(p1:bG):Option Int:=
 (ir N p0.Name p1).bind λj=>some j
def lQ(N:Nat)(p0:aJ)(p1:bG):Option Int:=
 (dP N p0.aP p1<|iL N).bind λj=>bif(!j.2)then some (-1)else some j.1
def mB(N:Nat)(p0:List aJ)(p1:List Part)(p2:aS):Option Bool:=
 (kR N p1 p2.Part).bind λj=>(bif decide (j>=0)then((idx p1 j).bind λo=>(iQ N p0 o.iB).bind λaa=>(idx p0 aa).bind λab=>(lQ N ab p2.aS).bind λad=>some<|decide<|ad>=0)else some false).bind λae=>some ae
def jA(N:Nat)(p0:aS)(p1:List aJ)(p2:aT):Option Bool:=
 (mB N p1 p2.cJ p0).bind λj=>some j
def cX(N:Nat)(p0 p1:aS):Option Int:=
 (ir N p0.Part p1.Part).bind λj=>bif j != 0 then some j else((ir N p0.aS p1.aS).bind λo=>some o)
def gR(N:Nat)(p0:List aS)(p1:aS->Option Bool)(p2:List (aS×Bool)):Option (Int×List (aS×Bool)):=
 bif decide ((p0.length:Int)>500)then some (2,p2)else((pg p0.length (λ(j:Nat)(ab:Unit)=>((idx p0 (j:Int)).bind λo=>(p1 o).bind λad=>bif(!ad)then some (.rt (9,p2))else((bif decide ((j:Int)>0)then((idx p0<|wrap .i64<|(j:Int) - 1).bind λae=>(cX N o ae).bind λaf=>some<|decide<|af<=0)else some false).bind λag=>bif ag then some (.rt (8,p2))else(bif dR p2 o (false:Bool)then some (.rt (7,p2))else some (.nx ()))):Option (Fl Unit<|Int×List (aS×Bool)))) ()).bind λah=>ah.cs (λ(ab:Unit)=>(gN p0.length (λ(ai:Nat)(aa:List (aS×Bool))=>((idx p0 (ai:Int)).bind λaj=>some (kQ aa aj true):Option (List<|aS×Bool))) p2).bind λaa=>some (0,aa))<|λr=>some r)
def jB(N:Nat)(p0:List aJ)(p1:aT):Option Int:=
 (iP N p0).bind λab=>bif ab != 0 then some ab else((iR N p0 p1.cJ<|gQ N).bind λad=>bif ad != 0 then some ad else(bif decide ((p1.bA.length:Int)>1000)then some 2 else((pg p1.bA.length (λ(o:Nat)(ae:List (aS×Bool))=>((idx p1.bA (o:Int)).bind λj=>(gQ N j.Name).bind λag=>bif(!ag)then some (.rt 5)else(bif(j.aP.length:Int)==0 then some (.rt 9)else((gR N j.aP (λy0=>jA N y0 p0 p1) ae).bind λaa=>bif aa.1 != 0 then some (.rt aa.1)else(bif decide ((j.rU.length:Int)>0)then some (.rt 3)else((bif decide ((o:Int)>0)then((idx p1.bA<|wrap .i64<|(o:Int) - 1).bind λaf=>some<|j.Name.wT af.Name||j.Name.pW af.Name)else some false).bind λah=>bif ah then some (.rt 8)else some (.nx aa.2))))):Option (Fl (List<|aS×Bool) Int))) ([]:List (aS×Bool))).bind λai=>ai.cs (λ(ae:List (aS×Bool))=>some 0)<|λr=>some r)))
def q9(N:Nat)(p0 p1 p2:Int):Option Bool:=
 some (decide (p0>=p1)&&decide (p0<=p2))
def j9(N:Nat)(p0:Int):Option Bool:=
 (q9 N p0 (-1000000) 1000000).bind λj=>some j
def lx(N:Nat)(p0:aI):Option Bool:=
 ((j9 N p0.X0).bind λj=>bif j then((j9 N p0.Y0).bind λo=>bif o then((j9 N p0.X1).bind λaa=>bif aa then((j9 N p0.Y1).bind λab=>some ab)else some false)else some false)else some false).bind λad=>some ad
def jS(N:Nat)(p0:List aI):Option Int:=
 bif decide ((p0.length:Int)>2000)then some 2 else((pg p0.length (λ(o:Nat)(aa:Unit)=>((idx p0 (o:Int)).bind λj=>(lx N j).bind λab=>bif(!ab)then some (.rt 1)else(bif decide (j.X1<=j.X0)||decide (j.Y1<=j.Y0)then some (.rt 13)else some (.nx ())):Option (Fl Unit Int))) ()).bind λad=>ad.cs (λ(aa:Unit)=>some 0)<|λr=>some r)
def ij(N:Nat)(p0:List aI):Option (List aI):=
 (app 32 ([]:List aI) p0).bind λj=>some j
def iS(N:Nat)(p0 p1:aI):Option Int:=
 some (wrap .i64<|p0.Y0 - p1.Y0)
def fK(N:Nat)(p0:List Int):Option (List Int):=
 bif decide ((p0.length:Int)<2)then some p0 else((mZ (λ(o:Int)=>(bif decide (o<(p0.length:Int))then((idx p0 o).bind λab=>(idx p0<|wrap .i64<|o - 1).bind λad=>bif ab==ad then((u3 p0 o (p0.length:Int)).bind λak=>(mZ (λ(j:List Int×Int×Int)=>(bif decide (j.2.2<(((j.1.length - Int.toNat o):Nat):Int))then((Ek j.1 o j.2.2).bind λae=>(Ek j.1 o<|wrap .i64<|j.2.2 - 1).bind λaf=>(bif ae != af then((Ek j.1 o j.2.2).bind λag=>(idx j.1 j.2.1).bind λal=>some (j.1.set (Int.toNat j.2.1) ag,wrap .i64<|j.2.1+1))else some (j.1,j.2.1)).bind λaa=>some<|.nx (aa.1,aa.2,wrap .i64<|j.2.2+1))else(some<|.br (j.1,j.2.1,j.2.2)):Option (Fl (List Int×Int×Int) Empty))) N (p0,o,1)).bind λah=>ah.cs (λ(j:List Int×Int×Int)=>(u3 j.1 j.2.1 (j.1.length:Int)).bind λan=>(u3 (j.1.take (Int.toNat j.2.1)++List.replicate (j.1.length - Int.toNat j.2.1) (0:Int)) 0 j.2.1).bind λai=>some<|.rt ai)<|λr=>r.elim)else some (.nx<|wrap .i64<|o+1))else(some<|.br o):Option (Fl Int<|List Int))) N 1).bind λaj=>aj.cs (λ(o:Int)=>some p0)<|λr=>some r)
def mC(N:Nat)(p0:aI)(p1:List Int)(p2:Int):Option Bool:=
 (idx p1 p2).bind λj=>some<|decide<|p0.Y1<=j
def ky(N:Nat)(p0:List aI)(p1:aI->Option Bool):Option Int:=
 (pg p0.length (λ(j:Nat)(o:Unit)=>((idx p0 (j:Int)).bind λaa=>(p1 aa).bind λab=>bif ab then some (.rt (j:Int))else(some<|.nx ()):Option (Fl Unit Int))) ()).bind λad=>ad.cs (λ(o:Unit)=>some<|-1)<|λr=>some r
def jN(N:Nat)(p0:List aI)(p1:aI->Option Bool):Option Int:=
 (pg p0.length (λ(j:Nat)(o:Unit)=>((idx p0 (j:Int)).bind λaa=>(p1 aa).bind λab=>bif ab then some (.rt (j:Int))else(some<|.nx ()):Option (Fl Unit Int))) ()).bind λad=>ad.cs (λ(o:Unit)=>some<|-1)<|λr=>some r
def gq(N:Nat)(p0:List aI)(p1:aI->Option Bool):Option (List aI):=
 (jN N p0 p1).bind λo=>bif o==(-1)then some p0 else((mZ (λ(j:List aI×Int×Int)=>(bif decide (j.2.2<(j.1.length:Int))then((idx j.1 j.2.2).bind λaa=>(p1 aa).bind λad=>(bif(!ad)then((idx j.1 j.2.1).bind λag=>some (j.1.set (Int.toNat j.2.1) aa,wrap .i64<|j.2.1+1))else some (j.1,j.2.1)).bind λab=>some<|.nx (ab.1,ab.2,wrap .i64<|j.2.2+1))else(some<|.br (j.1,j.2.1,j.2.2)):Option (Fl (List aI×Int×Int) Empty))) N (p0,o,wrap .i64<|o+1)).bind λae=>ae.cs (λ(j:List aI×Int×Int)=>(u3 j.1 j.2.1 (j.1.length:Int)).bind λah=>(u3 (j.1.take (Int.toNat j.2.1)++List.replicate (j.1.length - Int.toNat j.2.1) (⟨0,0,0,0⟩:aI)) 0 j.2.1).bind λaf=>some af)<|λr=>r.elim)
def fL(N:Nat)(p0 p1:aI):Option Int:=
 some (wrap .i64<|p0.X0 - p1.X0)
def iu(N:Nat)(p0:List aI):Option (List Int×List aI):=
 (sO (fL N) p0).bind λaa=>(gN aa.length (λ(ad:Nat)(j:List Int)=>((idx aa (ad:Int)).bind λo=>(bif decide (wrap .i64 ((j.length:Int) - 1)>=0)then((idx j<|wrap .i64<|(j.length:Int) - 1).bind λae=>some<|decide<|o.X0<=ae)else some false).bind λaf=>(bif af then((idx j<|wrap .i64<|(j.length:Int) - 1).bind λab=>(idx j<|wrap .i64<|(j.length:Int) - 1).bind λNy=>some<|j.set (Int.toNat<|wrap .i64<|(j.length:Int) - 1) (if ab<o.X1 then o.X1 else ab))else((app 8 j ([o.X0,o.X1]:List Int)).bind λag=>some ag)).bind λah=>some ah:Option (List Int))) ([]:List Int)).bind λj=>some (j,aa)
def ly(N:Nat)(p0:List Int)(p1:List Int):Option Bool:=
 bif(p0.length:Int) != (p1.length:Int)then some false else((pg p0.length (λ(j:Nat)(o:Unit)=>((idx p0 (j:Int)).bind λaa=>(idx p1 (j:Int)).bind λab=>bif aa != ab then some (.rt false)else(some<|.nx ()):Option (Fl Unit Bool))) ()).bind λad=>ad.cs (λ(o:Unit)=>some true)<|λr=>some r)
def gS(N:Nat)(p0:List aA)(p1:aA):Option (List aA):=
 bif((p1.Xs.length:Int)==0)||decide (p1.Y1<=p1.Y0)then some p0 else((bif decide (wrap .i64 ((p0.length:Int) - 1)>=0)then((idx p0<|wrap .i64<|(p0.length:Int) - 1).bind λj=>bif j.Y1==p1.Y0 then((idx p0<|wrap .i64<|(p0.length:Int) - 1).bind λo=>(ly N o.Xs p1.Xs).bind λaa=>some aa)else some false)else some false).bind λab=>bif ab then((idx p0<|wrap .i64<|(p0.length:Int) - 1).bind λad=>some<|p0.set (Int.toNat<|wrap .i64<|(p0.length:Int) - 1)<|{ad with Y1:=p1.Y1})else((app 40 p0 ([p1]:List aA)).bind λae=>some ae))
def fQ(N:Nat)(p0:List aI):Option (List aA):=
 (ij N p0).bind λag=>(sO (iS N) ag).bind λaa=>(gN aa.length (λ(ah:Nat)(ad:List Int)=>((idx aa (ah:Int)).bind λae=>(app 8 ad ([ae.Y0,ae.Y1]:List Int)).bind λai=>some ai:Option (List Int))) ([]:List Int)).bind λad=>(sN ad).bind λaj=>(fK N aj).bind λab=>(mZ (λ(j:List aA×List aI×Int×Int)=>(bif decide (wrap .i64 (j.2.2.2+1)<(ab.length:Int))then((gq N j.2.1<|λy0=>mC N y0 ab j.2.2.2).bind λak=>(mZ (λ(o:List aI×Int)=>((bif decide (o.2<(aa.length:Int))then((idx aa o.2).bind λal=>(idx ab j.2.2.2).bind λan=>some<|decide<|al.Y0<=an)else some false).bind λao=>bif ao then((idx aa o.2).bind λaq=>(app 32 o.1 ([aq]:List aI)).bind λar=>some<|.nx (ar,wrap .i64<|o.2+1))else(some<|.br (o.1,o.2)):Option (Fl (List aI×Int) Empty))) N (ak,j.2.2.1)).bind λau=>au.cs (λ(o:List aI×Int)=>(idx ab j.2.2.2).bind λav=>(idx ab<|wrap .i64<|j.2.2.2+1).bind λaw=>(iu N o.1).bind λaf=>(gS N j.1 (⟨av,aw,af.1⟩:aA)).bind λax=>some<|.nx (ax,af.2,o.2,wrap .i64<|j.2.2.2+1))<|λr=>r.elim)else(some<|.br (j.1,j.2.1,j.2.2.1,j.2.2.2)):Option (Fl (List aA×List aI×Int×Int) Empty))) N (([]:List aA),([]:List aI),0,0)).bind λay=>ay.cs (λ(j:List aA×List aI×Int×Int)=>some j.1)<|λr=>r.elim
def iv(N:Nat)(p0:List aA):Option (List aI):=
 (gN p0.length (λ(ab:Nat)(aa:List aI)=>((idx p0 (ab:Int)).bind λo=>(mZ (λ(j:List aI×Int)=>(bif decide (j.2<(o.Xs.length:Int))then((idx o.Xs j.2).bind λad=>(idx o.Xs<|wrap .i64<|j.2+1).bind λae=>(app 32 j.1 ([(⟨ad,o.Y0,ae,o.Y1⟩:aI)]:List aI)).bind λJR=>some<|.nx (JR,wrap .i64<|j.2+2))else(some<|.br (j.1,j.2)):Option (Fl (List aI×Int) Empty))) N (aa,0)).bind λaf=>af.cs (λ(j:List aI×Int)=>some j.1) (λr=>r.elim):Option (List aI))) ([]:List aI)).bind λaa=>some aa
def jC(N:Nat)(p0:List aI)(p1:List aI):Option Bool:=
 bif(p0.length:Int) != (p1.length:Int)then some false else((pg p0.length (λ(j:Nat)(o:Unit)=>((idx p0 (j:Int)).bind λaa=>(idx p1 (j:Int)).bind λab=>bif(!(decide<|aa=ab))then some (.rt false)else(some<|.nx ()):Option (Fl Unit Bool))) ()).bind λad=>ad.cs (λ(o:Unit)=>some true)<|λr=>some r)
def gr(N:Nat)(p0:List aI):Option Int:=
 (jS N p0).bind λab=>bif ab != 0 then some ab else((mZ (λ(j:Int)=>(bif decide (j<(p0.length:Int))then((idx p0<|wrap .i64<|j - 1).bind λo=>(idx p0 j).bind λaa=>bif decide (aa.Y0<o.Y0)||((aa.Y0==o.Y0)&&decide (aa.X0<=o.X0))then some (.rt 8)else some (.nx<|wrap .i64<|j+1))else(some<|.br j):Option (Fl Int Int))) N 1).bind λad=>ad.cs (λ(j:Int)=>(fQ N p0).bind λae=>(iv N ae).bind λaf=>(jC N af p0).bind λag=>bif(!ag)then some 3 else some 0)<|λr=>some r)
def gj(N:Nat)(p0 p1 p2:Int):Option Bool:=
 some (decide (p0>=p1)&&decide (p0<=p2))
def iK(N:Nat)(p0:kG):Option Bool:=
 ((j9 N p0.X).bind λj=>bif j then((j9 N p0.Y).bind λo=>some o)else some false).bind λaa=>some aa
def eQ(N:Nat)(p0:cK):Option aI:=
 some (⟨wrap .i64<|p0.At.X -(wrap .i64<|Int.tdiv p0.eU 2),wrap .i64<|p0.At.Y -(wrap .i64<|Int.tdiv p0.eU 2),wrap .i64<|wrap .i64 (p0.At.X -(wrap .i64<|Int.tdiv p0.eU 2))+p0.eU,wrap .i64<|wrap .i64 (p0.At.Y -(wrap .i64<|Int.tdiv p0.eU 2))+p0.eU⟩:aI)
def lz(N:Nat)(p0:List aA):Option aI:=
 (idx p0 0).bind λad=>(idx ad.Xs 0).bind λae=>(idx p0 0).bind λaf=>(idx p0 0).bind λag=>(idx ag.Xs 1).bind λah=>(idx p0<|wrap .i64<|(p0.length:Int) - 1).bind λai=>(gN p0.length (λ(aj:Nat)(j:aI)=>((idx p0 (aj:Int)).bind λo=>(idx o.Xs 0).bind λaa=>(idx o.Xs<|wrap .i64<|(o.Xs.length:Int) - 1).bind λab=>some ({{j with X0:=(if aa<j.X0 then aa else j.X0)}with X1:=(if j.X1<ab then ab else j.X1)}):Option aI)) (⟨ae,af.Y0,ah,ai.Y1⟩:aI)).bind λj=>some j
def kS(N:Nat)(p0:List aA):Option Bool:=
 (bif(p0.length:Int)==0 then some true else((lz N p0).bind λj=>(lx N j).bind λo=>some o)).bind λaa=>some aa
def kp(N:Nat)(p0:cK):Option (aI×Int):=
 ((gj N p0.eU 1 10000).bind λo=>bif(!o)then some true else((iK N p0.At).bind λaa=>some<|!aa)).bind λab=>bif ab then some ((⟨0,0,0,0⟩:aI),1)else((eQ N p0).bind λj=>(fQ N ([j]:List aI)).bind λad=>(kS N ad).bind λae=>bif(!ae)then some ((⟨0,0,0,0⟩:aI),1)else some (j,0))
def jD(N:Nat)(p0:jg):Option Int:=
 bif decide ((p0.bN.length:Int)>500)then some 2 else((pg p0.bN.length (λ(aa:Nat)(ab:Unit)=>((idx p0.bN (aa:Int)).bind λj=>(kp N j).bind λo=>bif o.2 != 0 then some (.rt o.2)else(((gj N j.dZ 0<|wrap .i64<|(p0.aN.length:Int) - 1).bind λad=>bif(!ad)then some true else((gj N j.To j.dZ<|wrap .i64<|(p0.aN.length:Int) - 1).bind λae=>some<|!ae)).bind λaf=>bif af then some (.rt 1)else some (.nx ())):Option (Fl Unit Int))) ()).bind λag=>ag.cs (λ(ab:Unit)=>some 0)<|λr=>some r)
def iI(N:Nat)(p0:dD):Option aS:=
 some (⟨p0.Part,p0.aS⟩:aS)
def jE(N:Nat)(p0:jg):Option Int:=
 bif decide ((p0.bC.length:Int)>1000)then some 2 else((pg p0.bC.length (λ(o:Nat)(aa:Unit)=>((idx p0.bC (o:Int)).bind λj=>((gQ N j.Part).bind λab=>bif(!ab)then some true else((fD N j.aS).bind λad=>some<|!ad)).bind λae=>bif ae then some (.rt 5)else(((gj N j.eX 0<|wrap .i64<|(p0.aN.length:Int) - 1).bind λaf=>bif(!af)then some true else((iK N j.At).bind λag=>some<|!ag)).bind λah=>bif ah then some (.rt 1)else((bif decide ((o:Int)>0)then((idx p0.bC<|wrap .i64<|(o:Int) - 1).bind λai=>(iI N j).bind λaj=>(iI N ai).bind λak=>(cX N aj ak).bind λal=>some<|decide<|al<=0)else some false).bind λan=>bif an then some (.rt 8)else some (.nx ()))):Option (Fl Unit Int))) ()).bind λao=>ao.cs (λ(aa:Unit)=>some 0)<|λr=>some r)
def kq(N:Nat)(p0 p1:Int)(p2 p3:Int):Option Int:=
 some (if(if 0<(wrap .i64<|wrap .i64 (p2 - p1)+1)then wrap .i64 (wrap .i64 (p2 - p1)+1)else 0)<(wrap .i64<|wrap .i64 (p0 - p3)+1)then wrap .i64 (wrap .i64 (p0 - p3)+1)else(if 0<(wrap .i64<|wrap .i64 (p2 - p1)+1)then wrap .i64 (wrap .i64 (p2 - p1)+1)else 0))
def qo(N:Nat)(p0 p1:aI):Option Int:=
 (kq N p0.X0 p0.X1 p1.X0 p1.X1).bind λj=>(kq N p0.Y0 p0.Y1 p1.Y0 p1.Y1).bind λo=>some (if j<o then o else j)
def jT(N:Nat)(p0:cK)(p1:Int):Option Bool:=
 some (decide (p0.dZ<=p1)&&decide (p1<=p0.To))
def lA(N:Nat)(p0:List aA)(p1 p2:Int):Option (List Int×Int):=
 bif(p0.length:Int)==0 then some (([]:List Int),p2)else((idx p0 0).bind λaa=>bif decide (p1<aa.Y0)then((idx p0 0).bind λj=>some (([]:List Int),(if j.Y0<p2 then j.Y0 else p2)))else((idx p0 0).bind λab=>(idx p0 0).bind λo=>some (ab.Xs,(if o.Y1<p2 then o.Y1 else p2))))
def oK(N:Nat)(p0:List Int)(p1:List Int)(p2:Bool->Bool->Option Bool):Option (List Int):=
 (mZ (λ(j:List Int×List Int×List Int×Bool×Bool×Bool)=>((bif decide ((j.1.length:Int)>0)then some true else some (decide<|(j.2.1.length:Int)>0)).bind λaf=>bif af then((bif(j.2.1.length:Int)==0 then some true else(bif decide ((j.1.length:Int)>0)then((idx j.1 0).bind λag=>(idx j.2.1 0).bind λah=>some<|decide<|ag<=ah)else some false)).bind λai=>(bif ai then((idx j.1 0).bind λaj=>some aj)else((idx j.2.1 0).bind λak=>some ak)).bind λo=>(bif decide ((j.1.length:Int)>0)then((idx j.1 0).bind λal=>some<|al==o)else some false).bind λan=>(bif an then((u3 j.1 1 (j.1.length:Int)).bind λao=>some (ao,(!j.2.2.2.1)))else some (j.1,j.2.2.2.1)).bind λaa=>(bif decide ((j.2.1.length:Int)>0)then((idx j.2.1 0).bind λaq=>some<|aq==o)else some false).bind λar=>(bif ar then((u3 j.2.1 1 (j.2.1.length:Int)).bind λau=>some (au,(!j.2.2.2.2.1)))else some (j.2.1,j.2.2.2.2.1)).bind λab=>(p2 aa.2 ab.2).bind λad=>(bif ad != j.2.2.2.2.2 then((app 8 j.2.2.1 ([o]:List Int)).bind λav=>some (av,ad))else some (j.2.2.1,j.2.2.2.2.2)).bind λae=>some<|.nx (aa.1,ab.1,ae.1,aa.2,ab.2,ae.2))else(some<|.br (j.1,j.2.1,j.2.2.1,j.2.2.2.1,j.2.2.2.2.1,j.2.2.2.2.2)):Option (Fl (List Int×List Int×List Int×Bool×Bool×Bool) Empty))) N (p0,p1,([]:List Int),false,false,false)).bind λaw=>aw.cs (λ(j:List Int×List Int×List Int×Bool×Bool×Bool)=>some j.2.2.1)<|λr=>r.elim
def nF(N:Nat)(p0:List aA)(p1:List aA)(p2:Bool->Bool->Option Bool):Option (List aA):=
 bif wrap .i64 ((p0.length:Int)+(p1.length:Int))==0 then some ([]:List aA)else((gN (([p0,p1]:List (List aA)).length) (λ(ah:Nat)(o:Int×Int)=>((idx ([p0,p1]:List (List aA)) (ah:Int)).bind λad=>(bif decide ((ad.length:Int)>0)then((bif(ah:Int)==0 then some true else some ((p0.length:Int)==0)).bind λal=>(bif al then((idx ad 0).bind λan=>(idx ad<|wrap .i64<|(ad.length:Int) - 1).bind λao=>some (an.Y0,ao.Y1))else some (o.1,o.2)).bind λag=>(idx ad 0).bind λai=>(idx ad<|wrap .i64<|(ad.length:Int) - 1).bind λaj=>some ((if ai.Y0<ag.1 then ai.Y0 else ag.1),(if ag.2<aj.Y1 then aj.Y1 else ag.2)))else some (o.1,o.2)).bind λak=>some (ak.1,ak.2):Option (Int×Int))) (0,0)).bind λo=>(mZ (λ(j:List aA×List aA×List aA×Int)=>(bif decide (j.2.2.2<o.2)then((mZ (λ(aa:List aA)=>((bif decide ((aa.length:Int)>0)then((idx aa 0).bind λaq=>some<|decide<|aq.Y1<=j.2.2.2)else some false).bind λar=>bif ar then((u3 aa 1 (aa.length:Int)).bind λau=>some<|.nx au)else(some<|.br aa):Option (Fl (List aA) Empty))) N j.1).bind λav=>av.cs (λ(aa:List aA)=>(mZ (λ(ab:List aA)=>((bif decide ((ab.length:Int)>0)then((idx ab 0).bind λaw=>some<|decide<|aw.Y1<=j.2.2.2)else some false).bind λax=>bif ax then((u3 ab 1 (ab.length:Int)).bind λay=>some<|.nx ay)else(some<|.br ab):Option (Fl (List aA) Empty))) N j.2.1).bind λaz=>az.cs (λ(ab:List aA)=>(lA N aa j.2.2.2 o.2).bind λae=>(lA N ab j.2.2.2 o.2).bind λaf=>(oK N ae.1 af.1 p2).bind λa0=>(gS N j.2.2.1 (⟨j.2.2.2,(if af.2<ae.2 then af.2 else ae.2),a0⟩:aA)).bind λa1=>some<|.nx (aa,ab,a1,(if af.2<ae.2 then af.2 else ae.2)))<|λr=>r.elim)<|λr=>r.elim)else(some<|.br (j.1,j.2.1,j.2.2.1,j.2.2.2)):Option (Fl (List aA×List aA×List aA×Int) Empty))) N (p0,p1,([]:List aA),o.1)).bind λa2=>a2.cs (λ(j:List aA×List aA×List aA×Int)=>some j.2.2.1)<|λr=>r.elim)
def mD(N:Nat)(p0 p1:Bool):Option Bool:=
 some (p0&&(!p1))
def jU(N:Nat)(p0:List aA)(p1:List aA):Option (List aA):=
 (nF N p0 p1<|mD N).bind λj=>some j
def kT(N:Nat)(p0:List aA):Option Int:=
 (gN p0.length (λ(o:Nat)(j:Int)=>((idx p0 (o:Int)).bind λaa=>some (wrap .i64<|j+ wrap .i64 (Int.tdiv (aa.Xs.length:Int) 2)):Option Int)) 0).bind λj=>some j
def eB(N:Nat)(p0:Int)(p1_0:List Int):Option (Int×List Int):=
 (mZ (λ(j:Int×List Int)=>((idx j.2 j.1).bind λaa=>bif aa != j.1 then((idx j.2 j.1).bind λab=>(idx j.2 ab).bind λo=>(idx j.2 j.1).bind λaf=>(idx (j.2.set (Int.toNat j.1) o) j.1).bind λad=>some<|.nx (ad,j.2.set (Int.toNat j.1) o))else(some<|.br (j.1,j.2)):Option (Fl (Int×List Int) Empty))) N (p0,p1_0)).bind λae=>ae.cs (λ(j:Int×List Int)=>some (j.1,j.2))<|λr=>r.elim
def kf(N:Nat)(p0:List aA):Option (List<|List aA):=
 (iv N p0).bind λab=>(mk 8 (0:Int) (ab.length:Int)).bind λan=>(gN an.length (λ(ai:Nat)(ag:List Int)=>((idx ag (ai:Int)).bind λbd=>some (ag.set (Int.toNat (ai:Int)) (ai:Int)):Option (List Int))) an).bind λag=>(gN p0.length (λ(aj:Nat)(aa:List Int×Int×Int)=>((idx p0 (aj:Int)).bind λak=>(bif decide ((aj:Int)>0)then((idx p0<|wrap .i64<|(aj:Int) - 1).bind λar=>some<|ar.Y1==ak.Y0)else some false).bind λau=>(bif au then((mZ (λ(j:List Int×Int×Int)=>(bif decide (j.2.1<aa.2.1)&&decide (j.2.2< wrap .i64 (aa.2.1+ wrap .i64 (Int.tdiv (ak.Xs.length:Int) 2)))then(((idx ab j.2.1).bind λav=>(idx ab j.2.2).bind λaw=>bif decide (av.X0<aw.X1)then((idx ab j.2.2).bind λax=>(idx ab j.2.1).bind λay=>some<|decide<|ax.X0<ay.X1)else some false).bind λaz=>(bif az then((eB N j.2.1 j.1).bind λae=>(eB N j.2.2 ae.2).bind λad=>(idx ad.2 (if ae.1<ad.1 then ad.1 else ae.1)).bind λbf=>some<|ad.2.set (Int.toNat (if ae.1<ad.1 then ad.1 else ae.1)) (if ad.1<ae.1 then ad.1 else ae.1))else some j.1).bind λa0=>(idx ab j.2.1).bind λa1=>(idx ab j.2.2).bind λa2=>(bif decide (a1.X1<a2.X1)then some (wrap .i64<|j.2.1+1,j.2.2)else some (j.2.1,wrap .i64<|j.2.2+1)).bind λao=>some<|.nx (a0,ao.1,ao.2))else(some<|.br (j.1,j.2.1,j.2.2)):Option (Fl (List Int×Int×Int) Empty))) N (aa.1,aa.2.2,aa.2.1)).bind λa3=>a3.cs (λ(j:List Int×Int×Int)=>some j.1)<|λr=>r.elim)else some aa.1).bind λa4=>some (a4,wrap .i64<|aa.2.1+ wrap .i64 (Int.tdiv (ak.Xs.length:Int) 2),aa.2.1):Option (List Int×Int×Int))) (ag,0,0)).bind λaa=>(gN ab.length (λ(aq:Nat)(o:List Int×List (Int×Int)×List (List aI))=>((idx ab (aq:Int)).bind λa5=>(eB N (aq:Int) o.1).bind λah=>(bif(!(gX o.2.1 ah.1))then((app 24 o.2.2 [([]:List aI)]).bind λa6=>some (kQ o.2.1 ah.1 (o.2.2.length:Int),a6,(o.2.2.length:Int)))else some (o.2.1,o.2.2,dR o.2.1 ah.1 (0:Int))).bind λaf=>(idx af.2.1 af.2.2).bind λa7=>(app 32 a7 ([a5]:List aI)).bind λa8=>(idx af.2.1 af.2.2).bind λbg=>some (ah.2,af.1,af.2.1.set (Int.toNat af.2.2) a8):Option (List Int×List (Int×Int)×List (List aI)))) (aa.1,([]:List (Int×Int)),([]:List (List aI)))).bind λo=>(gN o.2.2.length (λ(a9:Nat)(al:List (List aA))=>((idx o.2.2 (a9:Int)).bind λba=>(fQ N ba).bind λbb=>(app 24 al ([bb]:List (List aA))).bind λbc=>some bc:Option (List<|List aA))) ([]:List (List aA))).bind λal=>some al
def iT(N:Nat)(p0_0:List (List aI))(p0_2:List cK)(p0_4:List (List aA))(p0_5:List aH):Option (Bool×List (List aA)×List aH):=
 (gN p0_0.length (λ(aa:Nat)(j:List (List aA)×List aH×Bool)=>((idx p0_0 (aa:Int)).bind λai=>(gN p0_2.length (λ(aj:Nat)(o:List aI)=>((idx p0_2 (aj:Int)).bind λaf=>(jT N af (aa:Int)).bind λak=>(bif ak then((eQ N af).bind λal=>(app 32 o ([al]:List aI)).bind λan=>some an)else some o).bind λao=>some ao:Option (List aI))) ([]:List aI)).bind λo=>(fQ N ai).bind λaq=>(fQ N o).bind λar=>(jU N aq ar).bind λab=>(bif j.2.2 then((kT N ab).bind λau=>some (decide<|au<=2000,ab))else some (false,ab)).bind λad=>(app 24 j.1 ([ad.2]:List (List aA))).bind λav=>(kf N ad.2).bind λag=>(gN ag.length (λ(aw:Nat)(ae:List aH)=>((idx ag (aw:Int)).bind λah=>(iv N ah).bind λax=>(app 56 ae ([(⟨(aa:Int),ah,ax⟩:aH)]:List aH)).bind λay=>some ay:Option (List aH))) j.2.1).bind λae=>some (av,ae,ad.1):Option (List (List aA)×List aH×Bool))) (p0_4,p0_5,true)).bind λj=>(bif j.2.2 then some (decide<|(j.2.1.length:Int)<=2000)else some false).bind λaz=>some (az,j.1,j.2.1)
def pX(N:Nat)(p0 p1:aI):Option Bool:=
 some (((decide (p0.X0<p1.X1)&&decide (p1.X0<p0.X1))&&((p0.Y1==p1.Y0)||(p1.Y1==p0.Y0)))||((decide (p0.Y0<p1.Y1)&&decide (p1.Y0<p0.Y1))&&((p0.X1==p1.X0)||(p1.X1==p0.X0))))
def jc(N:Nat)(p0:aI)(p1:cK):Option Bool:=
 (eQ N p1).bind λj=>(pX N p0 j).bind λo=>some o
def fE(N:Nat)(p0:List aI)(p1:aI->Option Bool):Option Bool:=
 (ky N p0 p1).bind λj=>some<|decide<|j>=0
def iU(N:Nat)(p0_2:List cK)(p0_5:List aH)(p0_6:List (List Int)):Option (List<|List Int):=
 (gN p0_2.length (λ(ae:Nat)(o:List (List Int))=>((idx p0_2 (ae:Int)).bind λaa=>(gN p0_5.length (λ(ab:Nat)(j:List Int)=>((idx p0_5 (ab:Int)).bind λad=>(bif aa.jL then((jT N aa ad.eX).bind λaf=>bif af then((fE N ad.nZ<|λy0=>jc N y0 aa).bind λag=>some ag)else some false)else some false).bind λah=>(bif ah then((app 8 j ([(ab:Int)]:List Int)).bind λai=>some ai)else some j).bind λaj=>some aj:Option (List Int))) ([]:List Int)).bind λj=>(app 24 o ([j]:List (List Int))).bind λak=>some ak:Option (List<|List Int))) p0_6).bind λo=>some o
def jV(N:Nat)(p0:Int):Option (List Int):=
 (mk 8 (0:Int) p0).bind λaa=>(gN aa.length (λ(o:Nat)(j:List Int)=>((idx j (o:Int)).bind λab=>some (j.set (Int.toNat (o:Int)) (o:Int)):Option (List Int))) aa).bind λj=>some j
def eZ(N:Nat)(p0_0:List Int)(p1:Int):Option (Int×List Int):=
 (mZ (λ(j:List Int×Int)=>((idx j.1 j.2).bind λaa=>bif aa != j.2 then((idx j.1 j.2).bind λab=>(idx j.1 ab).bind λo=>(idx j.1 j.2).bind λaf=>(idx (j.1.set (Int.toNat j.2) o) j.2).bind λad=>some<|.nx (j.1.set (Int.toNat j.2) o,ad))else(some<|.br (j.1,j.2)):Option (Fl (List Int×Int) Empty))) N (p0_0,p1)).bind λae=>ae.cs (λ(j:List Int×Int)=>some (j.2,j.1))<|λr=>r.elim
def fM(N:Nat)(p0_0:List Int)(p1 p2:Int):Option (List Int):=
 (eZ N p0_0 p1).bind λo=>(eZ N o.2 p2).bind λj=>(idx j.2 (if o.1<j.1 then j.1 else o.1)).bind λaa=>some<|j.2.set (Int.toNat (if o.1<j.1 then j.1 else o.1)) (if j.1<o.1 then j.1 else o.1)
def iV(N:Nat)(p0_0:List Int):Option (List (List Int)×List Int):=
 (gN p0_0.length (λ(ab:Nat)(j:List Int×List (List Int)×List (Int×Int))=>((eZ N j.1 (ab:Int)).bind λaa=>(bif aa.1==(ab:Int)then((app 24 j.2.1 [([]:List Int)]).bind λad=>some (ad,kQ j.2.2 (ab:Int) (j.2.1.length:Int)))else some (j.2.1,j.2.2)).bind λo=>(idx o.1<|dR o.2 aa.1 (0:Int)).bind λae=>(app 8 ae ([(ab:Int)]:List Int)).bind λaf=>(idx o.1<|dR o.2 aa.1 (0:Int)).bind λag=>some (aa.2,o.1.set (Int.toNat<|dR o.2 aa.1 (0:Int)) af,o.2):Option (List Int×List (List Int)×List (Int×Int)))) (p0_0,([]:List (List Int)),([]:List (Int×Int)))).bind λj=>some (j.2.1,j.1)
def ka(N:Nat)(p0:aI)(p1:kG):Option Bool:=
 (bif decide (p1.X>=p0.X0)then(bif decide (p1.X<p0.X1)then(bif decide (p1.Y>=p0.Y0)then some (decide<|p1.Y<p0.Y1)else some false)else some false)else some false).bind λj=>some j
def jl(N:Nat)(p0:List aI)(p1:kG):Option Bool:=
 (fE N p0<|λy0=>ka N y0 p1).bind λj=>some j
def iW(N:Nat)(p0_2:List cK)(p0_5:List aH)(p1:dD):Option (j4×Bool):=
 (pg p0_2.length (λ(o:Nat)(ad:Unit)=>((idx p0_2 (o:Int)).bind λj=>(bif j.jL then((jT N j p1.eX).bind λae=>bif ae then((eQ N j).bind λaf=>(jl N ([af]:List aI) p1.At).bind λag=>some ag)else some false)else some false).bind λah=>bif ah then some (.rt ((⟨true,(o:Int)⟩:j4),true))else(some<|.nx ()):Option (Fl Unit<|j4×Bool))) ()).bind λai=>ai.cs (λ(ad:Unit)=>(pg p0_5.length (λ(aa:Nat)(aj:Unit)=>((idx p0_5 (aa:Int)).bind λab=>(bif ab.eX==p1.eX then((jl N ab.nZ p1.At).bind λak=>some ak)else some false).bind λal=>bif al then some (.rt ((⟨false,(aa:Int)⟩:j4),true))else(some<|.nx ()):Option (Fl Unit<|j4×Bool))) ()).bind λan=>an.cs (λ(aj:Unit)=>some ((⟨false,0⟩:j4),false))<|λr=>some r)<|λr=>some r
def fR(N:Nat)(p0_8:List Int)(p0_9:List Int)(p1:j4):Option Int:=
 bif p1.cK then((idx p0_9 p1.Number).bind λj=>some j)else((idx p0_8 p1.Number).bind λo=>some o)
def eO(N:Nat)(p0_2:List cK)(p0_3:List dD)(p0_5:List aH)(p0_6:List (List Int))(p0_8:List Int)(p0_9:List Int)(p0_10:List Int)(p0_11:List j4):Option (List bK×List Int×List Int×List Int×List j4):=
 (jV N<|wrap .i64<|(p0_5.length:Int)+(p0_2.length:Int)).bind λar=>(gN p0_6.length (λ(ai:Nat)(af:List Int)=>((idx p0_6 (ai:Int)).bind λaj=>(gN aj.length (λ(au:Nat)(ag:List Int)=>((idx aj (au:Int)).bind λav=>(fM N ag av<|wrap .i64<|(p0_5.length:Int)+(ai:Int)).bind λaw=>some aw:Option (List Int))) af).bind λag=>some ag:Option (List Int))) ar).bind λaf=>(mk 8 (0:Int) (p0_5.length:Int)).bind λax=>(mk 8 (0:Int) (p0_2.length:Int)).bind λay=>(iV N af).bind λak=>(gN ak.1.length (λ(az:Nat)(aa:List bK×List Int×List Int)=>((idx ak.1 (az:Int)).bind λal=>(gN al.length (λ(a0:Nat)(j:List Int×List Int×List Int×List Int)=>((idx al (a0:Int)).bind λab=>(bif decide (ab<(p0_5.length:Int))then((idx j.1 ab).bind λbd=>(app 8 j.2.2.1 ([ab]:List Int)).bind λa1=>some (j.1.set (Int.toNat ab) (aa.1.length:Int),j.2.1,a1,j.2.2.2))else((idx p0_2<|wrap .i64<|ab -(p0_5.length:Int)).bind λa2=>(bif a2.jL then((idx j.2.1<|wrap .i64<|ab -(p0_5.length:Int)).bind λbf=>(app 8 j.2.2.2 ([wrap .i64<|ab -(p0_5.length:Int)]:List Int)).bind λa3=>some (j.2.1.set (Int.toNat<|wrap .i64<|ab -(p0_5.length:Int)) (aa.1.length:Int),a3))else((idx j.2.1<|wrap .i64<|ab -(p0_5.length:Int)).bind λbg=>some (j.2.1.set (Int.toNat<|wrap .i64<|ab -(p0_5.length:Int))<|-1,j.2.2.2))).bind λan=>some (j.1,an.1,j.2.2.1,an.2))).bind λad=>some (ad.1,ad.2.1,ad.2.2.1,ad.2.2.2):Option (List Int×List Int×List Int×List Int))) (aa.2.1,aa.2.2,([]:List Int),([]:List Int))).bind λj=>(bif decide (wrap .i64 ((j.2.2.1.length:Int)+(j.2.2.2.length:Int))>0)then((app 72 aa.1 [(⟨j.2.2.1,j.2.2.2,([]:List aS)⟩:bK)]).bind λa4=>some a4)else some aa.1).bind λa5=>some (a5,j.1,j.2.1):Option (List bK×List Int×List Int))) (([]:List bK),ax,ay)).bind λaa=>(gN p0_3.length (λ(a6:Nat)(o:List bK×List Int×List Int×List Int×List j4)=>((idx p0_3 (a6:Int)).bind λao=>(iW N p0_2 p0_5 ao).bind λah=>(bif ah.2 then((fR N o.2.1 o.2.2.1 ah.1).bind λae=>(idx o.1 ae).bind λa7=>(iI N ao).bind λa8=>(app 32 a7.aP ([a8]:List aS)).bind λa9=>(idx o.1 ae).bind λba=>some (o.1.set (Int.toNat ae) {ba with aP:=a9},ae))else some (o.1,(-1))).bind λaq=>(app 8 o.2.2.2.1 ([aq.2]:List Int)).bind λbb=>(app 16 o.2.2.2.2 ([ah.1]:List j4)).bind λbc=>some (aq.1,o.2.1,o.2.2.1,bb,bc):Option (List bK×List Int×List Int×List Int×List j4))) (aa.1,aa.2.1,aa.2.2,p0_10,p0_11)).bind λo=>some (o.1,o.2.1,o.2.2.1,o.2.2.2.1,o.2.2.2.2)
def gC(N:Nat)(p0:jg):Option (Option (List (List aI)×List aI×List cK×List dD×List (List aA)×List aH×List (List Int)×List bK×List Int×List Int×List Int×List j4)×Int):=
 bif(p0.aN.length:Int)==0 then some (none,9)else(bif decide ((p0.aN.length:Int)>16)then some (none,2)else((pg p0.aN.length (λ(an:Nat)(aa:Int)=>((idx p0.aN (an:Int)).bind λae=>(gr N ae).bind λaf=>bif af != 0 then some (.rt (none,af))else(some<|.nx<|wrap .i64<|aa+(ae.length:Int)):Option (Fl Int<|Option (List (List aI)×List aI×List cK×List dD×List (List aA)×List aH×List (List Int)×List bK×List Int×List Int×List Int×List j4)×Int))) (p0.cL.length:Int)).bind λao=>ao.cs (λ(aa:Int)=>(gr N p0.cL).bind λag=>bif ag != 0 then some (none,ag)else(bif decide (aa>2000)then some (none,2)else((jD N p0).bind λah=>bif ah != 0 then some (none,ah)else((jE N p0).bind λai=>bif ai != 0 then some (none,ai)else((pg p0.bN.length (λ(aj:Nat)(aq:Unit)=>((idx p0.bN (aj:Int)).bind λab=>(u3 p0.bN 0 (aj:Int)).bind λak=>(pg ak.length (λ(ar:Nat)(au:Unit)=>((idx ak (ar:Int)).bind λad=>(bif decide (ab.dZ<=ad.To)&&decide (ad.dZ<=ab.To)then((eQ N ab).bind λav=>(eQ N ad).bind λaw=>(qo N av aw).bind λax=>some<|ax==0)else some false).bind λay=>bif ay then some (.rt (none,12))else(some<|.nx ()):Option (Fl Unit<|Option (List (List aI)×List aI×List cK×List dD×List (List aA)×List aH×List (List Int)×List bK×List Int×List Int×List Int×List j4)×Int))) ()).bind λaz=>az.cs (λ(au:Unit)=>some<|.nx ()) (λr=>some<|.rt r):Option (Fl Unit<|Option (List (List aI)×List aI×List cK×List dD×List (List aA)×List aH×List (List Int)×List bK×List Int×List Int×List Int×List j4)×Int))) ()).bind λa0=>a0.cs (λ(aq:Unit)=>(iT N p0.aN p0.bN ([]:List (List aA)) ([]:List aH)).bind λj=>bif(!j.1)then some (none,2)else((iU N p0.bN j.2.2 ([]:List (List Int))).bind λal=>(eO N p0.bN p0.bC j.2.2 al ([]:List Int) ([]:List Int) ([]:List Int) ([]:List j4)).bind λo=>some (some (p0.aN,p0.cL,p0.bN,p0.bC,j.2.1,j.2.2,al,o.1,o.2.1,o.2.2.1,o.2.2.2.1,o.2.2.2.2),0)))<|λr=>some r)))))<|λr=>some r))
def jm(N:Nat)(p0:List aJ)(p1:aT)(p2:jg):Option (Option (List (List aI)×List aI×List cK×List dD×List (List aA)×List aH×List (List Int)×List bK×List Int×List Int×List Int×List j4)×Int):=
 (jB N p0 p1).bind λaa=>bif aa != 0 then some (none,aa)else((gC N p2).bind λo=>Jv o.1 (some (none,o.2))<|λ(j:(List (List aI)×List aI×List cK×List dD×List (List aA)×List aH×List (List Int)×List bK×List Int×List Int×List Int×List j4))=>some (some (j.1,j.2.1,j.2.2.1,j.2.2.2.1,j.2.2.2.2.1,j.2.2.2.2.2.1,j.2.2.2.2.2.2.1,j.2.2.2.2.2.2.2.1,j.2.2.2.2.2.2.2.2.1,j.2.2.2.2.2.2.2.2.2.1,j.2.2.2.2.2.2.2.2.2.2.1,j.2.2.2.2.2.2.2.2.2.2.2),o.2))
def lB(N:Nat)(p0:aT):Option (List<|aS×Int):=
 (gN p0.bA.length (λ(aa:Nat)(j:List (aS×Int))=>((idx p0.bA (aa:Int)).bind λab=>(gN ab.aP.length (λ(ad:Nat)(o:List (aS×Int))=>((idx ab.aP (ad:Int)).bind λae=>some (kQ o ae (aa:Int)):Option (List<|aS×Int))) j).bind λo=>some o:Option (List<|aS×Int))) ([]:List (aS×Int))).bind λj=>some j
def kU(N:Nat)(p0:List aJ)(p1:Part):Option (List aS):=
 (iQ N p0 p1.iB).bind λaa=>(idx p0 aa).bind λo=>(gN o.aP.length (λ(ab:Nat)(j:List aS)=>((idx o.aP (ab:Int)).bind λad=>(app 32 j ([(⟨p1.Name,ad.Name⟩:aS)]:List aS)).bind λae=>some ae:Option (List aS))) ([]:List aS)).bind λj=>some j
def kg(N:Nat)(p0:List aJ)(p1:aT):Option (List aS):=
 (lB N p1).bind λad=>(gN p1.cJ.length (λ(ae:Nat)(o:List aS)=>((idx p1.cJ (ae:Int)).bind λaf=>(kU N p0 af).bind λaa=>(gN aa.length (λ(ag:Nat)(j:List aS)=>((idx aa (ag:Int)).bind λab=>(bif(!(gX ad ab))then((app 32 j ([ab]:List aS)).bind λah=>some ah)else some j).bind λai=>some ai:Option (List aS))) o).bind λj=>some j:Option (List aS))) ([]:List aS)).bind λo=>some o
def eJ(N:Nat)(p0:List dD)(p1:aS)(p2:dD->aS->Option Int):Option (Int×Bool):=
 (mZ (λ(j:Int×Int)=>(bif decide (j.1<j.2)then((idx p0<|wrap .i64<|Int.fdiv (wrap .u64<|wrap .i64<|j.1+j.2) 2).bind λaa=>(p2 aa p1).bind λab=>(bif decide (ab<0)then some (wrap .i64<|wrap .i64 (Int.fdiv (wrap .u64<|wrap .i64<|j.1+j.2) 2)+1,j.2)else some (j.1,wrap .i64<|Int.fdiv (wrap .u64<|wrap .i64<|j.1+j.2) 2)).bind λo=>some<|.nx (o.1,o.2))else(some<|.br (j.1,j.2)):Option (Fl (Int×Int) Empty))) N (0,(p0.length:Int))).bind λad=>ad.cs (λ(j:Int×Int)=>(bif decide (j.1<(p0.length:Int))then((idx p0 j.1).bind λae=>(p2 ae p1).bind λaf=>some<|af==0)else some false).bind λag=>some (j.1,ag))<|λr=>r.elim
def gI(N:Nat)(p0:dD)(p1:aS):Option Int:=
 (iI N p0).bind λj=>(cX N j p1).bind λo=>some o
def kr(N:Nat)(p0:jg)(p1:aS):Option Int:=
 (eJ N p0.bC p1<|gI N).bind λj=>bif(!j.2)then some (-1)else some j.1
def iC(N:Nat)(p1:Int):Option (List aS):=
 bif decide (p1<0)then none else((bif decide (wrap .i64 (p1 -(wrap .i64<|((0:Nat):Int) -((0:Nat):Int)))>0)then((HQ 32 (⟨⟨[]⟩,⟨[]⟩⟩:aS)<|wrap .i64<|p1 -(wrap .i64<|((0:Nat):Int) -((0:Nat):Int))).bind λj=>(u3 j 0 ((0:Nat):Int)).bind λo=>some o)else some ([]:List aS)).bind λaa=>some aa)
def jF(N:Nat)(p0:List (List aS)):Option (List aS):=
 (gN p0.length (λ(ab:Nat)(j:Int)=>((idx p0 (ab:Int)).bind λaa=>bif decide (wrap .i64 (j+(aa.length:Int))<0)then none else(some<|wrap .i64<|j+(aa.length:Int)):Option Int)) 0).bind λj=>(iC N j).bind λad=>(gN p0.length (λ(ae:Nat)(o:List aS)=>((idx p0 (ae:Int)).bind λaf=>(app 32 o af).bind λag=>some ag:Option (List aS))) ad).bind λo=>some o
def jG(N:Nat)(p0_0:List (List aI))(p0_1:List aI)(p0_2:List cK)(p0_3:List dD)(p0_10:List Int)(p1:Net):Option (List aS):=
 (gN p1.aP.length (λ(ae:Nat)(j:List (List aS)×List (Int×Int))=>((idx p1.aP (ae:Int)).bind λab=>(kr N (⟨p0_0,p0_1,p0_2,p0_3⟩:jg) ab).bind λad=>bif decide (ad<0)then some (j.1,j.2)else((idx p0_10 ad).bind λaa=>(bif(!(gX j.2 aa))||decide (aa<0)then((app 24 j.1 [([]:List aS)]).bind λaf=>some (af,kQ j.2 aa (j.1.length:Int),(j.1.length:Int)))else some (j.1,j.2,dR j.2 aa (0:Int))).bind λo=>(idx o.1 o.2.2).bind λag=>(app 32 ag ([ab]:List aS)).bind λah=>(idx o.1 o.2.2).bind λaj=>some (o.1.set (Int.toNat o.2.2) ah,o.2.1)):Option (List (List aS)×List (Int×Int)))) (([]:List (List aS)),([]:List (Int×Int)))).bind λj=>bif decide ((j.1.length:Int)<2)then some ([]:List aS)else((jF N j.1).bind λai=>some ai)
def iD(N:Nat)(p0_0:List Part)(p0_1:List Net)(p0_2:List (aS×Int))(p0_3:List (aS×Bool))(p1:bK):Option (List bG×List aS×Bool):=
 (gN p1.aP.length (λ(aa:Nat)(j:List (bG×Bool)×List aS×Int)=>((idx p1.aP (aa:Int)).bind λo=>bif gX p0_2 o then((idx p0_1<|dR p0_2 o (0:Int)).bind λab=>(app 32 j.2.1 ([o]:List aS)).bind λad=>some (kQ j.1 ab.Name true,ad,j.2.2))else(bif dR p0_3 o (false:Bool)then((app 32 j.2.1 ([o]:List aS)).bind λae=>some (j.1,ae,wrap .i64<|j.2.2+1))else some (j.1,j.2.1,j.2.2)):Option (List (bG×Bool)×List aS×Int))) (([]:List (bG×Bool)),([]:List aS),0)).bind λj=>(AR j.1).bind λaf=>some (af,j.2.1,decide<|wrap .i64 ((j.1.length:Int)+j.2.2)>1)
def iX(N:Nat)(p0_0:List Part)(p0_1:List Net)(p0_2:List (aS×Int))(p0_3:List (aS×Bool))(p1:aS):Option Bool:=
 (bif gX p0_2 p1 then some true else some (dR p0_3 p1 (false:Bool))).bind λj=>some j
def dQ(N:Nat)(p0:List aJ)(p1:aT)(p2:jg):Option (List cP×Int):=
 (jm N p0 p1 p2).bind λaa=>Jv aa.1 (bif aa.2 != 0 then some (([]:List cP),aa.2)else none) (λ(j:(List (List aI)×List aI×List cK×List dD×List (List aA)×List aH×List (List Int)×List bK×List Int×List Int×List Int×List j4))=>bif aa.2 != 0 then some (([]:List cP),aa.2)else((lB N p1).bind λai=>(kg N p0 p1).bind λaj=>(gN aj.length (λ(au:Nat)(ae:List (aS×Bool))=>((idx aj (au:Int)).bind λav=>some (kQ ae av true):Option (List<|aS×Bool))) ([]:List (aS×Bool))).bind λae=>(gN p1.bA.length (λ(aw:Nat)(ag:List aS)=>((idx p1.bA (aw:Int)).bind λak=>(gN ak.aP.length (λ(ax:Nat)(af:List aS)=>((idx ak.aP (ax:Int)).bind λal=>(kr N p2 al).bind λay=>(bif decide (ay<0)then((app 32 af ([al]:List aS)).bind λaz=>some az)else some af).bind λa0=>some a0:Option (List aS))) ag).bind λaf=>some af:Option (List aS))) ([]:List aS)).bind λag=>(sO (cX N) ag).bind λan=>(bif decide ((an.length:Int)>0)then((app 56 ([]:List cP) ([(⟨1,[],an⟩:cP)]:List cP)).bind λa1=>some a1)else some ([]:List cP)).bind λa2=>(gN p1.bA.length (λ(a3:Nat)(o:List Int×List cP)=>((idx p1.bA (a3:Int)).bind λao=>(jG N j.1 j.2.1 j.2.2.1 j.2.2.2.1 o.1 ao).bind λaq=>(bif decide ((aq.length:Int)>0)then((app 56 o.2 ([(⟨2,([ao.Name]:List bG),aq⟩:cP)]:List cP)).bind λa4=>some a4)else some o.2).bind λa5=>some (o.1,a5):Option (List Int×List cP))) (j.2.2.2.2.2.2.2.2.2.2.1,a2)).bind λo=>(gN j.2.2.2.2.2.2.2.1.length (λ(a6:Nat)(ab:List cP)=>((idx j.2.2.2.2.2.2.2.1 (a6:Int)).bind λa7=>(iD N p1.cJ p1.bA ai ae a7).bind λah=>(bif ah.2.2 then((app 56 ab ([(⟨3,ah.1,ah.2.1⟩:cP)]:List cP)).bind λa8=>some a8)else some ab).bind λa9=>some a9:Option (List cP))) o.2).bind λab=>(gN p2.bC.length (λ(ba:Nat)(ad:List aS)=>((idx p2.bC (ba:Int)).bind λar=>(iI N ar).bind λbb=>(iX N p1.cJ p1.bA ai ae bb).bind λbc=>(bif(!bc)then((iI N ar).bind λbd=>(app 32 ad ([bd]:List aS)).bind λbf=>some bf)else some ad).bind λbg=>some bg:Option (List aS))) ([]:List aS)).bind λad=>(bif decide ((ad.length:Int)>0)then((app 56 ab ([(⟨4,[],ad⟩:cP)]:List cP)).bind λbh=>some bh)else some ab).bind λbj=>some (bj,0)))
def mE(N:Nat)(p0:List aI):Option Int:=
 (gN p0.length (λ(aa:Nat)(o:Int)=>((idx p0 (aa:Int)).bind λj=>some (wrap .i64<|o+ wrap .i64 (wrap .i64 (j.X1 - j.X0)* wrap .i64 (j.Y1 - j.Y0))):Option Int)) 0).bind λo=>some o
def oL(N:Nat)(p0:List aI):Option (Int×Int):=
 (gr N p0).bind λj=>bif j != 0 then some (0,j)else((mE N p0).bind λo=>some (o,0))
def fN(N:Nat):Option Bool:=
 (oL N ([(⟨0,0,2,3⟩:aI)]:List aI)).bind λj=>some<|(j.2==0)&&(j.1==6)
def jH(N:Nat)(p0:List dD):Option (List dD):=
 (app 56 ([]:List dD) p0).bind λj=>some j
def gG(N:Nat)(p0:aT)(p1:bG):Option aT:=
 (gN p0.cJ.length (λ(af:Nat)(j:List Part)=>((idx p0.cJ (af:Int)).bind λad=>(vH p1 ad.Name).bind λag=>(app 32 j ([(⟨ag,ad.iB⟩:Part)]:List Part)).bind λah=>some ah:Option (List Part))) ([]:List Part)).bind λj=>(gN p0.bA.length (λ(ai:Nat)(o:List Net)=>((idx p0.bA (ai:Int)).bind λaa=>(vH p1 aa.Name).bind λaj=>(gN aa.aP.length (λ(ak:Nat)(ab:List aS)=>((idx aa.aP (ak:Int)).bind λae=>(vH p1 ae.Part).bind λal=>(app 32 ab ([(⟨al,ae.aS⟩:aS)]:List aS)).bind λan=>some an:Option (List aS))) ([]:List aS)).bind λab=>(app 64 o ([(⟨aj,ab,([]:List bG)⟩:Net)]:List Net)).bind λao=>some ao:Option (List Net))) ([]:List Net)).bind λo=>some (⟨j,o⟩:aT)
def eK(N:Nat)(p0:List aJ)(p1:aT)(p2:jg)(p3:bG):Option Bool:=
 (dQ N p0 p1 p2).bind λj=>bif j.2 != 0 then((bif(j.1.length:Int)==0 then((fN N).bind λaf=>some af)else some false).bind λag=>some ag)else((jH N p2.bC).bind λae=>(gN ae.length (λ(ad:Nat)(ab:List dD)=>((idx ab (ad:Int)).bind λah=>(vH p3 ah.Part).bind λai=>(idx ab (ad:Int)).bind λaj=>some (ab.set (Int.toNat (ad:Int))<|{aj with Part:=ai}):Option (List dD))) ae).bind λab=>(gG N p1 p3).bind λak=>(dQ N p0 ak (⟨p2.aN,p2.cL,p2.bN,ab⟩:jg)).bind λo=>bif o.2 != 0 then((bif(o.2==5)||(o.2==2)then((fN N).bind λal=>some al)else some false).bind λan=>some an)else(bif(j.1.length:Int) != (o.1.length:Int)then some false else((pg j.1.length (λ(aa:Nat)(ao:Unit)=>(((idx j.1 (aa:Int)).bind λaq=>(idx o.1 (aa:Int)).bind λar=>bif aq.Kind != ar.Kind then some true else((idx j.1 (aa:Int)).bind λau=>(idx o.1 (aa:Int)).bind λav=>bif(au.aP.length:Int) != (av.aP.length:Int)then some true else((idx j.1 (aa:Int)).bind λaw=>(idx o.1 (aa:Int)).bind λax=>some<|(aw.bA.length:Int) != (ax.bA.length:Int)))).bind λay=>bif ay then some (.rt false)else(some<|.nx ()):Option (Fl Unit Bool))) ()).bind λaz=>az.cs (λ(ao:Unit)=>(fN N).bind λa0=>some a0)<|λr=>some r)))
end
def ki{R:Type}(m:Nat)(e:Nat->Option R):Option R:=(List.range m).findSome? e
theorem jq{R:Type}{m:Nat}{e:Nat->Option R}:ki m e=none↔∀k,k<m->e k=none:=by
 simp[ki]
theorem iN{R:Type}{m:Nat}{e:Nat->Option R}{r:R}:ki m e=some r↔∃k,k<m/\e k=some r/\∀j,j<k->e j=none:=by
 constructor
 ·intro h;obtain⟨l1,a,l2,hl,ha,hn⟩:=List.findSome?_eq_some_iff.1 h;have hlen:l1.length<m:=by have:=congrArg List.length hl;simp at this;omega
  have hget:∀i,i<l1.length->l1[i]? =some i:=λi hi=>by
   have:=congrArg (·[i]?) hl;simp only[g8 hi,List.getElem?_range (show i<m by omega)]at this;exact this.symm
  have hat:a=l1.length:=by
   have:=congrArg (·[l1.length]?) hl;simp[List.getElem?_range hlen]at this;exact this.symm
  refine⟨a,by omega,ha,λj hj=>hn j ?_⟩;exact eM<|hget j (by omega)
 ·rintro⟨k,hk,he,hn⟩;refine List.findSome?_eq_some_iff.2 ⟨List.range k,k,(List.range<|m - k - 1).map (· +(k+1)),?_,he,λx hx=>hn x<|pw.1 hx⟩;refine List.ext_getElem? λi=>?_
  by_cases h1:i<k
  ·rw[g8 (by simpa using h1),List.getElem?_range (by omega),List.getElem?_range h1]
  ·rw[gE (by simpa using h1),List.length_range]
   by_cases h2:i=k
   ·subst h2;simp[List.getElem?_range hk]
   ·obtain⟨d,rfl⟩:∃d,i=k+1+d:=⟨i -(k+1),by omega⟩;rw[show k+1+d - k=d+1 by omega,List.getElem?_cons_succ,eR]
    by_cases h3:k+1+d<m
    ·rw[List.getElem?_range h3,List.getElem?_range (by omega)];simp;omega
    ·rw[List.getElem?_eq_none (by simp;omega),List.getElem?_eq_none (by simp;omega)];rfl
theorem Iy{R R':Type}{m:Nat}{e:Nat->Option R}(f:R->R'):(ki m e).map f=ki m (λk=>(e k).map f):=by
 cases hx:ki m e with
 |none=>exact(jq.2 λk hk=>by rw[jq.1 hx k hk];rfl).symm
 |some r=>
  obtain⟨k,hk,he,hn⟩:=iN.1 hx;exact(iN.2 ⟨k,hk,by rw[he];rfl,λj hj=>by rw[hn j hj];rfl⟩).symm
section
variable {S R:Type}
def Aq(o:Option R)(s:S):Fl S R:=match o with|some r=> .rt r|none=> .nx s
def B3(o:Option R)(s:S):Fo S R:=match o with|some r=> .rt r|none=> .go s
theorem Dr{body:Nat->S->Option (Fl S R)}(F:Nat->S)(e:Nat->Option R)(m:Nat):∀(n k:Nat),k+n=m->
  (∀j,k<=j->j<m->(∀i,k<=i->i<j->e i=none)->body j (F j)=some (Aq (e j)<|F<|j+1))->
  ∃o,BA body n k (F k)=some o/\((∀j,k<=j->j<m->e j=none)/\o = .go (F m)\/∃j r,k<=j/\j<m/\e j=some r/\(∀i,k<=i->i<j->e i=none)/\o = .rt r)
 | 0,k,hk,_=>⟨_,rfl, .inl ⟨λj h1 h2=>by omega,by rw[show k=m by omega]⟩⟩
 |n+1,k,hk,h=>by
  have hb:=h k (bU _) (by omega) (λi h1 h2=>by omega);unfold BA;rw[hb]
  cases hx:e k with
  |some r=>exact⟨_,rfl, .inr ⟨k,r,bU _,by omega,hx,λi h1 h2=>by omega,rfl⟩⟩
  |none=>
   obtain⟨o,ho,hc⟩:=Dr F e m n (k+1) (by omega) (λj h1 h2 h3=>h j (by omega) h2 λi h4 h5=>by
    by_cases h6:i=k
    ·subst h6;exact hx
    ·exact h3 i (by omega) h5)
   refine⟨o,ho,?_⟩
   rcases hc with⟨h1,h2⟩|⟨j,r,h1,h2,h3,h4,h5⟩
   ·refine .inl ⟨λj h3 h4=>?_,h2⟩
    by_cases h6:j=k
    ·subst h6;exact hx
    ·exact h1 j (by omega) h4
   ·refine .inr ⟨j,r,by omega,h2,h3,λi h6 h7=>?_,h5⟩
    by_cases h8:i=k
    ·subst h8;exact hx
    ·exact h4 i (by omega) h7
theorem FQ{body:Nat->S->Option (Fl S R)}{m:Nat}{s:S}(F:Nat->S)(e:Nat->Option R)(hm:m<=4611686018427387904)(hs:F 0=s)
  (h:∀k,k<m->(∀i,i<k->e i=none)->body k (F k)=some (Aq (e k)<|F<|k+1)):pg m body s=some (B3 (ki m e)<|F m):=by
 subst hs;unfold pg;rw[aG hm];obtain⟨o,ho,hc⟩:=Dr F e m m 0 (by omega)<|λj _ h2 h3=>h j h2 λi hi=>h3 i (nu _) hi
 rw[ho]
 rcases hc with⟨h1,h2⟩|⟨j,r,_,h2,h3,h4,h5⟩
 ·rw[jq.2 λk hk=>h1 k (nu _) hk,h2];rfl
 ·rw[iN.2 ⟨j,h2,h3,λi hi=>h4 i (nu _) hi⟩,h5];rfl
theorem kW{body:Nat->Unit->Option (Fl Unit R)}{m:Nat}(e:Nat->Option R)(hm:m<=4611686018427387904)
  (h:∀k,k<m->(∀i,i<k->e i=none)->body k ()=some (Aq (e k) ())):pg m body ()=some (B3 (ki m e) ()):=
 FQ (λ_=>()) e hm rfl h
theorem Ds{body:Nat->S->Option S}(F:Nat->S):∀(n k:Nat),(∀j,k<=j->j<k+n->body j (F j)=some (F<|j+1))->Ef body n k (F k)=some (F<|k+n)
 | 0,_,_=>rfl
 |n+1,k,h=>by
  unfold Ef;rw[h k (bU _) (by omega)];have:=Ds F n (k+1)<|λj h1 h2=>h j (by omega) (by omega)
  rw[show k+(n+1)=k+1+n by omega];exact this
theorem wh{body:Nat->S->Option S}{m:Nat}{s:S}(F:Nat->S)(hm:m<=4611686018427387904)(hs:F 0=s)
  (h:∀k,k<m->body k (F k)=some (F<|k+1)):gN m body s=some (F m):=by
 subst hs;unfold gN;rw[aG hm];have:=Ds F m 0<|λj _ h2=>h j (by omega)
 rwa[gl]at this
theorem t5{body:S->Option (Fl S R)}(Inv:S->Prop)(μ:S->Nat)(Go:S->Prop)(Rt:R->Prop)
  (h:∀s,Inv s->∃fl,body s=some fl/\match fl with| .nx s'=>Inv s'/\μ s'<μ s| .br s'=>Go s'| .rt r=>Rt r):
  ∀(N:Nat)(s:S),Inv s->μ s<N->∃o,mZ body N s=some o/\match o with| .go s'=>Go s'| .rt r=>Rt r
 | 0,s,_,hn=>by omega
 |N+1,s,hi,hn=>by
  obtain⟨fl,hb,hf⟩:=h s hi;unfold mZ;rw[hb]
  cases fl with
  |nx s'=>exact t5 Inv μ Go Rt h N s' hf.1 (by have:=hf.2;omega)
  |br s'=>exact⟨_,rfl,hf⟩
  |rt r=>exact⟨_,rfl,hf⟩
theorem Dt{body:Nat->S->Option (Fl S R)}(Inv:Nat->S->Prop)(Go:S->Prop)(Rt:R->Prop)(m:Nat)
  (h:∀k s,k<m->Inv k s->∃fl,body k s=some fl/\match fl with| .nx s'=>Inv (k+1) s'| .br s'=>Go s'| .rt r=>Rt r) (hg:∀s,Inv m s->Go s):
  ∀(n k:Nat)(s:S),k+n=m->Inv k s->∃o,BA body n k s=some o/\match o with| .go s'=>Go s'| .rt r=>Rt r
 | 0,k,s,hk,hi=>⟨_,rfl,hg s (by rw[<-hk];exact hi)⟩
 |n+1,k,s,hk,hi=>by
  obtain⟨fl,hb,hf⟩:=h k s (by omega) hi;unfold BA;rw[hb]
  cases fl with
  |nx s'=>exact Dt Inv Go Rt m h hg n (k+1) s' (by omega) hf
  |br s'=>exact⟨_,rfl,hf⟩
  |rt r=>exact⟨_,rfl,hf⟩
theorem Kc{body:Nat->S->Option (Fl S R)}{m:Nat}{s:S}(Inv:Nat->S->Prop)(Go:S->Prop)(Rt:R->Prop)(hm:m<=4611686018427387904)(h0:Inv 0 s)
  (h:∀k s,k<m->Inv k s->∃fl,body k s=some fl/\match fl with| .nx s'=>Inv (k+1) s'| .br s'=>Go s'| .rt r=>Rt r) (hg:∀s,Inv m s->Go s):
  ∃o,pg m body s=some o/\match o with| .go s'=>Go s'| .rt r=>Rt r:=by
 unfold pg;rw[aG hm];exact Dt Inv Go Rt m h hg m 0 s (by omega) h0
theorem Du{body:Nat->S->Option S}(Inv:Nat->S->Prop)(m:Nat)(h:∀k s,k<m->Inv k s->∃s',body k s=some s'/\Inv (k+1) s'):
  ∀(n k:Nat)(s:S),k+n=m->Inv k s->∃s',Ef body n k s=some s'/\Inv m s'
 | 0,k,s,hk,hi=>⟨_,rfl,by rw[<-hk];exact hi⟩
 |n+1,k,s,hk,hi=>by
  obtain⟨s',hb,hf⟩:=h k s (by omega) hi;unfold Ef;rw[hb];exact Du Inv m h n (k+1) s' (by omega) hf
theorem yt{body:Nat->S->Option S}{m:Nat}{s:S}(Inv:Nat->S->Prop)(hm:m<=4611686018427387904)(h0:Inv 0 s)
  (h:∀k s,k<m->Inv k s->∃s',body k s=some s'/\Inv (k+1) s'):∃s',gN m body s=some s'/\Inv m s':=by
 unfold gN;rw[aG hm];exact Du Inv m h m 0 s (by omega) h0
end
section
variable {α β:Type}
theorem aB(x:α)(f:α->Option β):(some x).bind f=f x:=rfl
theorem gL(l:List α)(k:Nat)(h:k<l.length):idx l ((k:Nat):Int)=some l[k]:=by
 unfold idx;rw[aG (by omega),cT,aK h]
theorem eW{l:List α}{k:Nat}{x:α}(h:l[k]? =some x):idx l ((k:Nat):Int)=some x:=by
 unfold idx;rw[aG (by omega),cT,h]
theorem Iz(s:bG)(k:Nat)(h:k<s.bX.length):Gi s ((k:Nat):Int)=some s.bX[k]:=by
 unfold Gi;rw[aG (by omega),cT,aK h]
theorem lE{k:Nat}(h:0<k)(hk:k<=4611686018427387904):wrap .i64 (((k:Nat):Int) - 1)=((k - 1:Nat):Int):=by
 rw[eG (by omega) (by omega)];omega
theorem qA(l:List α)(k:Nat)(h:k<=l.length):u3 l 0 ((k:Nat):Int)=some (l.take k):=by
 unfold u3;rw[aG ⟨by omega,by omega,by omega⟩];simp only[Int.toNat_zero,List.drop_zero,Int.sub_zero,cT]
theorem wi(l:List α)(k:Nat)(h:k<=l.length):u3 l ((k:Nat):Int) ((l.length:Nat):Int)=some (l.drop k):=by
 unfold u3;rw[aG ⟨by omega,by omega,by omega⟩];simp only[cT,Option.some.injEq];rw[px];rw[lk];omega
theorem gu{b:Nat}{l ys:List α}(h:(l.length+ys.length)*b<=140737488355328):app b l ys=some (l++ys):=by unfold app;rw[aG h]
theorem wj{b:Nat}(z:α){n:Nat}(h:n*b<=140737488355328):mk b z ((n:Nat):Int)=some (List.replicate n z):=by
 unfold mk;have e:((n:Nat):Int)*((b:Nat):Int)=((n*b:Nat):Int):=(Int.natCast_mul n b).symm;rw[e];generalize n*b=q at h ⊢;rw[aG ⟨by omega,by omega⟩,cT]
end
theorem bG.ext'{a b:bG}(h:a.bX=b.bX):a=b:=by cases a;cases b;simp at h;rw[h]
theorem pI{a b:bG}:a.pW b=true↔a=b:=by
 unfold bG.pW;rw[beq_iff_eq];exact⟨bG.ext',λh=>by rw[h]⟩
theorem oD{a b:bG}:a.pW b=false↔a≠b:=by rw[<-ju,pI]
theorem FR(a b:bG):a.pW b=decide (a=b):=by rw[g9,pI];simp
theorem xW:∀(a:List UInt8),Op.bytesLess a a=false
 | []=>rfl
 |a::l=>by
  unfold Op.bytesLess;rw[xW l];simp
theorem za:∀{a b c:List UInt8},Op.bytesLess a b=true->Op.bytesLess b c=true->Op.bytesLess a c=true
 | [],[],_,h,_=>by simp[Op.bytesLess]at h
 | [],_::_,[],_,h=>by simp[Op.bytesLess]at h
 | [],_::_,_::_,_,_=>rfl
 |_::_,[],_,h,_=>by simp[Op.bytesLess]at h
 |_::_,_::_,[],_,h=>by simp[Op.bytesLess]at h
 |a::l,b::m,c::n,h1,h2=>by
  unfold Op.bytesLess at h1 h2 ⊢;simp only[fG,cN,dN,beq_iff_eq]at h1 h2 ⊢
  rcases h1 with h1|⟨rfl,h1⟩
  ·rcases h2 with h2|⟨rfl,h2⟩
   ·exact .inl<|UInt8.lt_trans h1 h2
   ·exact .inl h1
  ·rcases h2 with h2|⟨rfl,h2⟩
   ·exact .inl h2
   ·exact .inr ⟨rfl,za h1 h2⟩
theorem zb:∀(a b:List UInt8),Op.bytesLess a b=true\/a=b\/Op.bytesLess b a=true
 | [],[]=> .inr (.inl rfl)
 | [],_::_=> .inl rfl
 |_::_,[]=> .inr (.inr rfl)
 |a::l,b::m=>by
  unfold Op.bytesLess;simp only[fG,cN,dN,beq_iff_eq]
  by_cases h1:a<b
  ·exact .inl<|.inl h1
  ·by_cases h2:b<a
   ·exact .inr<|.inr<|.inl h2
   ·have e:a=b:=by
     simp only[UInt8.lt_iff_toNat_lt]at h1 h2;exact UInt8.toNat_inj.1 (by omega)
    subst e
    rcases zb l m with h|h|h
    ·exact .inl<|.inr ⟨rfl,h⟩
    ·exact .inr<|.inl (by rw[h])
    ·exact .inr<|.inr<|.inr ⟨rfl,h⟩
theorem m6:∀(a b:List UInt8),Lib.compareBytes a b<0↔Op.bytesLess a b=true
 | [],[]=>by simp[Lib.compareBytes,Op.bytesLess]
 | [],_::_=>by simp[Lib.compareBytes,Op.bytesLess]
 |_::_,[]=>by simp[Lib.compareBytes,Op.bytesLess]
 |a::l,b::m=>by
  unfold Lib.compareBytes Op.bytesLess;simp only[fG,cN,dN,beq_iff_eq];split
  ·simp_all
  ·rename_i h1;split
   ·rename_i h2;have h3:a≠b:=λe=>by subst e;exact h1 h2
    simp[h1,h3]
   ·rename_i h2;have e:a=b:=by
     simp only[UInt8.lt_iff_toNat_lt]at h1 h2;exact UInt8.toNat_inj.1 (by omega)
    subst e;rw[m6 l m];simp[h1]
theorem i5:∀(a b:List UInt8),Lib.compareBytes a b=0↔a=b
 | [],[]=>by simp[Lib.compareBytes]
 | [],_::_=>by simp[Lib.compareBytes]
 |_::_,[]=>by simp[Lib.compareBytes]
 |a::l,b::m=>by
  unfold Lib.compareBytes;split
  ·rename_i h1;have h3:a≠b:=λe=>by subst e;exact absurd h1 (by simp)
   simp[h3]
  ·rename_i h1;split
   ·rename_i h2;have h3:a≠b:=λe=>by subst e;exact h1 h2
    simp[h3]
   ·rename_i h2;have e:a=b:=by
     simp only[UInt8.lt_iff_toNat_lt]at h1 h2;exact UInt8.toNat_inj.1 (by omega)
    subst e;rw[i5 l m];simp
def bG.lt(a b:bG):Prop:=a.wT b=true
theorem bG.lt_irrefl(a:bG):¬bG.lt a a:=by unfold bG.lt bG.wT;rw[xW];decide
theorem bG.lt_trans{a b c:bG}(h1:bG.lt a b)(h2:bG.lt b c):bG.lt a c:=za h1 h2
theorem bG.qB(a b:bG):bG.lt a b\/a=b\/bG.lt b a:=by
 rcases zb a.bX b.bX with h|h|h
 ·exact .inl h
 ·exact .inr<|.inl<|bG.ext' h
 ·exact .inr<|.inr h
theorem bG.zc{a b:bG}(h:bG.lt a b):a≠b:=λe=>by subst e;exact bG.lt_irrefl a h
theorem bG.lt_asymm{a b:bG}(h:bG.lt a b):¬bG.lt b a:=λh'=>bG.lt_irrefl a<|bG.lt_trans h h'
theorem FT{a b:bG}:(a.wT b||a.pW b)=false↔bG.lt b a:=by
 rw[Bool.or_eq_false_iff,oD];constructor
 ·rintro⟨h1,h2⟩
  rcases bG.qB a b with h|h|h
  ·unfold bG.lt at h;rw[h1]at h;cases h
  ·exact absurd h h2
  ·exact h
 ·intro h;refine⟨?_,λe=>bG.zc h e.symm⟩;rw[<-ju];exact λh'=>bG.lt_asymm h h'
end Go.Gk
namespace Go.Gk
open Go IntKind
class Bk (α:Type)where
 bk:α->Nat
 pos:∀x,1<=bk x
def bk{α:Type}[Bk α](x:α):Nat:=Bk.bk x
theorem IA{α:Type}[Bk α](x:α):1<=bk x:=Bk.pos x
instance:Bk bG:=⟨λs=>s.bX.length+1,λ_=>by omega⟩
instance:Bk Int:=⟨λ_=>1,λ_=>by omega⟩
instance:Bk Bool:=⟨λ_=>1,λ_=>by omega⟩
instance {α:Type} [Bk α]:Bk (List α):=⟨λl=>(l.map bk).sum+1,λ_=>by omega⟩
theorem IB{α:Type}[Bk α]:bk ([]:List α)=1:=rfl
theorem B4{α:Type}[Bk α](x:α)(l:List α):bk (x::l)=bk x+bk l:=by
 show(List.map bk<|x::l).sum+1=bk x+((List.map bk l).sum+1);simp;omega
theorem m7{α:Type}[Bk α]:∀{l:List α}{x:α},x∈l->bk x+1<=bk l
 |y::l,x,h=>by
  rw[B4]
  rcases gk.1 h with h|h
  ·subst h;have:=IA l;omega
  ·have:=m7 h;omega
theorem ED{α:Type}[Bk α]{l:List α}{k:Nat}{x:α}(h:l[k]? =some x):bk x+1<=bk l:=m7<|eM h
theorem mL{α:Type}[Bk α]:∀(l:List α),l.length+1<=bk l
 | []=>by rw[IB];simp
 |x::l=>by rw[B4,fY];have:=mL l;have:=IA x;omega
theorem m8(s:bG):bk s=s.bX.length+1:=rfl
section
variable {α R:Type}
theorem GJ{l:List α}{e:Nat->Option R}(f:α->Option R)(h:∀k x,l[k]? =some x->e k=f x):ki l.length e=l.findSome? f:=by
 cases hx:ki l.length e with
 |none=>
  refine(List.findSome?_eq_none_iff.2 λx hm=>?_).symm;obtain⟨k,hk⟩:=eA hm;rw[<-h k x hk];exact jq.1 hx k (bI.1 hk).1
 |some r=>
  obtain⟨k,hk,he,hn⟩:=iN.1 hx;refine(List.findSome?_eq_some_iff.2 ⟨l.take k,l[k],l.drop<|k+1,?_,?_,λy hy=>?_⟩).symm
  ·rw[<-pA hk,List.take_append_drop]
  ·rw[<-h k l[k] (aK hk)];exact he
  ·obtain⟨j,hj⟩:=eA hy;have hjk:j<k:=by have:=(bI.1 hj).1;rw[cZ]at this;omega
   rw[List.getElem?_take_of_lt hjk]at hj;rw[<-h j y hj];exact hn j hjk
theorem B5(l:List α)(p:α->Bool)(r:R):l.findSome? (λx=>if p x=true then some r else none)=if l.any p=true then some r else none:=by
 induction l with
 |nil=>simp
 |cons x l ih=>
  rw[List.findSome?_cons,List.any_cons]
  cases h:p x <;> simp[ih]
theorem zd{l:List α}{body:Nat->Unit->Option (Fl Unit R)}(f:α->Option R)(hl:l.length<=4611686018427387904)
  (h:∀k x,l[k]? =some x->body k ()=some (Aq (f x) ())):pg l.length body ()=some (B3 (l.findSome? f) ()):=by
 have h2:=kW (body:=body) (m:=l.length) (λk=>(l[k]?).bind f) hl (λk hk _=>by
  rw[h k l[k] (aK hk),aK hk];rfl)
 rw[h2,GJ f (λk x hx=>by rw[hx];rfl)]
theorem Kd{l:List α}{body:Nat->Unit->Option (Fl Unit R)}(p:α->Bool)(r:R)(hl:l.length<=4611686018427387904)
  (h:∀k x,l[k]? =some x->body k ()=some (if p x=true then .rt r else .nx ())):pg l.length body ()=some (if l.any p=true then .rt r else .go ()):=by
 rw[zd (λx=>if p x=true then some r else none) hl (λk x hx=>by rw[h k x hx];cases p x <;> rfl),B5]
 cases l.any p <;> rfl
end
theorem Ke{β:Type}(b:Bool)(x y:β):(bif b then some x else some y)=some (bif b then x else y):=by cases b <;> rfl
section
variable {α β:Type}
def B6(l:List α)(p:α->Bool):Int:=match l.findIdx? p with|some k=>((k:Nat):Int)|none=> -1
theorem ze{l:List α}{p:α->Bool}(h:l.any p=false):B6 l p = -1:=by
 unfold B6;rw[List.findIdx?_eq_none_iff.2];intro x hx;rw[<-ju];intro hp;rw[<-ju]at h;exact h<|ln.2 ⟨x,hx,hp⟩
theorem Dv{l:List α}{p:α->Bool}{k:Nat}{x:α}(hk:l[k]? =some x)(hp:p x=true)(hn:∀j y,j<k->l[j]? =some y->p y=false):B6 l p=((k:Nat):Int):=by
 unfold B6;have hlt:=(bI.1 hk).1;have:l.findIdx? p=some k:=by
  rw[List.findIdx?_eq_some_iff_getElem];refine⟨hlt,?_,λj hj=>?_⟩
  ·have:=aK hlt;rw[hk]at this;injection this with this;rw[<-this];exact hp
  ·have:=hn j l[j] hj<|aK (by omega);simpa using this
 rw[this]
theorem lF(l:List α)(p:α->Bool):(B6 l p = -1/\∀x∈l,p x=false)\/∃k x,B6 l p=((k:Nat):Int)/\l[k]? =some x/\p x=true/\∀j y,j<k->l[j]? =some y->p y=false:=by
 unfold B6
 cases h:l.findIdx? p with
 |none=>exact .inl ⟨rfl,λx hx=>by have:=List.findIdx?_eq_none_iff.1 h x hx;simpa using this⟩
 |some k=>
  obtain⟨hk,hp,hn⟩:=List.findIdx?_eq_some_iff_getElem.1 h;refine .inr ⟨k,l[k],rfl,aK hk,hp,λj y hj hy=>?_⟩;have:=hn j hj;rw[aK (by omega)]at hy;injection hy with hy
  subst hy;simpa using this
theorem EE(l:List α)(p:α->Bool):decide (B6 l p>=0)=l.any p:=by
 rcases lF l p with⟨h,hn⟩|⟨k,x,h,hx,hp,_⟩
 ·rw[h,List.any_eq_false.2 (λx hx=>by rw[hn x hx];decide)];decide
 ·rw[h,ln.2 ⟨x,eM hx,hp⟩];simp
def ry(p0:List α)(p1:α->Option Bool):Option Int:=
 (pg p0.length (λ(k1:Nat)(_:Unit)=>((idx p0 ((k1:Nat):Int)).bind λx7=>(p1 x7).bind λx10=>bif x10 then some (.rt ((k1:Nat):Int))else(some<|.nx ()):Option (Fl Unit Int))) ()).bind λo11=>o11.cs (λ(_:Unit)=>some<|-1)<|λr=>some r
theorem uL{l:List α}{φ:α->Option Bool}(p:α->Bool)(hl:l.length<=4611686018427387904)(h:∀x∈l,φ x=some (p x)):ry l φ=some (B6 l p):=by
 unfold ry
 rw[kW (λk=>(l[k]?).bind λx=>if p x=true then some ((k:Nat):Int)else none) hl (λk hk _=>by
  rw[gL l k hk,aB,h _<|cU hk,aB,aK hk]
  cases hp:p l[k] <;> simp[Aq,hp]),aB]
 rcases lF l p with⟨h1,h2⟩|⟨k,x,h1,h2,h3,h4⟩
 ·rw[jq.2 (λk hk=>by rw[aK hk];simp[h2 _<|cU hk])];simp[B3,Fo.cs,h1]
 ·rw[(iN (r:=((k:Nat):Int))).2 ⟨k,(bI.1 h2).1,by rw[h2];simp[h3],λj hj=>by
   cases hy:l[j]? with
   |none=>rfl
   |some y=>simp[h4 j y hj hy]⟩]
  simp[B3,Fo.cs,h1]
def nB(p0:List α)(p1:α->Option Bool):Option Bool:=
 (ry p0 p1).bind λx1=>some<|decide<|x1>=0
theorem m9{l:List α}{φ:α->Option Bool}(p:α->Bool)(hl:l.length<=4611686018427387904)(h:∀x∈l,φ x=some (p x)):nB l φ=some (l.any p):=by
 unfold nB;rw[uL p hl h,aB,EE]
def EF [DecidableEq α](p0 p1:List α):Option Bool:=
 bif((p0.length:Nat):Int) != ((p1.length:Nat):Int)then some false else((pg p0.length (λ(k1:Nat)(_:Unit)=>((idx p0 ((k1:Nat):Int)).bind λx13=>(idx p1 ((k1:Nat):Int)).bind λx16=>bif(!(decide<|x13=x16))then some (.rt false)else(some<|.nx ()):Option (Fl Unit Bool))) ()).bind λo23=>o23.cs (λ(_:Unit)=>some true)<|λr=>some r)
theorem A6 [DecidableEq α]{l m:List α}(hl:l.length<=4611686018427387904):EF l m=some (decide<|l=m):=by
 unfold EF
 by_cases h:l.length=m.length
 ·have e:(((l.length:Nat):Int) != ((m.length:Nat):Int))=false:=by rw[h];simp
  rw[e,bF]
  rw[kW (λk=>if l[k]? =m[k]? then none else some false) hl (λk hk _=>by
   rw[gL l k hk,aB,gL m k (by omega),aB,aK hk,aK (by omega:k<m.length)]
   by_cases hx:l[k]=m[k] <;> simp[Aq,hx]),aB]
  by_cases hx:l=m
  ·subst hx;rw[jq.2<|λk _=>aG rfl];simp[B3,Fo.cs]
  ·have:∃r,ki l.length (λk=>if l[k]? =m[k]? then none else some false)=some r:=by
    cases hf:ki l.length (λk=>if l[k]? =m[k]? then none else some false)with
    |some r=>exact⟨r,rfl⟩
    |none=>
     exfalso;refine hx<|List.ext_getElem? λi=>?_
     by_cases hi:i<l.length
     ·have:=jq.1 hf i hi
      by_cases h6:l[i]? =m[i]?
      ·exact h6
      ·rw[aF h6]at this;cases this
     ·rw[List.getElem?_eq_none (by omega),List.getElem?_eq_none (by omega)]
   obtain⟨r,hr⟩:=this;have hr2:r=false:=by
    obtain⟨k,_,hk,_⟩:=iN.1 hr;split at hk
    ·cases hk
    ·injection hk with hk;exact hk.symm
   rw[hr,hr2];simp[B3,Fo.cs,hx]
 ·have e:(((l.length:Nat):Int) != ((m.length:Nat):Int))=true:=by simp;omega
  rw[e,aR,cB<|λh'=>h (by rw[h'])]
def Sorted(key:α->bG)(l:List α):Prop:=∀(i j:Nat)(x y:α),i<j->l[i]? =some x->l[j]? =some y->bG.lt (key x) (key y)
theorem GK{key:α->bG}{l:List α}(h:∀k x y,l[k]? =some x->l[k+1]? =some y->bG.lt (key x) (key y)):Sorted key l:=by
 intro i j
 induction j with
 |zero=>intro x y hij;omega
 |succ j ih=>
  intro x y hij hx hy
  by_cases e:i=j
  ·subst e;exact h i x y hx hy
  ·have hj:j<l.length:=by have:=(bI.1 hy).1;omega
   exact bG.lt_trans (ih x l[j] (by omega) hx<|aK hj)<|h j l[j] y (aK hj) hy
theorem Sorted.inj{key:α->bG}{l:List α}(h:Sorted key l){i j:Nat}{x y:α}(hx:l[i]? =some x)(hy:l[j]? =some y)(e:key x=key y):i=j:=by
 rcases Nat.lt_trichotomy i j with h1|h1|h1
 ·exact absurd e<|bG.zc<|h i j x y h1 hx hy
 ·exact h1
 ·exact absurd e.symm<|bG.zc<|h j i y x h1 hy hx
def nat?(key:α->bG)(l:List α)(s:bG):Int:=B6 l<|λx=>(key x).pW s
def Ar(N:Nat)(p0:List α)(p1:β)(p2:α->β->Option Int):Option (Int×Bool):=
 (mZ (λ(s2:Int×Int)=>(bif decide (s2.1<s2.2)then((idx p0<|wrap .i64<|Int.fdiv (wrap .u64<|wrap .i64<|s2.1+s2.2) 2).bind λx13=>(p2 x13 p1).bind λx16=>(bif decide (x16<0)then some (wrap .i64<|wrap .i64 (Int.fdiv (wrap .u64<|wrap .i64<|s2.1+s2.2) 2)+1,s2.2)else some (s2.1,wrap .i64<|Int.fdiv (wrap .u64<|wrap .i64<|s2.1+s2.2) 2)).bind λs17=>some<|.nx (s17.1,s17.2))else(some<|.br (s2.1,s2.2)):Option (Fl (Int×Int) Empty))) N (0,((p0.length:Nat):Int))).bind λo29=>o29.cs (λ(s2:Int×Int)=>(bif decide (s2.1<((p0.length:Nat):Int))then((idx p0 s2.1).bind λx25=>(p2 x25 p1).bind λx28=>some<|x28==0)else some false).bind λs23=>some (s2.1,s23))<|λr=>r.elim
theorem A7{a b:Nat}(h:a<b)(hb:b<=4611686018427387904):wrap .i64 (Int.fdiv (wrap .u64<|wrap .i64<|((a:Nat):Int)+((b:Nat):Int)) 2)=(((a+b) / 2:Nat):Int):=by
 rw[eG (x:=((a:Nat):Int)+((b:Nat):Int)) (by omega) (by omega)];have e:wrap .u64 (((a:Nat):Int)+((b:Nat):Int))=((a+b:Nat):Int):=by
  show((a:Int)+b) % 18446744073709551616=_;omega
 rw[e,Int.fdiv_eq_ediv_of_nonneg _ (by omega),eG (by omega) (by omega)];omega
theorem B7{N:Nat}{key:α->bG}{l:List α}{s:bG}{φ:α->bG->Option Int}(hφ:∀x,φ x s=some (Lib.compareBytes (key x).bX s.bX))(hs:Sorted key l)
  (hl:l.length<=1048576) (hN:4194304<=N):∃r,Ar N l s φ=some r/\(bif(!r.2)then some (-1)else some r.1)=some (nat? key l s):=by
 unfold Ar;have h:=t5 (S:=Int×Int) (R:=Empty)
  (body:=(λ(s2:Int×Int)=>(bif decide (s2.1<s2.2)then((idx l<|wrap .i64<|Int.fdiv (wrap .u64<|wrap .i64<|s2.1+s2.2) 2).bind λx13=>(φ x13 s).bind λx16=>(bif decide (x16<0)then some (wrap .i64<|wrap .i64 (Int.fdiv (wrap .u64<|wrap .i64<|s2.1+s2.2) 2)+1,s2.2)else some (s2.1,wrap .i64<|Int.fdiv (wrap .u64<|wrap .i64<|s2.1+s2.2) 2)).bind λs17=>some<|.nx (s17.1,s17.2))else(some<|.br (s2.1,s2.2)):Option (Fl (Int×Int) Empty))))
  (λst=>∃a b:Nat,st=(((a:Nat):Int),((b:Nat):Int))/\a<=b/\b<=l.length/\(∀j x,j<a->l[j]? =some x->bG.lt (key x) s)/\(∀j x,b<=j->l[j]? =some x->¬bG.lt (key x) s))
  (λst=>(st.2 - st.1).toNat)
  (λst=>∃a:Nat,st.1=((a:Nat):Int)/\a<=l.length/\(∀j x,j<a->l[j]? =some x->bG.lt (key x) s)/\(∀j x,a<=j->l[j]? =some x->¬bG.lt (key x) s))
  (λ_=>True) (by
   rintro st⟨a,b,rfl,hab,hb,h1,h2⟩
   by_cases hlt:a<b
   ·have hm:(a+b) / 2<l.length:=by omega
    have hd:decide (((a:Nat):Int)<((b:Nat):Int))=true:=by rw[dN];omega
    simp only[hd,aR,A7 hlt (by omega:b<=4611686018427387904),gL l _ hm,aB,hφ]
    by_cases hc:Lib.compareBytes (key l[(a+b) / 2]).bX s.bX<0
    ·have hc':bG.lt (key l[(a+b) / 2]) s:=(m6 _ _).1 hc;simp only[hc,decide_true,aR,aB];refine⟨_,rfl,⟨(a+b) / 2+1,b,?_,by omega,hb,λj x hj hx=>?_,h2⟩,?_⟩
     ·rw[eG (by omega) (by omega)];simp
     ·by_cases e:j=(a+b) / 2
      ·subst e;rw[aK hm]at hx;injection hx with hx;subst hx;exact hc'
      ·exact bG.lt_trans (hs j _ x _ (by omega) hx<|aK hm) hc'
     ·rw[eG (by omega) (by omega)];simp only;omega
    ·have hc':¬bG.lt (key l[(a+b) / 2]) s:=λh=>hc<|(m6 _ _).2 h
     simp only[hc,decide_false,bF,aB];refine⟨_,rfl,⟨a,(a+b) / 2,rfl,by omega,by omega,h1,λj x hj hx=>?_⟩,by simp only;omega⟩
     by_cases e:j=(a+b) / 2
     ·subst e;rw[aK hm]at hx;injection hx with hx;subst hx;exact hc'
     ·exact λh3=>hc'<|bG.lt_trans (hs _ j _ x (by omega) (aK hm) hx) h3
   ·have hd:decide (((a:Nat):Int)<((b:Nat):Int))=false:=by rw[decide_eq_false_iff_not];omega
    simp only[hd,bF]
    exact⟨_,rfl,a,rfl,by omega,h1,λj x hj hx=>h2 j x (by omega) hx⟩)
  N (0,((l.length:Nat):Int)) ⟨0,l.length,rfl,by omega,bU _,λj x hj=>by omega,λj x hj hx=>by have:=(bI.1 hx).1;omega⟩ (by simp only;omega)
 obtain⟨o,ho,hc⟩:=h;rw[ho,aB]
 cases o with
 |rt r=>exact r.elim
 |go st=>
  obtain⟨a,ha,hle,h1,h2⟩:=hc;simp only[Fo.cs,ha]
  by_cases hlt:a<l.length
  ·have hd:decide (((a:Nat):Int)<((l.length:Nat):Int))=true:=by rw[dN];omega
   simp only[hd,aR,gL l _ hlt,aB,hφ];refine⟨_,rfl,?_⟩
   by_cases he:key l[a]=s
   ·have e0:Lib.compareBytes (key l[a]).bX s.bX=0:=(i5 _ _).2 (by rw[he]);simp only[e0,BEq.rfl,py,bF];unfold nat?;rw[Dv (aK hlt) (pI.2 he) (λj y hj hy=>by rw[oD];exact bG.zc<|h1 j y hj hy)]
   ·have e0:(Lib.compareBytes (key l[a]).bX s.bX==0)=false:=by
     rw[beq_eq_false_iff_ne];intro h;exact he<|bG.ext'<|(i5 _ _).1 h
    simp only[e0,pz,aR];unfold nat?;rw[ze];rw[List.any_eq_false];intro x hx;rw[ju,oD];obtain⟨j,hj⟩:=eA hx;intro hk
    by_cases hja:j<a
    ·exact bG.zc (h1 j x hja hj) hk
    ·by_cases e:j=a
     ·subst e;rw[aK hlt]at hj;injection hj with hj;subst hj;exact he hk
     ·have h3:=hs a j _ x (by omega) (aK hlt) hj;rw[hk]at h3;exact h2 a _ (bU _) (aK hlt) h3
  ·have hd:decide (((a:Nat):Int)<((l.length:Nat):Int))=false:=by rw[decide_eq_false_iff_not];omega
   simp only[hd,bF,aB];refine⟨_,rfl,?_⟩;simp only[pz,aR];unfold nat?;rw[ze];rw[List.any_eq_false];intro x hx;rw[ju,oD];obtain⟨j,hj⟩:=eA hx;have:=(bI.1 hj).1;exact bG.zc<|h1 j x (by omega) hj
def jh(key:α->bG)(l:List α)(k:Nat):Bool:=match l[k]?,l[k - 1]? with|some x,some y=>decide (0<k)&&((key x).wT (key y)||(key x).pW (key y))|_,_=>false
theorem B8(key:α->bG){l:List α}{k:Nat}{x:α}(hx:l[k]? =some x)(hl:l.length<=1048576):
  (bif decide (((k:Nat):Int)>0)then((idx l<|wrap .i64<|((k:Nat):Int) - 1).bind λy=>some<|(key x).wT (key y)||(key x).pW (key y))else some false)=some (jh key l k):=by
 have hk:=(bI.1 hx).1;unfold jh
 by_cases h0:0<k
 ·rw[cG (by omega),aR,lE h0 (by omega),gL l _ (by omega),aB,hx,aK (by omega:k - 1<l.length)];simp[h0]
 ·have:k=0:=by omega
  subst this;rw[hx];simp
theorem nC{key:α->bG}{l:List α}(h:∀k,k<l.length->jh key l k=false):Sorted key l:=GK λk x y hx hy=>by
 have hk:=(bI.1 hy).1;have:=h (k+1) hk;unfold jh at this;rw[hy,Nat.add_sub_cancel,hx]at this;simp only[Nat.zero_lt_succ,decide_true,Bool.true_and]at this;exact FT.1 this
end
end Go.Gk
namespace Go.Gk
open Go IntKind Go.ChangeShapes Go.WideShapes Go.RowKit
structure UB (ub:(H:Type)->DataW H->Nat) (ua:(H:Type)->List (DataW H)->Nat):Prop where
 str:∀(H:Type)(b:List UInt8),ub H (.lit<|.string b)=b.length+1
 pos:∀(H:Type)(d:DataW H),1<=ub H d
 sl:∀(H:Type)(e s:List (DataW H)),ub H (.slice e s)=ua H e+ua H s+1
 ag:∀(H:Type)(l:List (DataW H)),ub H (.agg l)=ua H l+1
 nil:∀(H:Type),ua H []=0
 cons:∀(H:Type)(x:DataW H)(l:List (DataW H)),ua H (x::l)=ub H x+ua H l
def Hw(w:World):dJ:=λb=>w.heap[b]?
structure fV (ub:(H:Type)->DataW H->Nat) (P:Program) (T:TypeId) (α:Type) [GT α] [Bk α]:Prop where
 trod:∀{H:Type}{enc:TypeId×Value->H}{w:World}{base:Nat}{spare:Nat->Bool}{held:Bool}{fuel:Nat}{cs:List Value}{d:DataW H×List MemPlace},
  DataW.trod enc P w base spare held fuel T cs=some d->∃x:α,GT.ok (Hw w) cs x/\bk x<=ub H d.1
 M4:∀{w:World}{r:Reach}{base:Nat}{v:Value},Value.okWide P w r base T v->v=uT α v.cells.toList
section
variable {ub:(H:Type)->DataW H->Nat}{ua:(H:Type)->List (DataW H)->Nat}{P:Program}{T e:TypeId}
theorem GL(u:UB ub ua)(ht:P.underlying T=some (.int .i64)):fV ub P T Int where
 trod:=λh=>by
  obtain⟨n,rfl,rfl,_⟩:=DataW.trod_int ht h;exact⟨n,rfl,u.pos _ _⟩
 M4:=λh=>by obtain⟨n,rfl⟩:=okWide_int ht h;rfl
theorem EG(u:UB ub ua)(ht:P.underlying T=some .bool):fV ub P T Bool where
 trod:=λh=>by
  obtain⟨n,rfl,rfl⟩:=DataW.trod_bool ht h;exact⟨n,rfl,u.pos _ _⟩
 M4:=λh=>by obtain⟨n,rfl⟩:=okWide_bool ht h;rfl
theorem GM(u:UB ub ua)(ht:P.underlying T=some .string):fV ub P T bG where
 trod:=λh=>by
  obtain⟨s,rfl,rfl,_⟩:=DataW.trod_string ht h;refine⟨⟨s.data.toList⟩,?_,?_⟩
  ·show [Value.string s]= [Gk.str ⟨s.data.toList⟩]
   cases s;rfl
  ·rw[u.str];exact bU _
 M4:=λh=>by obtain⟨n,rfl⟩:=okWide_string ht h;rfl
theorem xX{α:Type}{R:Nat->α->Prop}:∀(n:Nat),(∀i,i<n->∃x,R i x)->∃l:List α,l.length=n/\∀i x,l[i]? =some x->R i x
 | 0,_=>⟨[],rfl,λi x h=>by simp at h⟩
 |n+1,h=>by
  obtain⟨l,h1,h2⟩:=xX n<|λi hi=>h i (by omega)
  obtain⟨x,hx⟩:=h n (by omega);refine⟨l++[x],by simp[h1],λi y hy=>?_⟩
  by_cases hi:i<n
  ·rw[g8 (by omega)]at hy;exact h2 i y hy
  ·have:=(bI.1 hy).1;rw[dE]at this;have:i=n:=by simp at this;omega
   subst this;rw[gE (by omega),h1]at hy;simp at hy;subst hy;exact hx
theorem A8{H α:Type}[Bk α](u:UB ub ua):∀{l:List α}{es:List (DataW H×List MemPlace)},l.length=es.length->
  (∀(i:Nat)(x:α)(y:DataW H×List MemPlace),l[i]? =some x->es[i]? =some y->bk x<=ub H y.1)->bk l<=ua H (es.map (·.1))+1
 | [],[],_,_=>by rw[IB];omega
 |x::l,y::es,hl,h=>by
  have h1:=h 0 x y rfl rfl;have h2:=A8 (H:=H) u (l:=l) (es:=es) (by simpa using hl)<|λi x y hx hy=>h (i+1) x y (by simpa using hx) (by simpa using hy)
  rw[B4,eF,u.cons];omega
theorem Dw{w:World}{base:Nat}{a:Addr}{n:Nat}{cs:List Value}(h:w.cells? base a n=some cs):At (Hw w) a cs:=by
 intro j v hv;obtain⟨_,hlen,hc⟩:=World.cells?_some h;have hj:=(bI.1 hv).1;have h2:=hc j (by omega);rw[hv]at h2;unfold vE Hw;unfold World.cell? at h2;exact h2
theorem jO{α:Type}[GT α][Bk α](u:UB ub ua)(he:fV ub P e α)(ht:P.underlying T=some (.slice e):=by kernel_rfl)(hc:P.cellsOf e=GT.sz α:=by kernel_rfl):fV ub P T (List α)where
 trod:=λ{H enc w base spare held fuel cs d}h=>by
  rcases DataW.trod_slice ht h with⟨rfl,rfl⟩|⟨a,len,cap,elems,rest,n,_,rfl,rfl,_,hlc,hcm,hlen,hel,_⟩
  ·exact⟨[],⟨_,rfl,none,0,0,rfl,rfl,bU _,by simp[maxLen],λi x hx=>by simp at hx⟩,u.pos _ _⟩
  ·have each:∀i,i<len->∃x:α,(∃c y,GT.ok (Hw w) c x/\At (Hw w) (a.add<|i*GT.sz α) c/\elems[i]? =some y/\bk x<=ub H y.1):=by
    intro i hi;have h1:=hel i hi;rw[aK (by omega:i<elems.length),Option.bind_eq_some_iff]at h1;obtain⟨c,h2,h3⟩:=h1;obtain⟨x,h4,h5⟩:=he.trod h3;refine⟨x,c,_,h4,?_,aK (by omega),h5⟩;rw[hc]at h2;exact Dw h2
   obtain⟨l,hl,hr⟩:=xX len each;refine⟨l,⟨_,rfl,some a,len,cap,rfl,hl.symm,hlc,hcm,λi x hx=>?_⟩,?_⟩
   ·obtain⟨c,y,h1,h2,_⟩:=hr i x hx;exact⟨a,c,rfl,h1,h2⟩
   ·have:=A8 (H:=H) u (l:=l) (es:=elems) (by omega) (λi x y hx hy=>by
     obtain⟨c,y',_,_,h3,h4⟩:=hr i x hx
     rw[hy]at h3;injection h3 with h3;subst h3;exact h4)
    rw[u.sl];omega
 M4:=λh=>by obtain⟨a,n,c,rfl⟩:=okWide_slice ht h;rfl
def FU(ub:(H:Type)->DataW H->Nat)(ua:(H:Type)->List (DataW H)->Nat)(P:Program)(off:Nat)(fs:List Field)(β:Type)[GT β](m:β->Nat):Prop:=
 ∀{H:Type}{enc:TypeId×Value->H}{w:World}{base:Nat}{spare:Nat->Bool}{held:Bool}{n:Nat}{cs:List Value}{ys:List (DataW H×List MemPlace)},
  (∀(i:Nat)(f:Field),fs[i]? =some f->DataW.trod enc P w base spare held n f.type ((cs.drop f.offset).take<|P.cellsOf f.type)=ys[i]?)->ys.length=fs.length->
  cs.length=off+GT.sz β->∃x:β,GT.ok (Hw w) (cs.drop off) x/\m x<=ua H (ys.map (·.1))
theorem jX{β:Type}[GT β][Bk β]{off:Nat}{f:Field}(u:UB ub ua)(h:fV ub P f.type β)(ho:f.offset=off:=by exact rfl)(hc:P.cellsOf f.type=GT.sz β:=by kernel_rfl):FU ub ua P off [f] β bk:=by
 intro H enc w base spare held n cs ys hf hl hcs
 match ys,hl with
 | [y],_=>
  have h1:=hf 0 f rfl;rw[ho,hc,px (by rw[lk];omega)]at h1;obtain⟨x,h2,h3⟩:=h.trod (d:=y) h1;exact⟨x,h2,by rw[eF,u.cons];omega⟩
theorem dI{α β:Type}[GT α][GT β][Bk α]{off off':Nat}{f:Field}{fs:List Field}{m:β->Nat}(u:UB ub ua)(h:fV ub P f.type α)(hr:FU ub ua P off' fs β m)(ho:f.offset=off:=by exact rfl)(hc:P.cellsOf f.type=GT.sz α:=by kernel_rfl)(hoff:off'=off+GT.sz α:=by exact rfl):FU ub ua P off (f::fs) (α×β) (λx=>bk x.1+m x.2):=by
 intro H enc w base spare held n cs ys hf hl hcs;have hsz:GT.sz (α×β)=GT.sz α+GT.sz β:=rfl
 match ys,hl with
 |y::ys,hl=>
  have h1:=hf 0 f rfl;rw[ho,hc]at h1;obtain⟨x,h2,h3⟩:=h.trod (d:=y) h1;obtain⟨x',h4,h5⟩:=hr (n:=n) (cs:=cs) (ys:=ys) (λi g hg=>hf (i+1) g hg) (by simpa using hl) (by omega);refine⟨(x,x'),⟨_,_,?_,h2,h4⟩,?_⟩
  ·rw[hoff,<-List.drop_drop,List.take_append_drop]
  ·rw[eF,u.cons];show bk x+m x'<=_;omega
theorem gv{γ β:Type}[GT β][Bk γ]{fs:Array Field}{m:β->Nat}(u:UB ub ua)(f:γ->β)(g:β->γ)(hfg:∀b,f (g b)=b)(ht:P.underlying T=some (.struct fs))(h:FU ub ua P 0 fs.toList β m)(hm:∀b,bk (g b)<=m b+1)(hc:P.cellsOf T=GT.sz β:=by kernel_rfl): @fV ub P T γ (GT.via f) _:=
 @fV.mk ub P T γ (GT.via f) _
  (λ{H enc w base spare held fuel cs d}hd=>by
   obtain⟨xs,n,_,rfl,hl,hlen,hf⟩:=DataW.trod_struct ht hd;obtain⟨b,h1,h2⟩:=h (n:=n) (cs:=cs) (ys:=xs) (λi g hg=>hf i g (by rw[<-Array.getElem?_toList];exact hg)) (by rw[hlen];simp) (by omega);refine⟨g b,?_,?_⟩
   ·show GT.ok (Hw w) cs (f<|g b);rw[hfg];exact h1
   ·rw[u.ag];have:=hm b;omega)
  (λhv=>by
   obtain⟨cs,rfl,_⟩:=okWide_struct ht hv
   cases cs;rfl)
theorem fV.arg{H:Type}{enc:TypeId×Value->H}{w:World}{base:Nat}{spare:Nat->Bool}{held:Bool}{r:Reach}{b0:Nat}{v:Value}{d:DataW H}{ps:List MemPlace}{α:Type}[GT α][Bk α](o:fV ub P T α)
  (hv:Value.okWide P w r b0 T v) (hd:DataW.Trod enc P w base spare held T v d ps):∃x:α,uU (Hw w) v x/\bk x<=ub H d:=by
 obtain⟨fuel,hf⟩:=hd;obtain⟨x,h1,h2⟩:=o.trod hf;exact⟨x,⟨_,o.M4 hv,h1⟩,h2⟩
theorem fV.Pd{H:Type}{enc:TypeId×Value->H}{w:World}{base:Nat}{spare:Nat->Bool}{held:Bool}{r:Reach}{b0:Nat}{v:Value}{d:DataW H}{ps:List MemPlace}{α:Type}[Sc α][Bk α](o:fV ub P T α)
  (hv:Value.okWide P w r b0 T v) (hd:DataW.Trod enc P w base spare held T v d ps):∃x:α,v=Sc.toV x/\bk x<=ub H d:=by
 obtain⟨x,h1,h2⟩:=o.arg hv hd;exact⟨x,Bx.1 h1,h2⟩
end
theorem Calls.fin{P:Program}{f:FuncId}{args:Array Value}{w:World}{R Q:Value->World->Prop}(h:Calls P f args w (fP R))(k:∀v w',R v w'->Q v w'):
  Calls P f args w (λe W'=>∃v,e = .returned v/\Q v W'):=Calls.mono h λ_ w'⟨v,e,hr⟩=>⟨v,e,k v w' hr⟩
def kb(W:World):HP:=⟨λM h=>hle (Hw W) M/\h=nS,λk⟨a,b⟩=>⟨Gf a k,b⟩⟩
theorem Holds.begin(W:World):Holds W W [kb W]:=by
 refine⟨Hw W,λ_=>nS,⟨rfl,rfl,rfl,bU _,λb o h=>h,λi Pr hq=>?_,λ_ _ _ _ h=>(by cases h),λ_ _ _ _ h=>(by cases h),λ_ _ _ _ _ _ _ h=>(by cases h)⟩⟩
 match i,hq with
 | 0,hq=>simp at hq;subst hq;exact⟨CJ _,rfl⟩
section
variable {H:Type}{enc:TypeId×Value->H}{P:Program}
theorem GN{f:Func}{s:ChangeSpec}{apart fresh handsOn again:Bool}{W W':World}{args:Array Value}{v:Value}{ds gs:List (DataW H)}{before pa pv:List MemPlace}
  (hW:DataW.Whole enc P f.params.toList s.vars apart W args.toList ds gs before)
  (hres:∀(b:Nat)(sp:Nat->Bool)(hd:Bool),DataW.TrodAll enc P W' b sp hd f.resultTypes.toList (v.resultList f.resultTypes.size) (s.fn H<|ds++gs).results [])
  (hargs:∀sp:Nat->Bool,(∀p∈before,sp p.block=true)->DataW.TrodAll enc P W' 0 sp true f.params.toList args.toList (s.fn H<|ds++gs).args pa)
  (hvars:∀sp:Nat->Bool,(∀p∈before,sp p.block=true)->DataW.TrodVars enc P W' sp s.vars (s.fn H<|ds++gs).vars pv)
  (hps:before=pa++pv) (hb:Below W.heap.size W W')
  (hok:∀(j:Nat)(t:TypeId)(r:Value),f.resultTypes[j]? =some t->(v.resultList f.resultTypes.size)[j]? =some r->Value.okWide P W' .any 0 t r):
  s.post enc P f apart fresh handsOn again W args v W':=by
 have hlt:∀p∈before,p.block<W.heap.size:=λp hp=>hW.lt p hp;have hold:∀p∈before,(λb=>decide<|b<W.heap.size) p.block=true:=λp hp=>by simpa using hlt p hp
 refine⟨ds,gs,before,[],pa,pv,hW,hres _ _ _,hargs _ hold,hvars _ hold,World.keptBut_mono (λp hp=>⟨hp,?_⟩)<|hb.frame (· ∈before),λ_=>?_⟩
 ·rw[hps,dM]at hp;exact Or.inr hp
 ·obtain⟨_,_,_,_,_,hz,hn⟩:=hW;refine⟨hok,_,_,([]++pa)++pv,⟨[]++pa,pv,trodAll_append (hargs _<|λ_ _=>rfl)<|hres _ _ _,hvars _<|λ_ _=>rfl,rfl,?_,?_⟩,?_⟩
  ·intro b off hp;have hin:MemPlace.cell b off∈before:=by rw[hps];simpa using hp
   rw[hb.frozen<|hlt _ hin];exact hz b off hin
  ·intro ha;have:=hn ha;rw[hps]at this;simpa using this
  ·intro p hp _;rw[hps];simpa using hp
theorem uM{W W':World}(hl:laidOutB P=true)(hb:Below W.heap.size W W'){sp:Nat->Bool}:∀{ts:List TypeId}{vs:List Value}{ds:List (DataW H)}{ps:List MemPlace},
  (∀t∈ts,P.readableRec t=true/\t<P.types.size)->DataW.TrodAll enc P W 0 (λ_=>true) true ts vs ds ps->(∀p∈ps,p.block<W.heap.size)->(∀p∈ps,sp p.block=true)->DataW.TrodAll enc P W' 0 sp true ts vs ds ps
 | [],_,_,_,_,h,_,_=>by
  obtain⟨rfl,rfl,rfl⟩:=trodAll_nil h;rfl
 |t::ts,_,_,_,ht,h,hlt,hsp=>by
  obtain⟨v,vs,d,ds,p,q,rfl,rfl,rfl,h1,h2⟩:=trodAll_cons h;refine⟨p,q,?_,uM hl hb (λt h=>ht t (by simp[h])) h2 (λx hx=>hlt x (by simp[hx]))<|λx hx=>hsp x (by simp[hx]),rfl⟩;exact WideElems.Trod_stays hl (ht t (by simp)).1 (ht t (by simp)).2 h1 (λx hx=>hb.same<|hlt x (by simp[hx]))<|λx hx=>hsp x (by simp[hx])
end
end Go.Gk
namespace Go.Gk
open Go IntKind
instance:Bk cE:=⟨λx=>bk x.Name+bk x.Kind+bk x.bK+1,λ_=>by omega⟩
theorem zf(x:cE):bk x=bk x.Name+bk x.Kind+bk x.bK+1:=rfl
instance:Bk aJ:=⟨λx=>bk x.Name+bk x.aP+1,λ_=>by omega⟩
theorem pJ(x:aJ):bk x=bk x.Name+bk x.aP+1:=rfl
instance:Bk Part:=⟨λx=>bk x.Name+bk x.iB+1,λ_=>by omega⟩
theorem B9(x:Part):bk x=bk x.Name+bk x.iB+1:=rfl
instance:Bk aS:=⟨λx=>bk x.Part+bk x.aS+1,λ_=>by omega⟩
theorem IC(x:aS):bk x=bk x.Part+bk x.aS+1:=rfl
instance:Bk Net:=⟨λx=>bk x.Name+bk x.aP+bk x.rU+1,λ_=>by omega⟩
theorem zg(x:Net):bk x=bk x.Name+bk x.aP+bk x.rU+1:=rfl
instance:Bk aT:=⟨λx=>bk x.cJ+bk x.bA+1,λ_=>by omega⟩
theorem rz(x:aT):bk x=bk x.cJ+bk x.bA+1:=rfl
instance:Bk aI:=⟨λx=>bk x.X0+bk x.Y0+bk x.X1+bk x.Y1+1,λ_=>by omega⟩
theorem Kf(x:aI):bk x=bk x.X0+bk x.Y0+bk x.X1+bk x.Y1+1:=rfl
instance:Bk kG:=⟨λx=>bk x.X+bk x.Y+1,λ_=>by omega⟩
theorem ID(x:kG):bk x=bk x.X+bk x.Y+1:=rfl
instance:Bk cK:=⟨λx=>bk x.At+bk x.eU+bk x.dZ+bk x.To+bk x.jL+1,λ_=>by omega⟩
theorem Kg(x:cK):bk x=bk x.At+bk x.eU+bk x.dZ+bk x.To+bk x.jL+1:=rfl
instance:Bk dD:=⟨λx=>bk x.Part+bk x.aS+bk x.eX+bk x.At+1,λ_=>by omega⟩
theorem Ca(x:dD):bk x=bk x.Part+bk x.aS+bk x.eX+bk x.At+1:=rfl
instance:Bk jg:=⟨λx=>bk x.aN+bk x.cL+bk x.bN+bk x.bC+1,λ_=>by omega⟩
theorem EH(x:jg):bk x=bk x.aN+bk x.cL+bk x.bN+bk x.bC+1:=rfl
instance:Bk aA:=⟨λx=>bk x.Y0+bk x.Y1+bk x.Xs+1,λ_=>by omega⟩
instance:Bk aH:=⟨λx=>bk x.eX+bk x.Set+bk x.nZ+1,λ_=>by omega⟩
instance:Bk bK:=⟨λx=>bk x.mA+bk x.bN+bk x.aP+1,λ_=>by omega⟩
instance:Bk j4:=⟨λx=>bk x.cK+bk x.Number+1,λ_=>by omega⟩
instance:Bk cP:=⟨λx=>bk x.Kind+bk x.bA+bk x.aP+1,λ_=>by omega⟩
end Go.Gk
namespace Go.Gk
open Go IntKind Go.RowKit
def W0(W:World):World:={W with drawn:=0}
instance (W:World):Nd (W0 W):=⟨rfl⟩
theorem Holds.LD(W:World):Holds (W0 W) W [kb W]:=by
 refine⟨Hw W,λ_=>nS,⟨rfl,rfl,rfl,nu _,λb o h=>h,λi Pr hq=>?_,λ_ _ _ _ h=>(by cases h),λ_ _ _ _ h=>(by cases h),λ_ _ _ _ _ _ _ h=>(by cases h)⟩⟩
 match i,hq with
 | 0,hq=>simp at hq;subst hq;exact⟨CJ _,rfl⟩
theorem Holds.EI{α:Type}[GT α]{W:World}{V:List HP}{v:Value}{x:α}(h:Holds (W0 W) W (V++[kb W]))(hv:Gk.uU (Hw W) v x):Holds (W0 W) W (rd v x::(V++[kb W])):=
 h.Ai λM hs g=>by
  have h1:=(g.sat V.length (kb W) (by simp)).1;exact⟨hv.mono h1,rfl⟩
theorem Holds.Nc{W w:World}{V:List HP}(h:Holds (W0 W) w (V++[kb W])):Below W.heap.size W w:=by
 obtain⟨M,hs,g⟩:=h;have h1:=(g.sat V.length (kb W) (by simp)).1;have h2:∀k o,W.heap[k]? =some o->w.heap[k]? =some o:=λk o ho=>g.im k o<|h1 k o ho
 refine⟨g.os,g.tape,g.out,?_,λk hk=>?_⟩
 ·by_cases h0:W.heap.size=0
  ·omega
  ·have h3:=h2 (W.heap.size - 1) _<|gD (by omega)
   have:=(Array.getElem?_eq_some_iff.1 h3).1;omega
 ·rw[gD hk];exact h2 k _<|gD hk
end Go.Gk
namespace Go.Gk
open Go IntKind Go.Sort
section
variable {α:Type}
theorem xY{β:Type}(a:Array β){n:Nat}(h:a.size=n):a.extract 0 n=a:=by subst h;exact Array.extract_size
theorem LF{φ:α->α->Option Int}{l:List α}(cf:α->α->Int)(hφ:∀x∈l,∀y∈l,φ x y=some (cf x y))(h1:∀x∈l,¬cf x x<0)
  (h2:∀x∈l,∀y∈l,∀z∈l,cf x y<0->cf y z<0->cf x z<0) (h3:∀x∈l,∀y∈l,∀z∈l,¬cf x y<0->¬cf y z<0->¬cf x z<0):SWO (Jw<|C5 φ l):=by
 have hm:∀i:Fin l.length,l[i]∈l:=λi=>cU i.isLt;have e:∀i j:Fin l.length,C5 φ l i j=cf l[i] l[j]:=λi j=>by unfold C5;rw[hφ _ (hm i) _<|hm j];rfl
 refine⟨λx=>?_,λx y z=>?_,λx y z=>?_⟩
 ·simp only[Jw,e,decide_eq_false_iff_not];exact h1 _<|hm _
 ·simp only[Jw,e,decide_eq_true_iff];exact h2 _ (hm _) _ (hm _) _<|hm _
 ·simp only[Jw,e,decide_eq_false_iff_not];exact h3 _ (hm _) _ (hm _) _<|hm _
theorem wA{φ:α->α->Option Int}{l:List α}(cf:α->α->Int)(hφ:∀x∈l,∀y∈l,φ x y=some (cf x y))(h1:∀x∈l,¬cf x x<0)
  (h2:∀x∈l,∀y∈l,∀z∈l,cf x y<0->cf y z<0->cf x z<0) (h3:∀x∈l,∀y∈l,∀z∈l,¬cf x y<0->¬cf y z<0->¬cf x z<0) (hl:l.length<4611686018427387904):
  ∃m,sO φ l=some m/\m.Perm l/\m.Pairwise (λx y=>¬cf y x<0):=by
 have hO:=LF cf hφ h1 h2 h3;have hm:∀i:Fin l.length,l[i]∈l:=λi=>cU i.isLt;have hc:(∀i j:Fin l.length,∃c,φ l[i] l[j]=some c):=λi j=>⟨_,hφ _ (hm i) _<|hm j⟩;refine⟨FG φ l,by unfold sO;rw[aG ⟨⟨hc,hO⟩,hl⟩],?_⟩;unfold FG
 by_cases hn:0<l.length
 ·rw[dif_pos hn]
  letI inh:Inhabited (Fin l.length):=⟨⟨0,hn⟩⟩
  have hds:(Array.ofFn λi:Fin l.length=>i).size=l.length:=by simp
  obtain⟨hp,hs⟩:=pdq_sorts (Jw<|C5 φ l) hO (Array.ofFn λi:Fin l.length=>i) 0 l.length (Lib.bitLen l.length) true true (nu _) (by rw[hds];exact bU _)<|Or.inl rfl
  show(List.map (λi=>l[i]) (pdq (Jw<|C5 φ l) (Array.ofFn λi:Fin l.length=>i) 0 l.length (Lib.bitLen l.length) true true).toList).Perm l/\_;generalize pdq (Jw<|C5 φ l) (Array.ofFn λi:Fin l.length=>i) 0 l.length (Lib.bitLen l.length) true true=d' at hp hs;obtain⟨hz,_,hpm⟩:=hp;have hz':d'.size=l.length:=hz.trans hds;rw[xY d' hz',xY _ hds]at hpm;have hof:(Array.ofFn λi:Fin l.length=>i).toList.map (λi=>l[i])=l:=by
   rw[Array.toList_ofFn,List.map_ofFn];exact List.ofFn_getElem
  refine⟨(hpm.map<|λi=>l[i]).trans<|List.Perm.of_eq hof,?_⟩;rw[List.pairwise_map,nv];intro i j hi hj hij;rw[Array.length_toList]at hi hj;have:=hs i j (nu _) hij (by rw[<-hz'];exact hj);rw[getElem!_pos d' i hi,getElem!_pos d' j hj]at this;have hij2:=hφ _ (hm<|d'[j]) _<|hm<|d'[i]
  have hij3:C5 φ l d'[j] d'[i]=cf l[d'[j]] l[d'[i]]:=by unfold C5;rw[hij2];rfl
  unfold Jw at this;rw[decide_eq_false_iff_not,hij3]at this;exact this
 ·rw[dif_neg hn];have:l= []:=List.length_eq_zero_iff.1 (by omega);subst this;exact⟨List.Perm.refl _,l6⟩
theorem A9{φ:α->α->Option Int}{x:α}(h:φ x x=some 0):sO φ [x]=some [x]:=by
 obtain⟨m,h1,h2,_⟩:=wA (φ:=φ) (l:=[x]) (λ_ _=>0) (λa ha b hb=>by simp at ha hb;rw[ha,hb];exact h) (λ_ _=>by decide) (λ_ _ _ _ _ _ h=>by simp at h) (λ_ _ _ _ _ _ _ _=>by decide) (by simp);rw[h1,List.perm_singleton.1 h2]
theorem Ax{l:List Int}(h:l.Pairwise (λx y=>x<=y))(hl:l.length<4611686018427387904):sN l=some l:=by
 unfold sN;rw[aG hl,List.mergeSort_of_pairwise (by simpa using h)]
end
end Go.Gk
namespace Go.Gk
open Go IntKind
def EL(l:List Int)(x:Int):Nat:=l.countP<|λa=>decide<|a<=x
def m0(l:List Int)(x:Int):Bool:=EL l x % 2==1
def mg(l:List Int):Prop:=l.Pairwise (· < ·)
theorem FV(x:Int):EL [] x=0:=rfl
theorem nN(a:Int)(l:List Int)(x:Int):EL (a::l) x=(if a<=x then 1 else 0)+EL l x:=by
 grind [EL]
theorem zn(l m:List Int)(x:Int):EL (l++m) x=EL l x+EL m x:=List.countP_append
theorem FW{l:List Int}{x:Int}(h:∀a∈l,a<=x):EL l x=l.length:=by
 grind [EL,List.countP_eq_length]
theorem zo{l:List Int}{x:Int}(h:∀a∈l,x<a):EL l x=0:=by
 grind [EL,List.countP_eq_zero]
theorem wB{l:List Int}{x:Int}:m0 l x=true↔EL l x % 2=1:=by simp[m0]
theorem wC{l:List Int}{x:Int}(h:∀a∈l,x<a):m0 l x=false:=by grind [m0,zo]
theorem mg.head{a:Int}{l:List Int}(h:mg (a::l)):∀b∈l,a<b:=(List.pairwise_cons.1 h).1
theorem mg.tail{a:Int}{l:List Int}(h:mg (a::l)):mg l:=(List.pairwise_cons.1 h).2
theorem wD{a:Int}{l:List Int}(h:mg (a::l)):m0 (a::l) a=true:=by
 rw[wB,nN,aG<|Int.le_refl _,zo h.head]
theorem zp:∀{l m:List Int},mg l->mg m->(∀x,m0 l x=m0 m x)->l=m
 | [],[],_,_,_=>rfl
 | [],b::m,_,hm,h=>by have:=h b;rw[wD hm]at this;cases this
 |a::l,[],hl,_,h=>by have:=h a;rw[wD hl]at this;cases this
 |a::l,b::m,hl,hm,h=>by
  have hab:a=b:=by
   rcases Int.lt_trichotomy a b with h1|h1|h1
   ·have h2:=h a
    rw[wD hl,wC (l:=b::m) (λc hc=>by
     rcases gk.1 hc with rfl|hc
     ·exact h1
     ·have:=hm.head c hc;omega)]at h2
    cases h2
   ·exact h1
   ·have h2:=h b
    rw[wD hm,wC (l:=a::l) (λc hc=>by
     rcases gk.1 hc with rfl|hc
     ·exact h1
     ·have:=hl.head c hc;omega)]at h2
    cases h2
  subst hab;rw[zp hl.tail hm.tail<|λx=>?_]
  by_cases hx:a<=x
  ·have h2:=h x;unfold m0 at h2 ⊢;rw[nN,nN,aG hx]at h2;rw[g9]at h2 ⊢;simp only[beq_iff_eq]at h2 ⊢;omega
  ·rw[wC (λc hc=>by have:=hl.head c hc;omega),wC (λc hc=>by have:=hm.head c hc;omega)]
theorem zq{l:List Int}{a b:Int}(hl:∀c∈l,c<a)(he:l.length % 2=0)(hab:a<b)(x:Int):m0 (l++[a,b]) x=(m0 l x||(decide (a<=x)&&decide (x<b))):=by
 rw[g9,fG,cN,dN,dN,wB,wB,zn,nN,nN,FV]
 grind [EL,FW]
theorem IJ{l:List Int}{s e a b:Int}(hl:∀c∈l,c<s)(he:l.length % 2=0)(hs:s<e)(h1:s<=a)(h2:a<=e)(hab:a<b)(x:Int):m0 (l++[s,max e b]) x=(m0 (l++[s,e]) x||(decide (a<=x)&&decide (x<b))):=by
 grind [zq]
theorem mg.snoc{l:List Int}{a b:Int}(h:mg l)(hl:∀c∈l,c<a)(hab:a<b):mg (l++[a,b]):=by
 grind [mg]
structure Bd where
 y0:Int
 y1:Int
 xs:List Int
def rowAt:List Bd->Int->List Int
 | [],_=>[]
 |b::s,y=>if b.y0<=y/\y<b.y1 then b.xs else rowAt s y
theorem k8(b:Bd)(s:List Bd)(y:Int):rowAt (b::s) y=if b.y0<=y/\y<b.y1 then b.xs else rowAt s y:=rfl
structure dW (s:List Bd):Prop where
 each:∀b∈s,b.y0<b.y1/\b.xs≠[]/\mg b.xs/\b.xs.length % 2=0
 ord:s.Pairwise (λb c=>b.y1<=c.y0/\(b.y1=c.y0->b.xs≠c.xs))
theorem dW.nil:dW []:=⟨λb h=>by simp at h,l6⟩
theorem dW.tail{b:Bd}{s:List Bd}(h:dW (b::s)):dW s:=⟨λc hc=>h.each c<|my _ hc,(List.pairwise_cons.1 h.ord).2⟩
theorem kd{s:List Bd}{y:Int}(h:∀b∈s,y<b.y0\/b.y1<=y):rowAt s y= []:=by
 induction s with
 |nil=>rfl
 |cons b s ih=>
  grind [rowAt,my]
theorem ot(s t:List Bd)(y:Int):rowAt (s++t) y=if(∃b∈s,b.y0<=y/\y<b.y1)then rowAt s y else rowAt t y:=by
 induction s with
 |nil=>simp
 |cons b s ih=>
  rw[List.cons_append,k8,k8]
  by_cases h:b.y0<=y/\y<b.y1
  ·simp_all
  ·rw[aF h,ih]
   by_cases h2:∃c∈s,c.y0<=y/\y<c.y1
   ·simp_all[aG,my,aF]
   grind
theorem dW.k9{b:Bd}{s:List Bd}{y:Int}(h0:b.y0<=y)(h1:y<b.y1):rowAt (b::s) y=b.xs:=by grind [rowAt]
theorem dW.zu{b:Bd}{s:List Bd}(h:dW (b::s)):∀c∈s,b.y1<=c.y0:=λc hc=>((List.pairwise_cons.1 h.ord).1 c hc).1
theorem dW.t7{b:Bd}{s:List Bd}(h:dW (b::s)){y:Int}(hy:y<b.y0):rowAt (b::s) y= []:=kd λc hc=>by
 rcases gk.1 hc with rfl|hc
 ·exact .inl hy
 ·have:=h.zu c hc;have:=(h.each b (by simp)).1;exact .inl (by omega)
theorem dW.FX{b:Bd}{s:List Bd}(h:dW (b::s)):rowAt (b::s) b.y1≠b.xs:=by
 rw[k8,aF (by omega)]
 cases s with
 |nil=>exact λe=>(h.each b (by simp)).2.1 e.symm
 |cons c s=>
  have h1:=(List.pairwise_cons.1 h.ord).1 c (by simp)
  by_cases e:b.y1=c.y0
  ·rw[dW.k9 (by omega) (by have:=(h.tail.each c (by simp)).1;omega)]
   grind
  ·rw[h.tail.t7 (by omega)];exact λe=>(h.each b (by simp)).2.1 e.symm
theorem zv:∀{s t:List Bd},dW s->dW t->(∀y,rowAt s y=rowAt t y)->s=t
 | [],[],_,_,_=>rfl
 | [],c::t,_,ht,h=>by
  have hc:=ht.each c (by simp);have:=h c.y0;rw[dW.k9 (Int.le_refl _) hc.1]at this;exact absurd this.symm hc.2.1
 |b::s,[],hs,_,h=>by
  have hb:=hs.each b (by simp);have:=h b.y0;rw[dW.k9 (Int.le_refl _) hb.1]at this;exact absurd this hb.2.1
 |b::s,c::t,hs,ht,h=>by
  have hb:=hs.each b (by simp);have hc:=ht.each c (by simp);have e0:b.y0=c.y0:=by
   rcases Int.lt_trichotomy b.y0 c.y0 with h1|h1|h1
   ·have h2:=h b.y0;rw[dW.k9 (Int.le_refl _) hb.1,ht.t7 h1]at h2;exact absurd h2 hb.2.1
   ·exact h1
   ·have h2:=h c.y0;rw[dW.k9 (Int.le_refl _) hc.1,hs.t7 h1]at h2;exact absurd h2.symm hc.2.1
  have ex:b.xs=c.xs:=by
   have h2:=h b.y0;rw[dW.k9 (Int.le_refl _) hb.1,dW.k9 (by omega) (by omega)]at h2;exact h2
  have e1:b.y1=c.y1:=by
   rcases Int.lt_trichotomy b.y1 c.y1 with h1|h1|h1
   ·have h2:=h b.y1;rw[dW.k9 (b:=c) (by omega) h1]at h2;exact absurd (h2.trans ex.symm) hs.FX
   ·exact h1
   ·have h2:=h c.y1;rw[dW.k9 (b:=b) (by omega) h1]at h2;exact absurd (h2.symm.trans ex) ht.FX
  have ebc:b=c:=by cases b;cases c;simp_all
  subst ebc;rw[zv hs.tail ht.tail<|λy=>?_]
  by_cases hy:b.y1<=y
  ·have h2:=h y;unfold rowAt at h2;rw[aF (by omega),aF (by omega)]at h2;exact h2
  ·rw[kd (λd hd=>by have:=hs.zu d hd;omega),kd (λd hd=>by have:=ht.zu d hd;omega)]
def wE(s:List Bd)(x y:Int):Bool:=m0 (rowAt s y) x
theorem Ba{s:List Bd}(h:∀b∈s,mg b.xs)(y:Int):mg (rowAt s y):=by
 induction s with
 |nil=>exact l6
 |cons b s ih=>
  grind [rowAt,my]
theorem zw{s t:List Bd}(hs:dW s)(ht:dW t)(h:∀x y,wE s x y=wE t x y):s=t:=
 zv hs ht λy=>zp (Ba (λb hb=>(hs.each b hb).2.2.1) y) (Ba (λb hb=>(ht.each b hb).2.2.1) y) λx=>h x y
def ml(s:List Bd)(b:Bd):List Bd:=
 if b.xs= []\/b.y1<=b.y0 then s else
  match s.getLast? with
  |some c=>if c.y1=b.y0/\c.xs=b.xs then s.dropLast++[⟨c.y0,b.y1,c.xs⟩]else s++[b]
  |none=>[b]
theorem rD{α:Type}{s:List α}{c:α}(h:s.getLast? =some c):s=s.dropLast++[c]:=by
 have hne:s≠[]:=λe=>by grind
 grind [List.getLast?_eq_some_getLast,List.dropLast_concat_getLast]
theorem xw{s:List Bd}{b:Bd}(hs:∀c∈s,c.y1<=b.y0)(hg:∀c∈s,c.y0<c.y1)(hb:b.y1<=b.y0->b.y1=b.y0)(y:Int):rowAt (ml s b) y=if b.y0<=y/\y<b.y1 then b.xs else rowAt s y:=by
 have key:∀(s:List Bd)(c:Bd),(∀d∈s,d.y1<=c.y0)->rowAt (s++[c]) y=if c.y0<=y/\y<c.y1 then c.xs else rowAt s y:=by
  intro s c h;rw[ot]
  by_cases h1:c.y0<=y/\y<c.y1
  ·grind [dW.k9]
  ·rw[aF h1]
   by_cases h2:∃d∈s,d.y0<=y/\y<d.y1
   all_goals grind [k8,rowAt,kd]
 unfold ml
 by_cases h0:b.xs= []\/b.y1<=b.y0
 ·grind [kd]
 ·rw[aF h0]
  cases hl:s.getLast? with
  |none=>
   have:s= []:=by simp_all
   subst this;rfl
  |some c=>
   dsimp only;have hsp:=rD hl;have hcm:c∈s:=by rw[hsp];simp
   by_cases h1:c.y1=b.y0/\c.xs=b.xs
   ·rw[aG h1];have hd:∀d∈s.dropLast,d.y1<=c.y0\/True:=λ_ _=> .inr trivial;rw[ot];have hrow:rowAt s y=if(∃d∈s.dropLast,d.y0<=y/\y<d.y1)then rowAt s.dropLast y else(if c.y0<=y/\y<c.y1 then c.xs else []):=by
     conv=>lhs;rw[hsp]
     rw[ot];rfl
    rw[hrow];have hcg:=hg c hcm
    by_cases h2:∃d∈s.dropLast,d.y0<=y/\y<d.y1
    ·obtain⟨d,hd,hd2⟩:=h2;have:=hs d<|List.dropLast_subset _ hd
     have he:∃d∈s.dropLast,d.y0<=y/\y<d.y1:=⟨d,hd,hd2⟩;rw[aG he,aG he,aF (by omega)]
    ·rw[aF h2,aF h2];show(if c.y0<=y/\y<b.y1 then c.xs else [])=_
     by_cases h3:b.y0<=y/\y<b.y1
     ·rw[aG h3,aG ⟨by omega,h3.2⟩,h1.2]
     ·rw[aF h3]
      by_cases h4:c.y0<=y/\y<c.y1
      ·rw[aG h4,aG ⟨h4.1,by omega⟩]
      ·rw[aF h4,aF (by omega)]
   ·rw[aF h1];exact key s b hs
theorem xx{s:List Bd}{b:Bd}(h:dW s)(hs:∀c∈s,c.y1<=b.y0)(hb:mg b.xs)(he:b.xs.length % 2=0):dW (ml s b):=by
 unfold ml
 by_cases h0:b.xs= []\/b.y1<=b.y0
 ·grind
 ·rw[aF h0];have hbg:b.y0<b.y1/\b.xs≠[]/\mg b.xs/\b.xs.length % 2=0:=⟨by omega,λe=>h0<|.inl e,hb,he⟩
  cases hl:s.getLast? with
  |none=>exact⟨λc hc=>by grind,List.pairwise_singleton _ _⟩
  |some c=>
   dsimp only;have hsp:=rD hl;have hcm:c∈s:=by rw[hsp];simp
   have hc:=h.each c hcm;have hord:=h.ord;rw[hsp,List.pairwise_append]at hord
   by_cases h1:c.y1=b.y0/\c.xs=b.xs
   ·rw[aG h1];refine⟨λd hd=>?_,?_⟩
    ·rcases dM.1 hd with hd|hd
     ·exact h.each d<|List.dropLast_subset _ hd
     grind
    grind
   ·rw[aF h1];refine⟨λd hd=>?_,?_⟩
    ·rcases dM.1 hd with hd|hd
     ·exact h.each d hd
     ·simp at hd;subst hd;exact hbg
    ·rw[List.pairwise_append];refine⟨h.ord,List.pairwise_singleton _ _,λd hd e he=>?_⟩;simp at he;subst he;refine⟨hs d hd,λe1 e2=>?_⟩;rw[hsp]at hd
     rcases dM.1 hd with hd|hd
     ·have h2:=(hord.2.2 d hd c (by simp)).1;have:=hs c hcm;omega
     ·simp at hd;subst hd;exact h1 ⟨e1,e2⟩
theorem xy{s:List Bd}{b:Bd}(hs:∀c∈s,c.y1<=b.y0)(hb:b.y0<=b.y1):∀c∈ml s b,c.y1<=b.y1:=by
 grind [ml,List.dropLast_subset]
section
variable {N:Nat}
def bR(b:aA):Bd:=⟨b.Y0,b.Y1,b.Xs⟩
def small(a:Int):Prop:= -1099511627776<=a/\a<=1099511627776
structure Ea (r:aI):Prop where
 x:r.X0<r.X1
 y:r.Y0<r.Y1
 s1:small r.X0
 s2:small r.X1
 s3:small r.Y0
 s4:small r.Y1
def EM(l:List aI)(x:Int):Bool:=l.any<|λr=>decide (r.X0<=x)&&decide (x<r.X1)
def Ay(l:List aI)(x y:Int):Bool:=l.any<|λr=>(decide (r.X0<=x)&&decide (x<r.X1))&&(decide (r.Y0<=y)&&decide (y<r.Y1))
theorem zx{l:List aI}{x:Int}:EM l x=true↔∃r∈l,r.X0<=x/\x<r.X1:=by unfold EM;simp[ln]
theorem l8{l:List aI}{x y:Int}:Ay l x y=true↔∃r∈l,(r.X0<=x/\x<r.X1)/\r.Y0<=y/\y<r.Y1:=by unfold Ay;simp[ln]
theorem wrap_small{a b:Int}(ha:small a)(hb:small b):wrap .i64 (a - b)=a - b:=by unfold small at *;exact eG (by omega) (by omega)
theorem Dy{n:Nat}(h:0<n)(hn:n<=4611686018427387904):wrap .i64 (((n:Nat):Int) - 1)=((n - 1:Nat):Int):=lE h hn
structure Pw (out:List Int) (m:List aI) (k:Nat):Prop where
 row:(k=0/\out= [])\/∃A s e,out=A++[s,e]/\mg A/\(∀c∈A,c<s)/\A.length % 2=0/\s<e/\∃j r,j<k/\m[j]? =some r/\s=r.X0
 m0:∀x,m0 out x=EM (m.take k) x
 len:out.length<=2*k
 mem:∀c∈out,∃r∈m,c=r.X0\/c=r.X1
theorem xz(l:List aI)(r:aI)(x:Int):EM (l++[r]) x=(EM l x||(decide (r.X0<=x)&&decide (x<r.X1))):=by unfold EM;rw[List.any_append];simp
theorem Ce{l:List aI}(hl:l.length<=268435456)(hok:∀r∈l,Ea r):∃row l',iu N l=some (row,l')/\l'.Perm l/\mg row/\row.length % 2=0/\(∀x,m0 row x=EM l x)/\row.length<=2*l.length/\∀c∈row,∃r∈l,c=r.X0\/c=r.X1:=by
 unfold iu
 obtain⟨m,h1,h2,h3⟩:=wA (φ:=fL N) (l:=l) (λa b=>a.X0 - b.X0) (λa ha b hb=>by
  unfold fL;rw[wrap_small (hok a ha).s1 (hok b hb).s1]) (λa _=>by omega) (λa _ b _ c _ h1 h2=>by omega) (λa _ b _ c _ h1 h2=>by omega) (by omega)
 have hml:m.length=l.length:=h2.length_eq;have hmok:∀r∈m,Ea r:=λr hr=>hok r<|h2.subset hr
 rw[h1,aB];obtain⟨out,a1,a2⟩:=yt (m:=m.length) (s:=([]:List Int)) (body:=λ(k32:Nat)(s33:List Int)=>((idx m (k32:Int)).bind λx79=>(bif decide (wrap .i64 ((s33.length:Int) - 1)>=0)then((idx s33<|wrap .i64<|(s33.length:Int) - 1).bind λx86=>some<|decide<|x79.X0<=x86)else some false).bind λs84=>(bif s84 then((idx s33<|wrap .i64<|(s33.length:Int) - 1).bind λx94=>(idx s33<|wrap .i64<|(s33.length:Int) - 1).bind λNy=>some<|s33.set (Int.toNat<|wrap .i64<|(s33.length:Int) - 1) (if x94<x79.X1 then x79.X1 else x94))else((app 8 s33 ([x79.X0,x79.X1]:List Int)).bind λx97=>some x97)).bind λs92=>some s92:Option (List Int)))
  (λk out=>Pw out m k) (by omega) ⟨.inl ⟨rfl,rfl⟩,λx=>rfl,by simp,λc hc=>by cases hc⟩ (λk out hk⟨i1,i2,i3,i4⟩=>by
   have hx:m[k]? =some m[k]:=aK hk;have hr:=hmok _<|cU hk
   rw[eW hx,aB];have hts:m.take (k+1)=m.take k++[m[k]]:=dF hk
   rcases i1 with⟨rfl,rfl⟩|⟨A,s,e,rfl,hA,hAs,hAe,hse,j,r,hj,hjr,hsr⟩
   ·rw[show decide (wrap .i64 (((([]:List Int).length:Nat):Int) - 1)>=0)=false by decide,bF,aB,bF,gu (by simp),aB,aB];refine⟨_,rfl, .inr ⟨[],_,_,rfl,l6,λc hc=>by simp at hc,rfl,hr.x,0,m[0],by omega,hx,rfl⟩,λx=>?_,by simp,λc hc=>⟨m[0],cU hk,by simpa using hc⟩⟩;rw[hts,xz,<-i2 x];exact zq (l:=[]) (λc hc=>by simp at hc) rfl hr.x x
   ·have hlen:(A++[s,e]).length=A.length+2:=by simp
    have hwp:wrap .i64 ((((A++[s,e]).length:Nat):Int) - 1)=((A.length+1:Nat):Int):=by rw[Dy (by omega) (by omega),hlen];rfl
    have hlast:(A++[s,e])[A.length+1]? =some e:=by rw[gE (by omega)];simp
    have hs:s<=m[k].X0:=by
     have:=nv.1 h3 j k (by have:=(bI.1 hjr).1;omega) hk hj;rw[hsr,<-(bI.1 hjr).2];omega
    rw[hwp,cG (by omega),aR,eW hlast,aB,aB]
    by_cases hc:m[k].X0<=e
    ·rw[cG hc,aR,aB,aB,aB,cT];have l9:(A++[s,e]).set (A.length+1) (if e<m[k].X1 then m[k].X1 else e)=A++[s,max e m[k].X1]:=by
      rw[List.set_append_right _ _ (by omega)];have:A.length+1 - A.length=1:=by omega
      rw[this,Int.max_def];simp only[List.set_cons_succ,List.set_cons_zero];congr 2;split <;> split <;> simp <;> omega
     rw[l9]
     refine⟨_,rfl, .inr ⟨A,s,_,rfl,hA,hAs,hAe,by omega,j,r,by omega,hjr,hsr⟩,λx=>?_,by simp at i3 ⊢;omega,λc hc=>by
      rcases dM.1 hc with h|h
      ·exact i4 c<|List.mem_append_left _ h
      ·simp at h
       rcases h with h|h
       ·exact i4 c (by simp[h])
       ·rw[Int.max_def]at h;split at h
        ·exact⟨_,cU hk, .inr h⟩
        ·exact i4 c (by simp[h])⟩
     rw[hts,xz,<-i2 x];exact IJ hAs hAe hse hs hc hr.x x
    ·rw[cB hc,bF,gu (by rw[hlen];simp;omega),aB,aB];have hall:∀c∈A++[s,e],c<m[k].X0:=λc hc'=>by
      rcases dM.1 hc' with h|h
      ·have:=hAs c h;omega
      ·simp at h;omega
     refine⟨_,rfl, .inr ⟨A++[s,e],_,_,rfl,hA.snoc hAs hse,hall,by rw[hlen];omega,hr.x,k,m[k],by omega,hx,rfl⟩,λx=>?_,by simp at i3 ⊢;omega,λc hc=>by
      rcases dM.1 hc with h|h
      ·exact i4 c h
      ·exact⟨m[k],cU hk,by simpa using h⟩⟩
     rw[hts,xz,<-i2 x]
     exact zq hall (by rw[hlen];omega) hr.x x)
 rw[a1,aB];refine⟨out,m,rfl,h2,?_,?_,λx=>?_,by rw[<-hml];exact a2.len,λc hc=>by obtain⟨r,hr,h⟩:=a2.mem c hc;exact⟨r,h2.subset hr,h⟩⟩
 ·rcases a2.row with⟨_,h⟩|⟨A,s,e,rfl,hA,hAs,hAe,hse,_⟩
  ·rw[h];exact l6
  ·exact hA.snoc hAs hse
 ·rcases a2.row with⟨_,h⟩|⟨A,s,e,rfl,hA,hAs,hAe,hse,_⟩
  ·rw[h];rfl
  ·simp;omega
 ·rw[a2.m0 x,dG,g9,zx,zx];constructor
  ·rintro⟨r,hr,h⟩;exact⟨r,h2.subset hr,h⟩
  ·rintro⟨r,hr,h⟩;exact⟨r,h2.symm.subset hr,h⟩
theorem GO{l m:List Int}(hl:l.length<=4611686018427387904):ly N l m=some (decide<|l=m):=A6 hl
theorem FY{s:List aA}{b:aA}(hs:s.length<=1048576000)(hx:∀c∈s,c.Xs.length<=1048576000):∃s',gS N s b=some s'/\s'.map bR=ml (s.map bR) (bR b):=by
 unfold gS ml
 by_cases h0:b.Xs= []\/b.Y1<=b.Y0
 ·have e:((((b.Xs.length:Nat):Int)==0)||decide (b.Y1<=b.Y0))=true:=by
   rw[fG]
   rcases h0 with h|h
   ·left;rw[h];rfl
   ·right;exact cG h
  rw[e,aR,aG (show(bR b).xs= []\/(bR b).y1<=(bR b).y0 from h0)];exact⟨s,rfl,rfl⟩
 ·have e:((((b.Xs.length:Nat):Int)==0)||decide (b.Y1<=b.Y0))=false:=by
   rw[Bool.or_eq_false_iff];constructor
   ·rw[beq_eq_false_iff_ne];intro h;exact h0<|.inl<|List.eq_nil_of_length_eq_zero (by omega)
   ·exact cB λh=>h0<|.inr h
  rw[e,bF,aF (show ¬((bR b).xs= []\/(bR b).y1<=(bR b).y0)from h0)]
  rcases List.eq_nil_or_concat s with rfl|⟨A,c,hA⟩
  ·rw[show decide (wrap .i64 (((([]:List aA).length:Nat):Int) - 1)>=0)=false by decide,bF,aB,bF,gu (by simp),aB];exact⟨_,rfl,rfl⟩
  ·rw[List.concat_eq_append]at hA;subst hA;have hlen:(A++[c]).length=A.length+1:=by simp
   have hwp:wrap .i64 ((((A++[c]).length:Nat):Int) - 1)=((A.length:Nat):Int):=by rw[Dy (by omega) (by omega),hlen];rfl
   have hlast:(A++[c])[A.length]? =some c:=by simp
   rw[hwp,cG (by omega),aR,eW hlast,aB,aB,GO (by have:=hx c (by simp);omega),aB,aB,cT,gu (by rw[hlen];simp;omega),aB];have hl2:((A++[c]).map bR).getLast? =some (bR c):=by simp
   have hd2:((A++[c]).map bR).dropLast=A.map bR:=by simp
   rw[hl2,hd2];dsimp only
   by_cases h1:c.Y1=b.Y0/\c.Xs=b.Xs
   ·rw[aG (show(bR c).y1=(bR b).y0/\(bR c).xs=(bR b).xs from h1),show(c.Y1==b.Y0)=true by rw[h1.1];simp,aR,cG h1.2,aB,aR];refine⟨_,rfl,?_⟩;rw[List.set_append_right _ _<|bU _,Nat.sub_self];simp[bR]
   ·rw[aF (show ¬((bR c).y1=(bR b).y0/\(bR c).xs=(bR b).xs)from h1)];have e2:(bif c.Y1==b.Y0 then some (decide<|c.Xs=b.Xs)else some false)=some false:=by
     by_cases h2:c.Y1=b.Y0
     ·rw[show(c.Y1==b.Y0)=true by rw[h2];simp,aR,cB<|λh=>h1 ⟨h2,h⟩]
     ·rw[show(c.Y1==b.Y0)=false by simpa using h2,bF]
    rw[e2,aB,bF];exact⟨_,rfl,by simp⟩
end
def pM(l:List (Int×Int)):List Int:=l.flatMap λs=>[s.1,s.2]
def GP(l:List (Int×Int))(x:Int):Bool:=l.any λs=>decide (s.1<=x)&&decide (x<s.2)
theorem oW(s:Int×Int)(l:List (Int×Int)):pM (s::l)=s.1::s.2::pM l:=rfl
theorem GQ(l:List (Int×Int)):(pM l).length=2*l.length:=by
 induction l with
 |nil=>rfl
 |cons s l ih=>rw[oW,fY,fY,fY,ih];omega
theorem GR(s:Int×Int)(l:List (Int×Int))(x:Int):GP (s::l) x=((decide (s.1<=x)&&decide (x<s.2))||GP l x):=rfl
theorem zy{l:List (Int×Int)}{x:Int}:GP l x=true↔∃s∈l,s.1<=x/\x<s.2:=by
 unfold GP;simp
theorem GS{a b:Int}{m:List Int}(h:mg (a::b::m))(x:Int):m0 (a::b::m) x=((decide (a<=x)&&decide (x<b))||m0 m x):=by
 have hab:a<b:=h.head b (by simp);have hm:=h.tail.head;rw[g9,fG,cN,dN,dN,wB,wB,nN,nN]
 by_cases h1:a<=x
 ·rw[aG h1]
  by_cases h2:b<=x
  ·rw[aG h2];omega
  ·rw[aF h2,zo (λc hc=>by have:=hm c hc;omega)];omega
 ·rw[aF h1,aF (by omega)];omega
theorem wF:∀{l:List (Int×Int)},mg (pM l)->∀x,m0 (pM l) x=GP l x
 | [],_,x=>rfl
 |s::l,h,x=>by
  rw[oW]at h ⊢;rw[GS h,GR,wF h.tail.tail]
def Ok{β:Type}(o:Option β)(P:β->Prop):Prop:=∃r,o=some r/\P r
section
variable {α β S R:Type}{P:α->Prop}{Q:β->Prop}
theorem Qo{x:β}(h:Q x):Ok (some x) Q:=⟨x,rfl,h⟩
theorem Tx{o:Option β}{x:β}(h:o=some x)(hq:Q x):Ok o Q:=⟨x,h,hq⟩
theorem Ok.mono{o:Option α}{P':α->Prop}(h:Ok o P)(k:∀x,P x->P' x):Ok o P':=by obtain⟨x,h1,h2⟩:=h;exact⟨x,h1,k x h2⟩
theorem Qv{o:Option α}{f:α->Option β}(h:Ok o P)(k:∀x,P x->Ok (f x) Q):Ok (o.bind f) Q:=by
 obtain⟨x,h1,h2⟩:=h;grind
theorem Qn{o:Option α}{f:α->Option β}{x:α}(h:o=some x)(k:Ok (f x) Q):Ok (o.bind f) Q:=by grind
theorem Q6{b:Bool}{x y:Option β}(ht:b=true->Ok x Q)(hf:b=false->Ok y Q):Ok (bif b then x else y) Q:=by
 grind
theorem RD{o:Option β}{x:β}(h:Ok o (λr=>r=x)):o=some x:=by obtain⟨r,h1,h2⟩:=h;rw[h1,h2]
def Nf(Go:S->Prop)(Rt:R->Prop):Fo S R->Prop| .go s=>Go s| .rt r=>Rt r
def KY(Nx Br:S->Prop)(Rt:R->Prop):Fl S R->Prop| .nx s=>Nx s| .br s=>Br s| .rt r=>Rt r
theorem Rk{Nx Br:S->Prop}{Rt:R->Prop}{s:S}(h:Nx s):Ok (some<|Fl.nx s) (KY Nx Br Rt):=⟨_,rfl,h⟩
theorem Rw{Nx Br:S->Prop}{Rt:R->Prop}{s:S}(h:Br s):Ok (some<|Fl.br s) (KY Nx Br Rt):=⟨_,rfl,h⟩
theorem Sb{Nx Br:S->Prop}{Rt:R->Prop}{r:R}(h:Rt r):Ok (some (Fl.rt r:Fl S R)) (KY Nx Br Rt):=⟨_,rfl,h⟩
theorem Ro{Go:S->Prop}{Rt:R->Prop}{o:Fo S R}{f:S->Option β}{g:R->Option β}(h:Nf Go Rt o)(hf:∀s,Go s->Ok (f s) Q)(hg:∀r,Rt r->Ok (g r) Q):Ok (o.cs f g) Q:=by
 cases o with
 |go s=>exact hf s h
 |rt r=>exact hg r h
theorem Q3{body:Nat->S->Option S}{m:Nat}{s:S}(Inv:Nat->S->Prop)(hm:m<=4611686018427387904)(h0:Inv 0 s)(h:∀k s,k<m->Inv k s->Ok (body k s) (Inv<|k+1)):Ok (gN m body s) (Inv m):=
 yt Inv hm h0 h
theorem So{body:Nat->S->Option (Fl S R)}{m:Nat}{s:S}(Inv:Nat->S->Prop){Go:S->Prop}{Rt:R->Prop}(hm:m<=4611686018427387904)(h0:Inv 0 s)
  (h:∀k s,k<m->Inv k s->Ok (body k s) (KY (Inv<|k+1) Go Rt)) (hg:∀s,Inv m s->Go s):Ok (pg m body s) (Nf Go Rt):=by
 obtain⟨o,h1,h2⟩:=Kc (R:=R) Inv Go Rt hm h0 (λk s hk hi=>by
  obtain⟨fl,a1,a2⟩:=h k s hk hi
  exact⟨fl,a1,by cases fl <;> exact a2⟩) hg
 exact⟨o,h1,by cases o <;> exact h2⟩
theorem Rx{body:S->Option (Fl S R)}{N:Nat}{s:S}(Inv:S->Prop)(μ:S->Nat){Go:S->Prop}{Rt:R->Prop}
  (h:∀s,Inv s->Ok (body s) (KY (λs'=>Inv s'/\μ s'<μ s) Go Rt)) (hi:Inv s) (hn:μ s<N):Ok (mZ body N s) (Nf Go Rt):=by
 obtain⟨o,h1,h2⟩:=t5 (R:=R) Inv μ Go Rt (λs hi=>by
  obtain⟨fl,a1,a2⟩:=h s hi
  exact⟨fl,a1,by cases fl <;> exact a2⟩) N s hi hn
 exact⟨o,h1,by cases o <;> exact h2⟩
theorem Rg{b:Nat}{l ys:List α}{f:List α->Option β}(h:(l.length+ys.length)*b<=140737488355328)(k:Ok (f<|l++ys) Q):Ok ((Go.Gk.app b l ys).bind f) Q:=by grind [gu]
theorem Q8{l:List α}{i:Nat}{f:α->Option β}(h:i<l.length)(k:Ok (f l[i]) Q):Ok ((Go.Gk.idx l ((i:Nat):Int)).bind f) Q:=by grind [gL]
theorem QK{l:List α}{i:Nat}{x:α}{f:α->Option β}(h:l[i]? =some x)(k:Ok (f x) Q):Ok ((Go.Gk.idx l ((i:Nat):Int)).bind f) Q:=by grind [eW]
end
theorem Dz{n:Nat}(h:n<=4611686018427387904):wrap .i64 ((n:Nat):Int)=((n:Nat):Int):=by grind [eG]
theorem wrap_add{n m:Nat}(h:n+m<=4611686018427387904):wrap .i64 (((n:Nat):Int)+((m:Nat):Int))=((n+m:Nat):Int):=by grind [eG]
theorem iE{n:Nat}(h:n+1<=4611686018427387904):wrap .i64 (((n:Nat):Int)+1)=((n+1:Nat):Int):=by grind [eG]
theorem Bb{n:Nat}(h:n+2<=4611686018427387904):wrap .i64 (((n:Nat):Int)+2)=((n+2:Nat):Int):=by grind [eG]
theorem eD{α:Type}[DecidableEq α]:∀{l m:List α},l.Nodup->(∀x∈l,x∈m)->l.length<=m.length
 | [],m,_,_=>nu _
 |a::l,m,hn,hs=>by
  have ha:a∈m:=hs a (by simp);have hn':=List.nodup_cons.1 hn
  have:=eD (l:=l) (m:=m.erase a) hn'.2 (λx hx=>by
   grind)
  rw[List.length_erase_of_mem ha]at this;have:=List.length_pos_of_mem ha;simp;omega
section
variable {α:Type}{N:Nat}
def Ng(z:α)(N:Nat)(p0:List α)(p1:α->Option Bool):Option (List α):=
 (ry p0 p1).bind λx31=>bif x31==(-1)then some p0 else((mZ (λ(s33:List α×Int×Int)=>(bif decide (s33.2.2<(s33.1.length:Int))then((idx s33.1 s33.2.2).bind λx54=>(p1 x54).bind λx58=>(bif(!x58)then((idx s33.1 s33.2.1).bind λx63=>some (s33.1.set (Int.toNat s33.2.1) x54,wrap .i64<|s33.2.1+1))else some (s33.1,s33.2.1)).bind λs61=>some<|.nx (s61.1,s61.2,wrap .i64<|s33.2.2+1))else(some<|.br (s33.1,s33.2.1,s33.2.2)):Option (Fl (List α×Int×Int) Empty))) N (p0,x31,wrap .i64<|x31+1)).bind λo67=>o67.cs (λ(s33:List α×Int×Int)=>(u3 s33.1 s33.2.1 (s33.1.length:Int)).bind λx64=>(u3 (s33.1.take (Int.toNat s33.2.1)++List.replicate (s33.1.length - Int.toNat s33.2.1) z) 0 s33.2.1).bind λx65=>some x65)<|λr=>r.elim)
theorem IK{z:α}{l:List α}{φ:α->Option Bool}(p:α->Bool)(hφ:∀x∈l,φ x=some (p x))(hl:l.length<=4611686018427387000)(hN:l.length<N):Ng z N l φ=some (l.filter<|λx=> !p x):=by
 unfold Ng;rw[uL p (by omega) hφ,aB]
 rcases lF l p with⟨h1,h2⟩|⟨k,x,h1,h2,h3,h4⟩
 ·grind [List.filter_eq_self]
 ·rw[h1,show(((k:Nat):Int)== -1)=false by simp,bF];have hk:=(bI.1 h2).1;have hpre:(l.take k).filter (λx=> !p x)=l.take k:=List.filter_eq_self.2 λa ha=>by
   grind [eA,bI,cZ,List.getElem?_take_of_lt]
  have hst:l.take (k+1)=l.take k++[x]:=by
   rw[dF hk];grind
  have hk1:wrap .i64 (((k:Nat):Int)+1)=((k+1:Nat):Int):=by grind [eG]
  rw[hk1];obtain⟨o,a1,a2⟩:=t5 (S:=List α×Int×Int) (R:=Empty) (body:=λ(s33:List α×Int×Int)=>(bif decide (s33.2.2<(s33.1.length:Int))then((idx s33.1 s33.2.2).bind λx54=>(φ x54).bind λx58=>(bif(!x58)then((idx s33.1 s33.2.1).bind λx63=>some (s33.1.set (Int.toNat s33.2.1) x54,wrap .i64<|s33.2.1+1))else some (s33.1,s33.2.1)).bind λs61=>some<|.nx (s61.1,s61.2,wrap .i64<|s33.2.2+1))else(some<|.br (s33.1,s33.2.1,s33.2.2)):Option (Fl (List α×Int×Int) Empty)))
   (λs=>∃i j:Nat,s.2.1=((i:Nat):Int)/\s.2.2=((j:Nat):Int)/\i<j/\j<=l.length/\s.1.length=l.length/\s.1.take i=(l.take j).filter (λx=> !p x)/\∀m,j<=m->s.1[m]? =l[m]?)
   (λs=>l.length - s.2.2.toNat) (λs=>∃i:Nat,s.2.1=((i:Nat):Int)/\i<=l.length/\s.1.length=l.length/\s.1.take i=l.filter (λx=> !p x)) (λ_=>True) (λs⟨i,j,e1,e2,hij,hj,hlen,ht,hd⟩=>by
    obtain⟨s,a,b⟩:=s;dsimp only at e1 e2 hlen ht hd ⊢;subst e1;subst e2
    by_cases hlt:j<l.length
    ·rw[cG (by omega),aR];have hx:s[j]? =some l[j]:=by grind
     have w1:wrap .i64 (((j:Nat):Int)+1)=((j+1:Nat):Int):=by grind [eG]
     have w2:wrap .i64 (((i:Nat):Int)+1)=((i+1:Nat):Int):=by grind [eG]
     have hs2:l.take (j+1)=l.take j++[l[j]]:=dF hlt;rw[eW hx,aB,hφ _<|cU hlt,aB,w1]
     cases hp:p l[j]with
     |true=>
      refine⟨.nx (s,((i:Nat):Int),((j+1:Nat):Int)),by rfl,⟨i,j+1,rfl,rfl,by omega,by omega,hlen,?_,λm hm=>hd m (by omega)⟩,?_⟩
      ·grind
      grind
     |false=>
      refine⟨.nx (s.set i l[j],((i+1:Nat):Int),((j+1:Nat):Int)),by rw[pz,aR,gL _ _ (by omega),aB,cT,w2,aB],⟨i+1,j+1,rfl,rfl,by omega,by omega,by simp[hlen],?_,λm hm=>?_⟩,?_⟩
      ·rw[hs2,List.filter_append,<-ht];have:(s.set i l[j]).take (i+1)=s.take i++[l[j]]:=by
        rw[dF (by simp;omega),List.take_set_of_le<|bU _];simp
       rw[this];simp[hp]
      ·rw[j7,aF (by omega)];exact hd m (by omega)
      ·simp only[cT];omega
    ·rw[cB (by rw[hlen];omega),bF];have hje:j=l.length:=by omega
     subst hje;rw[dG]at ht
     exact⟨.br (s,((i:Nat):Int),((l.length:Nat):Int)),rfl,i,rfl,by omega,hlen,ht⟩)
   N (l,((k:Nat):Int),((k+1:Nat):Int)) ⟨k,k+1,rfl,rfl,by omega,by omega,rfl,by rw[hst,List.filter_append,hpre];simp[h3],λ_ _=>rfl⟩ (by simp only[cT];omega)
  rw[a1,aB]
  cases o with
  |rt r=>exact r.elim
  |go s=>
   obtain⟨i,e1,hi,hlen,ht⟩:=a2;obtain⟨s,a,b⟩:=s;dsimp only at e1 hlen ht;subst e1;simp only[Fo.cs];rw[wi _ _ (by omega),aB,cT,qA _ _ (by simp;omega),aB,List.take_append_of_le_length (by simp;omega),List.take_take,Nat.min_self,ht]
end
section
variable {κ ν:Type}[DecidableEq κ]
theorem qL(m:List (κ×ν))(k k':κ)(x z:ν):dR (kQ m k x) k' z=if k'=k then x else dR m k' z:=by
 induction m with
 |nil=>grind [kQ,dR]
 |cons p m ih=>
  grind [kQ,dR,cB,cG]
theorem xA(m:List (κ×ν))(k k':κ)(x:ν):gX (kQ m k x) k'=(decide (k'=k)||gX m k'):=by
 induction m with
 |nil=>rfl
 |cons p m ih=>
  unfold kQ
  grind [gX,cB,decide]
def lV(m:List (κ×ν))(l:List κ)(x:ν):List (κ×ν):=l.foldl (λm k=>kQ m k x) m
theorem rE(l:List κ)(x z:ν)(k:κ):∀(m:List (κ×ν)),dR (lV m l x) k z=if k∈l then x else dR m k z:=by
 induction l with
 |nil=>simp[lV]
 |cons a l ih=>
  intro m;show dR (lV (kQ m a x) l x) k z=_
  grind [qL]
theorem EN(l:List κ)(x:ν)(k:κ):∀(m:List (κ×ν)),gX (lV m l x) k=(decide (k∈l)||gX m k):=by
 induction l with
 |nil=>simp[lV]
 |cons a l ih=>
  intro m;show gX (lV (kQ m a x) l x) k=_
  grind [xA]
theorem Bc{l:List κ}{m:List (κ×ν)}(x:ν)(hl:l.length<=4611686018427387904):
  gN l.length (λ(k:Nat)(s:List (κ×ν))=>((idx l ((k:Nat):Int)).bind λy=>some (kQ s y x):Option (List<|κ×ν))) m=some (lV m l x):=by
 rw[wh (s:=m) (λk=>lV m (l.take k) x) hl rfl (λk hk=>by
  grind [gL,aB,lV,dF]),dG]
end
section
variable {N:Nat}
theorem zz(l:List Int)(a b:Nat)(h:a+b<l.length):Ek l ((a:Nat):Int) ((b:Nat):Int)=some l[a+b]:=by
 unfold Ek;rw[aG (by omega),show((a:Nat):Int)+((b:Nat):Int)=((a+b:Nat):Int)by omega,gL _ _ h]
theorem mg.IL{l:List Int}{a:Int}(h:mg l)(hl:∀c∈l,c<a):mg (l++[a]):=by
 grind [mg]
theorem mg.last{l:List Int}{a:Int}(h:mg l)(hl:l.getLast? =some a):∀c∈l,c<=a:=by
 intro c hc;have hs:=rD hl;rw[hs]at h hc
 rcases dM.1 hc with h1|h1
 ·have:=(List.pairwise_append.1 h).2.2 c h1 a (by simp);omega
 grind
theorem Cf{l:List Int}(hs:l.Pairwise (λx y=>x<=y))(hl:l.length<=4611686018427387000)(hN:l.length<N):
  Ok (fK N l) (λm=>mg m/\∀c,c∈m↔c∈l):=by
 unfold fK;refine Q6 (λh2=>Qo ⟨?_,λc=>Iff.rfl⟩)<|λh2=>?_
 ·have h2:=of_decide_eq_true h2
  match l,h2 with
  | [],_=>exact l6
  | [a],_=>exact List.pairwise_singleton _ _
  |a::b::l,h2=>grind
 ·have h2:=of_decide_eq_false h2;have le:∀(i j:Nat)(x y:Int),i<j->l[i]? =some x->l[j]? =some y->x<=y:=λi j x y hij hx hy=>by
   grind [nv,bI]
  refine Qv (Rx (Go:=λ_=>mg l) (Rt:=λm=>mg m/\∀c,c∈m↔c∈l) (λs=>∃k:Nat,s=((k:Nat):Int)/\1<=k/\k<=l.length/\mg (l.take k)) (λs=>l.length - s.toNat) ?_ ⟨1,rfl,bU _,by omega,?_⟩ (by simp;omega)) ?_
  ·rintro s⟨k,rfl,hk1,hkl,hinc⟩;refine Q6 (λh=>?_)<|λh=>Rw ?_
   ·have hk:k<l.length:=by grind
    refine Q8 hk ?_;rw[lE hk1 (by omega)];refine Q8 (by omega) ?_;refine Q6 (λhe=>?_)<|λhe=>?_
    ·have he:l[k]=l[k - 1]:=by grind
     refine Qn (wi l k hkl) ?_
     refine Qv (Rx (Go:=λs=>∃i:Nat,s.2.1=((i:Nat):Int)/\i<=l.length/\s.1.length=l.length/\mg (s.1.take i)/\∀c,c∈s.1.take i↔c∈l) (Rt:=λ_=>True)
      (λs=>∃i j:Nat,s.2.1=((i:Nat):Int)/\s.2.2=((j:Nat):Int)/\1<=j/\k+j<=l.length/\i<=k+j - 1/\s.1.length=l.length/\mg (s.1.take i)/\(s.1.take i).getLast? =l[k+j - 1]? /\
       (∀c,c∈s.1.take i↔c∈l.take (k+j))/\∀m,k+j - 1<=m->s.1[m]? =l[m]?) (λs=>l.length - s.2.2.toNat) ?_ ?_ (by simp;omega)) ?_
     ·rintro⟨u,a,b⟩⟨i,j,e1,e2,hj,hjl,hij,hlen,hi,hlast,hmem,hrest⟩;dsimp only at e1 e2 hlen hi hlast hmem hrest ⊢;subst e1;subst e2;rw[cT];refine Q6 (λh=>?_)<|λh=>Rw ?_
      ·have hlt:k+j<l.length:=by have:=of_decide_eq_true h;omega
       have hx:u[k+j]'(by omega)=l[k+j]:=by have:=hrest (k+j) (by omega);rw[aK (by omega),aK hlt]at this;injection this
       have hy:u[k+(j - 1)]'(by omega)=l[k+(j - 1)]:=by have:=hrest (k+(j - 1)) (by omega);rw[aK (by omega),aK (by omega)]at this;injection this
       refine Qn (zz u k j (by omega)) ?_;rw[lE hj (by omega)];refine Qn (zz u k (j - 1) (by omega)) ?_;rw[hx,hy];have hts:l.take (k+j+1)=l.take (k+j)++[l[k+j]]:=dF hlt;have hlast':(u.take i).getLast? =some l[k+(j - 1)]:=by rw[hlast,show k+j - 1=k+(j - 1)by omega,aK (by omega)]
       have hxy:l[k+(j - 1)]<=l[k+j]:=le (k+(j - 1)) (k+j) _ _ (by omega) (aK _)<|aK _
       refine Qv (P:=λs'=>s'.1.length=l.length/\∃i':Nat,s'.2=((i':Nat):Int)/\i'<=k+j/\mg (s'.1.take i')/\(s'.1.take i').getLast? =l[k+j]? /\(∀c,c∈s'.1.take i'↔c∈l.take (k+j+1))/\∀m,k+j<=m->s'.1[m]? =l[m]?) ?_ ?_
       ·refine Q6 (λhne=>?_)<|λhne=>Qo ?_
        ·have hne:l[k+j]≠l[k+(j - 1)]:=by simpa using hne
         refine Qn (zz u k j (by omega)) ?_;rw[hx];refine Q8 (by omega)<|Qo ⟨by simp[hlen],i+1,?_,by omega,?_⟩
         ·rw[iE (by omega)]
         ·dsimp only;rw[cT];have ht:(u.set i l[k+j]).take (i+1)=u.take i++[l[k+j]]:=by
           rw[dF (by simp;omega),List.take_set_of_le<|bU _];simp
          rw[ht];refine⟨hi.IL λc hc=>?_,by simp[aK hlt],λc=>?_,λm hm=>?_⟩
          ·have:=hi.last hlast' c hc;omega
          ·rw[hts,dM,dM,hmem]
          ·rw[j7,aF (by omega)];exact hrest m (by omega)
        ·have he:l[k+j]=l[k+(j - 1)]:=by simpa using hne
         refine⟨hlen,i,rfl,by omega,hi,?_,λc=>?_,λm hm=>hrest m (by omega)⟩
         ·dsimp only;rw[hlast',aK hlt,he]
         ·rw[hts,dM,<-hmem];constructor
          ·exact .inl
          ·rintro(h|h)
           ·exact h
           ·simp at h;subst h;rw[he];exact List.mem_of_getLast? hlast'
       ·rintro⟨v,a⟩⟨g1,i',g2,g3,g4,g5,g6,g7⟩;dsimp only at g1 g2 g4 g5 g6 g7 ⊢;refine Rk ⟨⟨i',j+1,g2,?_,by omega,by omega,by omega,g1,g4,?_,g6,λm hm=>g7 m (by omega)⟩,?_⟩
        ·rw[iE (by omega)]
        ·rw[show k+(j+1) - 1=k+j by omega];exact g5
        ·rw[iE (by omega)];simp only[cT];omega
      ·have hge:k+j=l.length:=by have:=of_decide_eq_false h;omega
       refine⟨i,rfl,by omega,hlen,hi,λc=>?_⟩;rw[hmem,hge,dG]
     ·refine⟨k,1,rfl,rfl,bU _,by omega,by omega,rfl,hinc,?_,λc=>?_,λm _=>rfl⟩
      ·dsimp only;rw[show k+1 - 1=k by omega,aK hk,he,List.getLast?_eq_getElem?,cZ,Nat.min_eq_left hkl,List.getElem?_take_of_lt (by omega),aK (by omega)]
      ·dsimp only;rw[dF hk,dM];constructor
       ·exact .inl
       ·rintro(h|h)
        ·exact h
        ·simp at h;subst h;rw[he];refine eM (i:=k - 1) ?_;rw[List.getElem?_take_of_lt (by omega),aK (by omega)]
     ·rintro o ho;refine Ro ho ?_<|λr=>r.elim
      rintro⟨u,a,b⟩⟨i,e1,hi,hlen,hinc',hmem⟩;dsimp only at e1 hlen hinc' hmem ⊢;subst e1;refine Qn (wi u i (by omega)) ?_;rw[cT];refine Qn (qA _ i (by simp;omega))<|Sb ?_
      rw[List.take_append_of_le_length (by simp;omega),List.take_take,Nat.min_self];exact⟨hinc',hmem⟩
    ·have he:l[k]≠l[k - 1]:=by simpa using he
     refine Rk ⟨⟨k+1,by rw[iE (by omega)],by omega,by omega,?_⟩,by rw[iE (by omega)];simp only[cT];omega⟩;rw[dF hk];refine hinc.IL λc hc=>?_;have hlast:(l.take k).getLast? =some l[k - 1]:=by
      rw[List.getLast?_eq_getElem?,cZ,Nat.min_eq_left hkl,List.getElem?_take_of_lt (by omega),aK (by omega)]
     have h3:=hinc.last hlast c hc;have h4:=le (k - 1) k _ _ (by omega) (aK (by omega:k - 1<l.length))<|aK hk
     omega
   ·have hge:k=l.length:=by have:=of_decide_eq_false h;omega
    subst hge;rw[dG]at hinc;exact hinc
  ·match l,h2 with
   | [],h2=>simp at h2
   |a::l,_=>exact List.pairwise_singleton _ _
  ·rintro o ho;exact Ro ho (λs h=>Qo ⟨h,λc=>Iff.rfl⟩)<|λr h=>Qo h
def qM(l:List aI):List Int:=l.flatMap λr=>[r.X0,r.X1]
def lW(l:List aI):List Int:=l.flatMap λr=>[r.Y0,r.Y1]
theorem oX{l:List aI}{c:Int}:c∈qM l↔∃r∈l,c=r.X0\/c=r.X1:=by simp[qM,List.mem_flatMap]
theorem kl{l:List aI}{c:Int}:c∈lW l↔∃r∈l,c=r.Y0\/c=r.Y1:=by simp[lW,List.mem_flatMap]
theorem qN(l:List aI):(qM l).length=2*l.length:=by
 induction l with
 |nil=>rfl
 |cons r l ih=>grind [qM]
theorem mQ(l:List aI):(lW l).length=2*l.length:=by
 induction l with
 |nil=>rfl
 |cons r l ih=>grind [lW]
def vD(X Y:List Int)(s:List Bd):Prop:=∀b∈s,b.y0∈Y/\b.y1∈Y/\∀c∈b.xs,c∈X
theorem vD.push{X Y:List Int}{s:List Bd}{b:Bd}(h:vD X Y s)(h0:b.y0∈Y)(h1:b.y1∈Y)(h2:∀c∈b.xs,c∈X):vD X Y (ml s b):=by
 intro c hc;unfold ml at hc;split at hc
 ·exact h c hc
 ·split at hc
  ·rename_i d hd;have hdm:d∈s:=List.mem_of_getLast? hd;split at hc
   ·rcases dM.1 hc with hc|hc
    ·exact h c<|List.dropLast_subset _ hc
    ·simp at hc;subst hc;exact⟨(h d hdm).1,h1,(h d hdm).2.2⟩
   ·rcases dM.1 hc with hc|hc
    ·exact h c hc
    grind
  grind
theorem mg.nodup{l:List Int}(h:mg l):l.Nodup:=List.Pairwise.imp (λh=>by omega) h
theorem vD.row{X Y:List Int}{s:List Bd}(h:vD X Y s)(hc:dW s){b:Bd}(hb:b∈s):b.xs.length<=X.length:=eD (hc.each b hb).2.2.1.nodup (h b hb).2.2
theorem vD.len{X Y:List Int}{s:List Bd}(h:vD X Y s)(hc:dW s):s.length<=Y.length:=by
 have hn:(s.map Bd.y0).Nodup:=by
  unfold List.Nodup;rw[List.pairwise_map];refine List.Pairwise.imp_of_mem (λ{a b}ha hb hab=>?_) hc.ord;have:=(hc.each a ha).1;omega
 have:=eD hn (m:=Y) (λx hx=>by
  obtain⟨b,hb,rfl⟩:=cF.1 hx
  exact(h b hb).1)
 grind
theorem vD.mono{X Y X' Y':List Int}{s:List Bd}(h:vD X Y s)(hx:∀c∈X,c∈X')(hy:∀c∈Y,c∈Y'):vD X' Y' s:=λb hb=>⟨hy _ (h b hb).1,hy _ (h b hb).2.1,λc hc=>hx c<|(h b hb).2.2 c hc⟩
theorem mg.lt{l:List Int}(h:mg l){i j:Nat}{x y:Int}(hij:i<j)(hx:l[i]? =some x)(hy:l[j]? =some y):x<y:=by
 have:=nv.1 h i j (bI.1 hx).1 (bI.1 hy).1 hij
 grind
theorem mg.next{l:List Int}(h:mg l){k:Nat}{x y c:Int}(hx:l[k]? =some x)(hy:l[k+1]? =some y)(hc:c∈l)(hxc:x<c):y<=c:=by
 obtain⟨j,hj⟩:=eA hc
 rcases Nat.lt_trichotomy j (k+1)with h1|h1|h1
 ·exfalso
  by_cases e:j=k
  ·grind
  ·have:=h.lt (show j<k by omega) hj hx;omega
 ·grind
 ·have:=h.lt h1 hy hj;omega
theorem vl{l:List aI}{φ:aI->Option Bool}(p:aI->Bool)(hφ:∀x∈l,φ x=some (p x))(hl:l.length<=4611686018427387000)(hN:l.length<N):gq N l φ=some (l.filter<|λx=> !p x):=
 IK (z:=(⟨0,0,0,0⟩:aI)) p hφ hl hN
theorem Az{l:List aI}(hl:l.length<=268435456):ij N l=some l:=by
 grind [ij,gu,aB]
structure Nh (l m:List aI) (ys:List Int) (k:Nat) (out:List aA) (now:List aI) (nx:Nat):Prop where
 can:dW (out.map bR)
 top:∀c∈out,∀y,ys[k]? =some y->c.Y1<=y
 cover:∀x y,wE (out.map bR) x y=(Ay l x y&&decide (∀a,ys[k]? =some a->y<a))
 lim:vD (qM l) (lW l) (out.map bR)
 P8:∀r∈now,r∈m.take nx
 P9:∀r∈m.take nx,∀y,ys[k]? =some y->y<r.Y1->r∈now
 len:now.length<=nx
 Px:nx<=m.length
 rest:∀(j:Nat)r y,nx<=j->m[j]? =some r->ys[k]? =some y->y<=r.Y0
 low:∀r∈now,∀y,ys[k]? =some y->r.Y0<=y
structure qO (l:List aI) (s:List aA):Prop where
 can:dW (s.map bR)
 cover:∀x y,wE (s.map bR) x y=Ay l x y
 lim:vD (qM l) (lW l) (s.map bR)
theorem rF{l:List aI}(hl:l.length<=134217728)(hok:∀r∈l,Ea r)(hN:4294967296<=N):Ok (fQ N l) (qO l):=by
 unfold fQ;refine Qn (Az (by omega)) ?_
 obtain⟨m,h1,h2,h3⟩:=wA (φ:=iS N) (l:=l) (λa b=>a.Y0 - b.Y0) (λa ha b hb=>by
  unfold iS;rw[wrap_small (hok a ha).s3 (hok b hb).s3]) (λa _=>by omega) (λa _ b _ c _ h1 h2=>by omega) (λa _ b _ c _ h1 h2=>by omega) (by omega)
 refine Qn h1 ?_;have hml:m.length=l.length:=h2.length_eq;have hmem:∀r,r∈m↔r∈l:=λr=>h2.mem_iff;refine Qv (Q3 (λk s=>s=lW (m.take k)) (by omega) rfl<|λk s hk e=>?_) ?_
 ·grind [Q8,Rg,Qo,mQ,dF,lW]
 rintro s rfl;rw[dG];have hgs:sN (lW m)=some ((lW m).mergeSort<|λx y=>decide<|x<=y):=by grind [sN,mQ]
 refine Qn hgs ?_;have hsp:((lW m).mergeSort<|λx y=>decide<|x<=y).Pairwise (λx y=>x<=y):=by
  grind [List.pairwise_mergeSort,decide,lW,List.Pairwise.imp]
 have hsm:∀c,c∈(lW m).mergeSort (λx y=>decide<|x<=y)↔c∈lW m:=λc=>List.mem_mergeSort;have hsl:((lW m).mergeSort<|λx y=>decide<|x<=y).length=2*m.length:=by rw[List.length_mergeSort,mQ]
 generalize (lW m).mergeSort (λx y=>decide<|x<=y)=sy at hsp hsm hsl;refine Qv (Cf (N:=N) hsp (by omega) (by omega)) ?_;rintro ys⟨hy,hym⟩;have hyl:ys.length<=2*m.length:=by
  have:=eD hy.nodup (m:=sy)<|λc hc=>(hym c).1 hc
  omega
 have y0m:∀r∈m,r.Y0∈ys:=λr hr=>(hym _).2<|(hsm _).2<|kl.2 ⟨r,hr, .inl rfl⟩
 have y1m:∀r∈m,r.Y1∈ys:=λr hr=>(hym _).2<|(hsm _).2<|kl.2 ⟨r,hr, .inr rfl⟩
 have yml:∀c∈ys,c∈lW l:=λc hc=>by
  grind [kl]
 refine Qv (Rx (Go:=λs=>qO l s.1) (Rt:=λ_=>True) (λs=>∃k nx:Nat,s.2.2.2=((k:Nat):Int)/\s.2.2.1=((nx:Nat):Int)/\(k<ys.length\/k=0)/\Nh l m ys k s.1 s.2.1 nx) (λs=>ys.length - s.2.2.2.toNat) ?_ ?_ (by simp;omega)) ?_
 ·rintro⟨out,now,a,b⟩⟨k,nx,e1,e2,hk,I⟩;dsimp only at e1 e2 I ⊢;subst e1;subst e2;rw[iE (by omega)];refine Q6 (λh=>?_)<|λh=>Rw ?_
  ·have hk1:k+1<ys.length:=by grind
   have hyk:ys[k]? =some ys[k]:=aK _;have hyk1:ys[k+1]? =some ys[k+1]:=aK hk1;have hlt:=hy.lt (Nat.lt_succ_self k) hyk hyk1;have hcov:=I.cover;simp only[hyk,Option.some.injEq,forall_eq']at hcov;refine Qn (vl (λr=>decide<|r.Y1<=ys[k]) (λr _=>by grind [mC,gL,aB]) (by have:=I.len;have:=I.Px;omega) (by have:=I.len;have:=I.Px;omega)) ?_;have hfl:=ja (λr:aI=> !decide (r.Y1<=ys[k])) now;have hIl:=I.len;have hIn:=I.Px
   refine Qv (Rx (Go:=λs=>∃nx':Nat,s.2=((nx':Nat):Int)/\nx'<=m.length/\s.1.length<=nx'/\(∀r∈s.1,r∈m.take nx')/\(∀r∈m.take nx',ys[k]<r.Y1->r∈s.1)/\(∀r∈s.1,r.Y0<=ys[k]/\ys[k]<r.Y1)/\(∀(j:Nat)r,nx'<=j->m[j]? =some r->ys[k]<r.Y0)) (Rt:=λ_=>True)
    (λs=>∃nx':Nat,s.2=((nx':Nat):Int)/\nx<=nx'/\nx'<=m.length/\s.1.length<=nx'/\(∀r∈s.1,r∈m.take nx')/\(∀r∈m.take nx',ys[k]<r.Y1->r∈s.1)/\(∀r∈s.1,r.Y0<=ys[k]/\ys[k]<r.Y1)) (λs=>m.length - s.2.toNat) ?_ ?_ (by simp;omega)) ?_
   ·rintro⟨nw,b⟩⟨nx',e1,g0,g1,g2,g3,g4,g5⟩;dsimp only at e1 g2 g3 g4 g5 ⊢;subst e1;refine Qv (P:=λb=>b=true↔∃h:nx'<m.length,m[nx'].Y0<=ys[k]) ?_ ?_
    ·refine Q6 (λh=>?_)<|λh=>Qo ?_
     ·have hlt:nx'<m.length:=by have:=of_decide_eq_true h;omega
      refine Q8 hlt<|Q8 (by omega)<|Qo ?_
      rw[dN];exact⟨λh=>⟨hlt,h⟩,λ⟨_,h⟩=>h⟩
     ·have:=of_decide_eq_false h;constructor
      ·intro h;cases h
      ·rintro⟨h,_⟩;omega
    ·intro bb hbb;refine Q6 (λh=>?_)<|λh=>Rw ?_
     ·obtain⟨hlt,h0⟩:=hbb.1 h;have hts:m.take (nx'+1)=m.take nx'++[m[nx']]:=dF hlt;refine Q8 hlt<|Rg (by simp;omega)<|Rk ⟨⟨nx'+1,by rw[iE (by omega)],by omega,by omega,by simp;omega,λr hr=>?_,λr hr hr2=>?_,λr hr=>?_⟩,by rw[iE (by omega)];simp only[cT];omega⟩
      ·rw[hts]
       rcases dM.1 hr with h|h
       ·exact List.mem_append_left _<|g3 r h
       ·exact List.mem_append_right _ h
      ·rw[hts]at hr
       rcases dM.1 hr with h|h
       ·exact List.mem_append_left _<|g4 r h hr2
       ·exact List.mem_append_right _ h
      ·rcases dM.1 hr with h|h
       ·exact g5 r h
       ·simp at h;subst h;refine⟨h0,?_⟩;have:=(hok m[nx']<|(hmem _).1<|cU hlt).y;have:=I.rest nx' _ ys[k] g0 (aK hlt) hyk;omega
     ·refine⟨nx',rfl,g1,g2,g3,g4,g5,λj r hj hr=>?_⟩;have hjl:=(bI.1 hr).1;have hlt:nx'<m.length:=by omega
      have h0:¬m[nx'].Y0<=ys[k]:=λh0=>by rw[hbb.2 ⟨hlt,h0⟩]at h;cases h
      by_cases e:nx'=j
      ·subst e;rw[aK hlt]at hr;injection hr with hr;subst hr;omega
      ·have:=nv.1 h3 nx' j hlt hjl (by omega);have hr':=(bI.1 hr).2;rw[hr']at this;omega
   ·refine⟨nx,rfl,bU _,hIn,by dsimp only;omega,λr hr=>I.P8 r (lj.1 hr).1,λr hr h=>lj.2 ⟨I.P9 r hr ys[k] hyk h,by simpa using h⟩,λr hr=>?_⟩;have hr:=lj.1 hr;have hr2:ys[k]<r.Y1:=by simpa using hr.2
    exact⟨I.low r hr.1 ys[k] hyk,hr2⟩
   ·rintro o ho;refine Ro ho ?_<|λr=>r.elim
    rintro⟨nw,b⟩⟨nx',e1,g1,g2,g3,g4,g5,g6⟩;dsimp only at e1 g2 g3 g4 g5 ⊢;subst e1;refine Q8 (by omega)<|Q8 hk1 ?_
    have hnm:∀r∈nw,r∈l:=λr hr=>(hmem r).1<|List.take_subset _ _<|g3 r hr
    obtain⟨row,nw',s1,s2,s3,s4,s5,s6,s7⟩:=Ce (N:=N) (l:=nw) (by omega)<|λr hr=>hok r<|hnm r hr
    refine Qn s1 ?_;have hlimx:∀c∈row,c∈qM l:=λc hc=>by
     obtain⟨r,hr,h⟩:=s7 c hc;exact oX.2 ⟨r,hnm r hr,h⟩
    have hol:out.length<=2*l.length:=by have:=I.lim.len I.can;rw[mQ,dL]at this;exact this
    have hox:∀c∈out,c.Xs.length<=2*l.length:=λc hc=>by
     have:=I.lim.row I.can (b:=bR c)<|cF.2 ⟨c,hc,rfl⟩
     rw[qN]at this;exact this
    obtain⟨out',p1,p2⟩:=FY (N:=N) (s:=out) (b:=⟨ys[k],ys[k+1],row⟩) (by omega) (λc hc=>by have:=hox c hc;omega);refine Qn p1 ?_;have htop:∀c∈out.map bR,c.y1<=(bR ⟨ys[k],ys[k+1],row⟩).y0:=λc hc=>by
     obtain⟨d,hd,rfl⟩:=cF.1 hc;exact I.top d hd ys[k] hyk
    have hcan:=xx I.can htop s3 s4;refine Rk ⟨⟨k+1,nx',rfl,rfl, .inl hk1,⟨by dsimp only;rw[p2];exact hcan,λc hc y hy1=>?_,λx y=>?_,?_,λr hr=>g3 r<|s2.subset hr,λr hr y hy1 h=>?_,by rw[s2.length_eq];exact g2,g1,λj r y hj hr hy1=>?_,λr hr y hy1=>?_⟩⟩,by simp only[cT];omega⟩
    ·rw[hyk1]at hy1;injection hy1 with hy1;subst hy1
     have hm':bR c∈ml (out.map bR) (bR ⟨ys[k],ys[k+1],row⟩):=by rw[<-p2];exact cF.2 ⟨c,hc,rfl⟩
     exact xy htop (by show ys[k]<=ys[k+1];omega) _ hm'
    ·simp only[hyk1,Option.some.injEq,forall_eq'];unfold wE;rw[p2,xw htop (λc hc=>(I.can.each c hc).1)<|λh=>absurd h (by show ¬ys[k+1]<=ys[k];omega)]
     by_cases hyy:ys[k]<=y/\y<ys[k+1]
     ·rw[aG (show(bR ⟨ys[k],ys[k+1],row⟩).y0<=y/\y<(bR ⟨ys[k],ys[k+1],row⟩).y1 from hyy),cG hyy.2,Bool.and_true];show m0 row x=_;rw[s5,g9,zx,l8];constructor
      ·rintro⟨r,hr,h⟩;have hrm:=List.take_subset _ _<|g3 r hr
       have h5:=g5 r hr;have:=hy.next hyk hyk1 (y1m r hrm) h5.2;exact⟨r,hnm r hr,h,by omega,by omega⟩
      ·rintro⟨r,hr,h,h7,h8⟩;have hrm:=(hmem r).2 hr;have h9:r.Y0<=ys[k]:=by
        by_cases h10:r.Y0<=ys[k]
        ·exact h10
        ·have:=hy.next hyk hyk1 (y0m r hrm) (by omega);omega
       have h11:r∈m.take nx':=by
        obtain⟨j,hj⟩:=eA hrm
        by_cases h12:j<nx'
        ·exact eM (i:=j) (by rw[List.getElem?_take_of_lt h12];exact hj)
        ·have:=g6 j r (by omega) hj;omega
       exact⟨r,g4 r h11 (by omega),h⟩
     ·rw[aF (show ¬((bR ⟨ys[k],ys[k+1],row⟩).y0<=y/\y<(bR ⟨ys[k],ys[k+1],row⟩).y1)from hyy)];show wE (out.map bR) x y=_;rw[hcov]
      by_cases h1:y<ys[k]
      ·rw[cG h1,cG (show y<ys[k+1]by omega)]
      ·rw[cB h1,cB (show ¬y<ys[k+1]by omega)]
    ·show vD (qM l) (lW l) (out'.map bR);rw[p2];exact I.lim.push (yml _<|cU _) (yml _<|cU _) hlimx
    ·rw[hyk1]at hy1;injection hy1 with hy1;subst hy1
     exact s2.symm.subset<|g4 r hr (by omega)
    ·rw[hyk1]at hy1;injection hy1 with hy1;subst hy1
     exact hy.next hyk hyk1 (y0m r<|eM hr)<|g6 j r hj hr
    ·rw[hyk1]at hy1;injection hy1 with hy1;subst hy1
     have:=(g5 r<|s2.subset hr).1;omega
  ·have hge:¬k+1<ys.length:=by have:=of_decide_eq_false h;omega
   refine⟨I.can,λx y=>?_,I.lim⟩;rw[I.cover]
   by_cases hyn:ys= []
   ·have:Ay l x y=false:=by
     rw[<-ju,l8];rintro⟨r,hr,_⟩;have:=y0m r<|(hmem r).2 hr
     rw[hyn]at this;cases this
    rw[this];rfl
   ·have hkl:k<ys.length:=by
     rcases hk with h|h
     ·exact h
     ·subst h;exact List.length_pos_iff.2 hyn
    rw[aK hkl];simp only[Option.some.injEq,forall_eq']
    cases hc:Ay l x y with
    |false=>rfl
    |true=>
     obtain⟨r,hr,_,h7,h8⟩:=l8.1 hc;have:=y1m r<|(hmem r).2 hr
     obtain⟨j,hj⟩:=eA this;have hjl:=(bI.1 hj).1;have:r.Y1<=ys[k]:=by
      by_cases e:j=k
      ·subst e;rw[aK hkl]at hj;injection hj with hj;omega
      ·have:=hy.lt (show j<k by omega) hj<|aK hkl;omega
     rw[cG (show y<ys[k]by omega)];rfl
 ·refine⟨0,0,rfl,rfl, .inr rfl,?_⟩;show Nh l m ys 0 [] [] 0;refine⟨dW.nil,λc hc=>(by cases hc),λx y=>?_,λb hb=>(by cases hb),λr hr=>(by cases hr),λr hr=>(by rw[List.take_zero]at hr;cases hr),bU _,nu _,λj r y _ hr hy0=>?_,λr hr=>(by cases hr)⟩
  ·show false=_;symm;rw[Bool.and_eq_false_iff]
   cases hc:Ay l x y with
   |false=>exact .inl rfl
   |true=>
    right;obtain⟨r,hr,_,h7,h8⟩:=l8.1 hc;have hr0:=y0m r<|(hmem r).2 hr
    have hpos:0<ys.length:=List.length_pos_of_mem hr0;rw[decide_eq_false_iff_not];intro h;have h:=h ys[0]<|aK hpos
    obtain⟨j,hj⟩:=eA hr0
    by_cases e:j=0
    ·subst e;rw[aK hpos]at hj;injection hj with hj;omega
    ·have:=hy.lt (show 0<j by omega) (aK hpos) hj;omega
  ·obtain⟨j',hj'⟩:=eA<|y0m r<|eM hr
   by_cases e:j'=0
   ·subst e;rw[hy0]at hj';injection hj' with hj';omega
   ·have:=hy.lt (show 0<j' by omega) hy0 hj';omega
 ·rintro o ho;refine Ro ho (λs h=>Qo h)<|λr=>r.elim
end
section
variable {N:Nat}
def zA:List Int->List (Int×Int)
 |a::b::l=>(a,b)::zA l
 |_=>[]
theorem yu:∀(xs:List Int),(zA xs).length=xs.length / 2
 | []=>rfl
 | [a]=>by simp[zA]
 |a::b::l=>by unfold zA;rw[fY,yu l];simp only[fY];omega
theorem wG:∀(xs:List Int)(j:Nat)(h:2*j+1<xs.length),(zA xs)[j]? =some (xs[2*j],xs[2*j+1])
 | [],j,h=>by simp at h
 | [a],j,h=>by simp at h
 |a::b::l,0,h=>rfl
 |a::b::l,j+1,h=>by
  have:=wG l j (by grind);unfold zA;rw[List.getElem?_cons_succ,this];have e1:(a::b::l)[2*(j+1)]=l[2*j]'(by grind):=by simp[show 2*(j+1)=2*j+1+1 by omega]
  have e2:(a::b::l)[2*(j+1)+1]=l[2*j+1]'(by grind):=by simp[show 2*(j+1)+1=2*j+1+1+1 by omega]
  rw[e1,e2]
theorem zB:∀{xs:List Int},xs.length % 2=0->pM (zA xs)=xs
 | [],_=>rfl
 | [a],h=>by simp at h
 |a::b::l,h=>by unfold zA;rw[oW,zB (by grind)]
theorem Kl{xs:List Int}(h:mg xs)(he:xs.length % 2=0)(x:Int):m0 xs x=GP (zA xs) x:=by
 grind [wF,zA,zB]
theorem Cg{xs:List Int}:∀p∈zA xs,p.1∈xs/\p.2∈xs:=by
 grind [eA,bI,yu,wG,cU]
theorem EO{xs:List Int}(h:mg xs):∀p∈zA xs,p.1<p.2:=by
 intro p hp;obtain⟨j,hj⟩:=eA hp;have hjl:=(bI.1 hj).1;rw[yu]at hjl;rw[wG xs j (by omega)]at hj;injection hj with hj;subst hj
 exact h.lt (show 2*j<2*j+1 by omega) (aK _)<|aK _
def lX(b:aA):List aI:=(zA b.Xs).map λp=>⟨p.1,b.Y0,p.2,b.Y1⟩
def aO(s:List aA):List aI:=s.flatMap lX
theorem mm(b:aA)(s:List aA):aO (b::s)=lX b++aO s:=rfl
theorem nb(b:aA):(lX b).length=b.Xs.length / 2:=by simp[lX,dL,yu]
theorem lY(s t:List aA):aO (s++t)=aO s++aO t:=List.flatMap_append
theorem xB(s:List aA)(k:Nat):(aO<|s.take k).length<=(aO s).length:=by
 grind [List.take_append_drop,lY,dE]
theorem zC{s:List aA}{A B:Nat}(h1:s.length<=A)(h2:∀b∈s,b.Xs.length<=B):(aO s).length<=A*B:=by
 induction s generalizing A with
 |nil=>simp[aO]
 |cons b s ih=>
  rw[mm,dE,nb];simp at h1;obtain⟨A',rfl⟩:∃A',A=A'+1:=⟨A - 1,by omega⟩
  grind
theorem zD{s:List aA}(he:∀b∈s,b.Xs.length % 2=0)(h1:s.length<=1099511627776)(h2:∀b∈s,b.Xs.length<=1099511627776/\b.Xs.length<N)(h3:(aO s).length<=1099511627776):iv N s=some (aO s):=by
 refine RD ?_;unfold iv;refine Qv (Q3 (λk t=>t=aO (s.take k)) (by omega) rfl<|λk t hk e=>?_)<|λt e=>Qo (by rw[e,dG])
 subst e;refine Q8 hk ?_;have hm:=cU hk;generalize hb:s[k]=b at hm ⊢;have heb:=he b hm;have hbl:=h2 b hm;have hts:aO (s.take<|k+1)=aO (s.take k)++lX b:=by
  grind [dF,lY,aO]
 have hle:=xB s<|k+1
 rw[hts,dE,nb]at hle;refine Qv (Rx (Go:=λs'=>s'.1=aO (s.take<|k+1)) (Rt:=λ_=>True) (λs'=>∃j:Nat,s'.2=((2*j:Nat):Int)/\2*j<=b.Xs.length/\s'.1=aO (s.take k)++(lX b).take j) (λs'=>b.Xs.length - s'.2.toNat) ?_ ⟨0,rfl,by omega,by simp⟩ (by simp;omega)) ?_
 ·rintro⟨acc,i⟩⟨j,e1,hj,e2⟩;dsimp only at e1 e2 ⊢;subst e1;subst e2;refine Q6 (λh=>?_)<|λh=>Rw ?_
  ·have hlt:2*j+1<b.Xs.length:=by grind
   refine Q8 (by omega) ?_;rw[iE (by omega)];refine Q8 hlt<|Rg ?_<|Rk ⟨⟨j+1,?_,by omega,?_⟩,?_⟩
   ·grind
   ·rw[Bb (by omega)];congr 1
   ·rw[kE];congr 1;have hg:(lX b)[j]? =some ⟨b.Xs[2*j],b.Y0,b.Xs[2*j+1],b.Y1⟩:=by
     grind [lX,wG]
    have hjl:=(bI.1 hg).1;rw[dF hjl,(bI.1 hg).2]
   ·rw[Bb (by omega)];simp only[cT];omega
  ·have hge:2*j=b.Xs.length:=by have:=of_decide_eq_false h;omega
   show aO (s.take k)++(lX b).take j=_;rw[hts,px (l:=lX b) (by rw[nb];omega)]
 ·rintro o ho;exact Ro ho (λs' h=>Qo h)<|λr=>r.elim
theorem Km{s:List aA}(h1:s.length<=1099511627776)(h2:∀b∈s,b.Xs.length<=1099511627776)(h3:(aO s).length<=1099511627776):kT N s=some (((aO s).length:Nat):Int):=by
 refine RD ?_;unfold kT;refine Qv (Q3 (λk t=>t=(((aO<|s.take k).length:Nat):Int)) (by omega) rfl<|λk t hk e=>?_)<|λt e=>Qo (by rw[e,dG])
 subst e;refine Q8 hk<|Qo ?_
 have hm:=cU hk;have hbl:=h2 _ hm;have hts:aO (s.take<|k+1)=aO (s.take k)++lX s[k]:=by
  grind [dF,lY,aO]
 grind [hle,xB,dE,nb,Int.tdiv,Int.ofNat_tdiv,Dz,wrap_add]
theorem EP(l m:List aI)(x y:Int):Ay (l++m) x y=(Ay l x y||Ay m x y):=List.any_append
theorem IM{b:aA}(h:mg b.Xs)(he:b.Xs.length % 2=0)(x y:Int):Ay (lX b) x y=(m0 b.Xs x&&(decide (b.Y0<=y)&&decide (y<b.Y1))):=by
 rw[Kl h he,g9,l8,cN,zy,cN,dN,dN];unfold lX;constructor
 ·grind
 ·rintro⟨⟨p,hp,h1⟩,h2⟩;exact⟨_,cF.2 ⟨p,hp,rfl⟩,h1,h2⟩
theorem qP:∀{s:List aA},dW (s.map bR)->∀x y,Ay (aO s) x y=wE (s.map bR) x y
 | [],_,x,y=>rfl
 |b::s,h,x,y=>by
  rw[mm,EP,qP h.tail x y];have hb:=h.each (bR b) (by simp);rw[IM hb.2.2.1 hb.2.2.2];unfold wE;rw[eF,k8]
  by_cases hy:b.Y0<=y/\y<b.Y1
  ·rw[aG (show(bR b).y0<=y/\y<(bR b).y1 from hy),kd<|λc hc=> .inl (by have:=h.zu c hc;grind [bR]),cG hy.1,cG hy.2];show(m0 b.Xs x&&true||false)=m0 b.Xs x;simp
  ·rw[aF (show ¬((bR b).y0<=y/\y<(bR b).y1)from hy)];have:(decide (b.Y0<=y)&&decide (y<b.Y1))=false:=by rw[Bool.and_eq_false_iff,decide_eq_false_iff_not,decide_eq_false_iff_not];omega
   rw[this];simp
theorem oE{s:List aA}{r:aI}(h:r∈aO s):∃b∈s,∃p∈zA b.Xs,r= ⟨p.1,b.Y0,p.2,b.Y1⟩:=by
 unfold aO lX at h
 grind
theorem zF{s:List aA}{X Y:List Int}(h:dW (s.map bR))(hl:vD X Y (s.map bR))(hx:∀c∈X,small c)(hy:∀c∈Y,small c):∀r∈aO s,Ea r/\(r.X0∈X/\r.X1∈X)/\r.Y0∈Y/\r.Y1∈Y:=by
 intro r hr;obtain⟨b,hb,p,hp,rfl⟩:=oE hr;have hm:bR b∈s.map bR:=cF.2 ⟨b,hb,rfl⟩;have hc:=h.each _ hm;have hll:=hl _ hm;have h1:=Cg p hp;have h2:=hll.2.2 p.1 h1.1;have h3:=hll.2.2 p.2 h1.2;exact⟨⟨EO hc.2.2.1 p hp,hc.1,hx _ h2,hx _ h3,hy _ hll.1,hy _ hll.2.1⟩,⟨h2,h3⟩,hll.1,hll.2.1⟩
theorem vm{l:List Int}{x:Int}(h:∀c∈l,c<=x):m0 l x=(l.length % 2==1):=by grind [m0,FW]
theorem xC{l:List Int}{a x:Int}(h:x<a):m0 (l++[a]) x=m0 l x:=by grind [m0,zn,nN,FV]
def GU(l:List Int):Bool:=l.length % 2==1
theorem zG(l:List Int)(a:Int):GU (l++[a]) = !GU l:=by
 unfold GU
 grind
structure DA (kb:Bool->Bool->Bool) (a b a' b' out:List Int) (inA inB is:Bool) (pa pb:List Int):Prop where
 ea:a=pa++a'
 eb:b=pb++b'
 oa:inA=GU pa
 ob:inB=GU pb
 oo:is=GU out
 ok:is=kb inA inB
 low:∀c,(c∈pa\/c∈pb\/c∈out)->∀d,(d∈a'\/d∈b')->c<d
 inc:mg out
 Ni:∀x,(∀d,(d∈a'\/d∈b')->x<d)->m0 out x=kb (m0 pa x) (m0 pb x)
 mem:∀c∈out,c∈pa\/c∈pb
 len:out.length<=pa.length+pb.length
theorem DA.step{kb:Bool->Bool->Bool}{a b a' b' out:List Int}{inA inB is:Bool}{pa pb:List Int}(I:DA kb a b a' b' out inA inB is pa pb)(ha:mg a)(hb:mg b)(x:Int)(ta tb:List Int)(wa wb:Bool)
  (h1:a'=(if wa then x::ta else ta)) (h2:b'=(if wb then x::tb else tb)) (hw:wa=true\/wb=true) (hx:∀d,(d∈ta\/d∈tb)->x<d):
  DA kb a b ta tb (if kb (inA ^^ wa) (inB ^^ wb)=is then out else out++[x]) (inA ^^ wa) (inB ^^ wb) (kb (inA ^^ wa)<|inB ^^ wb) (if wa then pa++[x]else pa) (if wb then pb++[x]else pb):=by
 have hxm:x∈a'\/x∈b':=by
  grind
 have hsub:∀d,(d∈ta\/d∈tb)->d∈a'\/d∈b':=λd hd=>by
  grind
 have hlow:∀c,(c∈pa\/c∈pb\/c∈out)->c<x:=λc hc=>I.low c hc x hxm;have hpa:∀c∈(if wa then pa++[x]else pa),c∈pa\/(wa=true/\c=x):=λc hc=>by
  grind
 have hpb:∀c∈(if wb then pb++[x]else pb),c∈pb\/(wb=true/\c=x):=λc hc=>by
  grind
 have hout:∀c∈(if kb (inA ^^ wa) (inB ^^ wb)=is then out else out++[x]),c∈out\/c=x:=λc hc=>by
  grind
 have ooA:(inA ^^ wa)=GU (if wa then pa++[x]else pa):=by
  rw[I.oa];grind [zG]
 have ooB:(inB ^^ wb)=GU (if wb then pb++[x]else pb):=by
  rw[I.ob];grind [zG]
 have ooO:kb (inA ^^ wa) (inB ^^ wb)=GU (if kb (inA ^^ wa) (inB ^^ wb)=is then out else out++[x]):=by
  split
  ·rename_i h;rw[h];exact I.oo
  ·rename_i h;rw[zG,<-I.oo]
   cases hk:kb (inA ^^ wa) (inB ^^ wb) <;> cases his:is <;> simp_all
 refine⟨?_,?_,ooA,ooB,ooO,rfl,?_,?_,?_,?_,?_⟩
 ·rw[I.ea,h1];grind
 ·rw[I.eb,h2];grind
 ·grind
 ·split
  ·exact I.inc
  ·exact I.inc.IL λc hc=>hlow c<|.inr<|.inr hc
 ·intro y hy
  by_cases hxy:y<x
  ·have e1:m0 (if wa then pa++[x]else pa) y=m0 pa y:=by grind [xC]
   have e2:m0 (if wb then pb++[x]else pb) y=m0 pb y:=by grind [xC]
   have e3:m0 (if kb (inA ^^ wa) (inB ^^ wb)=is then out else out++[x]) y=m0 out y:=by grind [xC]
   rw[e1,e2,e3];refine I.Ni y λd hd=>?_
   grind
  ·rw[vm (l:=if wa then pa++[x]else pa),vm (l:=if wb then pb++[x]else pb),vm]
   ·have e1:=ooA;have e2:=ooB;have e3:=ooO;unfold GU at e1 e2 e3;rw[<-e1,<-e2,<-e3]
   ·intro c hc
    rcases hout c hc with h|rfl
    ·have:=hlow c<|.inr<|.inr h;omega
    ·omega
   ·intro c hc
    rcases hpb c hc with h|⟨_,rfl⟩
    ·have:=hlow c<|.inr<|.inl h;omega
    ·omega
   ·intro c hc
    rcases hpa c hc with h|⟨_,rfl⟩
    ·have:=hlow c<|.inl h;omega
    ·omega
 ·intro c hc;have m1:∀c,c∈pa->c∈(if wa then pa++[x]else pa):=λc h=>by split;exact List.mem_append_left _ h;exact h
  have m2:∀c,c∈pb->c∈(if wb then pb++[x]else pb):=λc h=>by split;exact List.mem_append_left _ h;exact h
  rcases hout c hc with h|rfl
  ·rcases I.mem c h with h|h
   ·exact .inl<|m1 c h
   ·exact .inr<|m2 c h
  ·rcases hw with h|h
   ·left;rw[aG h];simp
   ·right;rw[aG h];simp
 ·have:=I.len;have h3:(if wa then pa++[x]else pa).length+(if wb then pb++[x]else pb).length>=pa.length+pb.length+1:=by
   rcases hw with h|h
   ·subst h;cases wb <;> simp <;> omega
   ·subst h;cases wa <;> simp <;> omega
  split
  ·omega
  ·simp at h3 ⊢;omega
end
section
variable {N:Nat}
theorem iF(x:Int)(l:List Int):idx (x::l) 0=some x:=rfl
theorem qQ{α:Type}(x:α)(l:List α):u3 (x::l) 1 (((x::l).length:Nat):Int)=some l:=wi (x::l) 1 (by simp)
theorem jK{α:Type}(x:α)(l:List α):decide ((((x::l).length:Nat):Int)>0)=true:=cG (by simp)
theorem t8{α:Type}(x:α)(l:List α):((((x::l).length:Nat):Int)==0)=false:=by rfl
theorem ER{a b:List Int}(ha:mg a)(hb:mg b)(h:a≠[]\/b≠[]):∃x ta tb wa wb,a=(if wa then x::ta else ta)/\b=(if wb then x::tb else tb)/\(wa=true\/wb=true)/\(∀d,(d∈ta\/d∈tb)->x<d):=by
 match a,b,ha,hb,h with
 | [],[],_,_,h=>grind
 |x::ta,[],ha,_,_=>exact⟨x,ta,[],true,false,rfl,rfl, .inl rfl,λd hd=>by rcases hd with h|h;exact ha.head d h;cases h⟩
 | [],y::tb,_,hb,_=>exact⟨y,[],tb,false,true,rfl,rfl, .inr rfl,λd hd=>by rcases hd with h|h;cases h;exact hb.head d h⟩
 |x::ta,y::tb,ha,hb,_=>
  rcases Int.lt_trichotomy x y with h|h|h
  ·refine⟨x,ta,y::tb,true,false,rfl,rfl, .inl rfl,λd hd=>?_⟩
   rcases hd with h1|h1
   ·exact ha.head d h1
   ·rcases gk.1 h1 with rfl|h1
    ·exact h
    ·have:=hb.head d h1;omega
  ·subst h;exact⟨x,ta,tb,true,true,rfl,rfl, .inl rfl,λd hd=>by rcases hd with h|h;exact ha.head d h;exact hb.head d h⟩
  ·refine⟨y,x::ta,tb,false,true,rfl,rfl, .inr rfl,λd hd=>?_⟩
   rcases hd with h1|h1
   ·rcases gk.1 h1 with rfl|h1
    ·exact h
    ·have:=ha.head d h1;omega
   ·exact hb.head d h1
theorem GV{φ:Bool->Bool->Option Bool}{kb:Bool->Bool->Bool}(hφ:∀p q,φ p q=some (kb p q))(hk:kb false false=false){a b:List Int}(ha:mg a)(hb:mg b)(hae:a.length % 2=0)(hbe:b.length % 2=0)
  (yI:a.length<=1099511627776) (hbl:b.length<=1099511627776) (hN:a.length+b.length<N):
  Ok (oK N a b φ) (λm=>mg m/\m.length % 2=0/\(∀x,m0 m x=kb (m0 a x) (m0 b x))/\∀c∈m,c∈a\/c∈b):=by
 unfold oK
 refine Qv (Rx (Go:=λs=>mg s.2.2.1/\s.2.2.1.length % 2=0/\(∀x,m0 s.2.2.1 x=kb (m0 a x) (m0 b x))/\∀c∈s.2.2.1,c∈a\/c∈b) (Rt:=λ_=>True)
  (λs=>∃pa pb,DA kb a b s.1 s.2.1 s.2.2.1 s.2.2.2.1 s.2.2.2.2.1 s.2.2.2.2.2 pa pb) (λs=>s.1.length+s.2.1.length) ?_ ?_ hN) ?_
 ·rintro⟨a',b',out,inA,inB,is⟩⟨pa,pb,I⟩;dsimp only at I ⊢;have ha':mg a':=by have:=ha;rw[I.ea]at this;exact(List.pairwise_append.1 this).2.1
  have hb':mg b':=by have:=hb;rw[I.eb]at this;exact(List.pairwise_append.1 this).2.1
  have hle:pa.length+a'.length=a.length:=by rw[I.ea];simp
  have hlb:pb.length+b'.length=b.length:=by rw[I.eb];simp
  have hlo:=I.len
  by_cases hne:a'≠[]\/b'≠[]
  ·obtain⟨x,ta,tb,wa,wb,h1,h2,hw,hx⟩:=ER ha' hb' hne;have J:=I.step ha hb x ta tb wa wb h1 h2 hw hx;have fin:∀(sa sb:List Int×Bool),sa=(ta,inA ^^ wa)->sb=(tb,inB ^^ wb)->
     Ok ((φ sa.2 sb.2).bind λx220=>(bif x220 != is then((app 8 out ([x]:List Int)).bind λx227=>some (x227,x220))else some (out,is)).bind λs224=>some<|Fl.nx (sa.1,sb.1,s224.1,sa.2,sb.2,s224.2))
      (KY (λs':List Int×List Int×List Int×Bool×Bool×Bool=>(∃pa pb,DA kb a b s'.1 s'.2.1 s'.2.2.1 s'.2.2.2.1 s'.2.2.2.2.1 s'.2.2.2.2.2 pa pb)/\s'.1.length+s'.2.1.length<a'.length+b'.length) (λs=>mg s.2.2.1/\s.2.2.1.length % 2=0/\(∀x,m0 s.2.2.1 x=kb (m0 a x) (m0 b x))/\∀c∈s.2.2.1,c∈a\/c∈b) (λ_:Empty=>True)):=by
    rintro _ _ rfl rfl;refine Qn (hφ _ _) ?_;have hlt:ta.length+tb.length<a'.length+b'.length:=by
     rw[h1,h2]
     rcases hw with h|h
     ·subst h;cases wb <;> simp <;> omega
     ·subst h;cases wa <;> simp <;> omega
    by_cases he:kb (inA ^^ wa) (inB ^^ wb)=is
    ·rw[aG he]at J;refine Qn (x:=(out,is)) (by grind) ?_;rw[he]at J;exact Rk ⟨⟨_,_,J⟩,hlt⟩
    ·rw[aF he]at J;refine Qn (x:=(out++[x],kb (inA ^^ wa)<|inB ^^ wb)) (by grind [gu,aB])<|Rk ⟨⟨_,_,J⟩,hlt⟩
   rcases hw with rfl|rfl
   ·rw[aG rfl]at h1;subst h1;refine Qn (x:=true) (by rw[jK,aR]) ?_;rw[aR];have hle2:(bif((b'.length:Nat):Int)==0 then some true else(bif decide ((((x::ta).length:Nat):Int)>0)then((idx (x::ta) 0).bind λx181=>(idx b' 0).bind λx183=>some<|decide<|x181<=x183)else some false))=some true:=by
     cases b' with
     |nil=>rfl
     |cons y b''=>
      rw[t8,bF,jK,aR,iF,aB,iF,aB];have:x<=y:=by
       cases wb with
       |true=>grind
       |false=>have:=hx y (.inr (by grind));omega
      rw[cG this]
    refine Qn hle2 ?_;rw[aR];refine Qn (x:=x) (by rw[iF,aB]) ?_;refine Qn (x:=true) (by simp[jK,aR,iF,aB]) ?_;refine Qn (x:=(ta,!inA)) (by grind [qQ,aB]) ?_
    cases wb with
    |true=>
     rw[aG rfl]at h2;subst h2;refine Qn (x:=true) (by rw[jK,aR,iF,aB];simp) ?_;refine Qn (x:=(tb,!inB)) (by rw[aR,qQ,aB]) ?_;exact fin _ _ (by simp) (by simp)
    |false=>
     have h2:b'=tb:=h2;subst h2;refine Qn (x:=false) ?_ ?_
     ·cases b' with
      |nil=>rfl
      |cons y b''=>
       have:=hx y<|.inr (by simp)
       rw[jK,aR,iF,aB,show(y==x)=false by rw[beq_eq_false_iff_ne];omega]
     ·refine Qn (x:=(b',inB)) (by rw[bF]) ?_;exact fin _ _ (by simp) (by simp)
   ·cases wa with
    |true=>
     rw[aG rfl]at h1 h2;subst h1;subst h2;refine Qn (x:=true) (by rw[jK,aR]) ?_;rw[aR];refine Qn (x:=true) (by rw[t8,bF,jK,aR,iF,aB,iF,aB];simp) ?_;rw[aR];refine Qn (x:=x) (by rw[iF,aB]) ?_;refine Qn (x:=true) (by rw[jK,aR,iF,aB];simp) ?_;refine Qn (x:=(ta,!inA)) (by rw[aR,qQ,aB]) ?_;refine Qn (x:=true) (by rw[jK,aR,iF,aB];simp) ?_;refine Qn (x:=(tb,!inB)) (by rw[aR,qQ,aB]) ?_;exact fin _ _ (by simp) (by simp)
    |false=>
     have h1:a'=ta:=h1;rw[aG rfl]at h2;subst h1;subst h2;refine Qn (x:=true) (by rw[jK,Ke];simp) ?_;rw[aR];refine Qn (x:=false) ?_ ?_
     ·rw[t8,bF]
      cases a' with
      |nil=>rfl
      |cons y a''=>
       have:=hx y<|.inl (by simp)
       rw[jK,aR,iF,aB,iF,aB,cB (by omega)]
     ·rw[bF];refine Qn (x:=x) (by rw[iF,aB]) ?_;refine Qn (x:=false) ?_ ?_
      ·cases a' with
       |nil=>rfl
       |cons y a''=>
        have:=hx y<|.inl (by simp)
        rw[jK,aR,iF,aB,show(y==x)=false by rw[beq_eq_false_iff_ne];omega]
      ·refine Qn (x:=(a',inA)) (by rw[bF]) ?_;refine Qn (x:=true) (by rw[jK,aR,iF,aB];simp) ?_;refine Qn (x:=(tb,!inB)) (by rw[aR,qQ,aB]) ?_;exact fin _ _ (by simp) (by simp)
  ·have ea:a'= []:=Classical.byContradiction λh=>hne<|.inl h
   have eb:b'= []:=Classical.byContradiction λh=>hne<|.inr h
   subst ea;subst eb;refine Qn (x:=false) rfl ?_;refine Rw ⟨I.inc,?_,λx=>?_,λc hc=>?_⟩
   ·have h1:=I.ea;have h2:=I.eb;rw[ll]at h1 h2;have h3:GU out=false:=by
     rw[<-I.oo,I.ok,I.oa,I.ob,<-h1,<-h2];unfold GU;rw[hae,hbe];exact hk
    unfold GU at h3;rw[beq_eq_false_iff_ne]at h3;dsimp only;omega
   ·have:=I.Ni x (λd hd=>by rcases hd with h|h <;> cases h);have h1:=I.ea;have h2:=I.eb;rw[ll]at h1 h2;rw[h1,h2];exact this
   ·have h1:=I.ea;have h2:=I.eb;rw[ll]at h1 h2;rw[h1,h2];exact I.mem c hc
 ·exact⟨[],[],rfl,rfl,rfl,rfl,rfl,hk.symm,λc hc=>(by rcases hc with h|h|h <;> cases h),l6,λx _=>hk.symm,λc hc=>(by cases hc),bU _⟩
 ·rintro o ho;exact Ro ho (λs h=>Qo h)<|λr=>r.elim
theorem dW.app{s t:List Bd}(h:dW (s++t)):dW t:=⟨λb hb=>h.each b<|List.mem_append_right _ hb,(List.pairwise_append.1 h.ord).2.1⟩
theorem dW.low{b:Bd}{s:List Bd}(h:dW (b::s)):∀c∈b::s,b.y0<=c.y0:=λc hc=>by
 rcases gk.1 hc with rfl|hc
 ·exact Int.le_refl _
 ·have:=h.zu c hc;have:=(h.each b (by simp)).1;omega
theorem dW.high{s:List Bd}{b:Bd}(h:dW (s++[b])):∀c∈s++[b],c.y1<=b.y1:=λc hc=>by
 rcases dM.1 hc with hc|hc
 ·have:=((List.pairwise_append.1 h.ord).2.2 c hc b (by simp)).1;have:=(h.each b (by simp)).1;omega
 ·simp at hc;subst hc;exact Int.le_refl _
def Eb(s:List aA)(y e:Int):List Int×Int:=match s with
 | []=>([],e)
 |b::_=>if y<b.Y0 then([],if b.Y0<e then b.Y0 else e)else(b.Xs,if b.Y1<e then b.Y1 else e)
theorem IP{α:Type}(x:α)(l:List α):idx (x::l) 0=some x:=rfl
theorem KZ(s:List aA)(y e:Int):lA N s y e=some (Eb s y e):=by
 unfold lA Eb
 cases s with
 |nil=>rfl
 |cons b s=>
  grind [t8,IP,aB,cG,cB]
theorem FZ{s:List aA}{y e:Int}{X Y:List Int}(hc:dW (s.map bR))(hl:vD X Y (s.map bR))(hh:∀b t,s=b::t->y<b.Y1)(hy:y<e):
  y<(Eb s y e).2/\(Eb s y e).2<=e/\(∀y',y<=y'->y'<(Eb s y e).2->rowAt (s.map bR) y'=(Eb s y e).1)/\mg (Eb s y e).1/\(Eb s y e).1.length % 2=0/\((Eb s y e).2=e\/(Eb s y e).2∈Y)/\∀c∈(Eb s y e).1,c∈X:=by
 cases s with
 |nil=>exact⟨hy,Int.le_refl _,λy' _ _=>rfl,l6,rfl, .inl rfl,λc hc=>(by cases hc)⟩
 |cons b t=>
  have hb:=hc.each (bR b) (by simp);have hlb:=hl (bR b) (by simp);have h1:=hh b t rfl;unfold Eb;dsimp only
  by_cases h:y<b.Y0
  ·rw[aG h];dsimp only;refine⟨by omega,by omega,λy' h2 h3=>?_,l6,rfl,?_,λc hc=>(by cases hc)⟩
   ·exact hc.t7 (by show y'<b.Y0;omega)
   ·split
    ·exact .inr hlb.1
    omega
  grind [dW.k9,bR]
theorem Be{y:Int}{a:List aA}(hN:a.length<N){body:List aA->Option (Fl (List aA) Empty)}
  (hb:body=λ(s373:List aA)=>((bif decide ((s373.length:Int)>0)then((idx s373 0).bind λx407=>some<|decide<|x407.Y1<=y)else some false).bind λs405=>bif s405 then((u3 s373 1 (s373.length:Int)).bind λx410=>some<|.nx x410)else(some<|.br s373):Option (Fl (List aA) Empty))):
  Ok (mZ body N a) (Nf (λa'=>∃p,a=p++a'/\(∀c∈p,c.Y1<=y)/\∀b t,a'=b::t->y<b.Y1)<|λ_=>True):=by
 subst hb;refine Rx (λa'=>∃p,a=p++a'/\∀c∈p,c.Y1<=y) List.length ?_ ⟨[],rfl,λc hc=>(by cases hc)⟩ hN;rintro a'⟨p,e,hp⟩
 cases a' with
 |nil=>simp_all[Qn,Rw]
 |cons b t=>
  refine Qn (x:=decide<|b.Y1<=y) (by rw[jK,aR,IP,aB]) ?_;refine Q6 (λh=>?_)<|λh=>Rw ⟨p,e,hp,λb' t' h'=>?_⟩
  ·have h:=of_decide_eq_true h;refine Qn (qQ b t)<|Rk ⟨⟨p++[b],by rw[e];simp,λc hc=>?_⟩,by simp⟩
   grind
  grind
theorem DB{p a':List Bd}{y y':Int}(hp:∀c∈p,c.y1<=y)(h:y<=y'):rowAt (p++a') y'=rowAt a' y':=by
 grind [ot]
structure Ch (kb:Bool->Bool->Bool) (X Y:List Int) (a b s:List aA):Prop where
 can:dW (s.map bR)
 cover:∀x y,wE (s.map bR) x y=kb (wE (a.map bR) x y) (wE (b.map bR) x y)
 lim:vD X Y (s.map bR)
theorem zH{s:List aA}(hs:s≠[])(hl:s.length<=1099511627776)(hc:dW (s.map bR)):∃f l,idx s 0=some f/\idx s (wrap .i64<|((s.length:Nat):Int) - 1)=some l/\f∈s/\l∈s/\∀c∈s,f.Y0<=c.Y0/\c.Y1<=l.Y1:=by
 cases s with
 |nil=>grind
 |cons f t=>
  rw[lE (by simp) (by omega)];have hlt:(f::t).length - 1<(f::t).length:=by simp
  refine⟨f,(f::t)[(f::t).length - 1],rfl,gL _ _ hlt,by simp,cU _,λc hcm=>⟨?_,?_⟩⟩
  ·exact hc.low (bR c)<|cF.2 ⟨c,hcm,rfl⟩
  ·have e:(f::t)=(f::t).dropLast++[(f::t)[(f::t).length - 1]]:=by
    grind [List.dropLast_concat_getLast]
   generalize (f::t)[(f::t).length - 1]=l at e;have hc2:=hc;rw[e,eE]at hc2;have hm:bR c∈(List.map bR (f::t).dropLast++[bR l]):=by
    grind
   exact dW.high hc2 (bR c) hm
theorem ES{φ:Bool->Bool->Option Bool}{kb:Bool->Bool->Bool}(hφ:∀p q,φ p q=some (kb p q))(hk:kb false false=false){a b:List aA}{X Y:List Int}(ca:dW (a.map bR))(cb:dW (b.map bR))
  (la:vD X Y (a.map bR)) (lb:vD X Y (b.map bR)) (hX:X.length<=1048576000) (hY:Y.length<=1048576000) (hs:∀c∈Y,small c) (hN:4398046511104<=N):Ok (nF N a b φ) (Ch kb X Y a b):=by
 have yI:a.length<=Y.length:=by have:=la.len ca;grind
 have hbl:b.length<=Y.length:=by have:=lb.len cb;grind
 unfold nF;rw[wrap_add (by omega)];refine Q6 (λh=>Qo ?_)<|λh=>?_
 ·have h:a.length+b.length=0:=by grind
  have e1:a= []:=List.eq_nil_of_length_eq_zero (by omega);have e2:b= []:=List.eq_nil_of_length_eq_zero (by omega);subst e1;subst e2;exact⟨dW.nil,λx y=>hk.symm,λc hc=>(by cases hc)⟩
 have h0:a≠[]\/b≠[]:=by
  grind
 refine Qv (Q3 (λk s=>match k with| 0=>True| 1=>a= []\/((∀c∈a,s.1<=c.Y0/\c.Y1<=s.2)/\s.1∈Y/\s.2∈Y)|_=>(∀c∈a,s.1<=c.Y0/\c.Y1<=s.2)/\(∀c∈b,s.1<=c.Y0/\c.Y1<=s.2)/\s.1∈Y/\s.2∈Y) (by simp) trivial<|λk s hk hI=>?_) ?_
 ·obtain⟨y,e⟩:=s;have hk:k=0\/k=1:=by grind
  rcases hk with rfl|rfl
  ·refine QK (x:=a) rfl ?_
   by_cases ea:a= []
   ·grind [Qn,Qo]
   ·obtain⟨f,l,f1,f2,f3,f4,f5⟩:=zH ea (by omega) ca;have hpos:decide (((a.length:Nat):Int)>0)=true:=cG (by grind);refine Qn (x:=(f.Y0,l.Y1)) ?_<|Qo<|.inr ⟨f5,(la _<|cF.2 ⟨f,f3,rfl⟩).1,(la _<|cF.2 ⟨l,f4,rfl⟩).2.1⟩
    grind
  ·refine QK (x:=b) rfl ?_;have hI:a= []\/((∀c∈a,y<=c.Y0/\c.Y1<=e)/\y∈Y/\e∈Y):=hI
   by_cases eb:b= []
   ·subst eb;refine Qn (x:=(y,e)) rfl<|Qo ?_
    rcases hI with h|⟨h1,h2,h3⟩
    ·rcases h0 with h'|h'
     ·exact absurd h h'
     ·exact absurd rfl h'
    ·exact⟨h1,λc hc=>(by cases hc),h2,h3⟩
   ·obtain⟨f,l,f1,f2,f3,f4,f5⟩:=zH eb (by omega) cb;have hpos:decide (((b.length:Nat):Int)>0)=true:=cG (by have:=List.length_pos_iff.2 eb;omega);have g1:f.Y0∈Y:=(lb _<|cF.2 ⟨f,f3,rfl⟩).1;have g2:l.Y1∈Y:=(lb _<|cF.2 ⟨l,f4,rfl⟩).2.1
    by_cases ea:a= []
    ·subst ea;refine Qn (x:=(f.Y0,l.Y1)) ?_<|Qo ⟨λc hc=>(by cases hc),f5,g1,g2⟩
     rw[hpos,aR];show((some true).bind _)=_;rw[aB,aR,f1,aB,f2,aB,aB,aB,aB];simp
    ·obtain⟨h1,h2,h3⟩:=hI.resolve_left ea;refine Qn (x:=(if f.Y0<y then f.Y0 else y,if e<l.Y1 then l.Y1 else e)) ?_<|Qo ⟨λc hc=>?_,λc hc=>?_,?_,?_⟩
     ·rw[hpos,aR];have ez:(((a.length:Nat):Int)==0)=false:=by rw[beq_eq_false_iff_ne];have:=List.length_pos_iff.2 ea;omega
      rw[ez];show((some false).bind _)=_;rw[aB,bF,aB,f1,aB,f2,aB]
     ·have:=h1 c hc;dsimp only;split <;> split <;> omega
     ·have:=f5 c hc;dsimp only;split <;> split <;> omega
     ·dsimp only;split
      ·exact g1
      ·exact h2
     ·dsimp only;split
      ·exact g2
      ·exact h3
 ·rintro⟨y0,e0⟩hI;have hI:(∀c∈a,y0<=c.Y0/\c.Y1<=e0)/\(∀c∈b,y0<=c.Y0/\c.Y1<=e0)/\y0∈Y/\e0∈Y:=hI;obtain⟨ia,ib,iy,ie⟩:=hI;have sy:=hs _ iy;have se:=hs _ ie;unfold small at sy se;dsimp only
  refine Qv (Rx (Go:=λs=>Ch kb X Y a b s.2.2.1) (Rt:=λ_=>True)
   (λs=>∃pa pb,a=pa++s.1/\b=pb++s.2.1/\(∀c∈pa,c.Y1<=s.2.2.2)/\(∀c∈pb,c.Y1<=s.2.2.2)/\y0<=s.2.2.2/\s.2.2.2<=max y0 e0/\s.2.2.2∈Y/\dW (s.2.2.1.map bR)/\vD X Y (s.2.2.1.map bR)/\(∀c∈s.2.2.1,c.Y1<=s.2.2.2)/\
    ∀x y,wE (s.2.2.1.map bR) x y=(kb (wE (a.map bR) x y) (wE (b.map bR) x y)&&decide (y<s.2.2.2)))
   (λs=>(e0 - s.2.2.2).toNat) ?_ ?_ (by dsimp only;omega)) ?_
  ·rintro⟨a',b',out,y⟩⟨pa,pb,ea,eb,hpa,hpb,hy0,hye,hyY,hcan,hlim,htop,hcov⟩;dsimp only at ea eb hpa hpb hy0 hye hyY hcan hlim htop hcov ⊢;refine Q6 (λh=>?_)<|λh=>Rw ?_
   ·have hlt:y<e0:=of_decide_eq_true h;have hsl:∀(p s t:List aA),t=p++s->s.length<=t.length:=λp s t e=>by rw[e];simp
    have hal':=hsl _ _ _ ea;have hbl':=hsl _ _ _ eb;refine Qv (Be (y:=y) (a:=a') (by omega) rfl)<|λo ho=>Ro ho ?_<|λr=>r.elim
    rintro a2⟨qa,ea2,hqa,hha⟩;refine Qv (Be (y:=y) (a:=b') (by omega) rfl)<|λo ho=>Ro ho ?_<|λr=>r.elim
    rintro b2⟨qb,eb2,hqb,hhb⟩;have ea3:a=(pa++qa)++a2:=by rw[ea,ea2];simp
    have eb3:b=(pb++qb)++b2:=by rw[eb,eb2];simp
    have hPa:∀c∈pa++qa,c.Y1<=y:=λc hc=>by rcases dM.1 hc with h|h;exact hpa c h;exact hqa c h
    have hPb:∀c∈pb++qb,c.Y1<=y:=λc hc=>by rcases dM.1 hc with h|h;exact hpb c h;exact hqb c h
    have ca2:dW (a2.map bR):=by have:=ca;rw[ea3,eE]at this;exact this.app
    have cb2:dW (b2.map bR):=by have:=cb;rw[eb3,eE]at this;exact this.app
    have la2:vD X Y (a2.map bR):=λc hc=>la c (by rw[ea3,eE];exact List.mem_append_right _ hc);have lb2:vD X Y (b2.map bR):=λc hc=>lb c (by rw[eb3,eE];exact List.mem_append_right _ hc);refine Qn (KZ a2 y e0)<|Qn (KZ b2 y e0) ?_
    obtain⟨a1,a3,a4,a5,a6,a7,a8⟩:=FZ ca2 la2 hha hlt;obtain⟨b1,b3,b4,b5,b6,b7,b8⟩:=FZ cb2 lb2 hhb hlt;have hal2:(Eb a2 y e0).1.length<=X.length:=eD a5.nodup a8;have hbl2:(Eb b2 y e0).1.length<=X.length:=eD b5.nodup b8;generalize Eb a2 y e0=pa2 at *;generalize Eb b2 y e0=pb2 at *;obtain⟨xa,n⟩:=pa2;obtain⟨xb,m⟩:=pb2;dsimp only at *;refine Qv (GV hφ hk a5 b5 a6 b6 (by omega) (by omega) (by omega)) ?_;rintro row⟨r1,r2,r3,r4⟩;have hnx:∃nx,nx=(if m<n then m else n)/\y<nx/\nx<=e0/\nx<=n/\nx<=m/\nx∈Y:=by
     refine⟨_,rfl,by split <;> omega,by split <;> omega,by split <;> omega,by split <;> omega,?_⟩;split
     ·rcases b7 with h|h
      ·rw[h];exact ie
      ·exact h
     ·rcases a7 with h|h
      ·rw[h];exact ie
      ·exact h
    obtain⟨nx,hnx,n1,n2,n3,n4,n5⟩:=hnx;rw[<-hnx];have hol:out.length<=Y.length:=by have:=hlim.len hcan;rwa[dL]at this
    obtain⟨out',p1,p2⟩:=FY (N:=N) (s:=out) (b:=⟨y,nx,row⟩) (by omega) (λc hc=>by
     have:=hlim.row hcan (b:=bR c)<|cF.2 ⟨c,hc,rfl⟩
     have e:(bR c).xs=c.Xs:=rfl
     rw[e]at this;omega)
    refine Qn p1 ?_;have htop':∀c∈out.map bR,c.y1<=(bR ⟨y,nx,row⟩).y0:=λc hc=>by
     obtain⟨d,hd,rfl⟩:=cF.1 hc;exact htop d hd
    refine Rk ⟨⟨pa++qa,pb++qb,ea3,eb3,λc hc=>by have:=hPa c hc;dsimp only;omega,λc hc=>by have:=hPb c hc;dsimp only;omega,by dsimp only;omega,by dsimp only;omega,n5,by dsimp only;rw[p2];exact xx hcan htop' r1 r2,?_,λc hc=>?_,λx y'=>?_⟩,by dsimp only;omega⟩
    ·dsimp only;rw[p2];refine hlim.push hyY n5<|λc hc=>?_
     rcases r4 c hc with h|h
     ·exact a8 c h
     ·exact b8 c h
    ·have hm':bR c∈ml (out.map bR) (bR ⟨y,nx,row⟩):=by rw[<-p2];exact cF.2 ⟨c,hc,rfl⟩
     exact xy htop' (by show y<=nx;omega) _ hm'
    ·show m0 (rowAt (out'.map bR) y') x=_;rw[p2,xw htop' (λc hc=>(hcan.each c hc).1)<|λh=>absurd h (by show ¬nx<=y;omega)]
     by_cases hyy:y<=y'/\y'<nx
     ·rw[aG (show(bR ⟨y,nx,row⟩).y0<=y'/\y'<(bR ⟨y,nx,row⟩).y1 from hyy),cG hyy.2,Bool.and_true];show m0 row x=_;have mp:∀p q:List aA,(∀c∈p++q,c.Y1<=y)->∀c∈(p++q).map bR,c.y1<=y:=λp q h c hc=>by
       obtain⟨d,hd,rfl⟩:=cF.1 hc;exact h d hd
      have q1:wE (a.map bR) x y'=m0 xa x:=by
       unfold wE;rw[ea3,eE,DB (mp _ _ hPa) hyy.1,a4 y' hyy.1 (by omega)]
      have q2:wE (b.map bR) x y'=m0 xb x:=by
       unfold wE;rw[eb3,eE,DB (mp _ _ hPb) hyy.1,b4 y' hyy.1 (by omega)]
      rw[r3,q1,q2]
     ·rw[aF (show ¬((bR ⟨y,nx,row⟩).y0<=y'/\y'<(bR ⟨y,nx,row⟩).y1)from hyy)];show wE (out.map bR) x y'=_;rw[hcov]
      by_cases h1:y'<y
      ·rw[cG h1,cG (show y'<nx by omega)]
      ·rw[cB h1,cB (show ¬y'<nx by omega)]
   ·have hge:e0<=y:=by have:=of_decide_eq_false h;omega
    refine⟨hcan,λx y'=>?_,hlim⟩;dsimp only;rw[hcov]
    by_cases h1:y'<y
    ·rw[cG h1,Bool.and_true]
    ·have z:∀s:List aA,(∀c∈s,y0<=c.Y0/\c.Y1<=e0)->wE (s.map bR) x y'=false:=λs h=>by
      unfold wE;rw[kd λc hc=>?_]
      ·rfl
      ·obtain⟨d,hd,rfl⟩:=cF.1 hc;exact .inr (by have:=(h d hd).2;show d.Y1<=y';omega)
     rw[z a ia,z b ib,hk];rfl
  ·refine⟨[],[],rfl,rfl,λc hc=>(by cases hc),λc hc=>(by cases hc),Int.le_refl _,by dsimp only;omega,iy,dW.nil,λc hc=>(by cases hc),λc hc=>(by cases hc),λx y=>?_⟩;dsimp only;show false=_
   by_cases h1:y<y0
   ·have z:∀s:List aA,(∀c∈s,y0<=c.Y0/\c.Y1<=e0)->wE (s.map bR) x y=false:=λs h=>by
     unfold wE;rw[kd λc hc=>?_]
     ·rfl
     ·obtain⟨d,hd,rfl⟩:=cF.1 hc;exact .inl (by have:=(h d hd).1;show y<d.Y0;omega)
    rw[z a ia,z b ib,hk];rfl
   ·rw[cB h1,Bool.and_false]
  ·rintro o ho;exact Ro ho (λs h=>Qo h)<|λr=>r.elim
theorem GW{a b:List aA}{X Y:List Int}(ca:dW (a.map bR))(cb:dW (b.map bR))(la:vD X Y (a.map bR))(lb:vD X Y (b.map bR))(hX:X.length<=1048576000)(hY:Y.length<=1048576000)(hs:∀c∈Y,small c)(hN:4398046511104<=N):
  Ok (jU N a b) (Ch (λp q=>p&& !q) X Y a b):=by
 unfold jU;exact Qv (ES (kb:=λp q=>p&& !q) (λp q=>rfl) rfl ca cb la lb hX hY hs hN)<|λs h=>Qo h
end
section
variable {N:Nat}
structure UF (n:Nat) (up:List Int) (r:Nat->Nat):Prop where
 len:up.length=n
 rt:∀i,i<n->∃u:Nat,up[i]? =some ((u:Nat):Int)/\u<=i/\r u=r i/\(u=i↔r i=i)
theorem UF.le{n:Nat}{up:List Int}{r:Nat->Nat}(h:UF n up r):∀i,i<n->r i<=i:=by
 intro i
 induction i using Nat.strongRecOn with
 |ind i ih=>
  intro hi;obtain⟨u,_,h2,h3,h4⟩:=h.rt i hi
  grind
theorem UF.rr{n:Nat}{up:List Int}{r:Nat->Nat}(h:UF n up r):∀i,i<n->r (r i)=r i:=by
 intro i
 induction i using Nat.strongRecOn with
 |ind i ih=>
  intro hi;obtain⟨u,_,h2,h3,h4⟩:=h.rt i hi
  grind
theorem mR{l:List Int}{j:Nat}{v:Int}{i:Nat}(hj:j<l.length):(l.set j v)[i]? =if i=j then some v else l[i]? :=by
 grind
theorem UF.init(n:Nat)(up:List Int)(h1:up.length=n)(h2:∀i,i<n->up[i]? =some ((i:Nat):Int)):UF n up (λi=>i):=
 ⟨h1,λi hi=>⟨i,h2 i hi,bU _,rfl,by simp⟩⟩
theorem DC{n:Nat}(hn:n<=1048576000):∃up,jV N ((n:Nat):Int)=some up/\UF n up (λi=>i):=by
 unfold jV;rw[wj 0 (by omega),aB];have h0:(List.replicate n (0:Int)).length=n:=by simp
 obtain⟨s',h1,h2⟩:=yt (m:=(List.replicate n (0:Int)).length) (s:=List.replicate n (0:Int)) (body:=λ(k34:Nat)(s35:List Int)=>((idx s35 (k34:Int)).bind λx38=>some (s35.set (Int.toNat (k34:Int)) (k34:Int)):Option (List Int)))
  (λk s=>s.length=n/\∀i,i<k->s[i]? =some ((i:Nat):Int)) (by omega) ⟨h0,λi hi=>by omega⟩ (λk s hk⟨hs,hi⟩=>by
   grind [gL,aB,cT,mR])
 grind [aB,UF.init]
theorem Ci{n:Nat}{up:List Int}{r:Nat->Nat}(h:UF n up r){i:Nat}(hi:i<n)(hn:n<N):∃up',eZ N up ((i:Nat):Int)=some (((r i:Nat):Int),up')/\UF n up' r:=by
 unfold eZ;obtain⟨o,h1,h2⟩:=t5 (R:=Empty) (body:=λ(s32:List Int×Int)=>((idx s32.1 s32.2).bind λx43=>bif x43 != s32.2 then((idx s32.1 s32.2).bind λx44=>(idx s32.1 x44).bind λx45=>(idx s32.1 s32.2).bind λx46=>(idx (s32.1.set (Int.toNat s32.2) x45) s32.2).bind λx47=>some<|.nx (s32.1.set (Int.toNat s32.2) x45,x47))else(some<|.br (s32.1,s32.2)):Option (Fl (List Int×Int) Empty)))
  (λs=>UF n s.1 r/\∃j:Nat,s.2=((j:Nat):Int)/\j<n/\r j=r i) (λs=>s.2.toNat) (λs=>s.2=((r i:Nat):Int)/\UF n s.1 r) (λ_=>True) (λs⟨hu,j,hj,hjn,hr⟩=>by
   obtain⟨l,y⟩:=s;dsimp only at hu hj ⊢;subst hj;obtain⟨u,a1,a2,a3,a4⟩:=hu.rt j hjn;rw[eW a1,aB]
   by_cases e:u=j
   ·simp_all
   ·obtain⟨v,b1,b2,b3,b4⟩:=hu.rt u (by omega);have hl:=hu.len
    refine⟨.nx (l.set j ((v:Nat):Int),((v:Nat):Int)),by
     grind [aB,eW,cT,mR],⟨⟨by simp[hl],λk hk=>?_⟩,v,rfl,by omega,?_⟩,?_⟩
    ·rw[mR (by omega)]
     by_cases e2:k=j
     ·grind
     ·rw[aF e2];exact hu.rt k hk
    ·omega
    omega)
  N (up,((i:Nat):Int)) ⟨h,i,rfl,hi,rfl⟩ (by omega)
 rw[h1,aB]
 cases o with
 |go s'=>exact⟨s'.1,by rw[<-h2.1];rfl,h2.2⟩
 |rt r=>exact r.elim
def pB(r:Nat->Nat)(a b:Nat):Nat->Nat:=λx=>if r x=max a b then min a b else r x
theorem IQ(a b:Nat):(if((a:Nat):Int)<((b:Nat):Int)then((b:Nat):Int)else((a:Nat):Int))=((max a b:Nat):Int):=by
 omega
theorem IU(a b:Nat):(if((b:Nat):Int)<((a:Nat):Int)then((b:Nat):Int)else((a:Nat):Int))=((min a b:Nat):Int):=by
 omega
theorem Kn{n:Nat}{up:List Int}{r:Nat->Nat}(h:UF n up r){i k:Nat}(hi:i<n)(hk:k<n)(hn:n<N):
  ∃up',fM N up ((i:Nat):Int) ((k:Nat):Int)=some up'/\UF n up' (pB r (r i)<|r k):=by
 obtain⟨u1,a1,a2⟩:=Ci h hi hn;obtain⟨u2,b1,b2⟩:=Ci a2 hk hn;have hri:=h.le i hi;have hrk:=h.le k hk;have rri:=h.rr i hi;have rrk:=h.rr k hk;unfold fM;rw[a1,aB,b1,aB];dsimp only;rw[IQ,IU];have hm:max (r i) (r k)<n:=by omega
 have hl:=b2.len;rw[gL _ _ (by omega),aB,cT];refine⟨_,rfl,by simp[hl],λx hx=>?_⟩;have rmax:r (max (r i)<|r k)=max (r i) (r k):=by grind
 have rmin:r (min (r i)<|r k)=min (r i) (r k):=by grind
 rw[mR (by omega)]
 by_cases e:x=max (r i) (r k)
 ·grind [Min.min,pB]
 ·rw[aF e];obtain⟨u,c1,c2,c3,c4⟩:=b2.rt x hx
  grind [pB,Min.min,Max.max]
def oY(r:Nat->Nat)(E:List (Nat×Nat)):Prop:=∀p∈E,r p.1=r p.2
def zI(n:Nat)(r:Nat->Nat)(E:List (Nat×Nat)):Prop:=∀S:Nat->Prop,(∀p∈E,S p.1↔S p.2)->∀i j,i<n->j<n->r i=r j->S i->S j
theorem oY.join{r:Nat->Nat}{E:List (Nat×Nat)}(h:oY r E)(i k:Nat)(_h2:r (r i)=r i):oY (pB r (r i)<|r k) (E++[(i,k)]):=λp hp=>by
 rcases dM.1 hp with hp|hp
 ·unfold pB;rw[h p hp]
 ·simp at hp;subst hp;unfold pB;dsimp only;split <;> split <;> omega
theorem zI.join{n:Nat}{r:Nat->Nat}{E:List (Nat×Nat)}(h:zI n r E){i k:Nat}(hi:i<n)(hk:k<n):zI n (pB r (r i)<|r k) (E++[(i,k)]):=λS hS x y hx hy hr hSx=>by
 have hE:∀p∈E,S p.1↔S p.2:=λp hp=>hS p<|List.mem_append_left _ hp
 have hik:S i↔S k:=hS (i,k) (by simp);have key:=h S hE;unfold pB at hr
 by_cases h1:r x=r y
 ·exact key x y hx hy h1 hSx
 ·have:(r x=r i/\r y=r k)\/(r x=r k/\r y=r i):=by
   split at hr <;> split at hr <;> omega
  rcases this with⟨e1,e2⟩|⟨e1,e2⟩
  ·exact key k y hk hy e2.symm<|hik.1<|key x i hx hi e1 hSx
  ·exact key i y hi hy e2.symm<|hik.2<|key x k hx hk e1 hSx
theorem zI.id(n:Nat):zI n (λi=>i) []:=λS _ i j _ _ h hs=>by
 have h:i=j:=h;subst h;exact hs
theorem oY.id:oY (λi=>i) []:=λp hp=>by simp at hp
def bW(n:Nat)(r:Nat->Nat):List Nat:=(List.range n).filter<|λk=>decide<|r k=k
def cls(n:Nat)(r:Nat->Nat)(k:Nat):List Nat:=(List.range n).filter<|λi=>decide<|r i=k
theorem jP(n:Nat)(r:Nat->Nat):bW (n+1) r=if r n=n then bW n r++[n]else bW n r:=by
 grind [bW,List.range_succ]
theorem tx(n:Nat)(r:Nat->Nat)(k:Nat):cls (n+1) r k=if r n=k then cls n r k++[n]else cls n r k:=by
 grind [cls,List.range_succ]
theorem nc(n:Nat)(r:Nat->Nat):(bW n r).length<=n:=by
 have:=ja (λk=>decide<|r k=k)<|List.range n
 rw[List.length_range]at this;exact this
theorem yv(n:Nat)(r:Nat->Nat)(k:Nat):(cls n r k).length<=n:=by
 have:=ja (λi=>decide<|r i=k)<|List.range n
 rw[List.length_range]at this;exact this
theorem jt{n k:Nat}{r:Nat->Nat}:k∈bW n r↔k<n/\r k=k:=by simp[bW]
theorem mn(n:Nat)(r:Nat->Nat):(bW n r).Nodup:=List.Nodup.sublist List.filter_sublist List.nodup_range
def oZ(n:Nat)(r:Nat->Nat):List (List Int):=(bW n r).map<|λk=>(cls n r k).map<|λi=>((i:Nat):Int)
theorem F0{n k:Nat}{r:Nat->Nat}(h:∀i,i<n->r i<=i)(hk:n<=k):cls n r k= []:=by
 grind [cls,List.filter_eq_nil_iff]
theorem tz{α β:Type}(f g:α->β)(l:List α)(j:Nat)(a:α)(hn:l.Nodup)(hj:l[j]? =some a)(hf:∀b,b∈l->b≠a->f b=g b):(l.map f).set j (g a)=l.map g:=by
 apply List.ext_getElem?;intro i;have hjl:=(bI.1 hj).1;rw[j7,dL,eR,eR]
 grind [bI,List.getElem_inj,eM]
def Nj(n:Nat)(r:Nat->Nat)(m:List (Int×Int)):Prop:=∀(j k:Nat),(bW n r)[j]? =some k->dR m ((k:Nat):Int) 0=((j:Nat):Int)
theorem Ko{n:Nat}{up:List Int}{r:Nat->Nat}(h:UF n up r)(hn:n<N)(hn2:n<=1048576000):∃up',iV N up=some (oZ n r,up')/\UF n up' r:=by
 unfold iV;have hlen:=h.len;have hle:=h.le;have hrr:=h.rr;obtain⟨s',h1,h2⟩:=yt (m:=up.length) (s:=(up,([]:List (List Int)),([]:List (Int×Int))))
  (body:=λ(k32:Nat)(s33:List Int×List (List Int)×List (Int×Int))=>((eZ N s33.1 (k32:Int)).bind λx117=>(bif x117.1==(k32:Int)then((app 24 s33.2.1 [([]:List Int)]).bind λx126=>some (x126,kQ s33.2.2 (k32:Int) (s33.2.1.length:Int)))else some (s33.2.1,s33.2.2)).bind λs122=>(idx s122.1<|dR s122.2 x117.1 (0:Int)).bind λx128=>(app 8 x128 ([(k32:Int)]:List Int)).bind λx134=>(idx s122.1<|dR s122.2 x117.1 (0:Int)).bind λx136=>some (x117.2,s122.1.set (Int.toNat<|dR s122.2 x117.1 (0:Int)) x134,s122.2):Option (List Int×List (List Int)×List (Int×Int))))
  (λk s=>UF n s.1 r/\s.2.1=oZ k r/\Nj k r s.2.2) (by omega) ⟨h,rfl,λj k hj=>by grind [bW]⟩ (λk s hk⟨hu,hs,hm⟩=>by
   obtain⟨l,ss,m⟩:=s;dsimp only at hu hs hm ⊢;subst hs;rw[hlen]at hk;obtain⟨u',a1,a2⟩:=Ci hu hk hn;rw[a1,aB];dsimp only;have hhl:=nc k r;have hsl:(oZ k r).length=(bW k r).length:=by simp[oZ]
   have hrk:=hle k hk
   by_cases e:r k=k
   ·
    rw[show(((r k:Nat):Int)==((k:Nat):Int))=true by rw[e];simp,aR,gu (by grind),aB,aB];dsimp only;rw[e,qL,aG rfl,hsl];have hi:(oZ k r++[([]:List Int)])[(bW k r).length]? =some []:=by grind
    rw[eW hi,aB,gu (by simp),aB,aB,cT];refine⟨_,rfl,a2,?_,λj q hj=>?_⟩
    ·dsimp only;rw[<-hsl,List.set_append_right _ _<|bU _,Nat.sub_self];unfold oZ;rw[jP,aG e,eE];congr 1
     ·grind [List.map_congr_left,jt,tx]
     grind [tx,F0,hle]
    ·dsimp only;rw[jP,aG e]at hj;rw[qL]
     by_cases e2:j<(bW k r).length
     ·rw[g8 e2]at hj;have:=(jt.1<|eM hj).1;rw[aF (by omega)];exact hm j q hj
     ·rw[gE (by omega)]at hj;have hj0:j -(bW k r).length=0:=by
       have:=(bI.1 hj).1;simp at this;omega
      rw[hj0]at hj;simp at hj;subst hj;rw[aG rfl];congr 1;omega
   ·rw[show(((r k:Nat):Int)==((k:Nat):Int))=false by simp;omega,bF,aB];dsimp only;have hh:r k∈bW k r:=jt.2 ⟨by omega,hrr k hk⟩;obtain⟨j,hj⟩:=eA hh;rw[hm j (r k) hj];have hcl:=yv k r<|r k
    have hi:(oZ k r)[j]? =some ((cls k r<|r k).map<|λi=>((i:Nat):Int)):=by unfold oZ;rw[eR,hj];rfl
    rw[eW hi,aB,gu (by simp;omega),aB,aB,cT];refine⟨_,rfl,a2,?_,λj' q hj'=>?_⟩
    ·unfold oZ;rw[jP,aF e]
     have:=tz (λa=>(cls k r a).map (λi=>((i:Nat):Int))) (λa=>(cls (k+1) r a).map (λi=>((i:Nat):Int))) (bW k r) j (r k) (mn k r) hj (λb hb hne=>by
      rw[tx,aF (λh=>hne h.symm)])
     rw[tx,aG rfl,eE]at this;exact this
    ·rw[jP,aF e]at hj';exact hm j' q hj')
 rw[h1,aB];obtain⟨l,ss,m⟩:=s';dsimp only at h2;rw[hlen]at h2;refine⟨l,?_,h2.1⟩;rw[<-h2.2.1]
end
section
variable {N:Nat}
theorem Cj{n:Nat}{up:List Int}{r:Nat->Nat}(h:UF n up r){i:Nat}(hi:i<n)(hn:n<N):∃up',eB N ((i:Nat):Int) up=some (((r i:Nat):Int),up')/\UF n up' r:=by
 unfold eB
 have:=Qv (β:=Int×List Int) (Q:=λx=>x.1=((r i:Nat):Int)/\UF n x.2 r) (Rx (body:=λ(s32:Int×(List Int))=>((idx s32.2 s32.1).bind λx43=>bif(x43 != s32.1)then((idx s32.2 s32.1).bind λx44=>(idx s32.2 x44).bind λx45=>(idx s32.2 s32.1).bind λx46=>(idx (s32.2.set (Int.toNat s32.1) x45) s32.1).bind λx47=>some (.nx (x47,(s32.2.set (Int.toNat s32.1) x45))))else(some (.br (s32.1,s32.2))):Option (Fl (Int×(List Int)) Empty)))
  (N:=N) (s:=(((i:Nat):Int),up)) (Go:=λs=>s.1=((r i:Nat):Int)/\UF n s.2 r) (Rt:=λ_=>True) (λs=>UF n s.2 r/\∃j:Nat,s.1=((j:Nat):Int)/\j<n/\r j=r i) (λs=>s.1.toNat) (by
   rintro⟨y,l⟩⟨hu,j,hj,hjn,hr⟩;dsimp only at hu hj ⊢;subst hj;obtain⟨u,a1,a2,a3,a4⟩:=hu.rt j hjn;refine QK a1 ?_
   by_cases e:u=j
   ·grind [Rw]
   ·obtain⟨v,b1,b2,b3,b4⟩:=hu.rt u (by omega);have hl:=hu.len;rw[show(((u:Nat):Int) != ((j:Nat):Int))=true by simp;omega,aR];refine QK a1<|QK b1<|QK a1<|QK (x:=((v:Nat):Int)) (by grind)<|Rk ⟨⟨⟨by simp[hl],λk hk=>?_⟩,v,rfl,by omega,?_⟩,?_⟩
    ·rw[cT,mR (by omega)]
     by_cases e2:k=j
     ·grind
     ·rw[aF e2];exact hu.rt k hk
    ·omega
    omega)
  ⟨h,i,rfl,hi,rfl⟩ (by omega))
  (λo ho=>Ro (f:=λ(s32:Int×List Int)=>some (s32.1,s32.2)) (g:=λr:Empty=>r.elim) ho (λs h=>Qo h)<|λr=>r.elim)
 obtain⟨⟨x,up'⟩,h1,h2,h3⟩:=this
 grind
theorem IV{n:Nat}{up:List Int}{r:Nat->Nat}(h:UF n up r){i k:Nat}(hi:i<n)(hk:k<n){f:List Int->Option (List Int)}(hn:n<N):
  ∃up',((eB N ((i:Nat):Int) up).bind λx840=>(eB N ((k:Nat):Int) x840.2).bind λx842=>(idx x842.2 (if x840.1<x842.1 then x842.1 else x840.1)).bind λx844=>some<|x842.2.set (Int.toNat (if x840.1<x842.1 then x842.1 else x840.1)) (if x842.1<x840.1 then x842.1 else x840.1))=some up'/\UF n up' (pB r (r i)<|r k):=by
 obtain⟨u1,a1,a2⟩:=Cj h hi hn;obtain⟨u2,b1,b2⟩:=Cj a2 hk hn;obtain⟨v1,c1,c2⟩:=Ci h hi hn;have hri:=h.le i hi;have hrk:=h.le k hk;have rri:=h.rr i hi;have rrk:=h.rr k hk;rw[a1,aB,b1,aB];dsimp only;rw[IQ,IU];have hm:max (r i) (r k)<n:=by omega
 have hl:=b2.len;rw[gL _ _ (by omega),aB,cT];refine⟨_,rfl,by simp[hl],λx hx=>?_⟩;have rmax:r (max (r i)<|r k)=max (r i) (r k):=by grind
 have rmin:r (min (r i)<|r k)=min (r i) (r k):=by grind
 rw[mR (by omega)]
 by_cases e:x=max (r i) (r k)
 ·grind [Min.min,pB]
 ·rw[aF e];obtain⟨u,c1,c2,c3,c4⟩:=b2.rt x hx
  grind [pB,Max.max]
def gV(s:List aA)(k:Nat):Nat:=(aO<|s.take k).length
theorem xD{s:List aA}{k:Nat}(h:k<s.length):gV s (k+1)=gV s k+s[k].Xs.length / 2:=by
 grind [gV,dF,lY,dE,aO,lX,nb]
theorem xE{s:List aA}{k m:Nat}(h:k<=m):gV s k<=gV s m:=by
 unfold gV;have:=xB (s.take m) k
 grind
theorem DD(s:List aA):gV s s.length=(aO s).length:=by simp[gV,dG]
theorem Kp{s:List aA}{k t:Nat}(h:k<s.length)(ht:2*t+1<s[k].Xs.length):(aO s)[gV s k+t]? =some ⟨s[k].Xs[2*t],s[k].Y0,s[k].Xs[2*t+1],s[k].Y1⟩:=by
 have e:aO s=aO (s.take k)++(lX s[k]++aO (s.drop<|k+1)):=by
  grind [List.take_append_drop,pA,lY,mm]
 grind [gV,gE,Nat.add_sub_cancel_left,g8,nb,lX,wG]
theorem F1{s:List aA}{i:Nat}(h:i<(aO s).length):∃k,k<s.length/\gV s k<=i/\i<gV s (k+1):=by
 have key:∀m,m<=s.length->i<gV s m->∃k,k<m/\gV s k<=i/\i<gV s (k+1):=by
  intro m
  induction m with
  |zero=>simp[gV,aO]
  |succ m ih=>
   grind
 grind [DD]
def LG(a c:aI):Prop:=a.Y1=c.Y0/\a.X0<c.X1/\c.X0<a.X1
def GX(all:List aI)(i j:Nat):Prop:=∃a c,all[i]? =some a/\all[j]? =some c/\LG a c
theorem t9{s:List aA}(he:∀b∈s,b.Xs.length % 2=0){k i:Nat}(hk:k<s.length)(h1:gV s k<=i)(h2:i<gV s (k+1)):∃t,i=gV s k+t/\∃h:2*t+1<s[k].Xs.length,(aO s)[i]? =some ⟨s[k].Xs[2*t],s[k].Y0,s[k].Xs[2*t+1],s[k].Y1⟩:=by
 rw[xD hk]at h2;have:=he _<|cU hk
 refine⟨i - gV s k,by omega,by omega,?_⟩;have h3:=Kp (t:=i - gV s k) hk (by omega)
 grind
theorem zJ{s:List aA}(hc:dW (s.map bR)){p q:Nat}(hp:p<s.length)(hq:q<s.length)(h:p<q):s[p].Y1<=s[q].Y0:=by
 have:=nv.1 hc.ord p q (by simp;omega) (by simp;omega) h;simp only[List.getElem_map]at this;exact this.1
theorem zK{s:List aA}(hc:dW (s.map bR)){p:Nat}(hp:p<s.length):s[p].Y0<s[p].Y1:=(hc.each (bR s[p])<|cF.2 ⟨_,cU hp,rfl⟩).1
theorem qR{s:List aA}(hc:dW (s.map bR)):∀b∈s,b.Xs.length % 2=0:=λb hb=>(hc.each (bR b)<|cF.2 ⟨b,hb,rfl⟩).2.2.2
theorem F2{s:List aA}(hc:dW (s.map bR)):∀b∈s,mg b.Xs:=λb hb=>(hc.each (bR b)<|cF.2 ⟨b,hb,rfl⟩).2.2.1
theorem DE{s:List aA}(hc:dW (s.map bR)){i j q:Nat}(hq:q<s.length)(h1:gV s q<=j)(h2:j<gV s (q+1))(ht:GX (aO s) i j):∃hq0:0<q,s[q - 1].Y1=s[q].Y0/\gV s (q - 1)<=i/\i<gV s q:=by
 obtain⟨a,c,ha,hb,e1,e2,e3⟩:=ht;obtain⟨t,e4,ht,hj⟩:=t9 (qR hc) hq h1 h2;rw[hj]at hb;injection hb with hb;subst hb
 have hil:=(bI.1 ha).1;obtain⟨p,hp,p1,p2⟩:=F1 hil;obtain⟨u,e5,hu,hi⟩:=t9 (qR hc) hp p1 p2;rw[hi]at ha;injection ha with ha;subst ha
 have e1:s[p].Y1=s[q].Y0:=e1;have hpp:=zK hc hp;have hqq:=zK hc hq;have hpq:p+1=q:=by
  rcases Nat.lt_trichotomy p q with h|h|h
  ·by_cases h':p+1=q
   ·exact h'
   ·have h3:=zJ hc hp (show p+1<s.length by omega) (by omega);have h4:=zJ hc (show p+1<s.length by omega) hq (by omega);have h5:=zK hc (show p+1<s.length by omega);omega
  ·grind
  ·have:=zJ hc hq hp h;omega
 grind
structure PJ (all:List aI) (n:Nat) (up:List Int) (r:Nat->Nat) (E:List (Nat×Nat)):Prop where
 uf:UF n up r
 co:oY r E
 fi:zI n r E
 so:∀p∈E,GX all p.1 p.2
theorem PJ.join{all:List aI}{n:Nat}{up up':List Int}{r:Nat->Nat}{E:List (Nat×Nat)}(h:PJ all n up r E){i j:Nat}(hi:i<n)(hj:j<n)(hu:UF n up' (pB r (r i)<|r j))(ht:GX all i j):PJ all n up' (pB r (r i)<|r j) (E++[(i,j)]):=
 ⟨hu,h.co.join i j (h.uf.rr i hi),h.fi.join hi hj,λp hp=>by
  rcases dM.1 hp with hp|hp
  ·exact h.so p hp
  grind⟩
structure Joined (all:List aI) (r:Nat->Nat):Prop where
 le:∀i,i<all.length->r i<=i
 rr:∀i,i<all.length->r (r i)=r i
 co:∀i j,GX all i j->r i=r j
 fi:∀S:Nat->Prop,(∀i j,GX all i j->(S i↔S j))->∀i j,i<all.length->j<all.length->r i=r j->S i->S j
def mu(all:List aI)(n:Nat)(r:Nat->Nat)(h:Nat):List aI:=(cls n r h).filterMap<|λi=>all[i]?
theorem zL(all:List aI)(n:Nat)(r:Nat->Nat)(h:Nat):(mu all n r h).length<=n:=by
 grind [List.length_filterMap_le,cls,yv,mu]
theorem uc{all:List aI}{n:Nat}{r:Nat->Nat}(h:Nat){x:aI}(hx:all[n]? =some x):mu all (n+1) r h=if r n=h then mu all n r h++[x]else mu all n r h:=by
 grind [mu,tx]
theorem nO{all:List aI}{n:Nat}{r:Nat->Nat}{h:Nat}{x:aI}:x∈mu all n r h↔∃i,i<n/\r i=h/\all[i]? =some x:=by
 unfold mu cls
 grind
structure nD (s:List aA) (r:Nat->Nat) (ps:List (List aA)):Prop where
 join:Joined (aO s) r
 len:ps.length=(bW (aO s).length r).length
 each:∀(j h:Nat)(p:List aA),(bW (aO s).length r)[j]? =some h->ps[j]? =some p->qO (mu (aO s) (aO s).length r h) p
def Py(n:Nat)(r:Nat->Nat)(m:List (Int×Int)):Prop:=(∀(j k:Nat),(bW n r)[j]? =some k->dR m ((k:Nat):Int) 0=((j:Nat):Int))/\∀k:Nat,gX m ((k:Nat):Int)=decide (k∈bW n r)
theorem ET{s:List aA}{X Y:List Int}(hc:dW (s.map bR))(hl:vD X Y (s.map bR))(hX:∀c∈X,small c)(hY:∀c∈Y,small c)(h1:s.length<=1073741824)(h2:∀b∈s,b.Xs.length<=1073741824)(h3:(aO s).length<=134217728)(hN:4398046511104<=N):
  Ok (kf N s) (λps=>∃r,nD s r ps):=by
 unfold kf;have hev:=qR hc;have hinc:=F2 hc;refine Qn (zD hev (by omega) (λb hb=>by grind) (by omega)) ?_;have hok:=zF hc hl hX hY;have hall:gV s s.length=(aO s).length:=DD s;generalize hn:(aO s).length=n at *;refine Qn (wj 0 (by omega)) ?_;rw[show((List.replicate n (0:Int)).length)=n by simp];refine Qv (Q3 (λk up=>up.length=n/\∀i,i<k->up[i]? =some ((i:Nat):Int)) (by omega) ⟨by simp,λi hi=>by omega⟩<|λk up hk hI=>?_) ?_
 ·grind [Q8,Qo,cT,mR]
 rintro up0⟨hu1,hu2⟩
 refine Qv (Q3 (λk st=>st.2.1=((gV s k:Nat):Int)/\(0<k->st.2.2=((gV s (k - 1):Nat):Int))/\∃r E,PJ (aO s) n st.1 r E/\∀q,q<k->∀i j,gV s q<=j->j<gV s (q+1)->GX (aO s) i j->(i,j)∈E) (by omega)
  ⟨rfl,λh=>by omega,_,_,⟨UF.init n up0 hu1 hu2,oY.id,zI.id n,λp hp=>(by cases hp)⟩,λq hq=>by omega⟩ (λk st hk hI=>?_)) ?_
 ·obtain⟨up,a,b⟩:=st;obtain⟨e1,e2,r,E,hP,hE⟩:=hI;dsimp only at e1 e2 hP ⊢;subst e1;refine Q8 hk ?_;have hoff:=xD hk;have hoffle:gV s (k+1)<=n:=by rw[<-hall];exact xE hk
  have hkm:=cU hk;have hlen:wrap .i64 (Int.tdiv ((s[k].Xs.length:Nat):Int) 2)=((s[k].Xs.length / 2:Nat):Int):=by
   grind [Int.ofNat_tdiv,Dz]
  rw[hlen,wrap_add (by omega),<-hoff];refine Qv (P:=λc=>c=true↔∃h0:0<k,s[k - 1].Y1=s[k].Y0) ?_<|λc hcc=>?_
  ·grind [Qo,lE,Q8,of_decide_eq_false]
  refine Qv (P:=λup'=>∃r E,PJ (aO s) n up' r E/\∀q,q<k+1->∀i j,gV s q<=j->j<gV s (q+1)->GX (aO s) i j->(i,j)∈E) ?_<|λup' hI=>Qo ⟨rfl,λ_=>rfl,hI⟩
  refine Q6 (λh=>?_)<|λh=>Qo ⟨r,E,hP,λq hq i j q1 q2 ht=>?_⟩
  ·obtain⟨hpos,hyy⟩:=hcc.1 h;rw[e2 hpos];have hoffp:=xD (show k - 1<s.length by omega);rw[show k - 1+1=k by omega]at hoffp
   refine Qv (Rx (Go:=λst=>∃r E,PJ (aO s) n st.1 r E/\∀q,q<k+1->∀i j,gV s q<=j->j<gV s (q+1)->GX (aO s) i j->(i,j)∈E) (Rt:=λ_=>True)
    (λst=>∃i j:Nat,st.2.1=((i:Nat):Int)/\st.2.2=((j:Nat):Int)/\gV s (k - 1)<=i/\i<=gV s k/\gV s k<=j/\j<=gV s (k+1)/\∃r E,PJ (aO s) n st.1 r E/\(∀q,q<k->∀i j,gV s q<=j->j<gV s (q+1)->GX (aO s) i j->(i,j)∈E)/\
     ∀i' j',gV s (k - 1)<=i'->i'<gV s k->gV s k<=j'->j'<gV s (k+1)->(i'<i\/j'<j)->GX (aO s) i' j'->(i',j')∈E)
    (λst=>(n - st.2.1.toNat)+(n - st.2.2.toNat)) ?_ ?_ (by simp only[cT];omega)) (λo ho=>Ro ho (λst h=>Qo h) (λr=>r.elim))
   ·rintro⟨up,a,b⟩⟨i,j,e3,e4,i1,i2,j1,j2,r,E,hP,hE,hE2⟩;dsimp only at e3 e4 hP ⊢;subst e3;subst e4;refine Q6 (λh=>?_)<|λh=>Rw ?_
    ·rw[cN,dN,dN]at h;have hi:i<gV s k:=by omega
     have hj:j<gV s (k+1):=by omega
     obtain⟨t,et,_,hri⟩:=t9 hev (show k - 1<s.length by omega) i1 (by rw[show k - 1+1=k by omega];exact hi);obtain⟨u,eu,_,hrj⟩:=t9 hev hk j1 hj;have xi:=hinc _<|cU (show k - 1<s.length by omega)
     have xj:=hinc _ hkm;have farI:∀i' a,i<i'->i'<gV s k->(aO s)[i']? =some a->s[k - 1].Xs[2*t+1]<a.X0:=λi' a h4 h5 h6=>by
      obtain⟨t',et',ht',hr'⟩:=t9 hev (show k - 1<s.length by omega) (show gV s (k - 1)<=i' by omega) (by rw[show k - 1+1=k by omega];exact h5);rw[hr']at h6;injection h6 with h6;subst h6
      exact xi.lt (show 2*t+1<2*t' by omega) (aK _)<|aK _
     have farJ:∀j' a,j<j'->j'<gV s (k+1)->(aO s)[j']? =some a->s[k].Xs[2*u+1]<a.X0:=λj' a h4 h5 h6=>by
      obtain⟨u',eu',hu',hr'⟩:=t9 hev hk (show gV s k<=j' by omega) h5;rw[hr']at h6;injection h6 with h6;subst h6
      exact xj.lt (show 2*u+1<2*u' by omega) (aK _)<|aK _
     refine Qv (P:=λc=>c=true↔GX (aO s) i j) ?_<|λc hct=>?_
     ·refine QK hri<|QK hrj<|Q6 (λh=>QK hrj<|QK hri<|Qo ?_)<|λh=>Qo ?_
      ·rw[dN]at h ⊢;constructor
       ·intro h';exact⟨_,_,hri,hrj,hyy,h,h'⟩
       ·rintro⟨a,c,ha,hc',_,_,h'⟩;rw[hri]at ha;injection ha with ha;subst ha
        rw[hrj]at hc';injection hc' with hc';subst hc'
        exact h'
      ·constructor
       ·intro h;cases h
       ·rintro⟨a,c,ha,hc',_,h',_⟩;rw[hri]at ha;injection ha with ha;subst ha
        rw[hrj]at hc';injection hc' with hc';subst hc'
        rw[decide_eq_false_iff_not]at h;exact absurd h' h
     refine Qv (P:=λup'=>∃r E',PJ (aO s) n up' r E'/\(∀p∈E,p∈E')/\(GX (aO s) i j->(i,j)∈E')) ?_ ?_
     ·refine Q6 (λh=>?_)<|λh=>Qo ⟨r,E,hP,λp hp=>hp,λht=>by rw[hct.2 ht]at h;cases h⟩
      obtain⟨up',u1,u2⟩:=IV (N:=N) (f:=λx=>some x) hP.uf (i:=i) (k:=j) (by omega) (by omega) (by omega);refine⟨up',u1,_,_,hP.join (by omega) (by omega) u2<|hct.1 h,λp hp=>List.mem_append_left _ hp,λ_=>by simp⟩
     ·rintro up'⟨r',E',hP',hsub,hij⟩;refine QK hri<|QK hrj ?_
      dsimp only
      by_cases hx:s[k - 1].Xs[2*t+1]<s[k].Xs[2*u+1]
      ·rw[cG hx,aR];refine Qn (x:=(((i+1:Nat):Int),((j:Nat):Int))) (by rw[iE (by omega)])<|Rk ⟨⟨i+1,j,rfl,rfl,by omega,by omega,j1,j2,r',E',hP',λq hq i j q1 q2 ht=>hsub _<|hE q hq i j q1 q2 ht,λi' j' g1 g2 g3 g4 g5 ht=>?_⟩,by simp only[cT];omega⟩
       by_cases h5:i'<i\/j'<j
       ·exact hsub _<|hE2 i' j' g1 g2 g3 g4 h5 ht
       ·have:i'=i:=by omega
        subst this
        by_cases h6:j'=j
        ·subst h6;exact hij ht
        ·exfalso;obtain⟨a,c,ha,hc',_,_,h'⟩:=ht;rw[hri]at ha;injection ha with ha;subst ha
         have:=farJ j' c (by omega) g4 hc';dsimp only at h';omega
      ·rw[cB hx,bF];refine Qn (x:=(((i:Nat):Int),((j+1:Nat):Int))) (by rw[iE (by omega)])<|Rk ⟨⟨i,j+1,rfl,rfl,i1,i2,by omega,by omega,r',E',hP',λq hq i j q1 q2 ht=>hsub _<|hE q hq i j q1 q2 ht,λi' j' g1 g2 g3 g4 g5 ht=>?_⟩,by simp only[cT];omega⟩
       by_cases h5:i'<i\/j'<j
       ·exact hsub _<|hE2 i' j' g1 g2 g3 g4 h5 ht
       ·have:j'=j:=by omega
        subst this
        by_cases h6:i'=i
        ·subst h6;exact hij ht
        ·exfalso;obtain⟨a,c,ha,hc',_,h',_⟩:=ht;rw[hrj]at hc';injection hc' with hc';subst hc'
         have:=farI i' a (by omega) g2 ha;dsimp only at h';omega
    ·refine⟨r,E,hP,λq hq i' j' q1 q2 ht=>?_⟩
     by_cases hqk:q<k
     ·exact hE q hqk i' j' q1 q2 ht
     ·have:q=k:=by omega
      subst this;obtain⟨_,_,g1,g2⟩:=DE hc hk q1 q2 ht;refine hE2 i' j' g1 g2 q1 q2 ?_ ht;rw[Bool.and_eq_false_iff,decide_eq_false_iff_not,decide_eq_false_iff_not]at h;omega
   ·exact⟨gV s<|k - 1,gV s k,rfl,rfl,bU _,xE (by omega),bU _,xE (by omega),r,E,hP,hE,λi' j' g1 g2 g3 g4 g5=>by omega⟩
  ·by_cases hqk:q<k
   ·exact hE q hqk i j q1 q2 ht
   ·have:q=k:=by omega
    subst this;obtain⟨g0,g1,_⟩:=DE hc hk q1 q2 ht;rw[hcc.2 ⟨g0,g1⟩]at h;cases h
 ·rintro⟨up,a,b⟩⟨_,_,r,E,hP,hE⟩;dsimp only at hP ⊢;have hEq:∀i j,GX (aO s) i j->(i,j)∈E:=λi j ht=>by
   have hjl:j<(aO s).length:=by obtain⟨a,c,_,hb,_⟩:=ht;exact(bI.1 hb).1
   obtain⟨q,hq,q1,q2⟩:=F1 hjl;exact hE q hq i j q1 q2 ht
  have hJ:Joined (aO s) r:=⟨by rw[hn];exact hP.uf.le,by rw[hn];exact hP.uf.rr,λi j ht=>hP.co (i,j) (hEq i j ht),λS hS i j hi hj=>by
   rw[hn]at hi hj
   exact hP.fi S (λp hp=>hS p.1 p.2 (hP.so p hp)) i j hi hj⟩
  refine Qv (Q3 (λk st=>UF n st.1 r/\Py k r st.2.1/\st.2.2=(bW k r).map (mu (aO s) k r)) (by omega) ⟨hP.uf,⟨λj k hj=>by simp[bW]at hj,λk=>rfl⟩,rfl⟩<|λk st hk hI=>?_) ?_
  ·obtain⟨l,m,ls⟩:=st;obtain⟨hu,⟨hm1,hm2⟩,hs⟩:=hI;dsimp only at hu hm1 hm2 hs ⊢;subst hs;have hkx:(aO s)[k]? =some ((aO s)[k]'(by omega)):=aK (by omega);refine QK hkx ?_;obtain⟨u',a1,a2⟩:=Cj (N:=N) hu hk (by omega);refine Qn a1 ?_;dsimp only;have hhl:=nc k r;have hrk:=hP.uf.le k hk;have hrr:=hP.uf.rr k hk;have hcl:=zL (aO s) k r<|r k
   have hmap:((bW k r).map<|mu (aO s) k r).length=(bW k r).length:=by simp
   rw[hm2]
   by_cases e:r k=k
   ·have hnot:r k∉bW k r:=λh=>by have:=(jt.1 h).1;omega
    refine Qn (x:=(kQ m ((r k:Nat):Int) (((bW k r).length:Nat):Int),(bW k r).map (mu (aO s) k r)++[([]:List aI)],(((bW k r).length:Nat):Int))) ?_ ?_
    ·rw[cB hnot,pz,aR,gu (by simp;omega),aB,hmap]
    ·dsimp only;have hi:((bW k r).map (mu (aO s) k r)++[([]:List aI)])[(bW k r).length]? =some []:=by rw[<-hmap,gE<|bU _,Nat.sub_self];rfl
     refine QK hi<|Rg (by simp)<|QK hi<|Qo ⟨a2,⟨λj q hj=>?_,λq=>?_⟩,?_⟩
     ·dsimp only;rw[jP,aG e]at hj;rw[qL]
      by_cases e2:j<(bW k r).length
      ·rw[g8 e2]at hj;have:=(jt.1<|eM hj).1;rw[aF (by omega)];exact hm1 j q hj
      ·rw[gE (by omega)]at hj;have hj0:j -(bW k r).length=0:=by
        have:=(bI.1 hj).1;simp at this;omega
       rw[hj0]at hj;simp at hj;subst hj;rw[aG (by rw[e])];congr 1;omega
     ·dsimp only;rw[xA,hm2,jP,aG e,g9];rw[fG,dN,dN,dN,dM,List.mem_singleton,e];constructor
      ·rintro(h|h)
       ·exact .inr (by omega)
       ·exact .inl h
      ·rintro(h|h)
       ·exact .inr h
       ·exact .inl (by omega)
     ·dsimp only;rw[cT,<-hmap,List.set_append_right _ _<|bU _,Nat.sub_self,jP,aG e,eE];congr 1
      ·apply List.map_congr_left;intro a ha;have:=(jt.1 ha).1;rw[uc a hkx,aF (by omega)]
      ·simp only[List.set_cons_zero,eF,List.map_nil,List.nil_append];rw[uc k hkx,aG e];have:mu (aO s) k r k= []:=by unfold mu;rw[F0 (λi hi=>hP.uf.le i (by omega))<|bU _];rfl
       rw[this];rfl
   ·have hh:r k∈bW k r:=jt.2 ⟨by omega,hrr⟩;obtain⟨j,hj⟩:=eA hh;refine Qn (x:=(m,(bW k r).map<|mu (aO s) k r,((j:Nat):Int))) ?_ ?_
    ·rw[cG hh,py,bF,hm1 j (r k) hj]
    ·dsimp only;have hi:((bW k r).map<|mu (aO s) k r)[j]? =some (mu (aO s) k r<|r k):=by rw[eR,hj];rfl
     refine QK hi<|Rg (by simp;omega)<|QK hi<|Qo ⟨a2,⟨λj' q hj'=>?_,λq=>?_⟩,?_⟩
     ·rw[jP,aF e]at hj';exact hm1 j' q hj'
     ·rw[jP,aF e];exact hm2 q
     ·dsimp only;rw[cT,jP,aF e]
      have:=tz (mu (aO s) k r) (mu (aO s) (k+1) r) (bW k r) j (r k) (mn k r) hj (λb hb hne=>by
       rw[uc b hkx,aF (λh=>hne h.symm)])
      rw[uc (r k) hkx,aG rfl]at this;exact this
  ·rintro⟨l,m,ls⟩⟨_,_,hs⟩;dsimp only at hs ⊢;subst hs;have hhl:=nc n r;refine Qv (Q3 (λk ps=>ps.length=k/\∀(j h:Nat)(p:List aA),j<k->(bW n r)[j]? =some h->ps[j]? =some p->qO (mu (aO s) n r h) p) (by simp;omega) ⟨rfl,λj h p hj=>by omega⟩<|λk ps hk hI=>?_) ?_
   ·obtain⟨hp1,hp2⟩:=hI;have hk':k<(bW n r).length:=by simpa using hk
    refine QK (x:=mu (aO s) n r (bW n r)[k]) (by rw[eR,aK hk'];rfl) ?_;have hcl:=zL (aO s) n r (bW n r)[k];refine Qv (rF (N:=N) (by omega) (λx hx=>?_) (by omega)) ?_
    ·obtain⟨i,_,_,h⟩:=nO.1 hx;exact(hok x<|eM h).1
    ·intro p hp;refine Rg (by rw[hp1];simp;omega)<|Qo ⟨by simp[hp1],λj h q hj hh hq=>?_⟩
     by_cases hjk:j<k
     ·rw[g8 (by omega)]at hq;exact hp2 j h q hjk hh hq
     ·have:j=k:=by omega
      subst this;rw[gE (by omega),hp1,Nat.sub_self]at hq;simp at hq;subst hq;rw[aK hk']at hh;injection hh with hh;subst hh
      exact hp
   ·rintro ps⟨hp1,hp2⟩;refine Qo ⟨r,hJ,?_,λj h p hh hp=>?_⟩
    ·rw[hp1,hn];simp
    ·rw[hn]at hh ⊢;exact hp2 j h p (by have:=(bI.1 hp).1;omega) hh hp
end
section
variable {N:Nat}
theorem wH{n:Int}(h: -9223372036854775808<=n/\n<=9223372036854775807):wrap .i64 n=n:=by rw[IntKind.wrap_i64];omega
def ik(n lo hi:Int):Bool:=decide (n>=lo)&&decide (n<=hi)
def o4(n:Int):Bool:=ik n (-1000000) 1000000
def tA(p:kG):Bool:=o4 p.X&&o4 p.Y
def eL(r:aI):Bool:=o4 r.X0&&(o4 r.Y0&&(o4 r.X1&&o4 r.Y1))
theorem zM(n:Int):j9 N n=some (o4 n):=rfl
theorem xZ(p:kG):iK N p=some (tA p):=by
 unfold iK tA;rw[zM,aB,zM]
 cases o4 p.X <;> rfl
theorem zN(r:aI):lx N r=some (eL r):=by
 unfold lx eL;simp only[zM,aB]
 cases o4 r.X0 <;> cases o4 r.Y0 <;> cases o4 r.X1 <;> rfl
theorem DF{a b:Int}(h:a≠b):fK (N+4) [a,b]=some [a,b]:=by
 have e:(b==a)=false:=by rw[beq_eq_false_iff_ne];exact λe=>h e.symm
 have w1:wrap .i64 ((1:Int) - 1)=0:=by decide
 have w2:wrap .i64 ((1:Int)+1)=2:=by decide
 unfold fK;have e1:idx [a,b] 1=some b:=rfl;have e2:idx [a,b] 0=some a:=rfl;have l2:(([a,b]:List Int).length:Int)=2:=rfl;rw[l2,show decide ((2:Int)<2)=false by decide,bF];rw[mZ.eq_def];dsimp only;rw[show decide ((1:Int)<2)=true by decide,aR,e1,aB,w1,e2,aB,e,bF,aB,w2];dsimp only;rw[mZ.eq_def];dsimp only;rw[show decide ((2:Int)<2)=false by decide,bF,aB];rfl
theorem K0(x:Int):wrap .i64 (x - x)=0:=by rw[Int.sub_self];decide
theorem GY{r:aI}(hx:r.X0<r.X1)(hy:r.Y0<r.Y1):fQ (N+16) [r]=some [⟨r.Y0,r.Y1,[r.X0,r.X1]⟩]:=by
 have s1:sO (iS<|N+16) [r]=some [r]:=A9 (by unfold iS;rw[K0]);have s2:sO (fL<|N+16) [r]=some [r]:=A9 (by unfold fL;rw[K0]);have s3:sN [r.Y0,r.Y1]=some [r.Y0,r.Y1]:=Ax (by simp;omega) (by simp);have c1:ij (N+16) [r]=some [r]:=rfl;have f1:∀φ,gq (N+16) [] φ=some []:=λφ=>rfl;have st:iu (N+16) [r]=some ([r.X0,r.X1],[r]):=by
  unfold iu;rw[s2,aB];rfl
 have pu:∀b:aA,b.Xs= [r.X0,r.X1]->b.Y0<b.Y1->gS (N+16) [] b=some [b]:=λb h1 h2=>by
  unfold gS;rw[h1,cB (show ¬b.Y1<=b.Y0 by omega)];rfl
 unfold fQ;rw[c1,aB,s1,aB];have ys:gN ([r]:List aI).length (λ(k35:Nat)(s36:List Int)=>((idx [r] (k35:Int)).bind λx54=>(app 8 s36 ([x54.Y0,x54.Y1]:List Int)).bind λx58=>some x58:Option (List Int))) ([]:List Int)=some [r.Y0,r.Y1]:=rfl;rw[ys,aB,s3,aB,DF (N:=N+12) (by omega),aB];have l2:(([r.Y0,r.Y1]:List Int).length:Int)=2:=rfl;have l1:(([r]:List aI).length:Int)=1:=rfl;have w1:wrap .i64 ((0:Int)+1)=1:=by decide
 have w2:wrap .i64 ((1:Int)+1)=2:=by decide
 have i0:idx [r.Y0,r.Y1] 0=some r.Y0:=rfl;have i1:idx [r.Y0,r.Y1] 1=some r.Y1:=rfl;have j0:idx [r] 0=some r:=rfl;have a1:app 32 ([]:List aI) [r]=some [r]:=rfl;rw[l2,l1];rw[mZ.eq_def];dsimp only;rw[w1,show decide ((1:Int)<2)=true by decide,aR,f1,aB];rw[mZ.eq_def];dsimp only;rw[show decide ((0:Int)<1)=true by decide,aR,j0,aB,i0,aB,aB,show decide (r.Y0<=r.Y0)=true by simp,aR,aB,a1,aB,w1,aB];dsimp only;rw[mZ.eq_def];dsimp only;rw[show decide ((1:Int)<1)=false by decide,bF,aB,bF,aB,aB];unfold Fo.cs;dsimp only;rw[aB,i1,aB,st,aB,pu _ rfl hy,aB,aB];dsimp only;rw[mZ.eq_def];dsimp only;rw[w2,show decide ((2:Int)<2)=false by decide,bF,aB];rfl
theorem IW{r:aI}(hx:r.X0<r.X1):kS N [⟨r.Y0,r.Y1,[r.X0,r.X1]⟩]=some (eL r):=by
 have ar:lz N [⟨r.Y0,r.Y1,[r.X0,r.X1]⟩]=some r:=by
  have e1:(if r.X0<r.X0 then r.X0 else r.X0)=r.X0:=by split <;> rfl
  have e2:(if r.X1<r.X1 then r.X1 else r.X1)=r.X1:=by split <;> rfl
  show some ({X0:=(if r.X0<r.X0 then r.X0 else r.X0),Y0:=r.Y0,X1:=(if r.X1<r.X1 then r.X1 else r.X1),Y1:=r.Y1}:aI)=some r;rw[e1,e2]
 unfold kS;rw[ar,aB,zN];rfl
def zO(b:cK):aI:=⟨b.At.X - b.eU / 2,b.At.Y - b.eU / 2,b.At.X - b.eU / 2+b.eU,b.At.Y - b.eU / 2+b.eU⟩
def tB(b:cK):Bool:=ik b.eU 1 10000&&tA b.At
def nE(b:cK):aI×Int:=if tB b&&eL (zO b)then(zO b,0)else(⟨0,0,0,0⟩,1)
theorem tC{b:cK}(h:tB b=true):(1<=b.eU/\b.eU<=10000)/\(-1000000<=b.At.X/\b.At.X<=1000000)/\(-1000000<=b.At.Y/\b.At.Y<=1000000):=by
 simp only[tB,ik,tA,o4,cN,decide_eq_true_iff]at h;omega
theorem mo{b:cK}(h:tB b=true):eQ N b=some (zO b):=by
 obtain⟨h1,h2,h3⟩:=tC h;have t:Int.tdiv b.eU 2=b.eU / 2:=Int.tdiv_eq_ediv_of_nonneg (by omega);unfold eQ zO;rw[t,wH (n:=b.eU / 2) (by omega),wH (n:=b.At.X - b.eU / 2) (by omega),wH (n:=b.At.Y - b.eU / 2) (by omega),wH (by omega),wH (by omega)]
theorem xF{b:cK}:kp (N+16) b=some (nE b):=by
 have e0:gj (N+16) b.eU 1 10000=some (ik b.eU 1 10000):=rfl;have e1:(bif(!(ik b.eU 1 10000))then some true else some (!(tA b.At)))=some (!tB b):=by unfold tB;cases ik b.eU 1 10000 <;> rfl
 unfold kp nE;rw[e0,aB,xZ,aB,e1,aB]
 cases hf:tB b with
 |false=>rfl
 |true=>
  obtain⟨h1,h2,h3⟩:=tC hf;have hx:(zO b).X0<(zO b).X1:=by simp only[zO];omega
  have hy:(zO b).Y0<(zO b).Y1:=by simp only[zO];omega
  rw[py,bF,mo hf,aB,GY hx hy,aB,IW hx,aB]
  cases eL (zO b) <;> rfl
end
section
variable {N:Nat}
def LH(c:UInt8):Bool:=
 (((decide (((c.toNat:Nat):Int)<65)||decide (((c.toNat:Nat):Int)>90))&&(decide (((c.toNat:Nat):Int)<97)||decide (((c.toNat:Nat):Int)>122)))&&(decide (((c.toNat:Nat):Int)<48)||decide (((c.toNat:Nat):Int)>57)))&&decide (Lib.indexByte [95,43,45,35] c<0)
def isWord(s:bG):Bool:= !s.bX.any LH&&(decide (1<=s.bX.length)&&decide (s.bX.length<=40))
theorem wI(s:bG)(c:UInt8):hU N s ((c.toNat:Nat):Int)=some (Lib.indexByte s.bX c):=by
 show some (Lib.indexByte s.bX (Int.toNat ((c.toNat:Nat):Int)).toUInt8)=_;simp
theorem EU{R:Type}(b1:Bool)(c:UInt8)(r:R):
  ((bif b1 then((hU N (⟨[95,43,45,35]⟩) ((c.toNat:Nat):Int)).bind λx14=>some<|decide<|x14<0)else some false).bind λs12=>bif s12 then some (.rt r)else(some<|.nx ()):Option (Fl Unit R))=some (if(b1&&decide (Lib.indexByte [95,43,45,35] c<0))=true then .rt r else .nx ()):=by
 rw[wI,aB]
 grind
theorem kK{s:bG}(h:s.bX.length<=2097152):fD N s=some (isWord s):=by
 unfold fD
 rw[Kd LH false (by omega) (λk x hx=>by
  have hk:=(bI.1 hx).1;have e:Gi s ((k:Nat):Int)=some x:=by grind [Iz,aK]
  rw[e,aB]
  exact EU (R:=Bool) _ x false),aB]
 unfold isWord
 grind [LH,Fo.cs,pz,Bool.false_eq_true,Option.some.injEq]
def cutAt(c:UInt8):List UInt8->List (List UInt8)
 | []=>[[]]
 |b::l=>if b==c then []::cutAt c l else match cutAt c l with|h::t=>(b::h)::t| []=>[[b]]
theorem zP{c:UInt8}:∀{l:List UInt8},c∉l->cutAt c l= [l]
 | [],_=>rfl
 |b::l,h=>by
  unfold cutAt;have hb:(b==c)=false:=by rw[beq_eq_false_iff_ne];rintro rfl;exact h (by simp)
  rw[hb,zP<|λh'=>h (by simp[h'])];rfl
theorem DG{c:UInt8}:∀{a b:List UInt8},c∉a->cutAt c (a++c::b)=a::cutAt c b
 | [],b,_=>by rw[List.nil_append];show(if(c==c)=true then _ else _)=_;simp
 |x::a,b,h=>by
  have hb:(x==c)=false:=by rw[beq_eq_false_iff_ne];rintro rfl;exact h (by simp)
  have ih:=DG (c:=c) (a:=a) (b:=b)<|λh'=>h (by simp[h'])
  show(if(x==c)=true then []::cutAt c (a++c::b)else match cutAt c (a++c::b)with|h::t=>(x::h)::t| []=>[[x]])=_;rw[hb,ih];rfl
theorem tD:∀(l:List UInt8)(c:UInt8),(Lib.indexByte l c = -1/\c∉l)\/∃a b,l=a++c::b/\c∉a/\Lib.indexByte l c=((a.length:Nat):Int)
 | [],c=> .inl ⟨rfl,by simp⟩
 |x::l,c=>by
  unfold Lib.indexByte
  by_cases hx:x=c
  ·subst hx;exact .inr ⟨[],l,rfl,by simp,by simp⟩
  ·have hb:(x==c)=false:=by rw[beq_eq_false_iff_ne];exact hx
   rcases tD l c with⟨h1,h2⟩|⟨a,b,h1,h2,h3⟩
   ·left;rw[hb,h1];refine⟨by simp,?_⟩;simp[h2];exact λh=>hx h.symm
   ·right;refine⟨x::a,b,by rw[h1];rfl,by grind,?_⟩;rw[hb,h3];have:(((a.length:Nat):Int)== -1)=false:=by rw[beq_eq_false_iff_ne];omega
    rw[this];simp
theorem IX(s:bG)(c:UInt8):ko N s ⟨[c]⟩=some (Lib.indexByte s.bX c):=by
 show(jz N s ⟨[c]⟩).bind _=_;unfold jz
 by_cases h:bG.pW ⟨[c]⟩ s=true
 ·grind [pI,Lib.indexByte]
 ·rw[ju]at h;rw[h];show((gF N s ((c.toNat:Nat):Int)).bind _).bind _=_;have:=wI (N:=N) s c
  grind [hU]
theorem IY(s:bG)(c:UInt8):lO N s ⟨[c]⟩=some ((s.bX.count c:Nat):Int):=by
 unfold lO;show(some _:Option Int)=_;simp[Lib.countByte]
theorem GZ{s:bG}{k:Nat}(h:k<=s.bX.length):u4 s 0 ((k:Nat):Int)=some ⟨s.bX.take k⟩:=by
 unfold u4;grind
theorem G0{s:bG}{k:Nat}(h:k<=s.bX.length):u4 s ((k:Nat):Int) ((s.bX.length:Nat):Int)=some ⟨s.bX.drop k⟩:=by
 grind [u4,cT,px,lk]
def rG(s:bG)(c:UInt8):List bG:=(cutAt c s.bX).map bG.mk
theorem IZ{s:bG}(c:UInt8)(h:s.bX.length<=2097152)(hN:4194304<=N):lP N s ⟨[c]⟩=some (rG s c):=by
 have hc:s.bX.count c<=s.bX.length:=List.count_le_length;unfold lP lu;rw[show((-1:Int)==0)=false by decide,bF,show bG.pW ⟨[c]⟩ ⟨[]⟩=false by simp[bG.pW],bF,IY,aB];rw[eG (x:=((s.bX.count c:Nat):Int)+1) (by omega) (by omega),show decide ((-1:Int)<0)=true by decide,aR,aB];rw[eG (x:=((s.bX.length:Nat):Int)+1) (by omega) (by omega)];have e1:(if((s.bX.length:Nat):Int)+1<((s.bX.count c:Nat):Int)+1 then((s.bX.length:Nat):Int)+1 else((s.bX.count c:Nat):Int)+1)=((s.bX.count c+1:Nat):Int):=by
  omega
 rw[e1,wj _ (by omega),aB];rw[eG (x:=((s.bX.count c+1:Nat):Int) - 1) (by omega) (by omega)];have key:=t5 (S:=bG×List bG×Int) (R:=Empty) (body:=(λ(s7:bG×List bG×Int)=>(bif decide (s7.2.2<((s.bX.count c+1:Nat):Int) - 1)then((ko N s7.1 ⟨[c]⟩).bind λx23=>bif decide (x23<0)then some (.br (s7.1,s7.2.1,s7.2.2))else((u4 s7.1 0<|wrap .i64<|x23+0).bind λx24=>(idx s7.2.1 s7.2.2).bind λx25=>(u4 s7.1 (wrap .i64<|x23+(((⟨[c]⟩:bG).bX.length:Nat):Int)) ((s7.1.bX.length:Nat):Int)).bind λx27=>some<|.nx (x27,s7.2.1.set (Int.toNat s7.2.2) x24,wrap .i64<|s7.2.2+1)))else(some<|.br (s7.1,s7.2.1,s7.2.2)):Option (Fl (bG×List bG×Int) Empty))))
  (λst=>∃ws:List (List UInt8),st.2.2=((ws.length:Nat):Int)/\cutAt c s.bX=ws++cutAt c st.1.bX/\ws.length+st.1.bX.count c=s.bX.count c/\st.1.bX.length<=s.bX.length/\st.2.1=ws.map bG.mk++List.replicate (s.bX.count c+1 - ws.length) ⟨[]⟩)
  (λst=>s.bX.count c+1 - st.2.2.toNat)
  (λst=>∃ws:List (List UInt8),st.2.2=((ws.length:Nat):Int)/\cutAt c s.bX=ws++[st.1.bX]/\ws.length=s.bX.count c/\st.2.1=ws.map bG.mk++[⟨[]⟩])
  (λ_=>True) (by
   rintro⟨r,arr,i⟩⟨ws,h1,h2,h3,h4,h5⟩;simp only at h1 h2 h3 h4 h5;subst h1 h5
   by_cases hlt:ws.length<s.bX.count c
   ·have hd:decide (((ws.length:Nat):Int)<((s.bX.count c+1:Nat):Int) - 1)=true:=by grind
    simp only[hd,aR,IX,aB]
    rcases tD r.bX c with⟨_,hn⟩|⟨a,b,hr,ha,hi⟩
    ·grind
    ·have hrl:r.bX.length=a.length+(b.length+1):=by rw[hr];simp
     rw[hi,cB (by omega),bF];rw[show((a.length:Nat):Int)+0=((a.length:Nat):Int)by omega,eG (x:=((a.length:Nat):Int)) (by omega) (by omega),GZ (by omega),aB];rw[gL _ _ (by simp;omega),aB];rw[show((a.length:Nat):Int)+(((⟨[c]⟩:bG).bX.length:Nat):Int)=((a.length+1:Nat):Int)by simp,eG (x:=((a.length+1:Nat):Int)) (by omega) (by omega),G0 (by omega),aB];refine⟨_,rfl,⟨ws++[a],?_,?_,?_,?_,?_⟩,?_⟩
     ·grind [eG]
     ·simp_all[DG]
     ·simp only;rw[hr]at h3 ⊢;simp[List.count_eq_zero_of_not_mem ha]at h3 ⊢;omega
     ·simp;omega
     ·simp only[cT];rw[List.set_append_right _ _ (by simp)];simp only[dL,Nat.sub_self];obtain⟨d,hd'⟩:∃d,s.bX.count c+1 - ws.length=d+1:=⟨s.bX.count c - ws.length,by omega⟩;rw[hd',List.replicate_succ,List.set_cons_zero,show s.bX.count c+1 -(ws++[a]).length=d by simp;omega];simp[hr]
     ·simp only;rw[eG (by omega) (by omega)];omega
   ·have hd:decide (((ws.length:Nat):Int)<((s.bX.count c+1:Nat):Int) - 1)=false:=by rw[decide_eq_false_iff_not];omega
    simp only[hd,bF];refine⟨_,rfl,ws,rfl,?_,by omega,?_⟩
    ·have h0:r.bX.count c=0:=by omega
     rw[h2,zP<|List.count_eq_zero.1 h0]
    ·rw[show s.bX.count c+1 - ws.length=1 by omega];rfl)
  N (s,List.replicate (s.bX.count c+1) ⟨[]⟩,0) ⟨[],rfl,rfl,by simp,bU _,by simp⟩ (by simp only;omega)
 obtain⟨o,ho,hgo⟩:=key;rw[ho,aB]
 cases o with
 |rt r=>exact r.elim
 |go st=>
  obtain⟨r,arr,i⟩:=st;obtain⟨ws,h1,h2,h3,h4⟩:=hgo;simp only at h1 h2 h3 h4;subst h1 h4;simp only[Fo.cs];rw[gL _ _ (by simp),aB,eG (by omega) (by omega)];rw[show((ws.length:Nat):Int)+1=((ws.length+1:Nat):Int)by omega,qA _ _ (by simp),aB,aB];unfold rG;rw[h2];rw[cT,List.set_append_right _ _ (by simp),px (by simp)];simp
def jY(s:bG):Bool:=decide (s.bX.length<=200)&&(rG s 47).all isWord
theorem ud{c:UInt8}:∀{l x:List UInt8},x∈cutAt c l->x.length<=l.length
 | [],x,h=>by simp[cutAt]at h;subst h;simp
 |b::l,x,h=>by
  unfold cutAt at h;split at h
  ·rcases gk.1 h with h|h
   ·subst h;simp
   ·have:=ud h;simp;omega
  ·split at h
   ·rename_i t e
    rcases gk.1 h with h|h
    ·subst h;have:=ud (c:=c) (l:=l) (by rw[e];exact List.mem_cons_self);simp;omega
    ·have:=ud (c:=c) (l:=l) (by rw[e];exact my _ h);simp;omega
   ·simp at h;subst h;simp
theorem Bf(c:UInt8):∀(l:List UInt8),(cutAt c l).length<=l.length+1
 | []=>by simp[cutAt]
 |b::l=>by
  have:=Bf c l;unfold cutAt;split
  ·simp;omega
  ·split
   ·rename_i e;rw[e]at this;simp at this ⊢;omega
   ·simp
theorem G1{s x:bG}{c:UInt8}(h:x∈rG s c):x.bX.length<=s.bX.length:=by
 obtain⟨y,hy,rfl⟩:=cF.1 h;exact ud hy
theorem G2(s:bG)(c:UInt8):(rG s c).length<=s.bX.length+1:=by simp[rG,dL,Bf]
theorem mS{s:bG}(h:s.bX.length<=2097152)(hN:4194304<=N):gQ N s=some (jY s):=by
 unfold gQ jY
 by_cases hl:s.bX.length<=200
 ·rw[cG (by omega),aR,IZ 47 h hN,aB]
  have e:=m9 (l:=rG s 47) (φ:=gp N) (λx=> !isWord x) (by have:=G2 s 47;omega) (λx hx=>by
   unfold gp
   rw[kK (by have:=G1 hx;omega)];rfl)
  have e2:gm N (rG s 47) (gp N)=nB (rG s 47) (gp N):=rfl;rw[e2,e,aB,aB,cG hl,Bool.true_and];congr 1;rw[g9];simp
 ·rw[cB (by omega),bF,aB,cB hl,Bool.false_and]
end
end Go.Gk
namespace Go.Gk
open Go IntKind Classical
section
variable {N:Nat}
theorem I0{a b:aA}(h:bR a=bR b):a=b:=by cases a;simp_all[bR]
theorem wJ:∀{s t:List aA},s.map bR=t.map bR->s=t
 | [],[],_=>rfl
 | [],_::_,h=>by cases h
 |_::_,[],h=>by cases h
 |a::s,b::t,h=>by
  rw[eF,eF]at h;injection h with h1 h2
  rw[I0 h1,wJ h2]
theorem DH{s t:List aA}(hs:dW (s.map bR))(ht:dW (t.map bR))(h:∀x y,wE (s.map bR) x y=wE (t.map bR) x y):s=t:=wJ<|zw hs ht h
theorem qO.unique{l:List aI}{s t:List aA}(hs:qO l s)(ht:qO l t):s=t:=DH hs.can ht.can λx y=>by rw[hs.cover,ht.cover]
theorem qO.I1{l:List aI}{s:List aA}(h:qO l s):s.length<=2*l.length/\(∀b∈s,b.Xs.length<=2*l.length)/\(aO s).length<=2*l.length*(2*l.length):=by
 have h1:s.length<=2*l.length:=by have:=h.lim.len h.can;grind [dL,mQ]
 have h2:∀b∈s,b.Xs.length<=2*l.length:=λb hb=>by
  have:=h.lim.row h.can (b:=bR b)<|cF.2 ⟨b,hb,rfl⟩
  rwa[qN]at this
 simp_all[zC]
theorem G3{n:Int}(h:o4 n=true): -1000000<=n/\n<=1000000:=by
 unfold o4 ik at h
 grind
theorem ld{r:aI}(h:eL r=true):(-1000000<=r.X0/\r.X0<=1000000)/\(-1000000<=r.Y0/\r.Y0<=1000000)/\(-1000000<=r.X1/\r.X1<=1000000)/\(-1000000<=r.Y1/\r.Y1<=1000000):=by
 unfold eL at h
 simp_all[cN,G3]
theorem zQ{r:aI}(h:(-1000000<=r.X0/\r.X0<=1000000)/\(-1000000<=r.Y0/\r.Y0<=1000000)/\(-1000000<=r.X1/\r.X1<=1000000)/\(-1000000<=r.Y1/\r.Y1<=1000000)):eL r=true:=by
 unfold eL o4 ik
 grind
theorem I2{r:aI}(h:eL r=true)(hx:r.X0<r.X1)(hy:r.Y0<r.Y1):Ea r:=by
 have:=ld h;refine⟨hx,hy,?_,?_,?_,?_⟩ <;> unfold small <;> omega
def ou(r:aI):Option Int:=if eL r=true then(if r.X1<=r.X0\/r.Y1<=r.Y0 then some 13 else none)else some 1
def mT(l:List aI):Int:=if 2000<l.length then 2 else(l.findSome? ou).getD 0
theorem AA{l:List aI}(hl:l.length<=4611686018427387904):jS N l=some (mT l):=by
 unfold jS mT
 by_cases h:2000<l.length
 ·grind
 ·rw[cB (by omega),bF,aF h,zd ou hl (λk x hx=>by
   rw[eW hx,aB,zN,aB];unfold ou
   cases hr:eL x with
   |false=>rfl
   |true=>
    rw[py,bF,aG rfl]
    by_cases h2:x.X1<=x.X0\/x.Y1<=x.Y0
    ·rw[aG h2,show(decide (x.X1<=x.X0)||decide (x.Y1<=x.Y0))=true by grind];rfl
    ·rw[aF h2,show(decide (x.X1<=x.X0)||decide (x.Y1<=x.Y0))=false by grind];rfl),aB]
  cases l.findSome? ou <;> rfl
theorem wK{r:aI}:ou r=none↔eL r=true/\r.X0<r.X1/\r.Y0<r.Y1:=by
 grind [ou]
theorem DI{r:aI}{e:Int}(h:ou r=some e):e≠0:=by
 grind [ou]
theorem uN{l:List aI}:mT l=0↔l.length<=2000/\∀r∈l,eL r=true/\r.X0<r.X1/\r.Y0<r.Y1:=by
 unfold mT
 by_cases h:2000<l.length
 ·omega
 ·rw[aF h]
  cases hf:l.findSome? ou with
  |none=>
   grind [List.findSome?_eq_none_iff,wK]
  |some e=>
   obtain⟨r,hr,he⟩:=List.exists_of_findSome?_eq_some hf
   grind [DI,wK]
def Nk(l:List aI):Prop:=∀(k:Nat)a b,l[k]? =some a->l[k+1]? =some b->¬(b.Y0<a.Y0\/(b.Y0=a.Y0/\b.X0<=a.X0))
def EV(l:List aI):Prop:=∃s,qO l s/\aO s=l
noncomputable def iw(l:List aI):Int:=if mT l≠0 then mT l else if Nk l then(if EV l then 0 else 3)else 8
theorem EW{l:List aI}(h:mT l=0):l.length<=2000/\∀r∈l,Ea r:=by grind [uN,I2]
theorem EX{l m:List aI}(hl:l.length<=4611686018427387904):jC N l m=some (decide<|l=m):=by
 have:=A6 (l:=l) (m:=m) hl
 grind [EF,jC,decide,instDecidableEqList]
theorem o5{l:List aI}(hl:l.length<=1073741824)(hN:4398046511104<=N):gr N l=some (iw l):=by
 refine RD ?_;unfold gr;refine Qn (AA (by omega)) ?_;unfold iw;refine Q6 (λh=>Qo ?_)<|λh=>?_
 ·grind
 ·have h0:mT l=0:=by simpa using h
  rw[aF (by omega)];obtain⟨hlen,hok⟩:=EW h0;refine Qv (Rx (Go:=λ_=>Nk l) (Rt:=λr=>r=8/\¬Nk l) (λs=>∃k:Nat,s=((k:Nat):Int)/\1<=k/\∀(j:Nat)a b,j+1<k->l[j]? =some a->l[j+1]? =some b->¬(b.Y0<a.Y0\/(b.Y0=a.Y0/\b.X0<=a.X0))) (λs=>l.length - s.toNat) ?_ ⟨1,rfl,bU _,λj a b hj=>by omega⟩ (by simp;omega)) ?_
  ·rintro s⟨k,rfl,hk,hI⟩;refine Q6 (λh=>?_)<|λh=>Rw λj a b ha hb=>hI j a b ?_ ha hb
   ·have hk2:k<l.length:=by grind
    rw[lE hk (by omega)];refine Q8 (by omega)<|Q8 hk2<|Q6 (λhb=>Sb ⟨rfl,λhu=>?_⟩)<|λhb=>Rk ⟨⟨k+1,by grind [iE],by omega,λj a b hj ha hb'=>?_⟩,by grind [iE,cT]⟩
    ·refine hu (k - 1) l[k - 1] l[k] (aK _) (by grind) ?_
     grind
    grind
   grind
  ·rintro o ho;refine Ro ho (λs hu=>?_)<|λr hr=>Qo (by grind)
   rw[aG hu];refine Qv (rF (N:=N) (by omega) hok (by omega)) ?_;intro s hs;obtain⟨z1,z2,z3⟩:=hs.I1;have z4:2*l.length*(2*l.length)<=4000*4000:=Nat.mul_le_mul (by omega) (by omega);refine Qn (zD (qR hs.can) (by omega) (λb hb=>by grind) (by omega))<|Qn (EX (by omega)) ?_
   have hiff:EV l↔aO s=l:=⟨λ⟨t,h1,h2⟩=>by rw[hs.unique h1];exact h2,λh=>⟨s,hs,h⟩⟩
   grind [Qo,aO]
theorem tE{l:List aI}:iw l=0↔mT l=0/\Nk l/\EV l:=by
 unfold iw
 grind
theorem vn(n lo hi:Int):gj N n lo hi=some (ik n lo hi):=rfl
theorem G4{b:cK}(hN:16<=N):kp N b=some (nE b):=by
 have:=xF (N:=N - 16) (b:=b)
 grind
def pN(n:Nat)(b:cK):Option Int:=if(nE b).2≠0 then some (nE b).2 else if ik b.dZ 0 (((n:Nat):Int) - 1)=true/\ik b.To b.dZ (((n:Nat):Int) - 1)=true then none else some 1
def jZ(a:jg):Int:=if 500<a.bN.length then 2 else(a.bN.findSome?<|pN a.aN.length).getD 0
theorem AB{a:jg}(h1:a.aN.length<=4611686018427387904)(h2:a.bN.length<=4611686018427387904)(hN:16<=N):jD N a=some (jZ a):=by
 unfold jD jZ
 by_cases h:500<a.bN.length
 ·grind
 ·have hw:wrap .i64 (((a.aN.length:Nat):Int) - 1)=((a.aN.length:Nat):Int) - 1:=eG (by omega) (by omega)
  rw[cB (by omega),bF,aF h,zd (pN a.aN.length) h2 (λk x hx=>by
   rw[eW hx,aB,G4 hN,aB];unfold pN
   by_cases h0:(nE x).2=0
   ·rw[aF (by omega),h0,show((0:Int) != 0)=false by rfl,bF,hw,vn,aB,vn,aB]
    cases h3:ik x.dZ 0 (((a.aN.length:Nat):Int) - 1) <;> cases h4:ik x.To x.dZ (((a.aN.length:Nat):Int) - 1) <;> rfl
   ·rw[aG h0,show((nE x).2 != 0)=true by grind];rfl),aB]
  cases a.bN.findSome? (pN a.aN.length) <;> rfl
theorem DJ{b:cK}(h:(nE b).2=0):tB b=true/\eL (zO b)=true:=by
 unfold nE at h
 grind
theorem qg{a:jg}(h:jZ a=0):a.bN.length<=500/\∀b∈a.bN,tB b=true/\eL (zO b)=true/\0<=b.dZ/\b.dZ<=b.To/\b.To<((a.aN.length:Nat):Int):=by
 unfold jZ at h;split at h
 ·omega
 ·refine⟨by omega,λb hb=>?_⟩;have hn:pN a.aN.length b=none:=by
   cases hf:a.bN.findSome? (pN a.aN.length)with
   |none=>grind
   |some e=>
    rw[hf]at h;obtain⟨c,hc,he⟩:=List.exists_of_findSome?_eq_some hf
    grind [pN]
  unfold pN at hn;split at hn
  ·cases hn
  ·rename_i h0;split at hn
   ·rename_i h1;have h0:(nE b).2=0:=by omega
    have:=DJ h0;unfold ik at h1
    grind
   ·cases hn
theorem Nl{b:cK}(h1:tB b=true)(h2:eL (zO b)=true):Ea (zO b):=by
 have hf:=tC h1;refine I2 h2 ?_ ?_
 ·show b.At.X - b.eU / 2<b.At.X - b.eU / 2+b.eU;omega
 ·show b.At.Y - b.eU / 2<b.At.Y - b.eU / 2+b.eU;omega
def il(p q:aS):Int:=if Lib.compareBytes p.Part.bX q.Part.bX≠0 then Lib.compareBytes p.Part.bX q.Part.bX else Lib.compareBytes p.aS.bX q.aS.bX
theorem r6(p q:aS):cX N p q=some (il p q):=by
 unfold cX il;show(bif Lib.compareBytes p.Part.bX q.Part.bX != 0 then _ else _)=_
 by_cases h:Lib.compareBytes p.Part.bX q.Part.bX=0
 ·rw[h,aF (by simp)];rfl
 ·rw[aG h,show(Lib.compareBytes p.Part.bX q.Part.bX != 0)=true by simpa using h];rfl
def gZ(l:dD):aS:=⟨l.Part,l.aS⟩
theorem qS(l:dD):iI N l=some (gZ l):=rfl
def kL(a:jg)(k:Nat):Option Int:=(a.bC[k]?).bind λx=>
 if(jY x.Part&&isWord x.aS)=true then
  if(ik x.eX 0 (((a.aN.length:Nat):Int) - 1)&&tA x.At)=true then
   if 0<k/\(∃y,a.bC[k - 1]? =some y/\il (gZ x) (gZ y)<=0)then some 8 else none
  else some 1
 else some 5
noncomputable def i7(a:jg):Int:=if 1000<a.bC.length then 2 else(ki a.bC.length<|kL a).getD 0
end
section
variable {N:Nat}
def zR(a:jg):Prop:=∀x∈a.bC,x.Part.bX.length<=2097152/\x.aS.bX.length<=2097152
theorem AD{a:jg}(h1:a.aN.length<=1073741824)(h2:a.bC.length<=1073741824)(h3:zR a)(hN:4194304<=N):jE N a=some (i7 a):=by
 unfold jE i7
 by_cases h:1000<a.bC.length
 ·grind
 ·have hw:wrap .i64 (((a.aN.length:Nat):Int) - 1)=((a.aN.length:Nat):Int) - 1:=eG (by omega) (by omega)
  rw[cB (by omega),bF,aF h,kW (kL a) (by omega) (λk hk _=>by
   have hx:a.bC[k]? =some a.bC[k]:=aK hk;have hs:=h3 _<|cU hk
   rw[eW hx,aB,mS hs.1 hN,aB]
   have hle:kL a k=(if(jY a.bC[k].Part&&isWord a.bC[k].aS)=true then
     if(ik a.bC[k].eX 0 (((a.aN.length:Nat):Int) - 1)&&tA a.bC[k].At)=true then
      if 0<k/\(∃y,a.bC[k - 1]? =some y/\il (gZ a.bC[k]) (gZ y)<=0)then some 8 else none
     else some 1
    else some 5):=by unfold kL;rw[hx];rfl
   rw[hle];have e1:((bif(!jY a.bC[k].Part)then some true else((fD N a.bC[k].aS).bind λx225=>some<|!x225)):Option Bool)=some (!(jY a.bC[k].Part&&isWord a.bC[k].aS)):=by
    grind [kK,aB,jY]
   have e2:((gj N a.bC[k].eX 0<|wrap .i64<|((a.aN.length:Nat):Int) - 1).bind λx318=>bif(!x318)then some true else((iK N a.bC[k].At).bind λx321=>some<|!x321))=some (!(ik a.bC[k].eX 0 (((a.aN.length:Nat):Int) - 1)&&tA a.bC[k].At)):=by
    grind [vn,aB,xZ]
   show((bif(!jY a.bC[k].Part)then some true else((fD N a.bC[k].aS).bind λx225=>some<|!x225)):Option Bool).bind _=_;rw[e1,aB]
   cases h4:(jY a.bC[k].Part&&isWord a.bC[k].aS)with
   |false=>rfl
   |true=>
    rw[py,bF,aG rfl];show(((gj N a.bC[k].eX 0<|wrap .i64<|((a.aN.length:Nat):Int) - 1).bind λx318=>bif(!x318)then some true else((iK N a.bC[k].At).bind λx321=>some<|!x321))).bind _=_;rw[e2,aB]
    cases h5:(ik a.bC[k].eX 0 (((a.aN.length:Nat):Int) - 1)&&tA a.bC[k].At)with
    |false=>rfl
    |true=>
     rw[py,bF,aG rfl]
     by_cases h0:0<k
     ·rw[cG (by omega),aR,lE h0 (by omega),gL _ _ (by omega)];simp only[qS,aB,r6]
      by_cases h6:il (gZ a.bC[k]) (gZ a.bC[k - 1])<=0
      ·rw[cG h6,aG ⟨h0,_,aK (by omega),h6⟩];rfl
      ·rw[cB h6,aF (by
        grind)];rfl
     ·rw[cB (by omega),aF (λh=>h0 h.1)];rfl),aB]
  cases ki a.bC.length (kL a) <;> rfl
def lZ(b:cK)(k:Int):Bool:=decide (b.dZ<=k)&&decide (k<=b.To)
theorem zS(b:cK)(k:Int):jT N b k=some (lZ b k):=rfl
def pO(bs:List cK)(k:Int):List aI:=(bs.filter<|λb=>lZ b k).map zO
structure ng (bs:List cK):Prop where
 len:bs.length<=500
 ok:∀b∈bs,tB b=true/\eL (zO b)=true
structure ue (r hs:List aI) (s:List aA):Prop where
 can:dW (s.map bR)
 cover:∀x y,wE (s.map bR) x y=(Ay r x y&& !Ay hs x y)
 lim:vD (qM r++qM hs) (lW r++lW hs) (s.map bR)
theorem Bg{bs:List cK}(h:ng bs)(k:Int):(pO bs k).length<=500:=by
 unfold pO;rw[dL];have:=ja (λb=>lZ b k) bs;have:=h.len;omega
theorem DK{bs:List cK}(h:ng bs)(k:Int):∀r∈pO bs k,Ea r/\eL r=true:=by
 intro r hr;unfold pO at hr;obtain⟨b,hb,rfl⟩:=cF.1 hr;have:=h.ok b (lj.1 hb).1
 grind [Nl]
theorem ue.small{r hs:List aI}{s:List aA}(h:ue r hs s)(h1:∀x∈r,Ea x)(h2:∀x∈hs,Ea x):(∀c∈qM r++qM hs,small c)/\∀c∈lW r++lW hs,small c:=by
 constructor
 ·intro c hc
  rcases dM.1 hc with h|h
  ·obtain⟨x,hx,rfl|rfl⟩:=oX.1 h
   ·exact(h1 x hx).s1
   ·exact(h1 x hx).s2
  ·obtain⟨x,hx,rfl|rfl⟩:=oX.1 h
   ·exact(h2 x hx).s1
   ·exact(h2 x hx).s2
 ·intro c hc
  rcases dM.1 hc with h|h
  ·obtain⟨x,hx,rfl|rfl⟩:=kl.1 h
   ·exact(h1 x hx).s3
   ·exact(h1 x hx).s4
  ·obtain⟨x,hx,rfl|rfl⟩:=kl.1 h
   ·exact(h2 x hx).s3
   ·exact(h2 x hx).s4
theorem xG{s:List aA}{X Y:List Int}{A:Nat}(hc:dW (s.map bR))(h:vD X Y (s.map bR))(hX:X.length<=A)(hY:Y.length<=A):s.length<=A/\(∀b∈s,b.Xs.length<=A)/\(aO s).length<=A*A:=by
 have h1:s.length<=A:=by have:=h.len hc;grind
 have h2:∀b∈s,b.Xs.length<=A:=λb hb=>by
  have:=h.row hc (b:=bR b)<|cF.2 ⟨b,hb,rfl⟩
  grind [bR]
 simp_all[zC]
theorem AE{r hs:List aI}(h1:r.length<=2000)(h2:∀x∈r,Ea x)(h3:hs.length<=500)(h4:∀x∈hs,Ea x)(hN:4398046511104<=N){β:Type}{f:List aA->Option β}{Q:β->Prop}(k:∀s,ue r hs s->Ok (f s) Q):
  Ok ((fQ N r).bind λx378=>(fQ N hs).bind λx380=>(jU N x378 x380).bind f) Q:=by
 refine Qv (rF (N:=N) (by omega) h2 (by omega))<|λs hs1=>?_
 refine Qv (rF (N:=N) (by omega) h4 (by omega))<|λt ht=>?_
 have hz:∀c∈lW r++lW hs,small c:=by
  intro c hc
  rcases dM.1 hc with h|h
  ·obtain⟨x,hx,rfl|rfl⟩:=kl.1 h
   ·exact(h2 x hx).s3
   ·exact(h2 x hx).s4
  ·obtain⟨x,hx,rfl|rfl⟩:=kl.1 h
   ·exact(h4 x hx).s3
   ·exact(h4 x hx).s4
 refine Qv (GW (X:=qM r++qM hs) (Y:=lW r++lW hs) hs1.can ht.can (hs1.lim.mono (λc h=>List.mem_append_left _ h) (λc h=>List.mem_append_left _ h)) (ht.lim.mono (λc h=>List.mem_append_right _ h) (λc h=>List.mem_append_right _ h))
  (by grind [dE,qN]) (by grind [dE,mQ]) hz hN) (λu hu=>?_)
 exact k u ⟨hu.can,λx y=>by rw[hu.cover,hs1.cover,ht.cover],hu.lim⟩
def fF:Nat->List (List<|List aA)->List aH
 |_,[]=>[]
 |k,ps::r=>ps.map (λp=>⟨((k:Nat):Int),p,aO p⟩)++fF (k+1) r
theorem vo(ps:List (List aA)):∀(r:List (List<|List aA))(k:Nat),fF k (r++[ps])=fF k r++ps.map (λp=>⟨((k+r.length:Nat):Int),p,aO p⟩)
 | [],k=>by unfold fF;simp[fF]
 |q::r,k=>by
  show _++fF (k+1) (r++[ps])=(_++fF (k+1) r)++_;rw[vo ps r<|k+1,kE];congr 3;simp only[fY];rw[show k+(r.length+1)=k+1+r.length by omega]
theorem zT{s p:List aA}{ps:List (List aA)}{r:Nat->Nat}{X Y:List Int}(h:nD s r ps)(hc:dW (s.map bR))(hl:vD X Y (s.map bR))(hX:∀c∈X,small c)(hY:∀c∈Y,small c)(hp:p∈ps):
  ∃j k:Nat,ps[j]? =some p/\(bW (aO s).length r)[j]? =some k/\qO (mu (aO s) (aO s).length r k) p/\vD X Y (p.map bR):=by
 obtain⟨j,hj⟩:=eA hp;have hjl:=(bI.1 hj).1;rw[h.len]at hjl;have hh:(bW (aO s).length r)[j]? =some (bW (aO s).length r)[j]:=aK hjl;have hs:=h.each j _ p hh hj;refine⟨j,_,hj,hh,hs,hs.lim.mono (λc hcx=>?_)<|λc hcx=>?_⟩
 ·obtain⟨x,hx,hxc⟩:=oX.1 hcx;obtain⟨i,_,_,hi⟩:=nO.1 hx;have:=zF hc hl hX hY x<|eM hi
  grind
 ·obtain⟨x,hx,hxc⟩:=kl.1 hcx;obtain⟨i,_,_,hi⟩:=nO.1 hx;have:=zF hc hl hX hY x<|eM hi
  grind
structure qh (cs:List (List aI)) (bs:List cK) (k:Nat) (mx:List (List aA)) (je:List (List (List aA))):Prop where
 len:mx.length=k
 Ck:je.length=k
 dr:∀(i:Nat)r s,i<k->cs[i]? =some r->mx[i]? =some s->ue r (pO bs ((i:Nat):Int)) s
 pt:∀(i:Nat)s ps,i<k->mx[i]? =some s->je[i]? =some ps->∃u,nD s u ps
 CI:(fF 0 je).length<=k*25000000
theorem nD.CI{s:List aA}{u:Nat->Nat}{ps:List (List aA)}(h:nD s u ps):ps.length<=(aO s).length:=by
 rw[h.len];exact nc _ _
theorem EY{cs:List (List aI)}{bs:List cK}(hcs:cs.length<=16)(hc:∀r∈cs,r.length<=2000/\∀x∈r,Ea x)(hb:ng bs)(hN:4398046511104<=N):
  Ok (iT N cs bs [] []) (λx=>∃je,qh cs bs cs.length x.2.1 je/\x.2.2=fF 0 je/\(x.1=true↔(∀s∈x.2.1,(aO s).length<=2000)/\x.2.2.length<=2000)):=by
 unfold iT
 refine Qv (P:=λ(st:List (List aA)×List aH×Bool)=>∃je,qh cs bs cs.length st.1 je/\st.2.1=fF 0 je/\(st.2.2=true↔∀s∈st.1,(aO s).length<=2000)) (Q3 (λ(k:Nat)(st:List (List aA)×List aH×Bool)=>∃je,qh cs bs k st.1 je/\st.2.1=fF 0 je/\(st.2.2=true↔∀s∈st.1,(aO s).length<=2000)) (by omega)
  ⟨[],⟨rfl,rfl,λi r s hi=>by omega,λi s ps hi=>by omega,by simp[fF]⟩,rfl,by simp⟩ (λk st hk hI=>?_)) ?_
 ·obtain⟨mx,pcs,okk⟩:=st;obtain⟨je,D,e1,e2⟩:=hI;dsimp only at D e1 e2 ⊢;subst e1;have hkx:cs[k]? =some cs[k]:=aK hk;obtain⟨hr1,hr2⟩:=hc _<|cU hk
  refine QK hkx ?_;refine Qv (P:=λt=>t=pO bs ((k:Nat):Int)) (Ok.mono (Q3 (λj t=>t=pO (bs.take j) ((k:Nat):Int)) (by have:=hb.len;omega) rfl<|λj t hj e=>?_) (λt e=>by rw[e,dG]))<|λt e=>?_
  ·subst e;refine Q8 hj<|Qn (zS _ _) ?_
   have hts:bs.take (j+1)=bs.take j++[bs[j]]:=dF hj;have hgb:=hb.ok _<|cU hj
   have hl:(pO (bs.take j) ((k:Nat):Int)).length<=500:=by
    unfold pO;rw[dL];have:=ja (λb=>lZ b ((k:Nat):Int))<|bs.take j
    rw[cZ]at this;have:=hb.len;omega
   cases ht:lZ bs[j] ((k:Nat):Int)with
   |false=>
    grind [Qn,Qo,pO]
   |true=>
    rw[aR]
    grind [Qn,pO,mo,aB,gu,Qo]
  ·subst e;have hho:=DK hb ((k:Nat):Int);have hhl:=Bg hb ((k:Nat):Int);refine AE hr1 hr2 hhl (λx hx=>(hho x hx).1) hN<|λs hs=>?_
   obtain⟨sx,sy⟩:=hs.small hr2<|λx hx=>(hho x hx).1
   obtain⟨z1,z2,z3⟩:=xG (A:=5000) hs.can hs.lim (by grind [dE,qN]) (by grind [dE,mQ]);have hmany:=Km (N:=N) (s:=s) (by omega) (λb hb=>by grind) (by omega);refine Qn (x:=(okk&&decide ((aO s).length<=2000),s)) ?_ ?_
   ·grind [aB,decide,aO]
   dsimp only;refine Rg (by rw[D.len];simp;omega) ?_;refine Qv (ET (N:=N) hs.can hs.lim sx sy (by omega) (λb hb=>by grind) (by omega) hN) ?_;rintro ps⟨u,hu⟩;have hfew:=hu.CI;have hk16:k*25000000<=16*25000000:=Nat.mul_le_mul_right _ (by omega);have hDf:=D.CI;refine Qv (P:=λt=>t=fF 0 je++ps.map (λp=>(⟨((k:Nat):Int),p,aO p⟩:aH))) (Ok.mono (Q3 (λj t=>t=fF 0 je++(ps.take j).map (λp=>(⟨((k:Nat):Int),p,aO p⟩:aH))) (by omega) (by simp)<|λj t hj e=>?_) (λt e=>by rw[e,dG]))<|λt e=>Qo ?_
   ·subst e;have hjx:ps[j]? =some ps[j]:=aK hj;refine QK hjx ?_;obtain⟨_,_,_,_,l9,hpl⟩:=zT hu hs.can hs.lim sx sy<|cU hj
    obtain⟨y1,y2,y3⟩:=xG (A:=5000) l9.can hpl (by grind [dE,qN]) (by grind [dE,mQ]);refine Qn (zD (qR l9.can) (by omega) (λb hb=>by grind) (by omega))<|Rg ?_<|Qo ?_
    ·grind
    grind [dF,kE]
   ·subst e;refine⟨je++[ps],⟨by simp[D.len],by simp[D.Ck],λi r s' hi hr hs'=>?_,λi s' ps' hi hs' hps'=>?_,?_⟩,?_,?_⟩
    ·dsimp only at hs'
     by_cases hik:i<k
     ·rw[g8 (by rw[D.len];exact hik)]at hs';exact D.dr i r s' hik hr hs'
     ·have:i=k:=by omega
      subst this;rw[gE (by rw[D.len];omega),D.len,Nat.sub_self]at hs';simp at hs';subst hs';rw[hkx]at hr;injection hr with hr;subst hr
      exact hs
    ·dsimp only at hs'
     by_cases hik:i<k
     ·rw[g8 (by rw[D.len];exact hik)]at hs';rw[g8 (by rw[D.Ck];exact hik)]at hps';exact D.pt i s' ps' hik hs' hps'
     ·have:i=k:=by omega
      subst this;rw[gE (by rw[D.len];omega),D.len,Nat.sub_self]at hs';rw[gE (by rw[D.Ck];omega),D.Ck,Nat.sub_self]at hps';simp at hs' hps';subst hs';subst hps';exact⟨u,hu⟩
    ·rw[vo,dE,dL];omega
    ·dsimp only;rw[vo,D.Ck,gl]
    ·dsimp only;rw[cN,e2,dN];constructor
     ·rintro⟨h1,h2⟩s' hs'
      rcases dM.1 hs' with h|h
      ·exact h1 s' h
      ·simp at h;subst h;exact h2
     ·intro h;exact⟨λs' hs'=>h s'<|List.mem_append_left _ hs',h s (by simp)⟩
 ·rintro⟨mx,pcs,okk⟩⟨je,D,e1,e2⟩;dsimp only at D e1 e2 ⊢;subst e1;refine Qv (P:=λb=>b=true↔(∀s∈mx,(aO s).length<=2000)/\(fF 0 je).length<=2000) (Q6 (λh=>Qo ?_)<|λh=>Qo ?_)<|λb hb=>Qo ⟨je,D,rfl,hb⟩
  ·rw[dN];constructor
   ·intro h';exact⟨e2.1 h,by omega⟩
   ·rintro⟨_,h'⟩;omega
  ·constructor
   ·intro h';cases h'
   ·rintro⟨h',_⟩;rw[e2.2 h']at h;cases h
end
section
variable {N:Nat}
section
variable {α:Type}
def tF(P:α->Bool)(l:List α)(n:Nat):List Nat:=(List.range n).filter<|λk=>(l[k]?).any P
theorem EZ{P:α->Bool}{l:List α}{n:Nat}{x:α}(h:l[n]? =some x):tF P l (n+1)=if P x=true then tF P l n++[n]else tF P l n:=by
 grind [tF,List.range_succ]
theorem Bh(P:α->Bool)(l:List α)(n:Nat):(tF P l n).length<=n:=by
 have:=ja (λk=>(l[k]?).any P)<|List.range n
 rw[List.length_range]at this;exact this
theorem G5{P:α->Bool}{l:List α}{n k:Nat}:k∈tF P l n↔k<n/\(l[k]?).any P=true:=by simp[tF]
theorem wL{β:Type}{l:List α}(P:α->Bool)(g:Nat->β):ki l.length (λk=>(l[k]?).bind λx=>if P x=true then some (g k)else none)=(l.findIdx? P).map g:=by
 cases h:l.findIdx? P with
 |none=>
  grind [List.findIdx?_eq_none_iff,jq,aK,cU]
 |some j=>
  obtain⟨hj,hp,hn⟩:=List.findIdx?_eq_some_iff_getElem.1 h;refine iN.2 ⟨j,hj,by grind,λi hi=>?_⟩
  grind
end
def ints(l:List Nat):List Int:=l.map λi=>((i:Nat):Int)
theorem tG(l m:List Nat):ints (l++m)=ints l++ints m:=eE
theorem lf(l:List Nat):(ints l).length=l.length:=dL _
theorem zU{l:List Nat}{x:Int}:x∈ints l↔∃i∈l,x=((i:Nat):Int):=by
 grind [ints]
def F3(p0 p1:aI):Bool:=(((decide (p0.X0<p1.X1)&&decide (p1.X0<p0.X1))&&((p0.Y1==p1.Y0)||(p1.Y1==p0.Y0)))||((decide (p0.Y0<p1.Y1)&&decide (p1.Y0<p0.Y1))&&((p0.X1==p1.X0)||(p1.X1==p0.X0))))
def mU(b:cK)(p:aH):Bool:=b.jL&&(lZ b p.eX&&p.nZ.any (λr=>F3 r<|zO b))
def r7(bs:List cK)(pcs:List aH):List (List Int):=bs.map λb=>ints<|tF (mU b) pcs pcs.length
theorem pP{l:List aI}{φ:aI->Option Bool}(p:aI->Bool)(hl:l.length<=4611686018427387904)(h:∀x∈l,φ x=some (p x)):fE N l φ=some (l.any p):=
 m9 p hl h
theorem I3{bs:List cK}{pcs:List aH}(hb:ng bs)(hp:pcs.length<=1073741824)(hr:∀p∈pcs,p.nZ.length<=1073741824):iU N bs pcs []=some (r7 bs pcs):=by
 refine RD ?_;have hbl:=hb.len;unfold iU;refine Qv (Q3 (λk st=>st=r7 (bs.take k) pcs) (by omega) rfl<|λk st hk e=>?_)<|λst e=>Qo (by rw[e,dG])
 subst e;have hg:=hb.ok _<|cU hk
 refine Q8 hk ?_;refine Qv (P:=λt=>t=ints (tF (mU bs[k]) pcs pcs.length)) (Q3 (λj t=>t=ints (tF (mU bs[k]) pcs j)) (by omega) rfl<|λj t hj e=>?_)<|λt e=>?_
 ·subst e;have hjx:pcs[j]? =some pcs[j]:=aK hj;have hl:=Bh (mU bs[k]) pcs j;refine QK hjx ?_;refine Qn (x:=mU bs[k] pcs[j]) ?_ ?_
  ·unfold mU
   cases bs[k].jL with
   |false=>rfl
   |true=>
    rw[aR,zS,aB,Bool.true_and]
    cases lZ bs[k] pcs[j].eX with
    |false=>rfl
    |true=>
     rw[aR,pP (λr=>F3 r (zO bs[k])) (by grind) (λr _=>by
      unfold jc;rw[mo hg.1];rfl),aB,Bool.true_and]
  ·rw[EZ hjx]
   cases ht:mU bs[k] pcs[j]with
   |false=>simp[bF,aF,Qn,Qo]
   |true=>
    rw[aR,aG rfl]
    grind [Qn,ints,tF,mU,gu,lf,aB,Qo,tG]
 grind [Rg,Qo,r7,dF]
def DL(r:List aI)(p:kG):Bool:=r.any<|λx=>decide (p.X>=x.X0)&&(decide (p.X<x.X1)&&(decide (p.Y>=x.Y0)&&decide (p.Y<x.Y1)))
theorem wM{r:List aI}{p:kG}(hl:r.length<=4611686018427387904):jl N r p=some (DL r p):=by
 unfold jl
 rw[pP (λx=>decide (p.X>=x.X0)&&(decide (p.X<x.X1)&&(decide (p.Y>=x.Y0)&&decide (p.Y<x.Y1)))) hl (λx _=>by
  grind [ka,decide])];rfl
def tH(l:dD)(b:cK):Bool:=b.jL&&(lZ b l.eX&&DL [zO b] l.At)
def ug(l:dD)(p:aH):Bool:=(p.eX==l.eX)&&DL p.nZ l.At
def yf(bs:List cK)(pcs:List aH)(l:dD):Option j4:=match bs.findIdx? (tH l)with
 |some k=>some ⟨true,((k:Nat):Int)⟩
 |none=>(pcs.findIdx? (ug l)).map λk=>⟨false,((k:Nat):Int)⟩
theorem I4{bs:List cK}{pcs:List aH}(hb:ng bs)(hp:pcs.length<=1073741824)(hr:∀p∈pcs,p.nZ.length<=1073741824)(l:dD):
  iW N bs pcs l=some ((yf bs pcs l).getD ⟨false,0⟩,(yf bs pcs l).isSome):=by
 have hbl:=hb.len;unfold iW
 rw[kW (λk=>(bs[k]?).bind λx=>if tH l x=true then some ((⟨true,((k:Nat):Int)⟩:j4),true)else none) (by omega) (λk hk _=>by
  have hkx:bs[k]? =some bs[k]:=aK hk;have hg:=hb.ok _<|cU hk
  rw[eW hkx,aB,hkx,mo hg.1,aB,aB,wM (by simp)];unfold tH
  cases bs[k].jL with
  |false=>rfl
  |true=>
   show(((bif lZ bs[k] l.eX then _ else _:Option Bool)).bind _)=_
   cases lZ bs[k] l.eX with
   |false=>rfl
   |true=>
    cases DL [zO bs[k]] l.At <;> rfl),aB,wL (tH l) (λk=>((⟨true,((k:Nat):Int)⟩:j4),true))]
 unfold yf
 cases bs.findIdx? (tH l)with
 |some k=>rfl
 |none=>
  show((pg pcs.length _ ()).bind _)=_
  rw[kW (λk=>(pcs[k]?).bind λx=>if ug l x=true then some ((⟨false,((k:Nat):Int)⟩:j4),true)else none) (by omega) (λk hk _=>by
   have hkx:pcs[k]? =some pcs[k]:=aK hk;rw[eW hkx,aB,hkx,aB,wM (by have:=hr _<|cU hk;omega)];unfold ug
   cases pcs[k].eX==l.eX with
   |false=>rfl
   |true=>cases DL pcs[k].nZ l.At <;> rfl),aB,wL (ug l) (λk=>((⟨false,((k:Nat):Int)⟩:j4),true))]
  cases pcs.findIdx? (ug l) <;> rfl
def Lk(n:Nat)(tch:List (List Int))(i j:Nat):Prop:=∃(k:Nat)(l:List Int),tch[k]? =some l/\((i:Nat):Int)∈l/\j=n+k
structure DM (n m:Nat) (tch:List (List Int)) (r:Nat->Nat):Prop where
 le:∀i,i<n+m->r i<=i
 rr:∀i,i<n+m->r (r i)=r i
 co:∀i j,Lk n tch i j->r i=r j
 fi:∀S:Nat->Prop,(∀i j,Lk n tch i j->(S i↔S j))->∀i j,i<n+m->j<n+m->r i=r j->S i->S j
theorem G6{n m:Nat}{tch:List (List Int)}(hm:tch.length=m)(ht:∀l∈tch,l.length<=1073741824/\∀x∈l,∃i:Nat,i<n/\x=((i:Nat):Int))(hn:n<=1073741824)(hm2:m<=1073741824){up:List Int}(hu:UF (n+m) up (λi=>i))(hN:4398046511104<=N):
  Ok (gN tch.length (λ(k34:Nat)(s35:List Int)=>((idx tch (k34:Int)).bind λx89=>(gN x89.length (λ(k92:Nat)(s93:List Int)=>((idx x89 (k92:Int)).bind λx107=>(fM N s93 x107<|wrap .i64<|(n:Int)+(k34:Int)).bind λx109=>some x109:Option (List Int))) s35).bind λs93=>some s93:Option (List Int))) up)
   (λup'=>∃r,UF (n+m) up' r/\DM n m tch r):=by
 have base:Ok (gN tch.length (λ(k34:Nat)(s35:List Int)=>((idx tch (k34:Int)).bind λx89=>(gN x89.length (λ(k92:Nat)(s93:List Int)=>((idx x89 (k92:Int)).bind λx107=>(fM N s93 x107<|wrap .i64<|(n:Int)+(k34:Int)).bind λx109=>some x109:Option (List Int))) s35).bind λs93=>some s93:Option (List Int))) up)
   (λup'=>∃r E,UF (n+m) up' r/\oY r E/\zI (n+m) r E/\(∀p∈E,Lk n tch p.1 p.2)/\∀(k:Nat)l(i:Nat),k<tch.length->tch[k]? =some l->((i:Nat):Int)∈l->(i,n+k)∈E):=by
  refine Q3 (λq up'=>∃r E,UF (n+m) up' r/\oY r E/\zI (n+m) r E/\(∀p∈E,Lk n tch p.1 p.2)/\∀(k:Nat)l(i:Nat),k<q->tch[k]? =some l->((i:Nat):Int)∈l->(i,n+k)∈E) (by omega)
   ⟨_,_,hu,oY.id,zI.id _,λp hp=>(by cases hp),λk l i hk=>by omega⟩ (λq up' hq hI=>?_)
  obtain⟨r,E,h1,h2,h3,h4,h5⟩:=hI;have hqx:tch[q]? =some tch[q]:=aK hq;obtain⟨hl1,hl2⟩:=ht _<|cU hq
  refine QK hqx ?_;rw[wrap_add (by omega)]
  refine Qv (Q3 (λt up'=>∃r E,UF (n+m) up' r/\oY r E/\zI (n+m) r E/\(∀p∈E,Lk n tch p.1 p.2)/\(∀(k:Nat)l(i:Nat),k<q->tch[k]? =some l->((i:Nat):Int)∈l->(i,n+k)∈E)/\∀i:Nat,((i:Nat):Int)∈tch[q].take t->(i,n+q)∈E) (by omega)
   ⟨r,E,h1,h2,h3,h4,h5,λi hi=>by simp at hi⟩ (λt up' htl hI=>?_)) (λup' hI=>Qo ?_)
  ·obtain⟨r,E,h1,h2,h3,h4,h5,h6⟩:=hI;refine Q8 htl ?_;obtain⟨i,hi,e⟩:=hl2 _<|cU htl
   rw[e];obtain⟨u2,a1,a2⟩:=Kn (N:=N) h1 (i:=i) (k:=n+q) (by omega) (by omega) (by omega);refine Qn a1<|Qo ⟨_,_,a2,h2.join i (n+q)<|h1.rr i (by omega),h3.join (by omega) (by omega),λp hp=>?_,λk l j hk hl hj=>List.mem_append_left _<|h5 k l j hk hl hj,λj hj=>?_⟩
   ·rcases dM.1 hp with hp|hp
    ·exact h4 p hp
    ·simp at hp;subst hp;exact⟨q,tch[q],hqx,by grind,rfl⟩
   ·rw[dF htl,dM]at hj
    rcases hj with hj|hj
    ·exact List.mem_append_left _<|h6 j hj
    ·rw[List.mem_singleton,e]at hj;have:j=i:=by omega
     subst this;simp
  ·obtain⟨r,E,h1,h2,h3,h4,h5,h6⟩:=hI;refine⟨r,E,h1,h2,h3,h4,λk l i hk hl hi=>?_⟩
   by_cases hkq:k<q
   ·exact h5 k l i hkq hl hi
   ·have:k=q:=by omega
    subst this;rw[hqx]at hl;injection hl with hl;subst hl
    exact h6 i (by grind)
 obtain⟨up',e,r,E,h1,h2,h3,h4,h5⟩:=base;have hE:∀i j,Lk n tch i j->(i,j)∈E:=λi j⟨k,l,hl,hi,hj⟩=>by
  grind
 exact⟨up',e,r,h1,h1.le,h1.rr,λi j h=>h2 (i,j)<|hE i j h,λS hS i j hi hj=>h3 S (λp hp=>hS p.1 p.2<|h4 p hp) i j hi hj⟩
def AF(bs:List cK)(j:Nat):Bool:=(bs[j]?).any<|λb=>b.jL
def gP(n:Nat)(c:List Nat):List Nat:=c.filter<|λi=>decide<|i<n
def gB(bs:List cK)(n:Nat)(c:List Nat):List Nat:=(c.filter<|λi=> !decide (i<n)&&AF bs (i - n)).map<|λi=>i - n
def I5(bs:List cK)(n:Nat)(c:List Nat):Bool:=decide<|0<(gP n c).length+(gB bs n c).length
def PH(bs:List cK)(n:Nat)(c:List Nat):bK:=⟨ints<|gP n c,ints<|gB bs n c,[]⟩
theorem F4(n:Nat)(c:List Nat)(i:Nat):gP n (c++[i])=if i<n then gP n c++[i]else gP n c:=by
 unfold gP;grind
theorem F5(bs:List cK)(n:Nat)(c:List Nat)(i:Nat):gB bs n (c++[i])=if i<n then gB bs n c else if AF bs (i - n)=true then gB bs n c++[i - n]else gB bs n c:=by
 unfold gB;grind
theorem E0(n:Nat)(c:List Nat):(gP n c).length<=c.length:=ja _ _
theorem E1(bs:List cK)(n:Nat)(c:List Nat):(gB bs n c).length<=c.length:=by unfold gB;grind
def live(bs:List cK)(n t:Nat)(r:Nat->Nat)(hs:List Nat):List Nat:=hs.filter<|λh=>I5 bs n<|cls t r h
def o6(bs:List cK)(n t:Nat)(r:Nat->Nat)(hs:List Nat):List bK:=(live bs n t r hs).map<|λh=>PH bs n<|cls t r h
theorem G7(bs:List cK)(n t:Nat)(r:Nat->Nat)(hs:List Nat)(h:Nat):live bs n t r (hs++[h])=if I5 bs n (cls t r h)=true then live bs n t r hs++[h]else live bs n t r hs:=by
 grind [live]
theorem tI(bs:List cK)(n t:Nat)(r:Nat->Nat)(hs:List Nat):(o6 bs n t r hs).length=(live bs n t r hs).length:=by simp[o6,dL]
def gi(bs:List cK)(n t:Nat)(r:Nat->Nat)(h:Nat):Nat:=(live bs n t r<|(bW t r).takeWhile<|λx=>decide<|x≠h).length
theorem uO{l:List Nat}(hn:l.Nodup){k h:Nat}(hk:l[k]? =some h):l.takeWhile (λx=>decide<|x≠h)=l.take k:=by
 induction l generalizing k with
 |nil=>simp at hk
 |cons a l ih=>
  cases k with
  |zero=>simp_all
  |succ k=>
   grind [List.nodup_cons,eM,List.takeWhile_cons]
theorem rH(bs:List cK)(n t:Nat)(r:Nat->Nat)(hs:List Nat):(live bs n t r hs).length<=hs.length:=ja _ _
theorem Nm{bs:List cK}{n t:Nat}{r:Nat->Nat}{h:Nat}(hh:h∈bW t r)(hne:I5 bs n (cls t r h)=true):gi bs n t r h<(live bs n t r<|bW t r).length/\(live bs n t r<|bW t r)[gi bs n t r h]? =some h:=by
 obtain⟨k,hk⟩:=eA hh;have hkl:=(bI.1 hk).1;unfold gi;rw[uO (mn t r) hk]
 grind [bW,List.take_append_drop,pA,bI,live]
end
section
variable {N:Nat}
theorem Bi{l:List Nat}(h:l.Nodup){i j a:Nat}(hi:l[i]? =some a)(hj:l[j]? =some a):i=j:=
 by grind [List.getElem_inj,bI]
theorem uh{n i k:Nat}{r:Nat->Nat}:i∈cls n r k↔i<n/\r i=k:=by simp[cls]
theorem G8(n:Nat)(r:Nat->Nat)(k:Nat):(cls n r k).Nodup:=List.Nodup.sublist List.filter_sublist List.nodup_range
structure Nn (bs:List cK) (n m:Nat) (r:Nat->Nat) (hs:List Nat) (ofP ofB:List Int):Prop where
 lp:ofP.length=n
 lb:ofB.length=m
 pc:∀i,i<n->r i∈hs->ofP[i]? =some ((gi bs n (n+m) r (r i):Nat):Int)
 bo:∀j,j<m->r (n+j)∈hs->ofB[j]? =some (if AF bs j=true then((gi bs n (n+m) r (r<|n+j):Nat):Int)else -1)
theorem DN{bs:List cK}{n m:Nat}{r:Nat->Nat}(hm:bs.length=m)(hn:n<=1073741824)(hm2:m<=1073741824){op ob:List Int}(hop:op.length=n)(hob:ob.length=m)
  {body:Nat->List bK×List Int×List Int->Option (List bK×List Int×List Int)}
  (hbody:body=(λ(k123:Nat)(s124:List bK×List Int×List Int)=>((idx (oZ (n+m) r) (k123:Int)).bind λx455=>(gN x455.length (λ(k458:Nat)(s459:List Int×List Int×List Int×List Int)=>((idx x455 (k458:Int)).bind λx556=>(bif decide (x556<(n:Int))then((idx s459.1 x556).bind λx580=>(app 8 s459.2.2.1 ([x556]:List Int)).bind λx582=>some (s459.1.set (Int.toNat x556) (s124.1.length:Int),s459.2.1,x582,s459.2.2.2))else((idx bs<|wrap .i64<|x556 -(n:Int)).bind λx584=>(bif x584.jL then((idx s459.2.1<|wrap .i64<|x556 -(n:Int)).bind λx594=>(app 8 s459.2.2.2 ([wrap .i64<|x556 -(n:Int)]:List Int)).bind λx596=>some (s459.2.1.set (Int.toNat<|wrap .i64<|x556 -(n:Int)) (s124.1.length:Int),x596))else((idx s459.2.1<|wrap .i64<|x556 -(n:Int)).bind λx598=>some (s459.2.1.set (Int.toNat<|wrap .i64<|x556 -(n:Int))<|-1,s459.2.2.2))).bind λs592=>some (s459.1,s592.1,s459.2.2.1,s592.2))).bind λs577=>some (s577.1,s577.2.1,s577.2.2.1,s577.2.2.2):Option (List Int×List Int×List Int×List Int))) (s124.2.1,s124.2.2,([]:List Int),([]:List Int))).bind λs459=>(bif decide (wrap .i64 ((s459.2.2.1.length:Int)+(s459.2.2.2.length:Int))>0)then((app 72 s124.1 [(⟨s459.2.2.1,s459.2.2.2,([]:List aS)⟩:bK)]).bind λx610=>some x610)else some s124.1).bind λs606=>some (s606,s459.1,s459.2.1):Option (List bK×List Int×List Int)))):
  Ok (gN (oZ (n+m) r).length body ([],op,ob)) (λst=>st.1=o6 bs n (n+m) r (bW (n+m) r)/\Nn bs n m r (bW (n+m) r) st.2.1 st.2.2):=by
 subst hbody;have hsl:(oZ (n+m) r).length=(bW (n+m) r).length:=by simp[oZ]
 have hhl:=nc (n+m) r;refine Ok.mono (Q3 (λ(k:Nat)(st:List bK×List Int×List Int)=>st.1=o6 bs n (n+m) r ((bW (n+m) r).take k)/\Nn bs n m r ((bW (n+m) r).take k) st.2.1 st.2.2) (by omega) ⟨rfl,hop,hob,λi hi h=>by simp at h,λj hj h=>by simp at h⟩<|λk st hk hI=>?_) (λst h=>by grind);obtain⟨gs,ofP,ofB⟩:=st;obtain⟨e1,I⟩:=hI;dsimp only at e1 I ⊢;subst e1;rw[hsl]at hk;have hkx:(bW (n+m) r)[k]? =some (bW (n+m) r)[k]:=aK hk;have hts:(bW (n+m) r).take (k+1)=(bW (n+m) r).take k++[(bW (n+m) r)[k]]:=dF hk;have hgk:gi bs n (n+m) r (bW (n+m) r)[k]=(o6 bs n (n+m) r<|(bW (n+m) r).take k).length:=by
  unfold gi;grind [uO,mn,tI]
 generalize hh:(bW (n+m) r)[k]=h at *;have hsx:(oZ (n+m) r)[k]? =some (ints<|cls (n+m) r h):=by unfold oZ;rw[eR,hkx];rfl
 refine QK hsx ?_;have hcl:=yv (n+m) r h;rw[lf];have hgl:(o6 bs n (n+m) r<|(bW (n+m) r).take k).length<=n+m:=by
  grind [tI,rH,bW,cZ]
 have hold:∀i∈cls (n+m) r h,∀i',r i'∈(bW (n+m) r).take k->i≠i':=λi hi i' hi' e=>by
  grind [uh,eA,bI,cZ,List.getElem?_take_of_lt,Bi,mn]
 refine Qv (P:=λs'=>Nn bs n m r ((bW (n+m) r).take (k+1)) s'.1 s'.2.1/\s'.2.2.1=ints (gP n (cls (n+m) r h))/\s'.2.2.2=ints (gB bs n (cls (n+m) r h))) (Ok.mono (Q3
  (λ(t:Nat)(s':List Int×List Int×List Int×List Int)=>Nn bs n m r ((bW (n+m) r).take k) s'.1 s'.2.1/\s'.2.2.1=ints (gP n ((cls (n+m) r h).take t))/\s'.2.2.2=ints (gB bs n ((cls (n+m) r h).take t))/\
   (∀i∈(cls (n+m) r h).take t,i<n->s'.1[i]? =some ((gi bs n (n+m) r h:Nat):Int))/\∀i∈(cls (n+m) r h).take t,¬i<n->s'.2.1[i - n]? =some (if AF bs (i - n)=true then((gi bs n (n+m) r h:Nat):Int)else -1)) (by omega)
   ⟨I,rfl,rfl,λi hi=>by simp at hi,λi hi=>by simp at hi⟩ (λt s' ht hI'=>?_)) ?_) ?_
 ·obtain⟨oP,oB,pp,bb⟩:=s';obtain⟨J,e2,e3,J1,J2⟩:=hI';dsimp only at J e2 e3 J1 J2 ⊢;subst e2;subst e3;have htx:(ints<|cls (n+m) r h)[t]? =some (((cls (n+m) r h)[t]:Nat):Int):=by unfold ints;rw[eR,aK ht];rfl
  refine QK htx ?_;have htt:(cls (n+m) r h).take (t+1)=(cls (n+m) r h).take t++[(cls (n+m) r h)[t]]:=dF ht;have hcm:=cU ht;have hdist:∀i∈(cls (n+m) r h).take t,i≠(cls (n+m) r h)[t]:=λi hi e=>by
   obtain⟨j,hj⟩:=eA hi;have hjt:j<t:=by have:=(bI.1 hj).1;rw[cZ]at this;omega
   rw[List.getElem?_take_of_lt hjt]at hj;have:=Bi (G8 (n+m) r h) hj (by rw[e];exact aK ht);omega
  generalize (cls (n+m) r h)[t]=c at *;obtain⟨hc1,hc2⟩:=uh.1 hcm;have hgp:=E0 n<|(cls (n+m) r h).take t
  have hgb:=E1 bs n<|(cls (n+m) r h).take t
  rw[cZ]at hgp hgb
  by_cases hcn:c<n
  ·rw[cG (by omega:((c:Nat):Int)<((n:Nat):Int)),aR];refine Qv (P:=λx=>x=(oP.set c ((gi bs n (n+m) r h:Nat):Int),oB,ints (gP n<|(cls (n+m) r h).take t)++[((c:Nat):Int)],ints<|gB bs n<|(cls (n+m) r h).take t)) ?_ ?_
   ·refine Q8 (by rw[J.lp];exact hcn)<|Rg (by rw[lf];simp;omega)<|Qo ?_
    rw[cT,hgk]
   ·rintro _ rfl;refine Qo ⟨⟨by simp[J.lp],J.lb,λi hi hr=>?_,J.bo⟩,?_,?_,λi hi hin=>?_,λi hi hin=>?_⟩
    ·dsimp only;rw[mR (by rw[J.lp];exact hcn),aF<|λe=>hold c hcm i hr e.symm];exact J.pc i hi hr
    ·dsimp only;rw[htt,F4,aG hcn,tG];rfl
    ·dsimp only;rw[htt,F5,aG hcn]
    ·dsimp only;rw[mR (by rw[J.lp];exact hcn)];split
     ·rfl
     ·rename_i hne;rw[htt]at hi
      rcases dM.1 hi with hi|hi
      ·exact J1 i hi hin
      ·exact absurd (by simpa using hi) hne
    ·rw[htt]at hi
     rcases dM.1 hi with hi|hi
     ·exact J2 i hi hin
     ·have:i=c:=by simpa using hi
      subst this;exact absurd hcn hin
  ·rw[cB (by omega:¬((c:Nat):Int)<((n:Nat):Int)),bF];have hw:wrap .i64 (((c:Nat):Int) -((n:Nat):Int))=((c - n:Nat):Int):=by rw[eG (by omega) (by omega)];omega
   have hcm2:c - n<bs.length:=by omega
   have hpl:AF bs (c - n)=bs[c - n].jL:=by unfold AF;rw[aK hcm2];rfl
   rw[hw];refine Qv (P:=λx=>x=(oP,oB.set (c - n) (if AF bs (c - n)=true then((gi bs n (n+m) r h:Nat):Int)else -1),ints<|gP n<|(cls (n+m) r h).take t,ints<|gB bs n<|(cls (n+m) r h).take t++[c])) ?_ ?_
   ·refine Q8 hcm2 ?_;rw[F5,aF hcn,hpl]
    cases hp:bs[c - n].jL with
    |true=>
     rw[aR,aG rfl,aG rfl];refine Qn (x:=(oB.set (c - n) ((gi bs n (n+m) r h:Nat):Int),ints<|gB bs n ((cls (n+m) r h).take t)++[c - n])) ?_<|Qo rfl
     rw[gL _ _ (by rw[J.lb];omega),aB,gu (by rw[lf];simp;omega),aB,cT,hgk,tG];rfl
    |false=>
     rw[bF,aF (by simp),aF (by simp)];refine Qn (x:=(oB.set (c - n)<|-1,ints<|gB bs n<|(cls (n+m) r h).take t)) ?_<|Qo rfl
     rw[gL _ _ (by rw[J.lb];omega),aB,cT]
   ·rintro _ rfl;refine Qo ⟨⟨J.lp,by simp[J.lb],J.pc,λj hj hr=>?_⟩,?_,?_,λi hi hin=>?_,λi hi hin=>?_⟩
    ·dsimp only;rw[mR (by rw[J.lb];omega),aF<|λe=>hold c hcm (n+j) hr (by omega)];exact J.bo j hj hr
    ·dsimp only;rw[htt,F4,aF hcn]
    ·dsimp only;rw[htt]
    ·rw[htt]at hi
     rcases dM.1 hi with hi|hi
     ·exact J1 i hi hin
     ·have:i=c:=by simpa using hi
      subst this;exact absurd hin hcn
    ·dsimp only;rw[mR (by rw[J.lb];omega)];split
     ·rename_i e;rw[e]
     ·rename_i hne;rw[htt]at hi
      rcases dM.1 hi with hi|hi
      ·exact J2 i hi hin
      ·exact absurd (by have:i=c:=(by simpa using hi);rw[this]) hne
 ·rintro⟨oP,oB,pp,bb⟩⟨J,e2,e3,J1,J2⟩;dsimp only at J e2 e3 J1 J2 ⊢;rw[dG]at e2 e3 J1 J2;refine⟨⟨J.lp,J.lb,λi hi hr=>?_,λj hj hr=>?_⟩,e2,e3⟩
  ·rw[hts]at hr
   rcases dM.1 hr with hr|hr
   ·exact J.pc i hi hr
   ·have hr:r i=h:=by simpa using hr
    rw[hr];exact J1 i (uh.2 ⟨by omega,hr⟩) hi
  ·rw[hts]at hr
   rcases dM.1 hr with hr|hr
   ·exact J.bo j hj hr
   ·have hr:r (n+j)=h:=by simpa using hr
    rw[hr];have:=J2 (n+j) (uh.2 ⟨by omega,hr⟩) (by omega);rwa[Nat.add_sub_cancel_left]at this
 ·rintro⟨oP,oB,pp,bb⟩⟨J,e2,e3⟩;dsimp only at J e2 e3 ⊢;subst e2;subst e3;have hgp:=E0 n<|cls (n+m) r h
  have hgb:=E1 bs n<|cls (n+m) r h
  rw[lf,lf,wrap_add (by omega)];have hgs:o6 bs n (n+m) r ((bW (n+m) r).take<|k+1)=if I5 bs n (cls (n+m) r h)=true then o6 bs n (n+m) r ((bW (n+m) r).take k)++[PH bs n<|cls (n+m) r h]else o6 bs n (n+m) r ((bW (n+m) r).take k):=by
   unfold o6;rw[hts,G7];split
   ·rw[eE];rfl
   ·rfl
  refine Qv (P:=λx=>x=o6 bs n (n+m) r ((bW (n+m) r).take<|k+1)) (Q6 (λhb=>?_)<|λhb=>Qo ?_)<|λx e=>Qo ⟨e,J⟩
  ·have hne:I5 bs n (cls (n+m) r h)=true:=cG (by have:=of_decide_eq_true hb;omega);refine Rg (by simp;omega)<|Qo ?_
   rw[hgs,aG hne];rfl
  ·have hne:¬I5 bs n (cls (n+m) r h)=true:=λh'=>by
    have h1:=of_decide_eq_true h';have h2:=of_decide_eq_false hb;omega
   rw[hgs,aF hne]
end
section
variable {N:Nat}
def qT(n:Nat)(h:j4):Nat:=if h.cK=true then n+h.Number.toNat else h.Number.toNat
structure Np (bs:List cK) (n m:Nat) (h:j4):Prop where
 num:∃k:Nat,h.Number=((k:Nat):Int)/\(h.cK=true->k<m/\AF bs k=true)/\(h.cK=false->k<n)
theorem LI{bs:List cK}{pcs:List aH}{l:dD}{h:j4}(hh:yf bs pcs l=some h):Np bs pcs.length bs.length h:=by
 unfold yf at hh
 cases hf:bs.findIdx? (tH l)with
 |some k=>
  rw[hf]at hh;injection hh with hh;subst hh
  obtain⟨hk,hp,_⟩:=List.findIdx?_eq_some_iff_getElem.1 hf;refine⟨k,rfl,λ_=>⟨hk,?_⟩,λh=>by cases h⟩
  grind [tH,AF,aK]
 |none=>
  rw[hf]at hh;dsimp only at hh;rw[Option.map_eq_some_iff]at hh;obtain⟨k,hk,rfl⟩:=hh;obtain⟨hk,_⟩:=List.findIdx?_eq_some_iff_getElem.1 hk;exact⟨k,rfl,λh=>(by cases h),λ_=>hk⟩
def AG(bs:List cK)(pcs:List aH)(r:Nat->Nat)(l:dD):Option Nat:=(yf bs pcs l).map λh=>gi bs pcs.length (pcs.length+bs.length) r<|r<|qT pcs.length h
def G9(bs:List cK)(pcs:List aH)(r:Nat->Nat)(l:dD):Int:=match AG bs pcs r l with|some g=>((g:Nat):Int)|none=> -1
def gW(gs:List bK)(lg:dD->Option Nat)(ls:List dD):List bK:=gs.mapIdx<|λg x=>{x with aP:=(ls.filter<|λl=>decide<|lg l=some g).map gZ}
theorem ke{gs:List bK}{lg:dD->Option Nat}{ls:List dD}{g:Nat}:(gW gs lg ls)[g]? =(gs[g]?).map λx=>{x with aP:=(ls.filter<|λl=>decide<|lg l=some g).map gZ}:=by
 simp[gW,List.getElem?_mapIdx]
theorem wN(gs:List bK)(lg:dD->Option Nat)(ls:List dD):(gW gs lg ls).length=gs.length:=by simp[gW,List.length_mapIdx]
theorem AH{gs:List bK}{lg:dD->Option Nat}{ls:List dD}{l:dD}(h:lg l=none):gW gs lg (ls++[l])=gW gs lg ls:=by
 apply List.ext_getElem?
 grind [ke]
theorem Cl{gs:List bK}{lg:dD->Option Nat}{ls:List dD}{l:dD}{k:Nat}{x:bK}(h:lg l=some k)(hx:(gW gs lg ls)[k]? =some x):
  (gW gs lg ls).set k {x with aP:=x.aP++[gZ l]}=gW gs lg (ls++[l]):=by
 apply List.ext_getElem?;intro g;have hk:=(bI.1 hx).1;rw[j7]
 by_cases e:k=g
 ·subst e
  grind [ke,Option.map_eq_some_iff]
 grind [ke]
theorem Nq{bs:List cK}{n t:Nat}{r:Nat->Nat}{i:Nat}(hi:i<n)(ht:i<t):I5 bs n (cls t r<|r i)=true:=by
 unfold I5;rw[dN];have:i∈gP n (cls t r<|r i):=lj.2 ⟨uh.2 ⟨ht,rfl⟩,by grind⟩
 grind
theorem Nr{bs:List cK}{n t:Nat}{r:Nat->Nat}{j:Nat}(hp:AF bs j=true)(ht:n+j<t):I5 bs n (cls t r<|r<|n+j)=true:=by
 unfold I5;rw[dN];have:j∈gB bs n (cls t r<|r<|n+j):=cF.2 ⟨n+j,lj.2 ⟨uh.2 ⟨ht,rfl⟩,by simp[hp]⟩,by omega⟩
 grind
structure tJ (bs:List cK) (ls:List dD) (pcs:List aH) (r:Nat->Nat) (gs:List bK) (ofP ofB qY:List Int) (sE:List j4):Prop where
 conn:DM pcs.length bs.length (r7 bs pcs) r
 gs:gs=gW (o6 bs pcs.length (pcs.length+bs.length) r<|bW (pcs.length+bs.length) r) (AG bs pcs r) ls
 of:Nn bs pcs.length bs.length r (bW (pcs.length+bs.length) r) ofP ofB
 qY:qY=ls.map (G9 bs pcs r)
 sE:sE=ls.map (λl=>(yf bs pcs l).getD ⟨false,0⟩)
theorem I6{bs:List cK}{pcs:List aH}(hp:pcs.length<=1073741824):∀l∈r7 bs pcs,l.length<=1073741824/\∀x∈l,∃i:Nat,i<pcs.length/\x=((i:Nat):Int):=by
 grind [r7,Bh,mU,lf,zU,G5]
theorem Cm{bs:List cK}{ls:List dD}{pcs:List aH}(hb:ng bs)(hp:pcs.length<=1000000000)(hr:∀p∈pcs,p.nZ.length<=1073741824)(hl:ls.length<=1073741824)(hN:4398046511104<=N):
  Ok (eO N bs ls pcs (r7 bs pcs) [] [] [] []) (λx=>∃r,tJ bs ls pcs r x.1 x.2.1 x.2.2.1 x.2.2.2.1 x.2.2.2.2):=by
 have hbl:=hb.len;unfold eO;rw[wrap_add (by omega)];obtain⟨up0,u1,u2⟩:=DC (N:=N) (n:=pcs.length+bs.length) (by omega);refine Qn u1 ?_;refine Qv (G6 (n:=pcs.length) (m:=bs.length) (by simp[r7]) (I6 (by omega)) (by omega) (by omega) u2 hN) ?_;rintro up1⟨r,v1,v2⟩;refine Qn (wj 0 (by omega))<|Qn (wj 0 (by omega)) ?_
 obtain⟨up2,w1,_⟩:=Ko (N:=N) v1 (by omega) (by omega);refine Qn w1 ?_;refine Qv (DN (bs:=bs) (n:=pcs.length) (m:=bs.length) (r:=r) rfl (by omega) (by omega) (op:=List.replicate pcs.length 0) (ob:=List.replicate bs.length 0) (by simp) (by simp) rfl) ?_;rintro⟨gs,ofP,ofB⟩⟨e1,I⟩;dsimp only at e1 I ⊢;subst e1;have hgl:(o6 bs pcs.length (pcs.length+bs.length) r<|bW (pcs.length+bs.length) r).length<=pcs.length+bs.length:=by
  grind [tI,rH,bW,nc]
 refine Qv (Q3 (λ(k:Nat)(st:List bK×List Int×List Int×List Int×List j4)=>st=(gW (o6 bs pcs.length (pcs.length+bs.length) r<|bW (pcs.length+bs.length) r) (AG bs pcs r)<|ls.take k,ofP,ofB,(ls.take k).map<|G9 bs pcs r,(ls.take k).map<|λl=>(yf bs pcs l).getD ⟨false,0⟩)) (by omega) ?_<|λk st hk e=>?_) ?_
 ·congr 1;unfold gW;apply List.ext_getElem?;intro g;rw[List.getElem?_mapIdx];unfold o6;rw[eR]
  cases(live bs pcs.length (pcs.length+bs.length) r<|bW (pcs.length+bs.length) r)[g]? <;> rfl
 ·subst e;dsimp only;have hts:ls.take (k+1)=ls.take k++[ls[k]]:=dF hk;refine Q8 hk<|Qn (I4 hb (by omega) hr _) ?_
  dsimp only;refine Qv (P:=λx=>x=(gW (o6 bs pcs.length (pcs.length+bs.length) r<|bW (pcs.length+bs.length) r) (AG bs pcs r)<|ls.take k++[ls[k]],G9 bs pcs r ls[k])) ?_ ?_
  ·cases hh:yf bs pcs ls[k]with
   |none=>
    refine Qo ?_;have h1:AG bs pcs r ls[k]=none:=by unfold AG;rw[hh];rfl
    rw[AH h1];unfold G9;rw[h1]
   |some h=>
    have h1:AG bs pcs r ls[k]=some (gi bs pcs.length (pcs.length+bs.length) r<|r<|qT pcs.length h):=by unfold AG;rw[hh];rfl
    have h2:G9 bs pcs r ls[k]=((gi bs pcs.length (pcs.length+bs.length) r (r<|qT pcs.length h):Nat):Int):=by unfold G9;rw[h1]
    obtain⟨q,q1,q2,q3⟩:=(LI hh).num;have hix:qT pcs.length h<pcs.length+bs.length/\I5 bs pcs.length (cls (pcs.length+bs.length) r<|r<|qT pcs.length h)=true/\fR N ofP ofB h=some ((gi bs pcs.length (pcs.length+bs.length) r (r<|qT pcs.length h):Nat):Int):=by
     unfold fR qT;rw[q1,cT]
     cases hbo:h.cK with
     |true=>
      obtain⟨q4,q5⟩:=q2 hbo;rw[aR,aG rfl];refine⟨by omega,Nr q5 (by omega),?_⟩;have:=I.bo q q4<|jt.2 ⟨by have:=v2.le (pcs.length+q) (by omega);omega,v2.rr _ (by omega)⟩
      rw[aG q5]at this;rw[eW this,aB]
     |false=>
      have q4:=q3 hbo;rw[bF,aF (by simp)];refine⟨by omega,Nq q4 (by omega),?_⟩;have:=I.pc q q4<|jt.2 ⟨by have:=v2.le q (by omega);omega,v2.rr _ (by omega)⟩
      rw[eW this,aB]
    obtain⟨i1,i2,i3⟩:=hix;have hgi:=Nm (r:=r) (t:=pcs.length+bs.length) (bs:=bs) (n:=pcs.length) (h:=r<|qT pcs.length h) (jt.2 ⟨by have:=v2.le _ i1;omega,v2.rr _ i1⟩) i2;have hgx:gi bs pcs.length (pcs.length+bs.length) r (r<|qT pcs.length h)<(gW (o6 bs pcs.length (pcs.length+bs.length) r<|bW (pcs.length+bs.length) r) (AG bs pcs r)<|ls.take k).length:=by
     rw[wN,tI];exact hgi.1
    rw[h2];dsimp only[Option.getD,Option.isSome];rw[aR];refine Qn i3 ?_;generalize gi bs pcs.length (pcs.length+bs.length) r (r<|qT pcs.length h)=g at *;refine Q8 hgx<|Qn (qS _) ?_
    have hpl:((gW (o6 bs pcs.length (pcs.length+bs.length) r<|bW (pcs.length+bs.length) r) (AG bs pcs r)<|ls.take k)[g]).aP.length<=ls.length:=by
     have:=ke (gs:=o6 bs pcs.length (pcs.length+bs.length) r<|bW (pcs.length+bs.length) r) (lg:=AG bs pcs r) (ls:=ls.take k) (g:=g);rw[aK hgx]at this;have:=this.symm;rw[Option.map_eq_some_iff]at this;obtain⟨y,_,hy⟩:=this;rw[<-hy,dL];have:=ja (λl=>decide<|AG bs pcs r l=some g)<|ls.take k
     rw[cZ]at this;omega
    refine Rg (by simp;omega)<|Q8 hgx<|Qo ?_
    rw[cT];congr 1;exact Cl h1<|aK hgx
  ·rintro _ rfl;dsimp only;refine Rg (by simp;omega)<|Rg (by simp;omega)<|Qo ?_
   rw[hts,eE,eE];rfl
 ·rintro st rfl;dsimp only;rw[dG];exact Qo ⟨r,v2,rfl,I,rfl,rfl⟩
end
section
variable {N:Nat}
theorem Bj{p:aH}:∀{je:List (List<|List aA)}{k:Nat},p∈fF k je->∃(i:Nat)(ps:List (List aA))(q:List aA),je[i]? =some ps/\q∈ps/\p= ⟨((k+i:Nat):Int),q,aO q⟩
 | [],k,h=>by cases h
 |ps::je,k,h=>by
  rcases dM.1 h with h|h
  ·obtain⟨q,hq,rfl⟩:=cF.1 h;exact⟨0,ps,q,rfl,hq,rfl⟩
  ·obtain⟨i,ps',q,h1,h2,h3⟩:=Bj h;refine⟨i+1,ps',q,by grind,h2,?_⟩;rw[h3,show k+1+i=k+(i+1)by omega]
structure ov (a:jg):Prop where
 CI:0<a.aN.length/\a.aN.length<=16
 Qa:∀r∈a.aN,iw r=0
 out:iw a.cL=0
 many:a.cL.length+(a.aN.map List.length).sum<=2000
 wO:jZ a=0
 DO:i7 a=0
theorem ov.gb{a:jg}(h:ov a):ng a.bN:=⟨(qg h.wO).1,λb hb=>⟨((qg h.wO).2 b hb).1,((qg h.wO).2 b hb).2.1⟩⟩
theorem ov.cs{a:jg}(h:ov a):∀r∈a.aN,r.length<=2000/\∀x∈r,Ea x:=λr hr=>EW (tE.1<|h.Qa r hr).1
structure wP (a:jg) (mx:List (List aA)) (je:List (List (List aA))) (p:aH) (i:Nat) (r:List aI) (s:List aA) (ps:List (List aA)) (u:Nat->Nat) (j k:Nat):Prop where
 Qb:a.aN[i]? =some r
 mx:mx[i]? =some s
 je:je[i]? =some ps
 dr:ue r (pO a.bN ((i:Nat):Int)) s
 pt:nD s u ps
 at_:ps[j]? =some p.Set
 head:(bW (aO s).length u)[j]? =some k
 set:qO (mu (aO s) (aO s).length u k) p.Set
 lim:vD (qM r++qM (pO a.bN ((i:Nat):Int))) (lW r++lW (pO a.bN ((i:Nat):Int))) (p.Set.map bR)
 Ns:p.eX=((i:Nat):Int)
 Nt:p.nZ=aO p.Set
theorem I7{a:jg}{mx:List (List aA)}{je:List (List<|List aA)}(hg:ov a)(hD:qh a.aN a.bN a.aN.length mx je){p:aH}(hp:p∈fF 0 je):∃i r s ps u j k,wP a mx je p i r s ps u j k:=by
 obtain⟨i,ps,q,h1,h2,rfl⟩:=Bj hp;have hil:i<a.aN.length:=by have:=(bI.1 h1).1;rw[hD.Ck]at this;exact this
 have hc:a.aN[i]? =some a.aN[i]:=aK hil;have hd:mx[i]? =some (mx[i]'(by rw[hD.len];exact hil)):=aK _;have hdr:=hD.dr i _ _ hil hc hd;obtain⟨u,hu⟩:=hD.pt i _ ps hil hd h1;obtain⟨sx,sy⟩:=hdr.small (hg.cs _<|cU hil).2<|λx hx=>(DK hg.gb _ x hx).1
 obtain⟨j,k,g1,g2,g3,g4⟩:=zT hu hdr.can hdr.lim sx sy h2;exact⟨i,_,_,ps,u,j,k,hc,hd,h1,hdr,hu,g1,g2,g3,g4,by rw[gl],rfl⟩
theorem wP.I1{a:jg}{mx:List (List aA)}{je:List (List<|List aA)}(hg:ov a){p:aH}{i:Nat}{r:List aI}{s:List aA}{ps:List (List aA)}{u:Nat->Nat}{j k:Nat}(h:wP a mx je p i r s ps u j k):
  p.Set.length<=5000/\(∀b∈p.Set,b.Xs.length<=5000)/\p.nZ.length<=5000*5000:=by
 have h1:=(hg.cs r<|eM h.Qb).1;have h2:=Bg hg.gb ((i:Nat):Int);rw[h.Nt];exact xG (A:=5000) h.set.can h.lim (by grind [dE,qN]) (by grind [dE,mQ])
def F6(a0 a1 b0 b1:Int):Bool:=decide (b0<a1)&&decide (a0<b1)
def I8(a b:aI):Bool:=F6 a.X0 a.X1 b.X0 b.X1&&F6 a.Y0 a.Y1 b.Y0 b.Y1
theorem zV{a0 a1 b0 b1:Int}(h1: -1000000<=a0/\a0<=1000000)(h2: -1000000<=a1/\a1<=1000000)(h3: -1000000<=b0/\b0<=1000000)(h4: -1000000<=b1/\b1<=1000000):∃n,kq N a0 a1 b0 b1=some n/\0<=n/\(n=0↔F6 a0 a1 b0 b1=true):=by
 unfold kq F6
 grind [wrap,eG]
theorem LJ{a b:aI}(h1:eL a=true)(h2:eL b=true):∃n,qo N a b=some n/\(n=0↔I8 a b=true):=by
 have b1:=ld h1;have b2:=ld h2;obtain⟨n,n1,n2,n3⟩:=zV (N:=N) (a0:=a.X0) (a1:=a.X1) (b0:=b.X0) (b1:=b.X1) (by omega) (by omega) (by omega) (by omega);obtain⟨m,m1,m2,m3⟩:=zV (N:=N) (a0:=a.Y0) (a1:=a.Y1) (b0:=b.Y0) (b1:=b.Y1) (by omega) (by omega) (by omega) (by omega);unfold qo I8;rw[n1,aB,m1,aB]
 grind
def xH(x y:cK):Bool:=(decide (x.dZ<=y.To)&&decide (y.dZ<=x.To))&&I8 (zO x) (zO y)
def uP(a:jg):Prop:=∃(i k:Nat)(x y:cK),k<i/\a.bN[i]? =some x/\a.bN[k]? =some y/\xH x y=true
noncomputable def DQ(r:List aI):Option Int:=if iw r≠0 then some (iw r)else none
noncomputable def AJ(a:jg):Int:=if 2000<a.cL.length+(a.aN.map List.length).sum then 2 else if jZ a≠0 then jZ a else if i7 a≠0 then i7 a else if uP a then 12 else 0
noncomputable def E2(a:jg):Int:=match a.aN.findSome? DQ with|some e=>e|none=>if iw a.cL≠0 then iw a.cL else AJ a
noncomputable def gz(a:jg):Int:=if a.aN.length=0 then 9 else if 16<a.aN.length then 2 else E2 a
def NB(mx:List (List aA))(je:List (List<|List aA)):Prop:=(∀s∈mx,(aO s).length<=2000)/\(fF 0 je).length<=2000
abbrev xI:=List (List aI)×List aI×List cK×List dD×List (List aA)×List aH×List (List Int)×List bK×List Int×List Int×List Int×List j4
def K1(a:jg)(x:Option xI×Int):Prop:=
 (gz a≠0/\x=(none,gz a))\/(gz a=0/\ov a/\¬uP a/\∃mx je,qh a.aN a.bN a.aN.length mx je/\
  ((¬NB mx je/\x=(none,2))\/(NB mx je/\∃r gs ofP ofB qY sE,tJ a.bN a.bC (fF 0 je) r gs ofP ofB qY sE/\
   x=(some (a.aN,a.cL,a.bN,a.bC,mx,fF 0 je,r7 a.bN (fF 0 je),gs,ofP,ofB,qY,sE),0))))
structure nP (a:jg):Prop where
 cs:a.aN.length<=1048576
 each:∀r∈a.aN,r.length<=1048576
 out:a.cL.length<=1048576
 bs:a.bN.length<=1048576
 ls:a.bC.length<=1048576
 nm:zR a
theorem nQ{a:jg}(h:bk a<=1048576):nP a:=by
 rw[EH]at h;have h1:=mL a.aN;have h2:=mL a.cL;have h3:=mL a.bN;have h4:=mL a.bC;refine⟨by omega,λr hr=>?_,by omega,by omega,by omega,λx hx=>?_⟩
 ·have:=m7 hr
  grind [mL]
 ·have:=m7 hx
  grind [Ca,m8]
theorem xJ{a:jg}(hs:nP a)(hN:4398046511104<=N):Ok (gC N a) (K1 a):=by
 unfold gC;have pe:∀e:Int,e≠0->gz a=e->Ok (some ((none:Option xI),e)) (K1 a):=λe he h=>Qo<|.inl ⟨by omega,by rw[h]⟩
 have c1:=hs.cs;refine Q6 (λh=>?_)<|λh=>?_
 ·grind [gz]
 have h0:¬a.aN.length=0:=by grind
 refine Q6 (λh=>?_)<|λh=>?_
 ·grind [gz]
 have h1:¬16<a.aN.length:=by grind
 have pe1:gz a=E2 a:=by grind [gz]
 have hso:=hs.out;have sumle:∀k,k<=a.aN.length->((a.aN.take k).map List.length).sum<=k*1048576:=by
  intro k
  induction k with
  |zero=>intro _;simp
  |succ k ih=>
   intro hk;have:=ih (by omega);have h2:=hs.each _<|cU (show k<a.aN.length by omega)
   rw[dF (by omega),eE,List.sum_append]
   grind
 refine Qv (So (Go:=λs:Int=>s=((a.cL.length+(a.aN.map List.length).sum:Nat):Int)/\∀r∈a.aN,iw r=0) (Rt:=λx:Option xI×Int=>∃e,e≠0/\x=(none,e)/\a.aN.findSome? DQ=some e)
  (λ(k:Nat)(s:Int)=>s=((a.cL.length+((a.aN.take k).map List.length).sum:Nat):Int)/\∀r∈a.aN.take k,iw r=0) (by omega) ⟨by simp,λr hr=>by simp at hr⟩ (λk s hk hI=>?_) (λs hI=>by grind)) ?_
 ·obtain⟨e,hI⟩:=hI;subst e;have hkx:a.aN[k]? =some a.aN[k]:=aK hk;have hts:a.aN.take (k+1)=a.aN.take k++[a.aN[k]]:=dF hk;have he:=hs.each _<|cU hk
  refine QK hkx<|Qn (o5 (by omega) hN) ?_
  refine Q6 (λh=>Sb ?_)<|λh=>Rk ?_
  ·have h:iw a.aN[k]≠0:=by simpa using h
   refine⟨_,h,rfl,?_⟩
   grind [List.findSome?_eq_some_iff,DQ,pA,List.take_append_drop]
  ·have h:iw a.aN[k]=0:=by simpa using h
   have:=sumle k (by omega);have hk16:k*1048576<=16*1048576:=Nat.mul_le_mul_right _ (by omega);refine⟨?_,λr hr=>?_⟩
   ·rw[wrap_add (by omega),hts,eE,List.sum_append];simp only[eF,List.map_nil,List.sum_cons,List.sum_nil];congr 1;omega
   ·rw[hts]at hr
    rcases dM.1 hr with hr|hr
    ·exact hI r hr
    ·simp at hr;subst hr;exact h
 intro o ho;refine Ro ho ?_ ?_
 rotate_left
 ·rintro x⟨e,he,rfl,hf⟩;exact pe e he (by rw[pe1];unfold E2;rw[hf])
 rintro s⟨rfl,hreg⟩;have Nv:a.aN.findSome? DQ=none:=List.findSome?_eq_none_iff.2 λr hr=>by unfold DQ;rw[aF (by simpa using hreg r hr)]
 have pe2:gz a=if iw a.cL≠0 then iw a.cL else AJ a:=by rw[pe1];unfold E2;rw[Nv]
 refine Qn (o5 (by omega) hN) ?_;refine Q6 (λh=>?_)<|λh=>?_
 ·have h:iw a.cL≠0:=by simpa using h
  exact pe _ h (by rw[pe2,aG h])
 have hout:iw a.cL=0:=by simpa using h
 have pe3:gz a=AJ a:=by rw[pe2,aF (by simpa using hout)]
 refine Q6 (λh=>?_)<|λh=>?_
 ·have h:2000<a.cL.length+(a.aN.map List.length).sum:=by have:=of_decide_eq_true h;omega
  exact pe 2 (by omega) (by rw[pe3];unfold AJ;rw[aG h])
 have hmany:¬2000<a.cL.length+(a.aN.map List.length).sum:=by have:=of_decide_eq_false h;omega
 have hbs:=hs.bs;have hls:=hs.ls;refine Qn (AB (by omega) (by omega) (by omega)) ?_;refine Q6 (λh=>?_)<|λh=>?_
 ·have h:jZ a≠0:=by simpa using h
  exact pe _ h (by rw[pe3];unfold AJ;rw[aF hmany,aG h])
 have hbo:jZ a=0:=by simpa using h
 refine Qn (AD (by omega) (by omega) hs.nm (by omega)) ?_;refine Q6 (λh=>?_)<|λh=>?_
 ·have h:i7 a≠0:=by simpa using h
  exact pe _ h (by rw[pe3];unfold AJ;rw[aF hmany,aF (by simpa using hbo),aG h])
 have hla:i7 a=0:=by simpa using h
 have hg:ov a:=⟨by omega,hreg,hout,by omega,hbo,hla⟩;have pe4:gz a=if uP a then 12 else 0:=by rw[pe3];unfold AJ;rw[aF hmany,aF (by simpa using hbo),aF (by simpa using hla)]
 refine Qv (So (Go:=λ_:Unit=>¬uP a) (Rt:=λx:Option xI×Int=>x=(none,12)/\uP a)
  (λ(k:Nat)(_:Unit)=>∀(i j:Nat)(x y:cK),i<k->j<i->a.bN[i]? =some x->a.bN[j]? =some y->¬xH x y=true) (by omega) (λi j x y h=>by omega) (λk s hk hI=>?_) (λs hI=>?_)) ?_
 ·have hkx:a.bN[k]? =some a.bN[k]:=aK hk;refine QK hkx<|Qn (qA _ k (by omega)) ?_
  have hgk:=hg.gb.ok _<|cU hk
  refine Qv (So (Go:=λ_:Unit=>∀(j:Nat)(y:cK),j<k->a.bN[j]? =some y->¬xH a.bN[k] y=true) (Rt:=λx:Option xI×Int=>x=(none,12)/\uP a)
   (λ(t:Nat)(_:Unit)=>∀(j:Nat)(y:cK),j<t->a.bN[j]? =some y->¬xH a.bN[k] y=true) (by rw[cZ];omega) (λj y h=>by omega) (λt s ht hI2=>?_) (λs hI2 j y hj hy=>hI2 j y (by rw[cZ];omega) hy)) ?_
  ·have htk:t<k:=by rw[cZ]at ht;omega
   have htx:(a.bN.take k)[t]? =some a.bN[t]:=by rw[List.getElem?_take_of_lt htk];exact aK (by omega)
   have hgt:=hg.gb.ok _<|cU (show t<a.bN.length by omega)
   refine QK htx ?_;refine Qn (x:=xH a.bN[k] a.bN[t]) ?_ ?_
   ·unfold xH
    cases hc:(decide (a.bN[k].dZ<=a.bN[t].To)&&decide (a.bN[t].dZ<=a.bN[k].To))with
    |false=>rfl
    |true=>
     obtain⟨n,n1,n2⟩:=LJ (N:=N) hgk.2 hgt.2;rw[aR,mo hgk.1,aB,mo hgt.1,aB,n1,aB,Bool.true_and];congr 1;rw[g9,beq_iff_eq];exact n2
   ·refine Q6 (λh=>Sb ⟨rfl,k,t,_,_,htk,hkx,aK (by omega),h⟩)<|λh=>Rk λj y hj hy=>?_
    by_cases e:j<t
    ·exact hI2 j y e hy
    ·have:j=t:=by omega
     subst this;rw[aK (by omega)]at hy;injection hy with hy
     rw[<-hy,h];simp
  ·intro o ho;refine Ro ho (λs hI2=>Rk λi j x y hi hj hx hy=>?_)<|λx hx=>Sb hx
   by_cases e:i<k
   ·exact hI i j x y e hj hx hy
   ·have:i=k:=by omega
    subst this;rw[hkx]at hx;injection hx with hx
    rw[<-hx];exact hI2 j y hj hy
 ·rintro⟨i,j,x,y,hj,hx,hy,hc⟩;exact hI i j x y (bI.1 hx).1 hj hx hy hc
 intro o ho;refine Ro ho ?_ ?_
 rotate_left
 ·rintro x⟨rfl,hc⟩;exact pe 12 (by omega) (by rw[pe4,aG hc])
 intro _ hncl;have pe5:gz a=0:=by rw[pe4,aF hncl]
 refine Qv (EY (N:=N) (by omega) hg.cs hg.gb hN) ?_;rintro⟨okk,mx,pcs⟩⟨je,D,e1,e2⟩;dsimp only at D e1 e2 ⊢;subst e1;refine Q6 (λh=>Qo<|.inr ⟨pe5,hg,hncl,mx,je,D, .inl ⟨λhf=>?_,rfl⟩⟩)<|λh=>?_
 ·have:=e2.2 hf;rw[this]at h;cases h
 ·have hf:NB mx je:=e2.1 (by cases okk <;> simp_all);have hpr:∀p∈fF 0 je,p.nZ.length<=1073741824:=λp hp=>by
   obtain⟨i,r,s,ps,u,j,k,hP⟩:=I7 hg D hp;have:=(hP.I1 hg).2.2;omega
  have hf2:=hf.2;refine Qn (I3 hg.gb (by omega) hpr) ?_;refine Qv (Cm (N:=N) hg.gb (by omega) hpr (by omega) hN) ?_;rintro⟨gs,ofP,ofB,qY,sE⟩⟨r,hC⟩;exact Qo<|.inr ⟨pe5,hg,hncl,mx,je,D, .inr ⟨hf,r,gs,ofP,ofB,qY,sE,hC,rfl⟩⟩
end
section
variable {N:Nat}
theorem F7{w:Nat}{g:Nat->Nat}{a:Nat}:∀{ks:List Nat},ks.Nodup->a∈ks->(ks.map<|λk=>(if a=k then w else 0)+g k).sum=w+(ks.map g).sum
 | [],_,h=>by cases h
 |k::ks,hn,h=>by
  have hn':=List.nodup_cons.1 hn;simp only[eF,List.sum_cons]
  by_cases e:a=k
  ·subst e;rw[aG rfl];have:ks.map (λk=>(if a=k then w else 0)+g k)=ks.map g:=List.map_congr_left λx hx=>by
    rw[aF<|λe=>hn'.1 (by rw[e];exact hx),gl]
   rw[this];omega
  ·rw[aF e,F7 hn'.2 (by rcases gk.1 h with h|h;exact absurd h e;exact h)];omega
theorem DR{α:Type}{ks:List Nat}(hn:ks.Nodup)(f w:α->Nat):∀{l:List α},(∀x∈l,f x∈ks)->(ks.map<|λk=>((l.filter<|λx=>decide<|f x=k).map w).sum).sum=(l.map w).sum
 | [],_=>by
  have:∀ks:List Nat,(ks.map<|λ_=>0).sum=0:=λks=>by
   induction ks with
   |nil=>rfl
   |cons k ks ih=>simp only[eF,List.sum_cons,ih]
  simpa using this ks
 |x::l,h=>by
  have ih:=DR hn f w (l:=l) λy hy=>h y<|my _ hy
  have:ks.map (λk=>(((x::l).filter<|λx=>decide<|f x=k).map w).sum)=ks.map (λk=>(if f x=k then w x else 0)+((l.filter<|λx=>decide<|f x=k).map w).sum):=List.map_congr_left λk _=>by
   rw[List.filter_cons]
   by_cases e:f x=k
   ·rw[aG (by simpa using e),aG e,eF,List.sum_cons]
   ·rw[aF (by simpa using e),aF e,gl]
  rw[this,F7 hn<|h x (by simp),ih,eF,List.sum_cons]
def DS(l:List aI):Int:=l.foldl (λs x=>wrap .i64<|s+ wrap .i64 (wrap .i64 (x.X1 - x.X0)* wrap .i64 (x.Y1 - x.Y0))) 0
theorem Ha{l:List aI}(hl:l.length<=4611686018427387904):mE N l=some (DS l):=by
 refine RD ?_;unfold mE;refine Qv (Q3 (λk s=>s=DS (l.take k)) (by omega) rfl<|λk s hk e=>?_)<|λs e=>Qo (by rw[e,dG])
 subst e;refine Q8 hk<|Qo ?_
 unfold DS;rw[dF hk,List.foldl_append];rfl
theorem wP.ne{a:jg}{mx:List (List aA)}{je:List (List<|List aA)}{p:aH}{i:Nat}{r:List aI}{s:List aA}{ps:List (List aA)}{u:Nat->Nat}{j k:Nat}(h:wP a mx je p i r s ps u j k):p.Set≠[]:=by
 intro e;have hh:=jt.1<|eM h.head
 have hx:(aO s)[k]? =some (aO s)[k]:=aK hh.1;have hm:(aO s)[k]∈mu (aO s) (aO s).length u k:=nO.2 ⟨k,hh.1,hh.2,hx⟩;obtain⟨b,hb,q,hq,hr⟩:=oE<|eM hx
 have hbm:bR b∈s.map bR:=cF.2 ⟨b,hb,rfl⟩;have hq1:=EO (h.dr.can.each _ hbm).2.2.1 q hq;have hb1:=(h.dr.can.each _ hbm).1;have hc:=h.set.cover q.1 b.Y0;rw[e]at hc;have:Ay (mu (aO s) (aO s).length u k) q.1 b.Y0=true:=l8.2 ⟨_,hm,by rw[hr];exact⟨⟨Int.le_refl _,hq1⟩,Int.le_refl _,hb1⟩⟩;rw[this]at hc
 cases hc
structure xK (a:jg) (mx:List (List aA)) (je:List (List (List aA))) (r:Nat->Nat) (gs:List bK) (ofP ofB qY:List Int) (sE:List j4):Prop where
 LK:ov a
 Qg:¬uP a
 dr:qh a.aN a.bN a.aN.length mx je
 CI:NB mx je
 LU:tJ a.bN a.bC (fF 0 je) r gs ofP ofB qY sE
inductive LL (N:Nat) (a:jg):Prop
 |err (e:Int) (he:e≠0) (h:gC N a=some (none,e))
 |ok {mx:List (List aA)} {je:List (List (List aA))} {r:Nat->Nat} {gs:List bK} {ofP ofB qY:List Int} {sE:List j4} (b:xK a mx je r gs ofP ofB qY sE)
  (h:gC N a=some (some (a.aN,a.cL,a.bN,a.bC,mx,fF 0 je,r7 a.bN<|fF 0 je,gs,ofP,ofB,qY,sE),0))
theorem opened{a:jg}(hs:nP a)(hN:4398046511104<=N):LL N a:=by
 obtain⟨x,hx,hI⟩:=xJ (N:=N) hs hN
 rcases hI with⟨he,rfl⟩|⟨_,hg,hcl,mx,je,D,⟨_,rfl⟩|⟨hf,r,gs,ofP,ofB,qY,sE,hC,rfl⟩⟩
 ·exact .err _ he hx
 ·exact .err 2 (by omega) hx
 ·exact .ok ⟨hg,hcl,D,hf,hC⟩ hx
end
section
variable {S R:Type}
theorem Ty{body:S->Option (Fl S R)}{N n:Nat}{s:S}(ι:S->Int)(Inv:Nat->S->Prop){Go:S->Prop}{Rt:R->Prop}
  (h1:∀k s,k<n->ι s=((k:Nat):Int)->Inv k s->Ok (body s) (KY (λs'=>ι s'=((k+1:Nat):Int)/\Inv (k+1) s') Go Rt))
  (h2:∀s,ι s=((n:Nat):Int)->Inv n s->Ok (body s) (KY (λ_=>False) Go Rt))
  {k0:Nat} (hk:k0<=n) (hi:ι s=((k0:Nat):Int)) (h0:Inv k0 s) (hn:n<N):Ok (Gk.mZ body N s) (Nf Go Rt):=by
 refine Rx (λs=>∃k:Nat,k<=n/\ι s=((k:Nat):Int)/\Inv k s) (λs=>n -(ι s).toNat) ?_ ⟨k0,hk,hi,h0⟩ (by omega);rintro s⟨k,hk,e,hI⟩
 by_cases hlt:k<n
 ·refine(h1 k s hlt e hI).mono ?_;rintro(s'|s'|r)hp
  ·have hp1:ι s'=((k+1:Nat):Int):=hp.1;exact⟨⟨k+1,hlt,hp.1,hp.2⟩,by omega⟩
  ·exact hp
  ·exact hp
 grind
end
section
variable {N:Nat}
end
section
variable {α:Type}[DecidableEq α]{N:Nat}
end
section
variable {N:Nat}
end
end Go.Gk
