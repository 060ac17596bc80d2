/-
  Helping texts: plain functions and plain laws. No statement of the seed is proved here.
-/
import Derived.Test.YtammmhakmgielaaGreatDoorA1
import Derived.ChangeShapes
import Derived.ChangeSame
import Derived.Carry
import Derived.RowKit
import Derived.Test.YtammmhakmgielaaGreatDoorA2
set_option linter.unusedVariables false
set_option linter.unusedSimpArgs false
set_option linter.unusedSectionVars false
namespace Go.Gk
open Go IntKind
noncomputable section
structure aV where
 Name:aL
 Kind:Int
 dI:Int
 deriving DecidableEq,Inhabited
structure aD where
 Name:aL
 bA:List aV
 deriving DecidableEq,Inhabited
structure Part where
 Name:aL
 eC:aL
 deriving DecidableEq,Inhabited
structure iU where
 Name:aL
 aF:aL
 deriving DecidableEq,Inhabited
structure aT where
 Part:aL
 aT:aL
 deriving DecidableEq,Inhabited
structure Net where
 Name:aL
 bA:List aT
 aX:List aL
 deriving DecidableEq,Inhabited
structure aF where
 Name:aL
 aX:List aL
 bB:List Part
 Uses:List iU
 aO:List Net
 deriving DecidableEq,Inhabited
structure aW where
 bB:List Part
 aO:List Net
 deriving DecidableEq,Inhabited
structure aS where
 e0:Int
 e1:Int
 deriving DecidableEq,Inhabited
def aS.st(x:aS)(k:Fin 2)(y:Int):aS:=if k.val=0 then{x with e0:=y}else{x with e1:=y}
structure aA where
 path:aL
 words:Int
 deriving DecidableEq,Inhabited
def dZ(N:Nat)(p0:aL)(p1:Int):Option Int:=
 some (Lib.indexByte p0.aU (Int.toNat p1).toUInt8)
def eK(N:Nat)(p0:aL)(p1:Int):Option Int:=
 (dZ N p0 p1).bind λj=>some j
def bN(N:Nat)(p0:aL):Option Bool:=
 (ly p0.aU.length (λ(o:Nat)(aa:Unit)=>((wT p0 (o:Int)).bind λj=>(bif((decide ((j.toNat:Int)<65)||decide ((j.toNat:Int)>90))&&(decide ((j.toNat:Int)<97)||decide ((j.toNat:Int)>122)))&&(decide ((j.toNat:Int)<48)||decide ((j.toNat:Int)>57))then((eK N (⟨[95,43,45,35]⟩) (j.toNat:Int)).bind λab=>some<|decide<|ab<0)else some false).bind λad=>bif ad then some (.rt false)else(some<|.nx ()):Option (Fl Unit Bool))) ()).bind λae=>ae.cs (λ(aa:Unit)=>some<|decide ((p0.aU.length:Int)>=1)&&decide ((p0.aU.length:Int)<=40))<|λr=>some r
def cU(N:Nat)(p0 p1:aV):Option Bool:=
 (bif decide (p1.dI>0)then(bif p0.dI==p1.dI then some (p0.Kind != p1.Kind)else some false)else some false).bind λj=>some j
def ga(N:Nat)(p0:List aV)(p1:aV->Option Bool):Option Int:=
 (ly p0.length (λ(j:Nat)(o:Unit)=>((idx p0 (j:Int)).bind λaa=>(p1 aa).bind λab=>bif ab then some (.rt (j:Int))else(some<|.nx ()):Option (Fl Unit Int))) ()).bind λad=>ad.cs (λ(o:Unit)=>some<|-1)<|λr=>some r
def dP(N:Nat)(p0:List aV)(p1:aV->Option Bool):Option Bool:=
 (ga N p0 p1).bind λj=>some<|decide<|j>=0
def fX(N:Nat)(p0:List aV):Option Int:=
 bif(p0.length:Int)==0 then some 9 else(bif decide ((p0.length:Int)>200)then some 2 else((ly p0.length (λ(o:Nat)(ad:Unit)=>((idx p0 (o:Int)).bind λj=>(bN N j.Name).bind λae=>bif(!ae)then some (.rt 5)else(bif decide (j.Kind<1)||decide (j.Kind>7)then some (.rt 4)else(bif decide (j.dI<0)||decide (j.dI>200)then some (.rt 1)else((bif decide ((o:Int)>0)then((idx p0<|wrap .i64<|(o:Int) - 1).bind λaa=>some<|j.Name.mx aa.Name||j.Name.iw aa.Name)else some false).bind λaf=>bif af then some (.rt 8)else some (.nx ())))):Option (Fl Unit Int))) ()).bind λag=>ag.cs (λ(ad:Unit)=>(ly p0.length (λ(ab:Nat)(ah:Unit)=>((idx p0 (ab:Int)).bind λai=>(z5 p0 0 (ab:Int)).bind λaj=>(dP N aj<|λy0=>cU N y0 ai).bind λak=>bif ak then some (.rt 12)else(some<|.nx ()):Option (Fl Unit Int))) ()).bind λal=>al.cs (λ(ah:Unit)=>some 0)<|λr=>some r)<|λr=>some r))
def eA(N:Nat)(p0:List aD):Option Int:=
 bif decide ((p0.length:Int)>200)then some 2 else((ly p0.length (λ(o:Nat)(ad:Unit)=>((idx p0 (o:Int)).bind λj=>(bN N j.Name).bind λae=>bif(!ae)then some (.rt 5)else((fX N j.bA).bind λaa=>bif aa != 0 then some (.rt aa)else((bif decide ((o:Int)>0)then((idx p0<|wrap .i64<|(o:Int) - 1).bind λab=>some<|j.Name.mx ab.Name||j.Name.iw ab.Name)else some false).bind λaf=>bif af then some (.rt 8)else some (.nx ()))):Option (Fl Unit Int))) ()).bind λag=>ag.cs (λ(ad:Unit)=>some 0)<|λr=>some r)
def dV(N:Nat)(p0:List aL)(p1:Int)(p2:aL->Option Bool)(p3:Int):Option Int:=
 bif decide ((p0.length:Int)>p1)then some 2 else((ly p0.length (λ(j:Nat)(ab:Unit)=>((idx p0 (j:Int)).bind λo=>(p2 o).bind λad=>bif(!ad)then some (.rt p3)else((bif decide ((j:Int)>0)then((idx p0<|wrap .i64<|(j:Int) - 1).bind λaa=>some<|o.mx aa||o.iw aa)else some false).bind λae=>bif ae then some (.rt 8)else some (.nx ())):Option (Fl Unit Int))) ()).bind λaf=>af.cs (λ(ab:Unit)=>some 0)<|λr=>some r)
def bW(N:Nat)(p0:List aD)(p1:aL)(p2:aD->aL->Option Int):Option (Int×Bool):=
 (sb (λ(j:Int×Int)=>(bif decide (j.1<j.2)then((idx p0<|wrap .i64<|Int.fdiv (wrap .u64<|wrap .i64<|j.1+j.2) 2).bind λaa=>(p2 aa p1).bind λab=>(bif decide (ab<0)then some (wrap .i64<|wrap .i64 (Int.fdiv (wrap .u64<|wrap .i64<|j.1+j.2) 2)+1,j.2)else some (j.1,wrap .i64<|Int.fdiv (wrap .u64<|wrap .i64<|j.1+j.2) 2)).bind λo=>some<|.nx (o.1,o.2))else(some<|.br (j.1,j.2)):Option (Fl (Int×Int) Empty))) N (0,(p0.length:Int))).bind λad=>ad.cs (λ(j:Int×Int)=>(bif decide (j.1<(p0.length:Int))then((idx p0 j.1).bind λae=>(p2 ae p1).bind λaf=>some<|af==0)else some false).bind λag=>some (j.1,ag))<|λr=>r.elim
def gR(N:Nat)(p0 p1:aL):Option Int:=
 some (Lib.compareBytes p0.aU p1.aU)
def cI(N:Nat)(p0 p1:aL):Option Int:=
 (gR N p0 p1).bind λj=>some j
def eL(N:Nat)(p0:aD)(p1:aL):Option Int:=
 (cI N p0.Name p1).bind λj=>some j
def fF(N:Nat)(p0:List aD)(p1:aL):Option Int:=
 (bW N p0 p1<|eL N).bind λj=>bif(!j.2)then some (-1)else some j.1
def cF(N:Nat)(p0:List aD)(p1:List Part)(p2:aL->Option Bool):Option Int:=
 bif decide ((p1.length:Int)>1000)then some 2 else((ly p1.length (λ(o:Nat)(ab:Unit)=>((idx p1 (o:Int)).bind λj=>(p2 j.Name).bind λad=>bif(!ad)then some (.rt 5)else((fF N p0 j.eC).bind λae=>bif decide (ae<0)then some (.rt 9)else((bif decide ((o:Int)>0)then((idx p1<|wrap .i64<|(o:Int) - 1).bind λaa=>some<|j.Name.mx aa.Name||j.Name.iw aa.Name)else some false).bind λaf=>bif af then some (.rt 8)else some (.nx ()))):Option (Fl Unit Int))) ()).bind λag=>ag.cs (λ(ab:Unit)=>some 0)<|λr=>some r)
def cE(N:Nat)(p0:List Part)(p1:aL)(p2:Part->aL->Option Int):Option (Int×Bool):=
 (sb (λ(j:Int×Int)=>(bif decide (j.1<j.2)then((idx p0<|wrap .i64<|Int.fdiv (wrap .u64<|wrap .i64<|j.1+j.2) 2).bind λaa=>(p2 aa p1).bind λab=>(bif decide (ab<0)then some (wrap .i64<|wrap .i64 (Int.fdiv (wrap .u64<|wrap .i64<|j.1+j.2) 2)+1,j.2)else some (j.1,wrap .i64<|Int.fdiv (wrap .u64<|wrap .i64<|j.1+j.2) 2)).bind λo=>some<|.nx (o.1,o.2))else(some<|.br (j.1,j.2)):Option (Fl (Int×Int) Empty))) N (0,(p0.length:Int))).bind λad=>ad.cs (λ(j:Int×Int)=>(bif decide (j.1<(p0.length:Int))then((idx p0 j.1).bind λae=>(p2 ae p1).bind λaf=>some<|af==0)else some false).bind λag=>some (j.1,ag))<|λr=>r.elim
def eM(N:Nat)(p0:Part)(p1:aL):Option Int:=
 (cI N p0.Name p1).bind λj=>some j
def gq(N:Nat)(p0:List Part)(p1:aL):Option Int:=
 (cE N p0 p1<|eM N).bind λj=>bif(!j.2)then some (-1)else some j.1
def fG(N:Nat)(p0:aF)(p1:aL):Option Bool:=
 some (p0.Name.iw p1)
def gE(N:Nat)(p0:List aF)(p1:aF->Option Bool):Option Int:=
 (ly p0.length (λ(j:Nat)(o:Unit)=>((idx p0 (j:Int)).bind λaa=>(p1 aa).bind λab=>bif ab then some (.rt (j:Int))else(some<|.nx ()):Option (Fl Unit Int))) ()).bind λad=>ad.cs (λ(o:Unit)=>some<|-1)<|λr=>some r
def cJ(N:Nat)(p0:List aF)(p1:aL):Option Int:=
 (gE N p0<|λy0=>fG N y0 p1).bind λj=>some j
def eN(N:Nat)(p0:List aF)(p1:aF):Option Int:=
 bif decide ((p1.Uses.length:Int)>100)then some 2 else((ly p1.Uses.length (λ(o:Nat)(ab:Unit)=>((idx p1.Uses (o:Int)).bind λj=>(bN N j.Name).bind λad=>bif(!ad)then some (.rt 5)else((gq N p1.bB j.Name).bind λae=>bif decide (ae>=0)then some (.rt 7)else((cJ N p0 j.aF).bind λaf=>bif decide (af<0)then some (.rt 9)else((bif decide ((o:Int)>0)then((idx p1.Uses<|wrap .i64<|(o:Int) - 1).bind λaa=>some<|j.Name.mx aa.Name||j.Name.iw aa.Name)else some false).bind λag=>bif ag then some (.rt 8)else some (.nx ())))):Option (Fl Unit Int))) ()).bind λah=>ah.cs (λ(ab:Unit)=>some 0)<|λr=>some r)
def gr(N:Nat)(p0:iU)(p1:aL):Option Bool:=
 some (p0.Name.iw p1)
def gZ(N:Nat)(p0:List iU)(p1:iU->Option Bool):Option Int:=
 (ly p0.length (λ(j:Nat)(o:Unit)=>((idx p0 (j:Int)).bind λaa=>(p1 aa).bind λab=>bif ab then some (.rt (j:Int))else(some<|.nx ()):Option (Fl Unit Int))) ()).bind λad=>ad.cs (λ(o:Unit)=>some<|-1)<|λr=>some r
def eY(N:Nat)(p0:List iU)(p1:aL):Option Int:=
 (gZ N p0<|λy0=>gr N y0 p1).bind λj=>some j
def iy(N:Nat)(p0:List aL)(p1:aL):Option Int:=
 (ly p0.length (λ(j:Nat)(o:Unit)=>((idx p0 (j:Int)).bind λaa=>bif p1.iw aa then some (.rt (j:Int))else(some<|.nx ()):Option (Fl Unit Int))) ()).bind λab=>ab.cs (λ(o:Unit)=>some<|-1)<|λr=>some r
def cY(N:Nat)(p0:List aL)(p1:aL):Option Bool:=
 (iy N p0 p1).bind λj=>some<|decide<|j>=0
def cA(N:Nat)(p0:List aV)(p1:aL)(p2:aV->aL->Option Int):Option (Int×Bool):=
 (sb (λ(j:Int×Int)=>(bif decide (j.1<j.2)then((idx p0<|wrap .i64<|Int.fdiv (wrap .u64<|wrap .i64<|j.1+j.2) 2).bind λaa=>(p2 aa p1).bind λab=>(bif decide (ab<0)then some (wrap .i64<|wrap .i64 (Int.fdiv (wrap .u64<|wrap .i64<|j.1+j.2) 2)+1,j.2)else some (j.1,wrap .i64<|Int.fdiv (wrap .u64<|wrap .i64<|j.1+j.2) 2)).bind λo=>some<|.nx (o.1,o.2))else(some<|.br (j.1,j.2)):Option (Fl (Int×Int) Empty))) N (0,(p0.length:Int))).bind λad=>ad.cs (λ(j:Int×Int)=>(bif decide (j.1<(p0.length:Int))then((idx p0 j.1).bind λae=>(p2 ae p1).bind λaf=>some<|af==0)else some false).bind λag=>some (j.1,ag))<|λr=>r.elim
def fC(N:Nat)(p0:aV)(p1:aL):Option Int:=
 (cI N p0.Name p1).bind λj=>some j
def iA(N:Nat)(p0:aD)(p1:aL):Option Int:=
 (cA N p0.bA p1<|fC N).bind λj=>bif(!j.2)then some (-1)else some j.1
def g0(N:Nat)(p0:List aD)(p1:List Part)(p2:aT):Option Bool:=
 (gq N p1 p2.Part).bind λj=>(bif decide (j>=0)then((idx p1 j).bind λo=>(fF N p0 o.eC).bind λaa=>(idx p0 aa).bind λab=>(iA N ab p2.aT).bind λad=>some<|decide<|ad>=0)else some false).bind λae=>some ae
def eG(N:Nat)(p0:aT)(p1:aF)(p2:List aF)(p3:List aD):Option Bool:=
 (eY N p1.Uses p0.Part).bind λj=>bif decide (j>=0)then((idx p1.Uses j).bind λo=>(cJ N p2 o.aF).bind λaa=>(idx p2 aa).bind λab=>(cY N ab.aX p0.aT).bind λad=>some ad)else((g0 N p3 p1.bB p0).bind λae=>some ae)
def cN(N:Nat)(p0 p1:aT):Option Int:=
 (cI N p0.Part p1.Part).bind λj=>bif j != 0 then some j else((cI N p0.aT p1.aT).bind λo=>some o)
def cV(N:Nat)(p0:List aT)(p1:aT->Option Bool)(p2:List (aT×Bool)):Option (Int×List (aT×Bool)):=
 bif decide ((p0.length:Int)>500)then some (2,p2)else((ly p0.length (λ(j:Nat)(ab:Unit)=>((idx p0 (j:Int)).bind λo=>(p1 o).bind λad=>bif(!ad)then some (.rt (9,p2))else((bif decide ((j:Int)>0)then((idx p0<|wrap .i64<|(j:Int) - 1).bind λae=>(cN N o ae).bind λaf=>some<|decide<|af<=0)else some false).bind λag=>bif ag then some (.rt (8,p2))else(bif bV p2 o (false:Bool)then some (.rt (7,p2))else some (.nx ()))):Option (Fl Unit<|Int×List (aT×Bool)))) ()).bind λah=>ah.cs (λ(ab:Unit)=>(lz p0.length (λ(ai:Nat)(aa:List (aT×Bool))=>((idx p0 (ai:Int)).bind λaj=>some (dG aa aj true):Option (List<|aT×Bool))) p2).bind λaa=>some (0,aa))<|λr=>some r)
def eO(N:Nat)(p0:List aD)(p1:List aF)(p2:aF):Option Int:=
 bif decide ((p2.aO.length:Int)>1000)then some 2 else((ly p2.aO.length (λ(ab:Nat)(o:List (aT×Bool)×List (aL×Bool))=>((idx p2.aO (ab:Int)).bind λj=>(bN N j.Name).bind λai=>bif(!ai)then some (.rt 5)else((cV N j.bA (λy0=>eG N y0 p2 p1 p0) o.1).bind λad=>bif ad.1 != 0 then some (.rt ad.1)else(bif decide ((j.aX.length:Int)>100)then some (.rt 2)else((ly j.aX.length (λ(ae:Nat)(aj:Unit)=>((idx j.aX (ae:Int)).bind λaa=>(cY N p2.aX aa).bind λak=>bif(!ak)then some (.rt 9)else((bif decide ((ae:Int)>0)then((idx j.aX<|wrap .i64<|(ae:Int) - 1).bind λag=>some<|aa.mx ag||aa.iw ag)else some false).bind λal=>bif al then some (.rt 8)else(bif bV o.2 aa (false:Bool)then some (.rt 7)else some (.nx ()))):Option (Fl Unit Int))) ()).bind λan=>an.cs (λ(aj:Unit)=>(lz j.aX.length (λ(ao:Nat)(af:List (aL×Bool))=>((idx j.aX (ao:Int)).bind λaq=>some (dG af aq true):Option (List<|aL×Bool))) o.2).bind λaf=>(bif decide ((ab:Int)>0)then((idx p2.aO<|wrap .i64<|(ab:Int) - 1).bind λah=>some<|j.Name.mx ah.Name||j.Name.iw ah.Name)else some false).bind λar=>bif ar then some (.rt 8)else some (.nx (ad.2,af)))<|λr=>some<|.rt r))):Option (Fl (List (aT×Bool)×List (aL×Bool)) Int))) (([]:List (aT×Bool)),([]:List (aL×Bool)))).bind λau=>au.cs (λ(o:List (aT×Bool)×List (aL×Bool))=>some 0)<|λr=>some r)
def gJ(N:Nat)(rc:List aF->Int->List Int->Option (Bool×List Int))(p0:List aF)(p1:Int)(p2:List Int):Option (Bool×List Int):=
 (idx p2 p1).bind λab=>bif decide (ab>0)then((idx p2 p1).bind λad=>some (ad==1,p2))else((idx p2 p1).bind λai=>(idx p0 p1).bind λaa=>(ly aa.Uses.length (λ(ae:Nat)(j:List Int)=>((idx aa.Uses (ae:Int)).bind λaf=>(cJ N p0 af.aF).bind λag=>(rc p0 ag j).bind λo=>bif o.1 then some (.rt (true,o.2))else(some<|.nx o.2):Option (Fl (List Int)<|Bool×List Int)))<|p2.set (Int.toNat p1) 1).bind λah=>ah.cs (λ(j:List Int)=>(idx j p1).bind λaj=>some (false,j.set (Int.toNat p1) 2))<|λr=>some r)
def gK(N:Nat):Nat->List aF->Int->List Int->Option (Bool×List Int)
 | 0=>λ_ _ _=>none
 |d+1=>gJ N (gK N d)
def lb(N:Nat)(p0:List aF)(p1:Int)(p2:List Int):Option (Bool×List Int):=gK N N p0 p1 p2
def eV(N:Nat)(p0:List aD)(p1:List aF):Option Int:=
 (eA N p0).bind λaa=>bif aa != 0 then some aa else(bif decide ((p1.length:Int)>100)then some 2 else((ly p1.length (λ(o:Nat)(ai:Unit)=>((idx p1 (o:Int)).bind λj=>(bN N j.Name).bind λaj=>bif(!aj)then some (.rt 5)else((dV N j.aX 100 (bN N) 5).bind λab=>bif ab != 0 then some (.rt ab)else((cF N p0 j.bB<|bN N).bind λad=>bif ad != 0 then some (.rt ad)else((eN N p1 j).bind λae=>bif ae != 0 then some (.rt ae)else((eO N p0 p1 j).bind λaf=>bif af != 0 then some (.rt af)else((bif decide ((o:Int)>0)then((idx p1<|wrap .i64<|(o:Int) - 1).bind λag=>some<|j.Name.mx ag.Name||j.Name.iw ag.Name)else some false).bind λak=>bif ak then some (.rt 8)else some (.nx ())))))):Option (Fl Unit Int))) ()).bind λal=>al.cs (λ(ai:Unit)=>(mk 8 (0:Int) (p1.length:Int)).bind λan=>(ly p1.length (λ(ao:Nat)(ah:List Int)=>((lb N p1 (ao:Int) ah).bind λz8=>bif z8.1 then some (.rt 17)else(some<|.nx z8.2):Option (Fl (List Int) Int))) an).bind λaq=>aq.cs (λ(ah:List Int)=>some 0)<|λr=>some r)<|λr=>some r))
def g7(N:Nat)(rc:List aF->Int->List (Int×aS)->Option (aS×List (Int×aS)))(p0:List aF)(p1:Int)(p2:List (Int×aS)):Option (aS×List (Int×aS)):=
 bif fB p2 p1 then some (bV p2 p1 (⟨0,0⟩:aS),p2)else((idx p0 p1).bind λab=>(idx p0 p1).bind λaa=>(lz aa.Uses.length (λ(ad:Nat)(j:List (Int×aS)×aS)=>((idx aa.Uses (ad:Int)).bind λae=>(cJ N p0 ae.aF).bind λaf=>(rc p0 af j.1).bind λo=>some (o.2,{{j.2 with e0:=(if 2001<(wrap .i64<|j.2.e0+o.1.e0)then 2001 else wrap .i64 (j.2.e0+o.1.e0))}with e1:=(if 1001<(wrap .i64<|j.2.e1+o.1.e1)then 1001 else wrap .i64 (j.2.e1+o.1.e1))}):Option (List (Int×aS)×aS))) (p2,(⟨1,(ab.bB.length:Int)⟩:aS))).bind λj=>some (j.2,dG j.1 p1 j.2))
def g8(N:Nat):Nat->List aF->Int->List (Int×aS)->Option (aS×List (Int×aS))
 | 0=>λ_ _ _=>none
 |d+1=>g7 N (g8 N d)
def j6(N:Nat)(p0:List aF)(p1:Int)(p2:List (Int×aS)):Option (aS×List (Int×aS)):=g8 N N p0 p1 p2
def bK(N:Nat)(p0_4:List Int)(p1:Int):Option (Int×List Int):=
 (sb (λ(j:List Int×Int)=>((idx j.1 j.2).bind λaa=>bif aa != j.2 then((idx j.1 j.2).bind λab=>(idx j.1 ab).bind λo=>(idx j.1 j.2).bind λaf=>(idx (j.1.set (Int.toNat j.2) o) j.2).bind λad=>some<|.nx (j.1.set (Int.toNat j.2) o,ad))else(some<|.br (j.1,j.2)):Option (Fl (List Int×Int) Empty))) N (p0_4,p1)).bind λae=>ae.cs (λ(j:List Int×Int)=>some (j.2,j.1))<|λr=>r.elim
def dA(N:Nat)(rc:List aF->List Part->List aA->List (List aT)->List Int->Int->aL->Int->Option (List (aL×Int)×List Part×List aA×List (List aT)×List Int))(p0_0:List aF)(p0_1:List Part)(p0_2:List aA)(p0_3:List (List aT))(p0_4:List Int)(p1:Int)(p2:aL)(p3:Int):Option (List (aL×Int)×List Part×List aA×List (List aT)×List Int):=
 (idx p0_0 p1).bind λab=>(lz ab.bB.length (λ(av:Nat)(ak:List Part)=>((idx ab.bB (av:Int)).bind λao=>(mR p2 ao.Name).bind λaw=>(app 32 ak ([(⟨aw,ao.eC⟩:Part)]:List Part)).bind λax=>some ax:Option (List Part))) p0_1).bind λak=>(lz ab.aO.length (λ(ay:Nat)(j:List aA×List (List aT)×List Int×List (aL×Int)×List (aT×Int))=>((idx ab.aO (ay:Int)).bind λag=>(mR p2 ag.Name).bind λaz=>(app 24 j.1 ([(⟨az,wrap .i64<|p3+1⟩:aA)]:List aA)).bind λa0=>(app 8 j.2.2.1 ([(j.1.length:Int)]:List Int)).bind λa1=>(lz ag.bA.length (λ(a2:Nat)(ae:List (aT×Int)×List aT)=>((idx ag.bA (a2:Int)).bind λah=>(eY N ab.Uses ah.Part).bind λa3=>(bif decide (a3<0)then((mR p2 ah.Part).bind λa4=>(app 32 ae.2 ([(⟨a4,ah.aT⟩:aT)]:List aT)).bind λa5=>some a5)else some ae.2).bind λa6=>some (dG ae.1 ah (j.1.length:Int),a6):Option (List (aT×Int)×List aT))) (j.2.2.2.2,([]:List aT))).bind λae=>(app 24 j.2.1 ([ae.2]:List (List aT))).bind λa7=>some (a0,a7,a1,dG j.2.2.2.1 ag.Name (j.1.length:Int),ae.1):Option (List aA×List (List aT)×List Int×List (aL×Int)×List (aT×Int)))) (p0_2,p0_3,p0_4,([]:List (aL×Int)),([]:List (aT×Int)))).bind λj=>(lz ab.Uses.length (λ(a8:Nat)(o:List Part×List aA×List (List aT)×List Int)=>((idx ab.Uses (a8:Int)).bind λai=>(cJ N p0_0 ai.aF).bind λaq=>(mR p2 ai.Name).bind λa9=>(mR a9<|⟨[47]⟩).bind λba=>(rc p0_0 o.1 o.2.1 o.2.2.1 o.2.2.2 aq ba<|wrap .i64<|p3+1).bind λaf=>(idx p0_0 aq).bind λar=>(lz ar.aO.length (λ(bb:Nat)(al:List Int)=>((idx ar.aO (bb:Int)).bind λan=>(lz an.aX.length (λ(bc:Nat)(aj:List Int)=>((idx an.aX (bc:Int)).bind λau=>(bif fB j.2.2.2.2 (⟨ai.Name,au⟩:aT)then((bK N aj<|bV j.2.2.2.2 (⟨ai.Name,au⟩:aT) (0:Int)).bind λad=>(bK N ad.2<|bV af.1 an.Name (0:Int)).bind λaa=>(idx aa.2 (if ad.1<aa.1 then aa.1 else ad.1)).bind λbf=>some<|aa.2.set (Int.toNat (if ad.1<aa.1 then aa.1 else ad.1)) (if aa.1<ad.1 then aa.1 else ad.1))else some aj).bind λbd=>some bd:Option (List Int))) al).bind λaj=>some aj:Option (List Int))) af.2.2.2.2).bind λal=>some (af.2.1,af.2.2.1,af.2.2.2.1,al):Option (List Part×List aA×List (List aT)×List Int))) (ak,j.1,j.2.1,j.2.2.1)).bind λo=>some (j.2.2.2.1,o.1,o.2.1,o.2.2.1,o.2.2.2)
def dB(N:Nat):Nat->List aF->List Part->List aA->List (List aT)->List Int->Int->aL->Int->Option (List (aL×Int)×List Part×List aA×List (List aT)×List Int)
 | 0=>λ_ _ _ _ _ _ _ _=>none
 |d+1=>dA N (dB N d)
def gu(N:Nat)(p0_0:List aF)(p0_1:List Part)(p0_2:List aA)(p0_3:List (List aT))(p0_4:List Int)(p1:Int)(p2:aL)(p3:Int):Option (List (aL×Int)×List Part×List aA×List (List aT)×List Int):=dB N N p0_0 p0_1 p0_2 p0_3 p0_4 p1 p2 p3
def iB(N:Nat)(p0:Int):Option Bool:=
 some (p0 != p0)
def gL(N:Nat)(p0 p1:Int):Option Int:=
 (iB N p0).bind λo=>(iB N p1).bind λj=>bif o then(bif j then some 0 else some (-1))else(bif j then some 1 else(bif decide (p0<p1)then some (-1)else(bif decide (p0>p1)then some 1 else some 0)))
def km(N:Nat)(p0:List Int):Option Int:=
 (ly p0.length (λ(o:Nat)(aa:Unit)=>((idx p0 (o:Int)).bind λj=>bif j != 0 then some (.rt j)else(some<|.nx ()):Option (Fl Unit Int))) ()).bind λab=>ab.cs (λ(aa:Unit)=>some 0)<|λr=>some r
def cG(N:Nat)(p0 p1:aA):Option Int:=
 (gL N p0.words p1.words).bind λj=>(cI N p0.path p1.path).bind λo=>(km N ([j,o]:List Int)).bind λaa=>some aa
def dX(N:Nat)(p0 p1:Part):Option Int:=
 (cI N p0.Name p1.Name).bind λj=>some j
def gS(N:Nat)(p0:List Part)(p1:Part->Option Bool):Option Int:=
 (ly p0.length (λ(j:Nat)(o:Unit)=>((idx p0 (j:Int)).bind λaa=>(p1 aa).bind λab=>bif ab then some (.rt (j:Int))else(some<|.nx ()):Option (Fl Unit Int))) ()).bind λad=>ad.cs (λ(o:Unit)=>some<|-1)<|λr=>some r
def dJ(N:Nat)(p0:List Part)(p1:Part->Option Bool):Option Bool:=
 (gS N p0 p1).bind λj=>some<|decide<|j>=0
def bY(N:Nat)(p0:Part):Option Bool:=
 some (decide<|(p0.Name.aU.length:Int)>200)
def dC(N:Nat)(p0 p1:Net):Option Int:=
 (cI N p0.Name p1.Name).bind λj=>some j
def dR(N:Nat)(p0_1:List Part)(p0_2:List aA)(p0_3:List (List aT))(p0_4:List Int):Option (aW×Bool×List Part×List Int):=
 (lz p0_2.length (λ(ae:Nat)(j:List Int×List (Int×aA)×List (Int×List aT))=>((idx p0_2 (ae:Int)).bind λaf=>(bK N j.1 (ae:Int)).bind λaa=>(bif(!(fB j.2.1 aa.1))then some true else((cG N af<|bV j.2.1 aa.1 (⟨⟨[]⟩,0⟩:aA)).bind λai=>some<|decide<|ai<0)).bind λaj=>(bif aj then some (dG j.2.1 aa.1 af)else some j.2.1).bind λak=>(idx p0_3 (ae:Int)).bind λal=>(app 32 (bV j.2.2 aa.1 ([]:List aT)) al).bind λwX=>some (aa.2,ak,dG j.2.2 aa.1 wX):Option (List Int×List (Int×aA)×List (Int×List aT)))) (p0_4,([]:List (Int×aA)),([]:List (Int×List aT)))).bind λj=>(lB (dX N) p0_1).bind λab=>(dJ N ab<|bY N).bind λan=>uz j.2.2 (λ(ad:Int×List aT)(o:List Net×Bool)=>(bif(ad.2.length:Int)==0 then some (.nx (o.1,o.2))else((lB (cN N) ad.2).bind λag=>(app 64 o.1 ([(⟨(bV j.2.1 ad.1 (⟨⟨[]⟩,0⟩:aA)).path,ag,[]⟩:Net)]:List Net)).bind λao=>(bif o.2 then(bif decide (((((bV j.2.1 ad.1 (⟨⟨[]⟩,0⟩:aA)).path).aU.length:Nat):Int)<=200)then some (decide<|(ag.length:Int)<=500)else some false)else some false).bind λaq=>some<|.nx (ao,aq)):Option (Fl (List Net×Bool) Empty))) (([]:List Net),(!an)) (λ(o:List Net×Bool)=>(lB (dC N) o.1).bind λah=>(bif o.2 then some (decide<|((((⟨ab,ah⟩:aW).aO).length:Nat):Int)<=1000)else some false).bind λar=>some ((⟨ab,ah⟩:aW),ar,ab,j.1))<|λr=>r.elim
def dM(N:Nat)(p0:List aD)(p1:List aF)(p2:aL):Option (aW×Int):=
 (eV N p0 p1).bind λaa=>bif aa != 0 then some ((⟨([]:List Part),([]:List Net)⟩:aW),aa)else((cJ N p1 p2).bind λo=>bif decide (o<0)then some ((⟨([]:List Part),([]:List Net)⟩:aW),9)else((j6 N p1 o ([]:List (Int×aS))).bind λab=>(bif decide (ab.1.e0>2000)then some true else some (decide<|ab.1.e1>1000)).bind λae=>bif ae then some ((⟨([]:List Part),([]:List Net)⟩:aW),2)else((gu N p1 ([]:List Part) ([]:List aA) ([]:List (List aT)) ([]:List Int) o (⟨[]⟩) 0).bind λj=>(dR N j.2.1 j.2.2.1 j.2.2.2.1 j.2.2.2.2).bind λad=>bif(!ad.2.1)then some ((⟨([]:List Part),([]:List Net)⟩:aW),2)else some (ad.1,0))))
def fY(N:Nat)(p0 p1:aL):Option Int:=
 bif((p1.aU.length:Int)==0)||p1.iw p0 then some 0 else(bif(p1.aU.length:Int)==1 then((wT p1 0).bind λj=>(dZ N p0 (j.toNat:Int)).bind λo=>some o)else(bif decide ((p1.aU.length:Int)>=(p0.aU.length:Int))then some (-1)else none))
def gP(N:Nat)(p0 p1:aL):Option Int:=
 (fY N p0 p1).bind λj=>some j
def iC(N:Nat)(p0 p1:aL):Option Int:=
 bif(p1.aU.length:Int)==0 then none else(bif(p1.aU.length:Int)==1 then((wT p1 0).bind λaa=>some ((Lib.countByte p0.aU (Int.toNat (aa.toNat:Int)).toUInt8:Nat):Int))else((sb (λ(j:aL×Int)=>((gP N j.1 p1).bind λo=>bif o==(-1)then some (.rt j.2)else((oy j.1 (wrap .i64<|o+(p1.aU.length:Int)) (j.1.aU.length:Int)).bind λab=>some<|.nx (ab,wrap .i64<|j.2+1)):Option (Fl (aL×Int) Int))) N (p0,0)).bind λad=>ad.cs (λ(j:aL×Int)=>some 0)<|λr=>some r))
def ie(N:Nat)(p0 p1:aL)(p2 p3:Int):Option (List aL):=
 bif p3==0 then some ([]:List aL)else(bif p1.iw (⟨[]⟩)then none else((bif decide (p3<0)then((iC N p0 p1).bind λab=>some<|wrap .i64<|ab+1)else some p3).bind λo=>(mk 16 (⟨[]⟩:aL) (if wrap .i64 ((p0.aU.length:Int)+1)<o then wrap .i64 ((p0.aU.length:Int)+1)else o)).bind λad=>(sb (λ(j:aL×List aL×Int)=>(bif decide (j.2.2< wrap .i64 ((if wrap .i64 ((p0.aU.length:Int)+1)<o then wrap .i64 ((p0.aU.length:Int)+1)else o) - 1))then((gP N j.1 p1).bind λaa=>bif decide (aa<0)then some (.br (j.1,j.2.1,j.2.2))else((oy j.1 0<|wrap .i64<|aa+p2).bind λae=>(idx j.2.1 j.2.2).bind λai=>(oy j.1 (wrap .i64<|aa+(p1.aU.length:Int)) (j.1.aU.length:Int)).bind λaf=>some<|.nx (af,j.2.1.set (Int.toNat j.2.2) ae,wrap .i64<|j.2.2+1)))else(some<|.br (j.1,j.2.1,j.2.2)):Option (Fl (aL×List aL×Int) Empty))) N (p0,ad,0)).bind λag=>ag.cs (λ(j:aL×List aL×Int)=>(idx j.2.1 j.2.2).bind λaj=>(z5 (j.2.1.set (Int.toNat j.2.2) j.1) 0<|wrap .i64<|j.2.2+1).bind λah=>some ah)<|λr=>r.elim))
def iD(N:Nat)(p0 p1:aL):Option (List aL):=
 (ie N p0 p1 0<|-1).bind λj=>some j
def gv(N:Nat)(p0:List aL)(p1:aL->Option Bool):Option Int:=
 (ly p0.length (λ(j:Nat)(o:Unit)=>((idx p0 (j:Int)).bind λaa=>(p1 aa).bind λab=>bif ab then some (.rt (j:Int))else(some<|.nx ()):Option (Fl Unit Int))) ()).bind λad=>ad.cs (λ(o:Unit)=>some<|-1)<|λr=>some r
def dS(N:Nat)(p0:List aL)(p1:aL->Option Bool):Option Bool:=
 (gv N p0 p1).bind λj=>some<|decide<|j>=0
def dT(N:Nat)(p0:aL):Option Bool:=
 (bN N p0).bind λj=>some<|!j
def fH(N:Nat)(p0:aL):Option Bool:=
 (bif decide ((p0.aU.length:Int)<=200)then((iD N p0<|⟨[47]⟩).bind λj=>(dS N j<|dT N).bind λo=>some<|!o)else some false).bind λaa=>some aa
def fZ(N:Nat)(p0:aT)(p1:List aD)(p2:aW):Option Bool:=
 (g0 N p1 p2.bB p0).bind λj=>some j
def eQ(N:Nat)(p0:List aD)(p1:aW):Option Int:=
 (eA N p0).bind λab=>bif ab != 0 then some ab else((cF N p0 p1.bB<|fH N).bind λad=>bif ad != 0 then some ad else(bif decide ((p1.aO.length:Int)>1000)then some 2 else((ly p1.aO.length (λ(o:Nat)(ae:List (aT×Bool))=>((idx p1.aO (o:Int)).bind λj=>(fH N j.Name).bind λag=>bif(!ag)then some (.rt 5)else(bif(j.bA.length:Int)==0 then some (.rt 9)else((cV N j.bA (λy0=>fZ N y0 p0 p1) ae).bind λaa=>bif aa.1 != 0 then some (.rt aa.1)else(bif decide ((j.aX.length:Int)>0)then some (.rt 3)else((bif decide ((o:Int)>0)then((idx p1.aO<|wrap .i64<|(o:Int) - 1).bind λaf=>some<|j.Name.mx af.Name||j.Name.iw af.Name)else some false).bind λah=>bif ah then some (.rt 8)else some (.nx aa.2))))):Option (Fl (List<|aT×Bool) Int))) ([]:List (aT×Bool))).bind λai=>ai.cs (λ(ae:List (aT×Bool))=>some 0)<|λr=>some r)))
def l7(N:Nat)(p0:aW):Option (List<|aT×Int):=
 (lz p0.aO.length (λ(aa:Nat)(j:List (aT×Int))=>((idx p0.aO (aa:Int)).bind λab=>(lz ab.bA.length (λ(ad:Nat)(o:List (aT×Int))=>((idx ab.bA (ad:Int)).bind λae=>some (dG o ae (aa:Int)):Option (List<|aT×Int))) j).bind λo=>some o:Option (List<|aT×Int))) ([]:List (aT×Int))).bind λj=>some j
def kn(N:Nat)(p0:List aD)(p1:Part):Option (List aT):=
 (fF N p0 p1.eC).bind λaa=>(idx p0 aa).bind λo=>(lz o.bA.length (λ(ab:Nat)(j:List aT)=>((idx o.bA (ab:Int)).bind λad=>(app 32 j ([(⟨p1.Name,ad.Name⟩:aT)]:List aT)).bind λae=>some ae:Option (List aT))) ([]:List aT)).bind λj=>some j
def jJ(N:Nat)(p0:List aD)(p1:aW):Option (List aT):=
 (l7 N p1).bind λad=>(lz p1.bB.length (λ(ae:Nat)(o:List aT)=>((idx p1.bB (ae:Int)).bind λaf=>(kn N p0 af).bind λaa=>(lz aa.length (λ(ag:Nat)(j:List aT)=>((idx aa (ag:Int)).bind λab=>(bif(!(fB ad ab))then((app 32 j ([ab]:List aT)).bind λah=>some ah)else some j).bind λai=>some ai:Option (List aT))) o).bind λj=>some j:Option (List aT))) ([]:List aT)).bind λo=>some o
def ld(N:Nat)(p0:List aD)(p1:aW):Option (List aT×Int):=
 (eQ N p0 p1).bind λj=>bif j != 0 then some (([]:List aT),j)else((jJ N p0 p1).bind λo=>some (o,0))
def eW(N:Nat):Option Bool:=
 (ld N ([(⟨⟨[114]⟩,([(⟨⟨[49]⟩,6,0⟩:aV)]:List aV)⟩:aD)]:List aD) (⟨([(⟨⟨[97]⟩,⟨[114]⟩⟩:Part)]:List Part),[]⟩:aW)).bind λj=>(bif j.2==0 then(bif(j.1.length:Int)==1 then((idx j.1 0).bind λo=>some<|decide<|o=(⟨⟨[97]⟩,⟨[49]⟩⟩:aT))else some false)else some false).bind λaa=>some aa
def bR(N:Nat)(p0:List aD)(p1:List aF)(p2:aL):Option Bool:=
 (dM N p0 p1 p2).bind λj=>bif j.2 != 0 then((bif(j.1.bB.length:Int)==0 then(bif(j.1.aO.length:Int)==0 then((eW N).bind λo=>some o)else some false)else some false).bind λaa=>some aa)else(((eQ N p0 j.1).bind λab=>bif ab==0 then((eW N).bind λad=>some ad)else some false).bind λae=>some ae)
end
def gi{R:Type}(m:Nat)(e:Nat->Option R):Option R:=(List.range m).findSome? e
theorem fD{R:Type}{m:Nat}{e:Nat->Option R}:gi m e=none↔∀k,k<m->e k=none:=by
 simp[gi]
theorem fQ{R:Type}{m:Nat}{e:Nat->Option R}{r:R}:gi m e=some r↔∃k,k<m/\e k=some r/\∀j,j<k->e j=none:=by
 constructor
 ·intro h;obtain⟨l1,a,l2,hl,ha,hn⟩:=List.findSome?_eq_some_iff.1 h;have hlen:l1.length<m:=by have:=congrArg List.length hl;grind
  have hget:∀i,i<l1.length->l1[i]? =some i:=λi hi=>by
   have:=congrArg (·[i]?) hl
   grind
  have hat:a=l1.length:=by
   have:=congrArg (·[l1.length]?) hl
   grind
  grind
 ·rintro⟨k,hk,he,hn⟩;refine List.findSome?_eq_some_iff.2 ⟨List.range k,k,(List.range<|m - k - 1).map (· +(k+1)),?_,he,λx hx=>hn x<|List.mem_range.1 hx⟩;refine List.ext_getElem? λi=>?_
  by_cases h1:i<k
  ·grind
  ·rw[iG (by grind),List.length_range]
   by_cases h2:i=k
   all_goals grind
theorem vR{R:Type}{m:Nat}{e e':Nat->Option R}(h:∀k,k<m->(∀j,j<k->e j=none)->(∀j,j<k->e' j=none)->e k=e' k):gi m e=gi m e':=by
 have key:∀k,k<=m->(∀j,j<k->e j=none)->∀j,j<k->e' j=none:=by
  intro k
  induction k with
  |zero=>omega
  |succ k ih=>
   grind
 have key':∀k,k<=m->(∀j,j<k->e' j=none)->∀j,j<k->e j=none:=by
  intro k
  induction k with
  |zero=>omega
  |succ k ih=>
   grind
 cases hx:gi m e with
 |none=>
  grind [fD]
 |some r=>
  grind [fQ]
theorem yv{R R':Type}{m:Nat}{e:Nat->Option R}(f:R->R'):(gi m e).map f=gi m (λk=>(e k).map f):=by
 cases hx:gi m e with
 |none=>grind [fD]
 |some r=>
  grind [fQ]
section
variable {S R:Type}
def qt(o:Option R)(s:S):Fl S R:=match o with|some r=> .rt r|none=> .nx s
def uR(o:Option R)(s:S):Fo S R:=match o with|some r=> .rt r|none=> .go s
theorem uS{body:Nat->S->Option (Fl S R)}(F:Nat->S)(e:Nat->Option R)(m:Nat):∀(n k:Nat),k+n=m->
  (∀j,k<=j->j<m->(∀i,k<=i->i<j->e i=none)->body j (F j)=some (qt (e j)<|F<|j+1))->
  ∃o,tf body n k (F k)=some o/\((∀j,k<=j->j<m->e j=none)/\o = .go (F m)\/∃j r,k<=j/\j<m/\e j=some r/\(∀i,k<=i->i<j->e i=none)/\o = .rt r)
 | 0,k,hk,_=>⟨_,rfl, .inl ⟨λj h1 h2=>by omega,by grind⟩⟩
 |n+1,k,hk,h=>by
  have hb:=h k (bP _) (by omega) (λi h1 h2=>by omega);unfold tf;rw[hb]
  cases hx:e k with
  |some r=>exact⟨_,rfl, .inr ⟨k,r,bP _,by omega,hx,λi h1 h2=>by omega,rfl⟩⟩
  |none=>
   obtain⟨o,ho,hc⟩:=uS F e m n (k+1) (by omega) (λj h1 h2 h3=>h j (by omega) h2 λi h4 h5=>by
    grind)
   refine⟨o,ho,?_⟩
   rcases hc with⟨h1,h2⟩|⟨j,r,h1,h2,h3,h4,h5⟩
   ·refine .inl ⟨λj h3 h4=>?_,h2⟩
    by_cases h6:j=k
    ·subst h6;exact hx
    ·exact h1 j (by omega) h4
   ·refine .inr ⟨j,r,by omega,h2,h3,λi h6 h7=>?_,h5⟩
    by_cases h8:i=k
    ·subst h8;exact hx
    ·exact h4 i (by omega) h7
theorem tP{body:Nat->S->Option (Fl S R)}{m:Nat}{s:S}(F:Nat->S)(e:Nat->Option R)(hm:m<=4611686018427387904)(hs:F 0=s)
  (h:∀k,k<m->(∀i,i<k->e i=none)->body k (F k)=some (qt (e k)<|F<|k+1)):ly m body s=some (uR (gi m e)<|F m):=by
 subst hs;unfold ly;rw[aG hm];obtain⟨o,ho,hc⟩:=uS F e m m 0 (by omega)<|λj _ h2 h3=>h j h2 λi hi=>h3 i (kR _) hi
 rw[ho]
 rcases hc with⟨h1,h2⟩|⟨j,r,_,h2,h3,h4,h5⟩
 ·rw[fD.2 λk hk=>h1 k (kR _) hk,h2];rfl
 ·rw[fQ.2 ⟨j,h2,h3,λi hi=>h4 i (kR _) hi⟩,h5];rfl
theorem gM{body:Nat->Unit->Option (Fl Unit R)}{m:Nat}(e:Nat->Option R)(hm:m<=4611686018427387904)
  (h:∀k,k<m->(∀i,i<k->e i=none)->body k ()=some (qt (e k) ())):ly m body ()=some (uR (gi m e) ()):=
 tP (λ_=>()) e hm rfl h
theorem uT{body:Nat->S->Option S}(F:Nat->S):∀(n k:Nat),(∀j,k<=j->j<k+n->body j (F j)=some (F<|j+1))->vA body n k (F k)=some (F<|k+n)
 | 0,_,_=>rfl
 |n+1,k,h=>by
  unfold vA;rw[h k (bP _) (by omega)];have:=uT F n (k+1)<|λj h1 h2=>h j (by omega) (by omega)
  rw[show k+(n+1)=k+1+n by omega];exact this
theorem zN{body:Nat->S->Option S}{m:Nat}{s:S}(F:Nat->S)(hm:m<=4611686018427387904)(hs:F 0=s)
  (h:∀k,k<m->body k (F k)=some (F<|k+1)):lz m body s=some (F m):=by
 subst hs
 simp_all[lz,aG,uT,fM]
theorem o7{body:S->Option (Fl S R)}(Inv:S->Prop)(μ:S->Nat)(Go:S->Prop)(Rt:R->Prop)
  (h:∀s,Inv s->∃fl,body s=some fl/\match fl with| .nx s'=>Inv s'/\μ s'<μ s| .br s'=>Go s'| .rt r=>Rt r):
  ∀(N:Nat)(s:S),Inv s->μ s<N->∃o,sb body N s=some o/\match o with| .go s'=>Go s'| .rt r=>Rt r
 | 0,s,_,hn=>by omega
 |N+1,s,hi,hn=>by
  obtain⟨fl,hb,hf⟩:=h s hi;unfold sb;rw[hb]
  cases fl with
  |nx s'=>exact o7 Inv μ Go Rt h N s' hf.1 (by have:=hf.2;omega)
  |br s'=>exact⟨_,rfl,hf⟩
  |rt r=>exact⟨_,rfl,hf⟩
theorem uU{body:Nat->S->Option (Fl S R)}(Inv:Nat->S->Prop)(Go:S->Prop)(Rt:R->Prop)(m:Nat)
  (h:∀k s,k<m->Inv k s->∃fl,body k s=some fl/\match fl with| .nx s'=>Inv (k+1) s'| .br s'=>Go s'| .rt r=>Rt r) (hg:∀s,Inv m s->Go s):
  ∀(n k:Nat)(s:S),k+n=m->Inv k s->∃o,tf body n k s=some o/\match o with| .go s'=>Go s'| .rt r=>Rt r
 | 0,k,s,hk,hi=>⟨_,rfl,hg s (by rw[<-hk];exact hi)⟩
 |n+1,k,s,hk,hi=>by
  obtain⟨fl,hb,hf⟩:=h k s (by omega) hi;unfold tf;rw[hb]
  cases fl with
  |nx s'=>exact uU Inv Go Rt m h hg n (k+1) s' (by omega) hf
  |br s'=>exact⟨_,rfl,hf⟩
  |rt r=>exact⟨_,rfl,hf⟩
theorem zO{body:Nat->S->Option (Fl S R)}{m:Nat}{s:S}(Inv:Nat->S->Prop)(Go:S->Prop)(Rt:R->Prop)(hm:m<=4611686018427387904)(h0:Inv 0 s)
  (h:∀k s,k<m->Inv k s->∃fl,body k s=some fl/\match fl with| .nx s'=>Inv (k+1) s'| .br s'=>Go s'| .rt r=>Rt r) (hg:∀s,Inv m s->Go s):
  ∃o,ly m body s=some o/\match o with| .go s'=>Go s'| .rt r=>Rt r:=by
 unfold ly;rw[aG hm];exact uU Inv Go Rt m h hg m 0 s (by omega) h0
theorem uV{body:Nat->S->Option S}(Inv:Nat->S->Prop)(m:Nat)(h:∀k s,k<m->Inv k s->∃s',body k s=some s'/\Inv (k+1) s'):
  ∀(n k:Nat)(s:S),k+n=m->Inv k s->∃s',vA body n k s=some s'/\Inv m s'
 | 0,k,s,hk,hi=>⟨_,rfl,by grind⟩
 |n+1,k,s,hk,hi=>by
  obtain⟨s',hb,hf⟩:=h k s (by omega) hi;unfold vA;rw[hb];exact uV Inv m h n (k+1) s' (by omega) hf
theorem zP{body:Nat->S->Option S}{m:Nat}{s:S}(Inv:Nat->S->Prop)(hm:m<=4611686018427387904)(h0:Inv 0 s)
  (h:∀k s,k<m->Inv k s->∃s',body k s=some s'/\Inv (k+1) s'):∃s',lz m body s=some s'/\Inv m s':=by
 simp_all[lz,aG,uV]
end
section
variable {α β:Type}
theorem aB(x:α)(f:α->Option β):(some x).bind f=f x:=rfl
theorem jz(l:List α)(k:Nat)(h:k<l.length):idx l ((k:Nat):Int)=some l[k]:=by
 unfold idx;simp
theorem cW{l:List α}{k:Nat}{x:α}(h:l[k]? =some x):idx l ((k:Nat):Int)=some x:=by
 grind [idx,kj]
theorem yw(s:aL)(k:Nat)(h:k<s.aU.length):wT s ((k:Nat):Int)=some s.aU[k]:=by
 unfold wT;simp
theorem sN{k:Nat}(h:0<k)(hk:k<=4611686018427387904):wrap .i64 (((k:Nat):Int) - 1)=((k - 1:Nat):Int):=by
 grind [gl]
theorem uW(l:List α)(k:Nat)(h:k<=l.length):z5 l 0 ((k:Nat):Int)=some (l.take k):=by
 unfold z5;grind
theorem jB{b:Nat}{l ys:List α}(h:(l.length+ys.length)*b<=140737488355328):app b l ys=some (l++ys):=by grind [app]
theorem wG{b:Nat}(z:α){n:Nat}(h:n*b<=140737488355328):mk b z ((n:Nat):Int)=some (List.replicate n z):=by
 unfold mk
 grind
end
theorem aL.ext'{a b:aL}(h:a.aU=b.aU):a=b:=by cases a;simp_all
theorem ik{a b:aL}:a.iw b=true↔a=b:=by
 grind [aL.iw,aL.ext']
theorem kh{a b:aL}:a.iw b=false↔a≠b:=by grind [ik]
theorem yx(a:aL):a.iw a=true:=ik.2 rfl
theorem qc:∀(a:List UInt8),Op.bytesLess a a=false
 | []=>rfl
 |a::l=>by
  unfold Op.bytesLess;rw[qc l];simp
theorem ry:∀{a b c:List UInt8},Op.bytesLess a b=true->Op.bytesLess b c=true->Op.bytesLess a c=true
 | [],[],_,h,_=>by simp[Op.bytesLess]at h
 | [],_::_,[],_,h=>by simp[Op.bytesLess]at h
 | [],_::_,_::_,_,_=>rfl
 |_::_,[],_,h,_=>by simp[Op.bytesLess]at h
 |_::_,_::_,[],_,h=>by simp[Op.bytesLess]at h
 |a::l,b::m,c::n,h1,h2=>by
  unfold Op.bytesLess at h1 h2 ⊢;simp only[dQ,bS,fW,beq_iff_eq]at h1 h2 ⊢
  rcases h1 with h1|⟨rfl,h1⟩
  ·rcases h2 with h2|⟨rfl,h2⟩
   ·exact .inl<|UInt8.lt_trans h1 h2
   ·exact .inl h1
  ·rcases h2 with h2|⟨rfl,h2⟩
   ·exact .inl h2
   ·exact .inr ⟨rfl,ry h1 h2⟩
theorem rA:∀(a b:List UInt8),Op.bytesLess a b=true\/a=b\/Op.bytesLess b a=true
 | [],[]=> .inr (.inl rfl)
 | [],_::_=> .inl rfl
 |_::_,[]=> .inr (.inr rfl)
 |a::l,b::m=>by
  unfold Op.bytesLess;simp only[dQ,bS,fW,beq_iff_eq]
  by_cases h1:a<b
  ·exact .inl<|.inl h1
  ·by_cases h2:b<a
   ·exact .inr<|.inr<|.inl h2
   ·have e:a=b:=by
     simp only[UInt8.lt_iff_toNat_lt]at h1 h2;exact UInt8.toNat_inj.1 (by omega)
    subst e
    rcases rA l m with h|h|h
    ·exact .inl<|.inr ⟨rfl,h⟩
    ·exact .inr<|.inl (by rw[h])
    ·exact .inr<|.inr<|.inr ⟨rfl,h⟩
theorem jm:∀(a b:List UInt8),Lib.compareBytes a b<0↔Op.bytesLess a b=true
 | [],[]=>by simp[Lib.compareBytes,Op.bytesLess]
 | [],_::_=>by simp[Lib.compareBytes,Op.bytesLess]
 |_::_,[]=>by simp[Lib.compareBytes,Op.bytesLess]
 |a::l,b::m=>by
  unfold Lib.compareBytes Op.bytesLess;simp only[dQ,bS,fW,beq_iff_eq];split
  ·simp_all
  ·rename_i h1;split
   ·rename_i h2;have h3:a≠b:=λe=>by subst e;exact h1 h2
    simp[h1,h3]
   ·rename_i h2;have e:a=b:=by
     simp only[UInt8.lt_iff_toNat_lt]at h1 h2;exact UInt8.toNat_inj.1 (by omega)
    subst e;rw[jm l m];simp[h1]
theorem gb:∀(a b:List UInt8),Lib.compareBytes a b=0↔a=b
 | [],[]=>by simp[Lib.compareBytes]
 | [],_::_=>by simp[Lib.compareBytes]
 |_::_,[]=>by simp[Lib.compareBytes]
 |a::l,b::m=>by
  unfold Lib.compareBytes;split
  ·rename_i h1;have h3:a≠b:=λe=>by subst e;exact absurd h1 (by simp)
   simp[h3]
  ·rename_i h1;split
   ·rename_i h2;have h3:a≠b:=λe=>by subst e;exact h1 h2
    simp[h3]
   ·rename_i h2;have e:a=b:=by
     simp only[UInt8.lt_iff_toNat_lt]at h1 h2;exact UInt8.toNat_inj.1 (by omega)
    subst e;rw[gb l m];simp
def aL.lt(a b:aL):Prop:=a.mx b=true
theorem aL.lt_irrefl(a:aL):¬aL.lt a a:=by simp[aL.lt,aL.mx,qc,decide]
theorem aL.lt_trans{a b c:aL}(h1:aL.lt a b)(h2:aL.lt b c):aL.lt a c:=ry h1 h2
theorem aL.lH(a b:aL):aL.lt a b\/a=b\/aL.lt b a:=by
 rcases rA a.aU b.aU with h|h|h
 ·exact .inl h
 ·grind [aL.ext']
 ·exact .inr<|.inr h
theorem aL.ot{a b:aL}(h:aL.lt a b):a≠b:=by grind [aL.lt_irrefl]
theorem aL.lt_asymm{a b:aL}(h:aL.lt a b):¬aL.lt b a:=by grind [aL.lt_irrefl,aL.lt_trans]
theorem wH{a b:aL}:(a.mx b||a.iw b)=false↔aL.lt b a:=by
 grind [Bool.or_eq_false_iff,kh,aL.lH,aL.lt,aL.ot,aL.lt_asymm]
end Go.Gk
namespace Go.Gk
open Go IntKind
class Bk (α:Type)where
 bk:α->Nat
 pos:∀x,1<=bk x
def bk{α:Type}[Bk α](x:α):Nat:=Bk.bk x
theorem yy{α:Type}[Bk α](x:α):1<=bk x:=Bk.pos x
instance:Bk aL:=⟨λs=>s.aU.length+1,λ_=>by omega⟩
instance:Bk Int:=⟨λ_=>1,λ_=>by omega⟩
instance:Bk Bool:=⟨λ_=>1,λ_=>by omega⟩
instance {α:Type} [Bk α]:Bk (List α):=⟨λl=>(l.map bk).sum+1,λ_=>by omega⟩
theorem yz{α:Type}[Bk α]:bk ([]:List α)=1:=rfl
theorem tQ{α:Type}[Bk α](x:α)(l:List α):bk (x::l)=bk x+bk l:=by
 rfl
theorem jo{α:Type}[Bk α]:∀{l:List α}{x:α},x∈l->bk x+1<=bk l
 |y::l,x,h=>by
  rw[tQ]
  rcases gC.1 h with h|h
  ·subst h;have:=yy l;omega
  ·have:=jo h;omega
theorem yA{α:Type}[Bk α]{l:List α}{k:Nat}{x:α}(h:l[k]? =some x):bk x+1<=bk l:=jo<|dW h
theorem gT{α:Type}[Bk α]:∀(l:List α),l.length+1<=bk l
 | []=>by rw[yz];simp
 |x::l=>by rw[tQ,gj];have:=gT l;have:=yy x;omega
theorem m7(s:aL):bk s=s.aU.length+1:=rfl
section
variable {α R:Type}
theorem xf{l:List α}{e:Nat->Option R}(f:α->Option R)(h:∀k x,l[k]? =some x->e k=f x):gi l.length e=l.findSome? f:=by
 cases hx:gi l.length e with
 |none=>
  grind [List.findSome?_eq_none_iff,fN,fD,bG]
 |some r=>
  obtain⟨k,hk,he,hn⟩:=fQ.1 hx;refine(List.findSome?_eq_some_iff.2 ⟨l.take k,l[k],l.drop<|k+1,?_,?_,λy hy=>?_⟩).symm
  ·simp
  ·grind
  grind [fN,bG,eJ,List.getElem?_take_of_lt]
theorem tR(l:List α)(p:α->Bool)(r:R):l.findSome? (λx=>if p x=true then some r else none)=if l.any p=true then some r else none:=by
 induction l with
 |nil=>simp
 |cons x l ih=>
  grind
theorem uX{l:List α}{body:Nat->Unit->Option (Fl Unit R)}(f:α->Option R)(hl:l.length<=4611686018427387904)
  (h:∀k x,l[k]? =some x->body k ()=some (qt (f x) ())):ly l.length body ()=some (uR (l.findSome? f) ()):=by
 have h2:=gM (body:=body) (m:=l.length) (λk=>(l[k]?).bind f) hl (λk hk _=>by
  grind)
 grind [xf]
theorem zQ{l:List α}{body:Nat->Unit->Option (Fl Unit R)}(p:α->Bool)(r:R)(hl:l.length<=4611686018427387904)
  (h:∀k x,l[k]? =some x->body k ()=some (if p x=true then .rt r else .nx ())):ly l.length body ()=some (if l.any p=true then .rt r else .go ()):=by
 rw[uX (λx=>if p x=true then some r else none) hl (λk x hx=>by rw[h k x hx];cases p x <;> rfl),tR]
 cases l.any p <;> rfl
end
section
variable {α β:Type}
def xM(l:List α)(p:α->Bool):Int:=match l.findIdx? p with|some k=>((k:Nat):Int)|none=> -1
theorem uY{l:List α}{p:α->Bool}(h:l.any p=false):xM l p = -1:=by
 unfold xM
 grind
theorem yB{l:List α}{p:α->Bool}{k:Nat}{x:α}(hk:l[k]? =some x)(hp:p x=true)(hn:∀j y,j<k->l[j]? =some y->p y=false):xM l p=((k:Nat):Int):=by
 unfold xM;have hlt:=(bG.1 hk).1;have:l.findIdx? p=some k:=by
  rw[List.findIdx?_eq_some_iff_getElem]
  grind
 rw[this]
theorem lI(l:List α)(p:α->Bool):(xM l p = -1/\∀x∈l,p x=false)\/∃k x,xM l p=((k:Nat):Int)/\l[k]? =some x/\p x=true/\∀j y,j<k->l[j]? =some y->p y=false:=by
 unfold xM
 cases h:l.findIdx? p with
 |none=>grind
 |some k=>
  grind [List.findIdx?_eq_some_iff_getElem,aM]
theorem yC(l:List α)(p:α->Bool):decide (xM l p>=0)=l.any p:=by
 grind [lI,List.any_eq_false,decide,jv,dW]
def kA(p0:List α)(p1:α->Option Bool):Option Int:=
 (ly p0.length (λ(k1:Nat)(_:Unit)=>((idx p0 ((k1:Nat):Int)).bind λx7=>(p1 x7).bind λx10=>bif x10 then some (.rt ((k1:Nat):Int))else(some<|.nx ()):Option (Fl Unit Int))) ()).bind λo11=>o11.cs (λ(_:Unit)=>some<|-1)<|λr=>some r
theorem lj{l:List α}{φ:α->Option Bool}(p:α->Bool)(hl:l.length<=4611686018427387904)(h:∀x∈l,φ x=some (p x)):kA l φ=some (xM l p):=by
 unfold kA
 rw[gM (λk=>(l[k]?).bind λx=>if p x=true then some ((k:Nat):Int)else none) hl (λk hk _=>by
  grind [jz,aB,cO,aM,qt]),aB]
 grind [lI,fD,aM,cO,uR,Fo.cs,fQ,bG]
def gQ(p0:List α)(p1:α->Option Bool):Option Bool:=
 (kA p0 p1).bind λx1=>some<|decide<|x1>=0
theorem il{l:List α}{φ:α->Option Bool}(p:α->Bool)(hl:l.length<=4611686018427387904)(h:∀x∈l,φ x=some (p x)):gQ l φ=some (l.any p):=by
 simp_all[gQ,lj,aB,yC]
def dD(key:α->aL)(l:List α):Prop:=∀(i j:Nat)(x y:α),i<j->l[i]? =some x->l[j]? =some y->aL.lt (key x) (key y)
theorem xg{key:α->aL}{l:List α}(h:∀k x y,l[k]? =some x->l[k+1]? =some y->aL.lt (key x) (key y)):dD key l:=by
 intro i j
 induction j with
 |zero=>omega
 |succ j ih=>
  grind [bG,aL.lt_trans,aM]
theorem dD.inj{key:α->aL}{l:List α}(h:dD key l){i j:Nat}{x y:α}(hx:l[i]? =some x)(hy:l[j]? =some y)(e:key x=key y):i=j:=by
 rcases Nat.lt_trichotomy i j with h1|h1|h1
 ·exact absurd e<|aL.ot<|h i j x y h1 hx hy
 ·exact h1
 ·exact absurd e.symm<|aL.ot<|h j i y x h1 hy hx
def nat?(key:α->aL)(l:List α)(s:aL):Int:=xM l<|λx=>(key x).iw s
def yD(N:Nat)(p0:List α)(p1:β)(p2:α->β->Option Int):Option (Int×Bool):=
 (sb (λ(s2:Int×Int)=>(bif decide (s2.1<s2.2)then((idx p0<|wrap .i64<|Int.fdiv (wrap .u64<|wrap .i64<|s2.1+s2.2) 2).bind λx13=>(p2 x13 p1).bind λx16=>(bif decide (x16<0)then some (wrap .i64<|wrap .i64 (Int.fdiv (wrap .u64<|wrap .i64<|s2.1+s2.2) 2)+1,s2.2)else some (s2.1,wrap .i64<|Int.fdiv (wrap .u64<|wrap .i64<|s2.1+s2.2) 2)).bind λs17=>some<|.nx (s17.1,s17.2))else(some<|.br (s2.1,s2.2)):Option (Fl (Int×Int) Empty))) N (0,((p0.length:Nat):Int))).bind λo29=>o29.cs (λ(s2:Int×Int)=>(bif decide (s2.1<((p0.length:Nat):Int))then((idx p0 s2.1).bind λx25=>(p2 x25 p1).bind λx28=>some<|x28==0)else some false).bind λs23=>some (s2.1,s23))<|λr=>r.elim
theorem xh{a b:Nat}(h:a<b)(hb:b<=4611686018427387904):wrap .i64 (Int.fdiv (wrap .u64<|wrap .i64<|((a:Nat):Int)+((b:Nat):Int)) 2)=(((a+b) / 2:Nat):Int):=by
 rw[gl (x:=((a:Nat):Int)+((b:Nat):Int)) (by omega) (by omega)];have e:wrap .u64 (((a:Nat):Int)+((b:Nat):Int))=((a+b:Nat):Int):=by
  show((a:Int)+b) % 18446744073709551616=_;omega
 grind [Int.fdiv_eq_ediv_of_nonneg,gl]
theorem tS{N:Nat}{key:α->aL}{l:List α}{s:aL}{φ:α->aL->Option Int}(hφ:∀x,φ x s=some (Lib.compareBytes (key x).aU s.aU))(hs:dD key l)
  (hl:l.length<=1048576) (hN:4194304<=N):∃r,yD N l s φ=some r/\(bif(!r.2)then some (-1)else some r.1)=some (nat? key l s):=by
 unfold yD;have h:=o7 (S:=Int×Int) (R:=Empty)
  (body:=(λ(s2:Int×Int)=>(bif decide (s2.1<s2.2)then((idx l<|wrap .i64<|Int.fdiv (wrap .u64<|wrap .i64<|s2.1+s2.2) 2).bind λx13=>(φ x13 s).bind λx16=>(bif decide (x16<0)then some (wrap .i64<|wrap .i64 (Int.fdiv (wrap .u64<|wrap .i64<|s2.1+s2.2) 2)+1,s2.2)else some (s2.1,wrap .i64<|Int.fdiv (wrap .u64<|wrap .i64<|s2.1+s2.2) 2)).bind λs17=>some<|.nx (s17.1,s17.2))else(some<|.br (s2.1,s2.2)):Option (Fl (Int×Int) Empty))))
  (λst=>∃a b:Nat,st=(((a:Nat):Int),((b:Nat):Int))/\a<=b/\b<=l.length/\(∀j x,j<a->l[j]? =some x->aL.lt (key x) s)/\(∀j x,b<=j->l[j]? =some x->¬aL.lt (key x) s))
  (λst=>(st.2 - st.1).toNat)
  (λst=>∃a:Nat,st.1=((a:Nat):Int)/\a<=l.length/\(∀j x,j<a->l[j]? =some x->aL.lt (key x) s)/\(∀j x,a<=j->l[j]? =some x->¬aL.lt (key x) s))
  (λ_=>True) (by
   rintro st⟨a,b,rfl,hab,hb,h1,h2⟩
   by_cases hlt:a<b
   ·have hm:(a+b) / 2<l.length:=by omega
    have hd:decide (((a:Nat):Int)<((b:Nat):Int))=true:=by grind
    simp only[hd,bO,xh hlt (by omega),jz l _ hm,aB,hφ]
    by_cases hc:Lib.compareBytes (key l[(a+b) / 2]).aU s.aU<0
    ·have hc':aL.lt (key l[(a+b) / 2]) s:=(jm _ _).1 hc;simp only[hc,decide_true,bO,aB];refine⟨_,rfl,⟨(a+b) / 2+1,b,?_,by omega,hb,λj x hj hx=>?_,h2⟩,?_⟩
     ·grind [gl]
     ·by_cases e:j=(a+b) / 2
      ·grind
      ·exact aL.lt_trans (hs j _ x _ (by omega) hx<|aM hm) hc'
     grind [gl]
    ·have hc':¬aL.lt (key l[(a+b) / 2]) s:=λh=>hc<|(jm _ _).2 h
     simp only[hc,decide_false,aZ,aB];refine⟨_,rfl,⟨a,(a+b) / 2,rfl,by omega,by omega,h1,λj x hj hx=>?_⟩,by omega⟩
     by_cases e:j=(a+b) / 2
     ·grind
     ·exact λh3=>hc'<|aL.lt_trans (hs _ j _ x (by omega) (aM hm) hx) h3
   ·have hd:decide (((a:Nat):Int)<((b:Nat):Int))=false:=by rw[decide_eq_false_iff_not];omega
    simp only[hd,aZ]
    exact⟨_,rfl,a,rfl,by omega,h1,λj x hj hx=>h2 j x (by omega) hx⟩)
  N (0,((l.length:Nat):Int)) ⟨0,l.length,rfl,by omega,bP _,λj x hj=>by omega,λj x hj hx=>by have:=(bG.1 hx).1;omega⟩ (by simp only;omega)
 obtain⟨o,ho,hc⟩:=h;rw[ho,aB]
 cases o with
 |rt r=>exact r.elim
 |go st=>
  obtain⟨a,ha,hle,h1,h2⟩:=hc;simp only[Fo.cs,ha]
  by_cases hlt:a<l.length
  ·have hd:decide (((a:Nat):Int)<((l.length:Nat):Int))=true:=by rw[fW];omega
   simp only[hd,bO,jz l _ hlt,aB,hφ];refine⟨_,rfl,?_⟩
   by_cases he:key l[a]=s
   ·have e0:Lib.compareBytes (key l[a]).aU s.aU=0:=(gb _ _).2 (by rw[he]);simp only[e0,BEq.rfl,nL,aZ];unfold nat?;rw[yB (aM hlt) (ik.2 he) (λj y hj hy=>by rw[kh];exact aL.ot<|h1 j y hj hy)]
   ·have e0:(Lib.compareBytes (key l[a]).aU s.aU==0)=false:=by
     rw[beq_eq_false_iff_ne];intro h;exact he<|aL.ext'<|(gb _ _).1 h
    simp only[e0,oM,bO];unfold nat?;rw[uY];rw[List.any_eq_false];intro x hx;rw[ju,kh];obtain⟨j,hj⟩:=fN hx;intro hk
    by_cases hja:j<a
    ·exact aL.ot (h1 j x hja hj) hk
    ·by_cases e:j=a
     ·subst e;rw[aM hlt]at hj;injection hj with hj;subst hj;exact he hk
     ·have h3:=hs a j _ x (by omega) (aM hlt) hj;rw[hk]at h3;exact h2 a _ (bP _) (aM hlt) h3
  ·have hd:decide (((a:Nat):Int)<((l.length:Nat):Int))=false:=by rw[decide_eq_false_iff_not];omega
   simp only[hd,aZ,aB];refine⟨_,rfl,?_⟩;simp only[oM,bO];unfold nat?;rw[uY];rw[List.any_eq_false];intro x hx;rw[ju,kh];obtain⟨j,hj⟩:=fN hx;have:=(bG.1 hj).1;exact aL.ot<|h1 j x (by omega) hj
def cZ(key:α->aL)(l:List α)(k:Nat):Bool:=match l[k]?,l[k - 1]? with|some x,some y=>decide (0<k)&&((key x).mx (key y)||(key x).iw (key y))|_,_=>false
theorem lk(key:α->aL){l:List α}{k:Nat}{x:α}(hx:l[k]? =some x)(hl:l.length<=1048576):
  (bif decide (((k:Nat):Int)>0)then((idx l<|wrap .i64<|((k:Nat):Int) - 1).bind λy=>some<|(key x).mx (key y)||(key x).iw (key y))else some false)=some (cZ key l k):=by
 grind [bG,cZ,cC,sN,jz,aB,aM]
theorem eZ{key:α->aL}{l:List α}(h:∀k,k<l.length->cZ key l k=false):dD key l:=by grind [xg,bG,cZ,Nat.add_sub_cancel,decide_true,wH]
end
end Go.Gk
namespace Go.Gk
open Go IntKind Go.ChangeShapes Go.WideShapes Go.RowKit
structure UB (ub:(H:Type)->DataW H->Nat) (ua:(H:Type)->List (DataW H)->Nat):Prop where
 str:∀(H:Type)(b:List UInt8),ub H (.lit<|.string b)=b.length+1
 pos:∀(H:Type)(d:DataW H),1<=ub H d
 sl:∀(H:Type)(e s:List (DataW H)),ub H (.slice e s)=ua H e+ua H s+1
 ag:∀(H:Type)(l:List (DataW H)),ub H (.agg l)=ua H l+1
 nil:∀(H:Type),ua H []=0
 cons:∀(H:Type)(x:DataW H)(l:List (DataW H)),ua H (x::l)=ub H x+ua H l
def Hw(w:World):bX:=λb=>w.heap[b]?
structure fA (ub:(H:Type)->DataW H->Nat) (P:Program) (T:TypeId) (α:Type) [GT α] [Bk α]:Prop where
 trod:∀{H:Type}{enc:TypeId×Value->H}{w:World}{base:Nat}{spare:Nat->Bool}{held:Bool}{fuel:Nat}{cs:List Value}{d:DataW H×List MemPlace},
  DataW.trod enc P w base spare held fuel T cs=some d->∃x:α,GT.ok (Hw w) cs x/\bk x<=ub H d.1
 Ca:∀{w:World}{r:Reach}{base:Nat}{v:Value},Value.okWide P w r base T v->v=mJ α v.cells.toList
section
variable {ub:(H:Type)->DataW H->Nat}{ua:(H:Type)->List (DataW H)->Nat}{P:Program}{T e:TypeId}
theorem xi(u:UB ub ua)(ht:P.underlying T=some (.int .i64)):fA ub P T Int where
 trod:=λh=>by
  obtain⟨n,rfl,rfl,_⟩:=DataW.trod_int ht h;exact⟨n,rfl,u.pos _ _⟩
 Ca:=λh=>by obtain⟨n,rfl⟩:=okWide_int ht h;rfl
theorem xj(u:UB ub ua)(ht:P.underlying T=some .string):fA ub P T aL where
 trod:=λh=>by
  obtain⟨s,rfl,rfl,_⟩:=DataW.trod_string ht h;refine⟨⟨s.data.toList⟩,?_,?_⟩
  ·show [Value.string s]= [Gk.str ⟨s.data.toList⟩]
   cases s;rfl
  ·rw[u.str];exact bP _
 Ca:=λh=>by obtain⟨n,rfl⟩:=okWide_string ht h;rfl
theorem qd{α:Type}{R:Nat->α->Prop}:∀(n:Nat),(∀i,i<n->∃x,R i x)->∃l:List α,l.length=n/\∀i x,l[i]? =some x->R i x
 | 0,_=>⟨[],rfl,λi x h=>by simp at h⟩
 |n+1,h=>by
  obtain⟨l,h1,h2⟩:=qd n<|λi hi=>h i (by omega)
  obtain⟨x,hx⟩:=h n (by omega);refine⟨l++[x],by simp[h1],λi y hy=>?_⟩
  by_cases hi:i<n
  ·rw[iP (by omega)]at hy;exact h2 i y hy
  ·have:=(bG.1 hy).1;rw[cT]at this;have:i=n:=by simp at this;omega
   subst this;rw[iG (by omega),h1]at hy;simp at hy;subst hy;exact hx
theorem sO{H α:Type}[Bk α](u:UB ub ua):∀{l:List α}{es:List (DataW H×List MemPlace)},l.length=es.length->
  (∀(i:Nat)(x:α)(y:DataW H×List MemPlace),l[i]? =some x->es[i]? =some y->bk x<=ub H y.1)->bk l<=ua H (es.map (·.1))+1
 | [],[],_,_=>by rw[yz];omega
 |x::l,y::es,hl,h=>by
  have h1:=h 0 x y rfl rfl;have h2:=sO (H:=H) u (l:=l) (es:=es) (by simpa using hl)<|λi x y hx hy=>h (i+1) x y (by simpa using hx) (by simpa using hy)
  rw[tQ,eE,u.cons];omega
theorem uZ{w:World}{base:Nat}{a:Addr}{n:Nat}{cs:List Value}(h:w.cells? base a n=some cs):At (Hw w) a cs:=by
 intro j v hv;obtain⟨_,hlen,hc⟩:=World.cells?_some h;have hj:=(bG.1 hv).1;have h2:=hc j (by omega);rw[hv]at h2;unfold oN Hw;unfold World.cell? at h2;exact h2
theorem hG{α:Type}[GT α][Bk α](u:UB ub ua)(he:fA ub P e α)(ht:P.underlying T=some (.slice e):=by kernel_rfl)(hc:P.cellsOf e=GT.sz α:=by kernel_rfl):fA ub P T (List α)where
 trod:=λ{H enc w base spare held fuel cs d}h=>by
  rcases DataW.trod_slice ht h with⟨rfl,rfl⟩|⟨a,len,cap,elems,rest,n,_,rfl,rfl,_,hlc,hcm,hlen,hel,_⟩
  ·exact⟨[],⟨_,rfl,none,0,0,rfl,rfl,bP _,by simp[maxLen],λi x hx=>by simp at hx⟩,u.pos _ _⟩
  ·have each:∀i,i<len->∃x:α,(∃c y,GT.ok (Hw w) c x/\At (Hw w) (a.add<|i*GT.sz α) c/\elems[i]? =some y/\bk x<=ub H y.1):=by
    intro i hi;have h1:=hel i hi;rw[aM (by omega:i<elems.length),Option.bind_eq_some_iff]at h1;obtain⟨c,h2,h3⟩:=h1;obtain⟨x,h4,h5⟩:=he.trod h3;refine⟨x,c,_,h4,?_,aM (by omega),h5⟩;rw[hc]at h2;exact uZ h2
   obtain⟨l,hl,hr⟩:=qd len each;refine⟨l,⟨_,rfl,some a,len,cap,rfl,hl.symm,hlc,hcm,λi x hx=>?_⟩,?_⟩
   ·obtain⟨c,y,h1,h2,_⟩:=hr i x hx;exact⟨a,c,rfl,h1,h2⟩
   ·have:=sO (H:=H) u (l:=l) (es:=elems) (by omega) (λi x y hx hy=>by
     obtain⟨c,y',_,_,h3,h4⟩:=hr i x hx
     rw[hy]at h3;injection h3 with h3;subst h3;exact h4)
    rw[u.sl];omega
 Ca:=λh=>by obtain⟨a,n,c,rfl⟩:=okWide_slice ht h;rfl
def wI(ub:(H:Type)->DataW H->Nat)(ua:(H:Type)->List (DataW H)->Nat)(P:Program)(off:Nat)(fs:List Field)(β:Type)[GT β](m:β->Nat):Prop:=
 ∀{H:Type}{enc:TypeId×Value->H}{w:World}{base:Nat}{spare:Nat->Bool}{held:Bool}{n:Nat}{cs:List Value}{ys:List (DataW H×List MemPlace)},
  (∀(i:Nat)(f:Field),fs[i]? =some f->DataW.trod enc P w base spare held n f.type ((cs.drop f.offset).take<|P.cellsOf f.type)=ys[i]?)->ys.length=fs.length->
  cs.length=off+GT.sz β->∃x:β,GT.ok (Hw w) (cs.drop off) x/\m x<=ua H (ys.map (·.1))
theorem jq{β:Type}[GT β][Bk β]{off:Nat}{f:Field}(u:UB ub ua)(h:fA ub P f.type β)(ho:f.offset=off:=by exact rfl)(hc:P.cellsOf f.type=GT.sz β:=by kernel_rfl):wI ub ua P off [f] β bk:=by
 intro H enc w base spare held n cs ys hf hl hcs
 match ys,hl with
 | [y],_=>
  have h1:=hf 0 f rfl;rw[ho,hc,nK (by rw[jZ];omega)]at h1;obtain⟨x,h2,h3⟩:=h.trod (d:=y) h1;exact⟨x,h2,by rw[eE,u.cons];omega⟩
theorem eR{α β:Type}[GT α][GT β][Bk α]{off off':Nat}{f:Field}{fs:List Field}{m:β->Nat}(u:UB ub ua)(h:fA ub P f.type α)(hr:wI ub ua P off' fs β m)(ho:f.offset=off:=by exact rfl)(hc:P.cellsOf f.type=GT.sz α:=by kernel_rfl)(hoff:off'=off+GT.sz α:=by exact rfl):wI ub ua P off (f::fs) (α×β) (λx=>bk x.1+m x.2):=by
 intro H enc w base spare held n cs ys hf hl hcs;have hsz:GT.sz (α×β)=GT.sz α+GT.sz β:=rfl
 match ys,hl with
 |y::ys,hl=>
  have h1:=hf 0 f rfl;rw[ho,hc]at h1;obtain⟨x,h2,h3⟩:=h.trod (d:=y) h1;obtain⟨x',h4,h5⟩:=hr (n:=n) (cs:=cs) (ys:=ys) (λi g hg=>hf (i+1) g hg) (by simpa using hl) (by omega);refine⟨(x,x'),⟨_,_,?_,h2,h4⟩,?_⟩
  ·rw[hoff,<-List.drop_drop,List.take_append_drop]
  ·rw[eE,u.cons];show bk x+m x'<=_;omega
theorem gG{γ β:Type}[GT β][Bk γ]{fs:Array Field}{m:β->Nat}(u:UB ub ua)(f:γ->β)(g:β->γ)(hfg:∀b,f (g b)=b)(ht:P.underlying T=some (.struct fs))(h:wI ub ua P 0 fs.toList β m)(hm:∀b,bk (g b)<=m b+1)(hc:P.cellsOf T=GT.sz β:=by kernel_rfl): @fA ub P T γ (GT.via f) _:=
 @fA.mk ub P T γ (GT.via f) _
  (λ{H enc w base spare held fuel cs d}hd=>by
   obtain⟨xs,n,_,rfl,hl,hlen,hf⟩:=DataW.trod_struct ht hd;obtain⟨b,h1,h2⟩:=h (n:=n) (cs:=cs) (ys:=xs) (λi g hg=>hf i g (by rw[<-Array.getElem?_toList];exact hg)) (by rw[hlen];simp) (by omega);refine⟨g b,?_,?_⟩
   ·show GT.ok (Hw w) cs (f<|g b);rw[hfg];exact h1
   ·rw[u.ag];have:=hm b;omega)
  (λhv=>by
   obtain⟨cs,rfl,_⟩:=okWide_struct ht hv
   cases cs;rfl)
theorem fA.arg{H:Type}{enc:TypeId×Value->H}{w:World}{base:Nat}{spare:Nat->Bool}{held:Bool}{r:Reach}{b0:Nat}{v:Value}{d:DataW H}{ps:List MemPlace}{α:Type}[GT α][Bk α](o:fA ub P T α)
  (hv:Value.okWide P w r b0 T v) (hd:DataW.Trod enc P w base spare held T v d ps):∃x:α,oe (Hw w) v x/\bk x<=ub H d:=by
 obtain⟨fuel,hf⟩:=hd;obtain⟨x,h1,h2⟩:=o.trod hf;exact⟨x,⟨_,o.Ca hv,h1⟩,h2⟩
theorem fA.Dp{H:Type}{enc:TypeId×Value->H}{w:World}{base:Nat}{spare:Nat->Bool}{held:Bool}{r:Reach}{b0:Nat}{v:Value}{d:DataW H}{ps:List MemPlace}{α:Type}[Sc α][Bk α](o:fA ub P T α)
  (hv:Value.okWide P w r b0 T v) (hd:DataW.Trod enc P w base spare held T v d ps):∃x:α,v=Sc.toV x/\bk x<=ub H d:=by
 obtain⟨x,h1,h2⟩:=o.arg hv hd;exact⟨x,qL.1 h1,h2⟩
end
theorem Calls.fin{P:Program}{f:FuncId}{args:Array Value}{w:World}{R Q:Value->World->Prop}(h:Calls P f args w (fP R))(k:∀v w',R v w'->Q v w'):
  Calls P f args w (λe W'=>∃v,e = .returned v/\Q v W'):=Calls.mono h λ_ w'⟨v,e,hr⟩=>⟨v,e,k v w' hr⟩
def xk(W:World):HP:=⟨λM h=>hle (Hw W) M/\h=kL,λk⟨a,b⟩=>⟨wQ a k,b⟩⟩
theorem Holds.begin(W:World):Holds W W [xk W]:=by
 refine⟨Hw W,λ_=>kL,⟨rfl,rfl,rfl,bP _,λb o h=>h,λi Pr hq=>?_,λ_ _ _ _ h=>(by cases h),λ_ _ _ _ h=>(by cases h),λ_ _ _ _ _ _ _ h=>(by cases h)⟩⟩
 match i,hq with
 | 0,hq=>simp at hq;subst hq;exact⟨xO _,rfl⟩
theorem Holds.Ag{α:Type}[GT α]{W:World}{V:List HP}{v:Value}{x:α}(h:Holds W W (V++[xk W]))(hv:Gk.oe (Hw W) v x):Holds W W (rd v x::(V++[xk W])):=
 h.qK λM hs g=>by
  have h1:=(g.sat V.length (xk W) (by simp)).1;exact⟨hv.mono h1,rfl⟩
theorem Holds.kept{E W w:World}{V:List HP}(h:Holds E w (V++[xk W]))(he:E=W):Below W.heap.size W w:=by
 subst he;obtain⟨M,hs,g⟩:=h;have h1:=(g.sat V.length (xk E) (by simp)).1;have h2:∀k o,E.heap[k]? =some o->w.heap[k]? =some o:=λk o ho=>g.im k o<|h1 k o ho
 refine⟨g.os,g.tape,g.out,?_,λk hk=>?_⟩
 ·by_cases h0:E.heap.size=0
  ·omega
  ·have h3:=h2 (E.heap.size - 1) _<|fS (by omega)
   have:=(Array.getElem?_eq_some_iff.1 h3).1;omega
 ·rw[fS hk];exact h2 k _<|fS hk
section
variable {H:Type}{enc:TypeId×Value->H}{P:Program}
theorem xl{f:Func}{s:ChangeSpec}{apart fresh handsOn again:Bool}{W W':World}{args:Array Value}{v:Value}{ds gs:List (DataW H)}{before pa pv:List MemPlace}
  (hW:DataW.Whole enc P f.params.toList s.vars apart W args.toList ds gs before)
  (hres:∀(b:Nat)(sp:Nat->Bool)(hd:Bool),DataW.TrodAll enc P W' b sp hd f.resultTypes.toList (v.resultList f.resultTypes.size) (s.fn H<|ds++gs).results [])
  (hargs:∀sp:Nat->Bool,(∀p∈before,sp p.block=true)->DataW.TrodAll enc P W' 0 sp true f.params.toList args.toList (s.fn H<|ds++gs).args pa)
  (hvars:∀sp:Nat->Bool,(∀p∈before,sp p.block=true)->DataW.TrodVars enc P W' sp s.vars (s.fn H<|ds++gs).vars pv)
  (hps:before=pa++pv) (hb:Below W.heap.size W W')
  (hok:∀(j:Nat)(t:TypeId)(r:Value),f.resultTypes[j]? =some t->(v.resultList f.resultTypes.size)[j]? =some r->Value.okWide P W' .any 0 t r):
  s.post enc P f apart fresh handsOn again W args v W':=by
 have hlt:∀p∈before,p.block<W.heap.size:=λp hp=>hW.lt p hp;have hold:∀p∈before,(λb=>decide<|b<W.heap.size) p.block=true:=λp hp=>by simpa using hlt p hp
 refine⟨ds,gs,before,[],pa,pv,hW,hres _ _ _,hargs _ hold,hvars _ hold,World.keptBut_mono (λp hp=>⟨hp,?_⟩)<|hb.frame (· ∈before),λ_=>?_⟩
 ·rw[hps,k8]at hp;exact Or.inr hp
 ·obtain⟨_,_,_,_,_,hz,hn⟩:=hW;refine⟨hok,_,_,([]++pa)++pv,⟨[]++pa,pv,trodAll_append (hargs _<|λ_ _=>rfl)<|hres _ _ _,hvars _<|λ_ _=>rfl,rfl,?_,?_⟩,?_⟩
  ·intro b off hp;have hin:MemPlace.cell b off∈before:=by rw[hps];simpa using hp
   rw[hb.frozen<|hlt _ hin];exact hz b off hin
  ·intro ha;have:=hn ha;rw[hps]at this;simpa using this
  ·intro p hp _;rw[hps];simpa using hp
theorem ou{W W':World}(hl:laidOutB P=true)(hb:Below W.heap.size W W'){sp:Nat->Bool}:∀{ts:List TypeId}{vs:List Value}{ds:List (DataW H)}{ps:List MemPlace},
  (∀t∈ts,P.readableRec t=true/\t<P.types.size)->DataW.TrodAll enc P W 0 (λ_=>true) true ts vs ds ps->(∀p∈ps,p.block<W.heap.size)->(∀p∈ps,sp p.block=true)->DataW.TrodAll enc P W' 0 sp true ts vs ds ps
 | [],_,_,_,_,h,_,_=>by
  obtain⟨rfl,rfl,rfl⟩:=trodAll_nil h;rfl
 |t::ts,_,_,_,ht,h,hlt,hsp=>by
  obtain⟨v,vs,d,ds,p,q,rfl,rfl,rfl,h1,h2⟩:=trodAll_cons h;refine⟨p,q,?_,ou hl hb (λt h=>ht t (by simp[h])) h2 (λx hx=>hlt x (by simp[hx]))<|λx hx=>hsp x (by simp[hx]),rfl⟩;exact WideElems.Trod_stays hl (ht t (by simp)).1 (ht t (by simp)).2 h1 (λx hx=>hb.same<|hlt x (by simp[hx]))<|λx hx=>hsp x (by simp[hx])
end
end Go.Gk
namespace Go.Gk
open Go IntKind
instance:Bk aV:=⟨λx=>bk x.Name+bk x.Kind+bk x.dI+1,λ_=>by omega⟩
theorem rB(x:aV):bk x=bk x.Name+bk x.Kind+bk x.dI+1:=rfl
instance:Bk aD:=⟨λx=>bk x.Name+bk x.bA+1,λ_=>by omega⟩
theorem m8(x:aD):bk x=bk x.Name+bk x.bA+1:=rfl
instance:Bk Part:=⟨λx=>bk x.Name+bk x.eC+1,λ_=>by omega⟩
theorem wJ(x:Part):bk x=bk x.Name+bk x.eC+1:=rfl
instance:Bk iU:=⟨λx=>bk x.Name+bk x.aF+1,λ_=>by omega⟩
theorem yE(x:iU):bk x=bk x.Name+bk x.aF+1:=rfl
instance:Bk aT:=⟨λx=>bk x.Part+bk x.aT+1,λ_=>by omega⟩
theorem yF(x:aT):bk x=bk x.Part+bk x.aT+1:=rfl
instance:Bk Net:=⟨λx=>bk x.Name+bk x.bA+bk x.aX+1,λ_=>by omega⟩
theorem vS(x:Net):bk x=bk x.Name+bk x.bA+bk x.aX+1:=rfl
instance:Bk aF:=⟨λx=>bk x.Name+bk x.aX+bk x.bB+bk x.Uses+bk x.aO+1,λ_=>by omega⟩
theorem m9(x:aF):bk x=bk x.Name+bk x.aX+bk x.bB+bk x.Uses+bk x.aO+1:=rfl
instance:Bk aW:=⟨λx=>bk x.bB+bk x.aO+1,λ_=>by omega⟩
instance:Bk aS:=⟨λx=>bk x.e0+bk x.e1+1,λ_=>by omega⟩
instance:Bk aA:=⟨λx=>bk x.path+bk x.words+1,λ_=>by omega⟩
section
variable {N:Nat}
def AJ(c:UInt8):Bool:=
 (((decide (((c.toNat:Nat):Int)<65)||decide (((c.toNat:Nat):Int)>90))&&(decide (((c.toNat:Nat):Int)<97)||decide (((c.toNat:Nat):Int)>122)))&&(decide (((c.toNat:Nat):Int)<48)||decide (((c.toNat:Nat):Int)>57)))&&decide (Lib.indexByte [95,43,45,35] c<0)
def isWord(s:aL):Bool:= !s.aU.any AJ&&(decide (1<=s.aU.length)&&decide (s.aU.length<=40))
theorem pc(s:aL)(c:UInt8):eK N s ((c.toNat:Nat):Int)=some (Lib.indexByte s.aU c):=by
 show some (Lib.indexByte s.aU (Int.toNat ((c.toNat:Nat):Int)).toUInt8)=_;simp
theorem vV{R:Type}(b1:Bool)(c:UInt8)(r:R):
  ((bif b1 then((eK N (⟨[95,43,45,35]⟩) ((c.toNat:Nat):Int)).bind λx14=>some<|decide<|x14<0)else some false).bind λs12=>bif s12 then some (.rt r)else(some<|.nx ()):Option (Fl Unit R))=some (if(b1&&decide (Lib.indexByte [95,43,45,35] c<0))=true then .rt r else .nx ()):=by
 rw[pc,aB]
 grind
theorem dF{s:aL}(h:s.aU.length<=2097152):bN N s=some (isWord s):=by
 unfold bN
 rw[zQ AJ false (by omega) (λk x hx=>by
  have hk:=(bG.1 hx).1;have e:wT s ((k:Nat):Int)=some x:=by grind [yw,aM]
  rw[e,aB]
  exact vV (R:=Bool) _ x false),aB]
 unfold isWord
 grind [AJ,Fo.cs,oM,Bool.false_eq_true,Option.some.injEq]
def cutAt(c:UInt8):List UInt8->List (List UInt8)
 | []=>[[]]
 |b::l=>if b==c then []::cutAt c l else match cutAt c l with|h::t=>(b::h)::t| []=>[[b]]
theorem kE{c:UInt8}:∀{l:List UInt8},c∉l->cutAt c l= [l]
 | [],_=>rfl
 |b::l,h=>by
  unfold cutAt;have hb:(b==c)=false:=by rw[beq_eq_false_iff_ne];rintro rfl;exact h (by simp)
  rw[hb,kE<|λh'=>h (by simp[h'])];rfl
theorem nB{c:UInt8}:∀{a b:List UInt8},c∉a->cutAt c (a++c::b)=a::cutAt c b
 | [],b,_=>by rw[List.nil_append];show(if(c==c)=true then _ else _)=_;simp
 |x::a,b,h=>by
  have hb:(x==c)=false:=by rw[beq_eq_false_iff_ne];rintro rfl;exact h (by simp)
  have ih:=nB (c:=c) (a:=a) (b:=b)<|λh'=>h (by simp[h'])
  show(if(x==c)=true then []::cutAt c (a++c::b)else match cutAt c (a++c::b)with|h::t=>(x::h)::t| []=>[[x]])=_;rw[hb,ih];rfl
theorem nC:∀(l:List UInt8)(c:UInt8),(Lib.indexByte l c = -1/\c∉l)\/∃a b,l=a++c::b/\c∉a/\Lib.indexByte l c=((a.length:Nat):Int)
 | [],c=> .inl ⟨rfl,by simp⟩
 |x::l,c=>by
  unfold Lib.indexByte
  by_cases hx:x=c
  ·subst hx;exact .inr ⟨[],l,rfl,by simp,by simp⟩
  ·have hb:(x==c)=false:=by rw[beq_eq_false_iff_ne];exact hx
   rcases nC l c with⟨h1,h2⟩|⟨a,b,h1,h2,h3⟩
   ·left;rw[hb,h1];refine⟨by simp,?_⟩;simp[h2];exact λh=>hx h.symm
   ·right;refine⟨x::a,b,by rw[h1];rfl,by grind,?_⟩;rw[hb,h3];have:(((a.length:Nat):Int)== -1)=false:=by rw[beq_eq_false_iff_ne];omega
    rw[this];simp
theorem yG(s:aL)(c:UInt8):gP N s ⟨[c]⟩=some (Lib.indexByte s.aU c):=by
 show(fY N s ⟨[c]⟩).bind _=_;unfold fY
 by_cases h:aL.iw ⟨[c]⟩ s=true
 ·grind [ik,Lib.indexByte]
 ·rw[ju]at h;rw[h];show((dZ N s ((c.toNat:Nat):Int)).bind _).bind _=_;have:=pc (N:=N) s c
  grind [eK]
theorem yH(s:aL)(c:UInt8):iC N s ⟨[c]⟩=some ((s.aU.count c:Nat):Int):=by
 unfold iC;show(some _:Option Int)=_;simp[Lib.countByte]
theorem xm{s:aL}{k:Nat}(h:k<=s.aU.length):oy s 0 ((k:Nat):Int)=some ⟨s.aU.take k⟩:=by
 unfold oy;grind
theorem xn{s:aL}{k:Nat}(h:k<=s.aU.length):oy s ((k:Nat):Int) ((s.aU.length:Nat):Int)=some ⟨s.aU.drop k⟩:=by
 grind [oy,kj,nK,jZ]
def lr(s:aL)(c:UInt8):List aL:=(cutAt c s.aU).map aL.mk
theorem yI{s:aL}(c:UInt8)(h:s.aU.length<=2097152)(hN:4194304<=N):iD N s ⟨[c]⟩=some (lr s c):=by
 have hc:s.aU.count c<=s.aU.length:=List.count_le_length;unfold iD ie;rw[show((-1:Int)==0)=false by decide,aZ,show aL.iw ⟨[c]⟩ ⟨[]⟩=false by simp[aL.iw],aZ,yH,aB];rw[gl (x:=((s.aU.count c:Nat):Int)+1) (by omega) (by omega),show decide ((-1:Int)<0)=true by decide,bO,aB];rw[gl (x:=((s.aU.length:Nat):Int)+1) (by omega) (by omega)];have e1:(if((s.aU.length:Nat):Int)+1<((s.aU.count c:Nat):Int)+1 then((s.aU.length:Nat):Int)+1 else((s.aU.count c:Nat):Int)+1)=((s.aU.count c+1:Nat):Int):=by
  omega
 rw[e1,wG _ (by omega),aB];rw[gl (x:=((s.aU.count c+1:Nat):Int) - 1) (by omega) (by omega)];have key:=o7 (S:=aL×List aL×Int) (R:=Empty) (body:=(λ(s7:aL×List aL×Int)=>(bif decide (s7.2.2<((s.aU.count c+1:Nat):Int) - 1)then((gP N s7.1 ⟨[c]⟩).bind λx23=>bif decide (x23<0)then some (.br (s7.1,s7.2.1,s7.2.2))else((oy s7.1 0<|wrap .i64<|x23+0).bind λx24=>(idx s7.2.1 s7.2.2).bind λx25=>(oy s7.1 (wrap .i64<|x23+(((⟨[c]⟩:aL).aU.length:Nat):Int)) ((s7.1.aU.length:Nat):Int)).bind λx27=>some<|.nx (x27,s7.2.1.set (Int.toNat s7.2.2) x24,wrap .i64<|s7.2.2+1)))else(some<|.br (s7.1,s7.2.1,s7.2.2)):Option (Fl (aL×List aL×Int) Empty))))
  (λst=>∃ws:List (List UInt8),st.2.2=((ws.length:Nat):Int)/\cutAt c s.aU=ws++cutAt c st.1.aU/\ws.length+st.1.aU.count c=s.aU.count c/\st.1.aU.length<=s.aU.length/\st.2.1=ws.map aL.mk++List.replicate (s.aU.count c+1 - ws.length) ⟨[]⟩)
  (λst=>s.aU.count c+1 - st.2.2.toNat)
  (λst=>∃ws:List (List UInt8),st.2.2=((ws.length:Nat):Int)/\cutAt c s.aU=ws++[st.1.aU]/\ws.length=s.aU.count c/\st.2.1=ws.map aL.mk++[⟨[]⟩])
  (λ_=>True) (by
   rintro⟨r,arr,i⟩⟨ws,h1,h2,h3,h4,h5⟩;simp only at h1 h2 h3 h4 h5;subst h1 h5
   by_cases hlt:ws.length<s.aU.count c
   ·have hd:decide (((ws.length:Nat):Int)<((s.aU.count c+1:Nat):Int) - 1)=true:=by grind
    simp only[hd,bO,yG,aB]
    rcases nC r.aU c with⟨_,hn⟩|⟨a,b,hr,ha,hi⟩
    ·grind
    ·have hrl:r.aU.length=a.length+(b.length+1):=by rw[hr];simp
     rw[hi,bJ (by omega),aZ];rw[show((a.length:Nat):Int)+0=((a.length:Nat):Int)by omega,gl (x:=((a.length:Nat):Int)) (by omega) (by omega),xm (by omega),aB];rw[jz _ _ (by simp;omega),aB];rw[show((a.length:Nat):Int)+(((⟨[c]⟩:aL).aU.length:Nat):Int)=((a.length+1:Nat):Int)by simp,gl (x:=((a.length+1:Nat):Int)) (by omega) (by omega),xn (by omega),aB];refine⟨_,rfl,⟨ws++[a],?_,?_,?_,?_,?_⟩,?_⟩
     ·grind [gl]
     ·simp_all[nB]
     ·simp only;rw[hr]at h3 ⊢;simp[List.count_eq_zero_of_not_mem ha]at h3 ⊢;omega
     ·simp;omega
     ·simp only[kj];rw[List.set_append_right _ _ (by simp)];simp only[gp,Nat.sub_self];obtain⟨d,hd'⟩:∃d,s.aU.count c+1 - ws.length=d+1:=⟨s.aU.count c - ws.length,by omega⟩;rw[hd',List.replicate_succ,List.set_cons_zero,show s.aU.count c+1 -(ws++[a]).length=d by simp;omega];simp[hr]
     ·simp only;rw[gl (by omega) (by omega)];omega
   ·have hd:decide (((ws.length:Nat):Int)<((s.aU.count c+1:Nat):Int) - 1)=false:=by rw[decide_eq_false_iff_not];omega
    simp only[hd,aZ];refine⟨_,rfl,ws,rfl,?_,by omega,?_⟩
    ·have h0:r.aU.count c=0:=by omega
     rw[h2,kE<|List.count_eq_zero.1 h0]
    ·rw[show s.aU.count c+1 - ws.length=1 by omega];rfl)
  N (s,List.replicate (s.aU.count c+1) ⟨[]⟩,0) ⟨[],rfl,rfl,by simp,bP _,by simp⟩ (by simp only;omega)
 obtain⟨o,ho,hgo⟩:=key;rw[ho,aB]
 cases o with
 |rt r=>exact r.elim
 |go st=>
  obtain⟨r,arr,i⟩:=st;obtain⟨ws,h1,h2,h3,h4⟩:=hgo;simp only at h1 h2 h3 h4;subst h1 h4;simp only[Fo.cs];rw[jz _ _ (by simp),aB,gl (by omega) (by omega)];rw[show((ws.length:Nat):Int)+1=((ws.length+1:Nat):Int)by omega,uW _ _ (by simp),aB,aB];unfold lr;rw[h2];rw[kj,List.set_append_right _ _ (by simp),nK (by simp)];simp
def jQ(s:aL):Bool:=decide (s.aU.length<=200)&&(lr s 47).all isWord
theorem nR{c:UInt8}:∀{l x:List UInt8},x∈cutAt c l->x.length<=l.length
 | [],x,h=>by simp[cutAt]at h;subst h;simp
 |b::l,x,h=>by
  unfold cutAt at h;split at h
  ·rcases gC.1 h with h|h
   ·subst h;simp
   ·have:=nR h;simp;omega
  ·split at h
   ·rename_i t e
    rcases gC.1 h with h|h
    ·subst h;have:=nR (c:=c) (l:=l) (by rw[e];exact List.mem_cons_self);simp;omega
    ·have:=nR (c:=c) (l:=l) (by rw[e];exact List.mem_cons_of_mem _ h);simp;omega
   ·simp at h;subst h;simp
theorem sP(c:UInt8):∀(l:List UInt8),(cutAt c l).length<=l.length+1
 | []=>by simp[cutAt]
 |b::l=>by
  have:=sP c l;unfold cutAt;split
  ·simp;omega
  ·split
   ·rename_i e;rw[e]at this;simp at this ⊢;omega
   ·simp
theorem xo{s x:aL}{c:UInt8}(h:x∈lr s c):x.aU.length<=s.aU.length:=by
 obtain⟨y,hy,rfl⟩:=dK.1 h;exact nR hy
theorem xp(s:aL)(c:UInt8):(lr s c).length<=s.aU.length+1:=by simp[lr,gp,sP]
theorem kX{s:aL}(h:s.aU.length<=2097152)(hN:4194304<=N):fH N s=some (jQ s):=by
 unfold fH jQ
 by_cases hl:s.aU.length<=200
 ·rw[cC (by omega),bO,yI 47 h hN,aB]
  have e:=il (l:=lr s 47) (φ:=dT N) (λx=> !isWord x) (by have:=xp s 47;omega) (λx hx=>by
   unfold dT
   rw[dF (by have:=xo hx;omega)];rfl)
  have e2:dS N (lr s 47) (dT N)=gQ (lr s 47) (dT N):=rfl;rw[e2,e,aB,aB,cC hl,Bool.true_and];congr 1;rw[Bool.eq_iff_iff];simp
 ·rw[bJ (by omega),aZ,aB,bJ hl,Bool.false_and]
end
def Ok{β:Type}(o:Option β)(P:β->Prop):Prop:=∃r,o=some r/\P r
section
variable {α β S R:Type}{P:α->Prop}{Q:β->Prop}
theorem EH{x:β}(h:Q x):Ok (some x) Q:=⟨x,rfl,h⟩
theorem GX{o:Option β}{x:β}(h:o=some x)(hq:Q x):Ok o Q:=⟨x,h,hq⟩
theorem Ok.mono{o:Option α}{P':α->Prop}(h:Ok o P)(k:∀x,P x->P' x):Ok o P':=by obtain⟨x,h1,h2⟩:=h;exact⟨x,h1,k x h2⟩
theorem EW{o:Option α}{f:α->Option β}(h:Ok o P)(k:∀x,P x->Ok (f x) Q):Ok (o.bind f) Q:=by
 obtain⟨x,h1,h2⟩:=h;grind
theorem GY{o:Option α}{f:α->Option β}{x:α}(h:o=some x)(k:Ok (f x) Q):Ok (o.bind f) Q:=by grind
theorem GZ{b:Bool}{x y:Option β}(ht:b=true->Ok x Q)(hf:b=false->Ok y Q):Ok (bif b then x else y) Q:=by
 grind
theorem GL{o:Option β}{x:β}(h:Ok o (λr=>r=x)):o=some x:=by obtain⟨r,h1,h2⟩:=h;rw[h1,h2]
def DE(Go:S->Prop)(Rt:R->Prop):Fo S R->Prop| .go s=>Go s| .rt r=>Rt r
def BX(Nx Br:S->Prop)(Rt:R->Prop):Fl S R->Prop| .nx s=>Nx s| .br s=>Br s| .rt r=>Rt r
theorem F6{Nx Br:S->Prop}{Rt:R->Prop}{s:S}(h:Nx s):Ok (some<|Fl.nx s) (BX Nx Br Rt):=⟨_,rfl,h⟩
theorem G0{Nx Br:S->Prop}{Rt:R->Prop}{s:S}(h:Br s):Ok (some<|Fl.br s) (BX Nx Br Rt):=⟨_,rfl,h⟩
theorem F7{Nx Br:S->Prop}{Rt:R->Prop}{r:R}(h:Rt r):Ok (some (Fl.rt r:Fl S R)) (BX Nx Br Rt):=⟨_,rfl,h⟩
theorem F8{Go:S->Prop}{Rt:R->Prop}{o:Fo S R}{f:S->Option β}{g:R->Option β}(h:DE Go Rt o)(hf:∀s,Go s->Ok (f s) Q)(hg:∀r,Rt r->Ok (g r) Q):Ok (o.cs f g) Q:=by
 cases o with
 |go s=>exact hf s h
 |rt r=>exact hg r h
theorem E5{body:Nat->S->Option S}{m:Nat}{s:S}(Inv:Nat->S->Prop)(hm:m<=4611686018427387904)(h0:Inv 0 s)(h:∀k s,k<m->Inv k s->Ok (body k s) (Inv<|k+1)):Ok (lz m body s) (Inv m):=
 zP Inv hm h0 h
theorem F9{body:Nat->S->Option (Fl S R)}{m:Nat}{s:S}(Inv:Nat->S->Prop){Go:S->Prop}{Rt:R->Prop}(hm:m<=4611686018427387904)(h0:Inv 0 s)
  (h:∀k s,k<m->Inv k s->Ok (body k s) (BX (Inv<|k+1) Go Rt)) (hg:∀s,Inv m s->Go s):Ok (ly m body s) (DE Go Rt):=by
 obtain⟨o,h1,h2⟩:=zO (R:=R) Inv Go Rt hm h0 (λk s hk hi=>by
  obtain⟨fl,a1,a2⟩:=h k s hk hi
  exact⟨fl,a1,by cases fl <;> exact a2⟩) hg
 exact⟨o,h1,by cases o <;> exact h2⟩
theorem G1{body:S->Option (Fl S R)}{N:Nat}{s:S}(Inv:S->Prop)(μ:S->Nat){Go:S->Prop}{Rt:R->Prop}
  (h:∀s,Inv s->Ok (body s) (BX (λs'=>Inv s'/\μ s'<μ s) Go Rt)) (hi:Inv s) (hn:μ s<N):Ok (sb body N s) (DE Go Rt):=by
 obtain⟨o,h1,h2⟩:=o7 (R:=R) Inv μ Go Rt (λs hi=>by
  obtain⟨fl,a1,a2⟩:=h s hi
  exact⟨fl,a1,by cases fl <;> exact a2⟩) N s hi hn
 exact⟨o,h1,by cases o <;> exact h2⟩
theorem G2{b:Nat}{l ys:List α}{f:List α->Option β}(h:(l.length+ys.length)*b<=140737488355328)(k:Ok (f<|l++ys) Q):Ok ((Go.Gk.app b l ys).bind f) Q:=by grind [jB]
theorem G3{l:List α}{i:Nat}{f:α->Option β}(h:i<l.length)(k:Ok (f l[i]) Q):Ok ((Go.Gk.idx l ((i:Nat):Int)).bind f) Q:=by grind [jz]
end
theorem wrap_add{n m:Nat}(h:n+m<=4611686018427387904):wrap .i64 (((n:Nat):Int)+((m:Nat):Int))=((n+m:Nat):Int):=by grind [gl]
theorem u4{n:Nat}(h:n+1<=4611686018427387904):wrap .i64 (((n:Nat):Int)+1)=((n+1:Nat):Int):=by grind [gl]
section
variable {α:Type}{N:Nat}
end
section
variable {κ ν:Type}[DecidableEq κ]
theorem ki(m:List (κ×ν))(k k':κ)(x z:ν):bV (dG m k x) k' z=if k'=k then x else bV m k' z:=by
 induction m with
 |nil=>grind [dG,bV]
 |cons p m ih=>
  grind [dG,bV,bJ,cC]
theorem nS(m:List (κ×ν))(k k':κ)(x:ν):fB (dG m k x) k'=(decide (k'=k)||fB m k'):=by
 induction m with
 |nil=>rfl
 |cons p m ih=>
  unfold dG
  grind [fB,bJ,decide]
def gB(m:List (κ×ν))(l:List κ)(x:ν):List (κ×ν):=l.foldl (λm k=>dG m k x) m
theorem oH(l:List κ)(x z:ν)(k:κ):∀(m:List (κ×ν)),bV (gB m l x) k z=if k∈l then x else bV m k z:=by
 induction l with
 |nil=>simp[gB]
 |cons a l ih=>
  intro m;show bV (gB (dG m a x) l x) k z=_
  grind [ki]
theorem vW(l:List κ)(x:ν)(k:κ):∀(m:List (κ×ν)),fB (gB m l x) k=(decide (k∈l)||fB m k):=by
 induction l with
 |nil=>simp[gB]
 |cons a l ih=>
  intro m;show fB (gB (dG m a x) l x) k=_
  grind [nS]
theorem sQ{l:List κ}{m:List (κ×ν)}(x:ν)(hl:l.length<=4611686018427387904):
  lz l.length (λ(k:Nat)(s:List (κ×ν))=>((idx l ((k:Nat):Int)).bind λy=>some (dG s y x):Option (List<|κ×ν))) m=some (gB m l x):=by
 rw[zN (s:=m) (λk=>gB m (l.take k) x) hl rfl (λk hk=>by
  grind [jz,aB,gB,gX]),j4]
end
section
variable {N:Nat}
def oI(l:List aV)(k:Nat):Option Int:=
 match l[k]? with
 |none=>none
 |some p=>if isWord p.Name=false then some 5 else if(decide (p.Kind<1)||decide (p.Kind>7))=true then some 4 else if(decide (p.dI<0)||decide (p.dI>200))=true then some 1 else if cZ aV.Name l k=true then some 8 else none
def tV(p q:aV):Bool:=decide (p.dI>0)&&(q.dI==p.dI)&&(q.Kind != p.Kind)
def vX(l:List aV)(k:Nat):Option Int:=
 match l[k]? with
 |none=>none
 |some p=>if(l.take k).any (tV p)=true then some 12 else none
def iq(l:List aV):Int:=if l.length=0 then 9 else if 200<l.length then 2 else((gi l.length<|oI l).or<|gi l.length<|vX l).getD 0
def nT(t:List aD)(k:Nat):Option Int:=
 match t[k]? with
 |none=>none
 |some x=>if isWord x.Name=false then some 5 else if iq x.bA≠0 then some (iq x.bA)else if cZ aD.Name t k=true then some 8 else none
def checkTypes(t:List aD):Int:=if 200<t.length then 2 else(gi t.length<|nT t).getD 0
theorem qF{R β:Type}(o:Option R)(f:Unit->Option β)(g:R->Option β):(uR o ()).cs f g=o.elim (f ()) g:=by cases o <;> rfl
theorem lS(o:Option Int):(uR o ()).cs (λ_=>some (0:Int)) (λr=>some r)=some (o.getD 0):=by cases o <;> rfl
theorem getD_or(a b:Option Int):(a.elim (some<|b.getD 0) λr=>some r)=some ((a.or b).getD 0):=by cases a <;> rfl
theorem nD{l:List aV}(h:bk l<=1048576):fX N l=some (iq l):=by
 have hlen:=gT l;unfold fX iq
 by_cases h0:l.length=0
 ·rw[aG h0,h0];rfl
 ·have e0:(((l.length:Nat):Int)==0)=false:=by rw[beq_eq_false_iff_ne];omega
  rw[aH h0,e0,aZ]
  by_cases h1:200<l.length
  ·rw[aG h1,cC (by omega),bO]
  ·rw[aH h1,bJ (by omega),aZ]
   rw[gM (oI l) (by omega) (λk hk _=>by
    have hx:l[k]? =some l[k]:=aM hk;have hb:=yA hx;rw[rB,m7]at hb;rw[cW hx,aB,dF (by omega),aB,lk aV.Name hx (by omega)];unfold oI;rw[hx];dsimp only
    cases isWord l[k].Name
    ·rfl
    ·cases decide (l[k].Kind<1)||decide (l[k].Kind>7)
     ·cases decide (l[k].dI<0)||decide (l[k].dI>200)
      ·cases cZ aV.Name l k <;> rfl
      ·rfl
     ·rfl),aB]
   rw[qF]
   rw[gM (vX l) (by omega) (λk hk _=>by
    have hx:l[k]? =some l[k]:=aM hk;rw[cW hx,aB,uW l k (by omega),aB]
    have e:=il (l:=l.take k) (φ:=λy0=>cU N y0 l[k]) (tV l[k]) (by rw[eJ];omega) (λq _=>by
     unfold cU tV
     cases decide (l[k].dI>0)
     ·rfl
     ·cases q.dI==l[k].dI <;> rfl)
    have e2:dP N (l.take k) (λy0=>cU N y0 l[k])=gQ (l.take k) (λy0=>cU N y0 l[k]):=rfl;rw[e2,e,aB];unfold vX;rw[hx];dsimp only
    cases(l.take k).any (tV l[k]) <;> rfl),aB,lS]
   exact getD_or _ _
theorem jk{t:List aD}(h:bk t<=1048576):eA N t=some (checkTypes t):=by
 have hlen:=gT t;unfold eA checkTypes
 by_cases h1:200<t.length
 ·rw[aG h1,cC (by omega),bO]
 ·rw[aH h1,bJ (by omega),aZ]
  rw[gM (nT t) (by omega) (λk hk _=>by
   have hx:t[k]? =some t[k]:=aM hk;have hb:=yA hx;rw[m8]at hb;have hb2:=m7 t[k].Name;rw[cW hx,aB,dF (by omega),aB,nD (by omega),aB,lk aD.Name hx (by omega)];unfold nT;rw[hx];dsimp only
   cases isWord t[k].Name
   ·rfl
   ·by_cases hc:iq t[k].bA=0
    ·rw[hc];cases cZ aD.Name t k <;> rfl
    ·have:(iq t[k].bA != 0)=true:=by rw[bne_iff_ne];exact hc
     rw[this];simp[hc,qt]),aB,lS]
structure mm (t:List aD):Prop where
 sorted:dD aD.Name t
 pins:∀x∈t,dD aV.Name x.bA
theorem lT{e:Nat->Option Int}{m:Nat}(hz:∀k r,e k=some r->r≠0)(h:(gi m e).getD 0=0):∀k,k<m->e k=none:=by
 cases hx:gi m e with
 |none=>exact fD.1 hx
 |some r=>
  obtain⟨k,_,hk,_⟩:=fQ.1 hx;rw[hx]at h;exact absurd h<|hz k r hk
theorem xq{l:List aV}{k:Nat}{r:Int}(h:oI l k=some r):r≠0:=by
 unfold oI at h
 repeat' split at h
 all_goals first|(injection h with h;omega)|cases h
theorem tW{l:List aV}(h:iq l=0):dD aV.Name l:=by
 unfold iq at h;split at h
 ·cases h
 split at h
 ·cases h
 refine eZ λk hk=>?_
 cases hx:gi l.length (oI l)with
 |some r=>
  obtain⟨j,_,hj,_⟩:=fQ.1 hx;rw[hx]at h;exact absurd h<|xq hj
 |none=>
  have:=fD.1 hx k hk;unfold oI at this;rw[aM hk]at this;dsimp only at this
  repeat' split at this
  all_goals first|(simp at this;done)|simp_all
theorem ov{t:List aD}(h:checkTypes t=0):mm t:=by
 unfold checkTypes at h;split at h
 ·cases h
 have hz:∀k r,nT t k=some r->r≠0:=by
  intro k r hk;unfold nT at hk
  repeat' split at hk
  all_goals first|(injection hk with hk;subst hk;first|assumption|omega)|cases hk
 have hn:=lT hz h;have key:∀k(hk:k<t.length),iq t[k].bA=0/\cZ aD.Name t k=false:=by
  intro k hk;have:=hn k hk;unfold nT at this;rw[aM hk]at this;dsimp only at this
  repeat' split at this
  all_goals first|(simp at this;done)|simp_all
 refine⟨eZ λk hk=>(key k hk).2,λx hx=>?_⟩;obtain⟨k,hk⟩:=fN hx;obtain⟨hlt,rfl⟩:=bG.1 hk;exact tW (key k hlt).1
end
section
variable {N:Nat}
theorem pS{t:List aD}{s:aL}(hs:dD aD.Name t)(ht:bk t<=1048576)(hN:4194304<=N):fF N t s=some (nat? aD.Name t s):=by
 have:=gT t;obtain⟨r,h1,h2⟩:=tS (N:=N) (key:=aD.Name) (l:=t) (s:=s) (φ:=eL N) (λx=>rfl) hs (by omega) hN;have e:bW N t s (eL N)=yD N t s (eL N):=rfl;unfold fF;rw[e,h1,aB];exact h2
theorem sR{l:List Part}{s:aL}(hs:dD Part.Name l)(hl:l.length<=1048576)(hN:4194304<=N):gq N l s=some (nat? Part.Name l s):=by
 obtain⟨r,h1,h2⟩:=tS (N:=N) (key:=Part.Name) (l:=l) (s:=s) (φ:=eM N) (λx=>rfl) hs (by omega) hN;have e:cE N l s (eM N)=yD N l s (eM N):=rfl;unfold gq;rw[e,h1,aB];exact h2
theorem yJ{y:aD}{s:aL}(hs:dD aV.Name y.bA)(hl:y.bA.length<=1048576)(hN:4194304<=N):iA N y s=some (nat? aV.Name y.bA s):=by
 obtain⟨r,h1,h2⟩:=tS (N:=N) (key:=aV.Name) (l:=y.bA) (s:=s) (φ:=fC N) (λx=>rfl) hs (by omega) hN;have e:cA N y.bA s (fC N)=yD N y.bA s (fC N):=rfl;unfold iA;rw[e,h1,aB];exact h2
theorem kF{α:Type}(key:α->aL)(l:List α)(s:aL):(nat? key l s = -1/\∀x∈l,key x≠s)\/∃k x,nat? key l s=((k:Nat):Int)/\l[k]? =some x/\key x=s:=by
 rcases lI l (λx=>(key x).iw s)with⟨h1,h2⟩|⟨k,x,h1,h2,h3,_⟩
 ·exact .inl ⟨h1,λx hx=>kh.1<|h2 x hx⟩
 ·exact .inr ⟨k,x,h1,h2,ik.1 h3⟩
theorem zS{α:Type}(key:α->aL)(l:List α)(s:aL):decide (nat? key l s>=0)=l.any (λx=>(key x).iw s):=yC _ _
def mn(t:List aD)(l:List Part)(k:Nat):Option Int:=
 match l[k]? with
 |none=>none
 |some p=>if jQ p.Name=false then some 5 else if nat? aD.Name t p.eC<0 then some 9 else if cZ Part.Name l k=true then some 8 else none
def fK(t:List aD)(l:List Part):Int:=if 1000<l.length then 2 else(gi l.length<|mn t l).getD 0
theorem rE{R:Type}(a:Bool)(z:Int)(b:Bool)(f:Int->R):
  ((bif(!a)then some (.rt<|f 5)else(bif decide (z<0)then some (.rt<|f 9)else((some b).bind λs=>bif s then some (.rt<|f 8)else some (.nx ())))):Option (Fl Unit R)) =
  some (qt ((if a=false then some (5:Int)else if z<0 then some 9 else if b=true then some 8 else none).map f) ()):=by
 cases a
 ·rfl
 ·by_cases hz:z<0
  ·rw[cC hz];simp[qt,hz]
  ·rw[bJ hz];cases b <;> simp[qt,hz]
theorem rF(o:Option Int):o.map (λx=>x)=o:=by cases o <;> rfl
theorem rG{t:List aD}{l:List Part}(hs:dD aD.Name t)(ht:bk t<=1048576)(hl:l.length<=1048576)(hln:∀p∈l,p.Name.aU.length<=2097152)(hN:4194304<=N):
  cF N t l (fH N)=some (fK t l):=by
 unfold cF fK
 by_cases h1:1000<l.length
 ·rw[aG h1,cC (by omega),bO]
 ·rw[aH h1,bJ (by omega),aZ]
  rw[gM (mn t l) (by omega) (λk hk _=>by
   have hx:l[k]? =some l[k]:=aM hk;have hb:=hln _<|cO hk
   rw[cW hx,aB,kX (by omega) hN,aB,pS hs ht hN,aB,lk Part.Name hx (by omega)];refine(rE _ _ _ (λx:Int=>x)).trans ?_
   rw[rF];unfold mn;rw[hx]),aB,lS]
def jR(t:List aD)(l:List Part)(p:aT):Bool:=
 match l.find? (λx=>x.Name.iw p.Part)with
 |none=>false
 |some x=>match t.find? (λy=>y.Name.iw x.eC)with
  |none=>false
  |some y=>y.bA.any (λq=>q.Name.iw p.aT)
theorem wK{α:Type}{l:List α}{p:α->Bool}{k:Nat}{x:α}(hk:xM l p=((k:Nat):Int))(hx:l[k]? =some x):l.find? p=some x:=by
 rcases lI l p with⟨h1,_⟩|⟨k',x',h1,h2,h3,h4⟩
 ·omega
 ·have:k'=k:=by omega
  subst this;rw[hx]at h2;injection h2 with h2;subst h2
  rw[List.find?_eq_some_iff_getElem];obtain⟨hlt,hxx⟩:=bG.1 hx;exact⟨h3,k',hlt,hxx,λj hj=>by rw[h4 j l[j] hj<|aM (by omega)];rfl⟩
theorem xr{α:Type}{l:List α}{p:α->Bool}(hk:xM l p = -1):l.find? p=none:=by
 rcases lI l p with⟨_,h⟩|⟨k',x',h1,_⟩
 ·rw[List.find?_eq_none];intro x hx;rw[h x hx];decide
 ·omega
def Typed(t:List aD)(l:List Part):Prop:=∀x∈l,0<=nat? aD.Name t x.eC
theorem u5{t:List aD}{l:List Part}{p:aT}(htl:Typed t l){fp:Option Int}{ft:aL->Option Int}{fq:aD->Option Int}
  (h1:fp=some (nat? Part.Name l p.Part)) (h2:∀s,ft s=some (nat? aD.Name t s)) (h3:∀y∈t,fq y=some (nat? aV.Name y.bA p.aT)):
  (fp.bind λx2=>(bif decide (x2>=0)then((idx l x2).bind λx18=>(ft x18.eC).bind λx21=>(idx t x21).bind λCq=>(fq Cq).bind λx25=>some<|decide<|x25>=0)else some false).bind λs16=>some s16)=some (jR t l p):=by
 rw[h1,aB];unfold jR
 rcases kF Part.Name l p.Part with⟨h4,_⟩|⟨k,x,h4,h5,h6⟩
 ·rw[xr h4,h4];rfl
 ·rw[wK h4 h5,h4,cC (by omega),bO,cW h5,aB,h2,aB];dsimp only;have h7:=htl x<|dW h5
  rcases kF aD.Name t x.eC with⟨h8,_⟩|⟨j,y,h8,h9,_⟩
  ·omega
  ·rw[wK h8 h9,h8,cW h9,aB,h3 y<|dW h9,aB,aB,zS]
theorem kG{t:List aD}{l:List Part}{p:aT}(ht:mm t)(hl:dD Part.Name l)(htl:Typed t l)(hbt:bk t<=1048576)(hbl:l.length<=1048576)(hN:4194304<=N):
  g0 N t l p=some (jR t l p):=by
 exact u5 htl (sR hl (by omega) hN) (λs=>pS ht.sorted hbt hN) (λy hy=>yJ (ht.pins y hy) (by
  have h1:=jo hy;rw[m8]at h1;have h2:=gT y.bA;omega) hN)
def fL(a b:aT):Bool:=a.Part.mx b.Part||(a.Part.iw b.Part&&a.aT.mx b.aT)
def ja(l:List aT)(k:Nat):Bool:=match l[k]?,l[k - 1]? with|some p,some q=>decide (0<k)&& !fL q p|_,_=>false
theorem yK(a b:aL):0<Lib.compareBytes a.aU b.aU↔aL.lt b a:=by
 have h1:=jm a.aU b.aU;have h2:=gb a.aU b.aU
 rcases aL.lH a b with h|h|h
 ·have h3:=h1.2 h;exact⟨λh'=>by omega,λh'=>absurd h'<|aL.lt_asymm h⟩
 ·subst h;have h3:=h2.2 rfl;exact⟨λh'=>by omega,λh'=>absurd h'<|aL.lt_irrefl _⟩
 ·refine⟨λ_=>h,λ_=>?_⟩;have h3:¬Lib.compareBytes a.aU b.aU<0:=λh'=>aL.lt_asymm h<|h1.1 h'
  have h4:¬Lib.compareBytes a.aU b.aU=0:=λh'=>aL.ot h (aL.ext'<|h2.1 h').symm;omega
def mo(a b:aT):Int:=if Lib.compareBytes a.Part.aU b.Part.aU=0 then Lib.compareBytes a.aT.aU b.aT.aU else Lib.compareBytes a.Part.aU b.Part.aU
theorem nE(a b:aT):cN N a b=some (mo a b):=by
 show(bif Lib.compareBytes a.Part.aU b.Part.aU != 0 then some (Lib.compareBytes a.Part.aU b.Part.aU)else some (Lib.compareBytes a.aT.aU b.aT.aU))=_;unfold mo
 by_cases h:Lib.compareBytes a.Part.aU b.Part.aU=0
 ·rw[h];rfl
 ·have:(Lib.compareBytes a.Part.aU b.Part.aU != 0)=true:=by rw[bne_iff_ne];exact h
  rw[this,aH h];rfl
theorem sS(a b:aT):decide (mo a b<=0) = !fL b a:=by
 unfold mo fL
 by_cases h:Lib.compareBytes a.Part.aU b.Part.aU=0
 ·have e:a.Part=b.Part:=aL.ext'<|(gb _ _).1 h
  have e2:b.Part.mx a.Part=false:=by rw[e,<-ju];exact aL.lt_irrefl _
  rw[aG h,e2,ik.2 e.symm,Bool.false_or,Bool.true_and];have:=yK a.aT b.aT;rw[Bool.eq_iff_iff,fW,Bool.not_eq_true',<-ju];constructor
  ·intro h1 h2;have:=this.2 h2;omega
  ·intro h1
   by_cases h3:0<Lib.compareBytes a.aT.aU b.aT.aU
   ·exact absurd (this.1 h3) h1
   ·omega
 ·have e:b.Part≠a.Part:=λe=>h<|(gb _ _).2 (by rw[e])
  rw[aH h,kh.2 e,Bool.false_and,Bool.or_false];have:=yK a.Part b.Part;rw[Bool.eq_iff_iff,fW,Bool.not_eq_true',<-ju];constructor
  ·intro h1 h2;have:=this.2 h2;omega
  ·intro h1
   by_cases h3:0<Lib.compareBytes a.Part.aU b.Part.aU
   ·exact absurd (this.1 h3) h1
   ·omega
theorem xt{l:List aT}{k:Nat}{x:aT}{f:aT->Option Bool}(hf:∀y,f y=some (!fL y x))(hx:l[k]? =some x)(hl:l.length<=1048576):
  (bif decide (((k:Nat):Int)>0)then(idx l<|wrap .i64<|((k:Nat):Int) - 1).bind f else some false)=some (ja l k):=by
 have hk:=(bG.1 hx).1;unfold ja
 by_cases h0:0<k
 ·rw[cC (by omega),bO,sN h0 (by omega),jz l _ (by omega),aB,hx,aM (by omega:k - 1<l.length),hf];simp[h0]
 ·have:k=0:=by omega
  subst this;rw[hx];simp
def lu(l:List Net)(p:aT):Bool:=l.any<|λn=>decide<|p∈n.bA
def rH(t:List aD)(x:aW)(i:Nat)(l:List aT)(k:Nat):Option Int:=
 match l[k]? with
 |none=>none
 |some p=>if jR t x.bB p=false then some 9 else if ja l k=true then some 8 else if lu (x.aO.take i) p=true then some 7 else none
def rI(t:List aD)(x:aW)(i:Nat):Option Int:=
 match x.aO[i]? with
 |none=>none
 |some n=>if jQ n.Name=false then some 5 else if n.bA.length=0 then some 9 else if 500<n.bA.length then some 2 else
   (gi n.bA.length<|rH t x i n.bA).or (if 0<n.aX.length then some 3 else if cZ Net.Name x.aO i=true then some 8 else none)
def pT(t:List aD)(x:aW):Int:=if 1000<x.aO.length then 2 else(gi x.aO.length<|rI t x).getD 0
def nU(t:List aD)(x:aW):Int:=
 if checkTypes t≠0 then checkTypes t else if fK t x.bB≠0 then fK t x.bB else pT t x
theorem vY{t:List aD}{l:List Part}{k:Nat}{r:Int}(h:mn t l k=some r):r≠0:=by
 unfold mn at h
 repeat' split at h
 all_goals first|(injection h with h;omega)|cases h
structure nV (t:List aD) (l:List Part):Prop where
 sorted:dD Part.Name l
 typed:Typed t l
theorem sa{t:List aD}{l:List Part}(h:fK t l=0):nV t l:=by
 unfold fK at h;split at h
 ·cases h
 have hn:=lT (λk r hk=>vY hk) h;have key:∀k(hk:k<l.length),0<=nat? aD.Name t l[k].eC/\cZ Part.Name l k=false:=by
  intro k hk;have:=hn k hk;unfold mn at this;rw[aM hk]at this;dsimp only at this
  repeat' split at this
  all_goals first|(simp at this;done)|simp_all
 refine⟨eZ λk hk=>(key k hk).2,λx hx=>?_⟩;obtain⟨k,hk⟩:=fN hx;obtain⟨hlt,rfl⟩:=bG.1 hk;exact(key k hlt).1
theorem yL{t:List aD}{x:aW}{i:Nat}{l:List aT}{k:Nat}{r:Int}(h:rH t x i l k=some r):r≠0:=by
 unfold rH at h
 repeat' split at h
 all_goals first|(injection h with h;omega)|cases h
theorem mA{l:List aT}{has:aT->Option Bool}{m:List (aT×Bool)}(hB:aT->Bool)(hh:∀p∈l,has p=some (hB p))(hl:l.length<=1048576):
  cV N l has m=some (if 500<l.length then((2:Int),m)else
   (gi l.length (λk=>match l[k]? with
    |none=>none
    |some p=>if hB p=false then some (9:Int)else if ja l k=true then some 8 else if bV m p false=true then some 7 else none)).elim ((0:Int),gB m l true) (λr=>(r,m))):=by
 unfold cV
 by_cases h1:500<l.length
 ·rw[aG h1,cC (by omega),bO]
 ·rw[aH h1,bJ (by omega),aZ]
  rw[gM (λk=>Option.map (λ(r:Int)=>(r,m)) (match l[k]? with
    |none=>none
    |some p=>if hB p=false then some (9:Int)else if ja l k=true then some 8 else if bV m p false=true then some 7 else none)) (by omega) (λk hk _=>by
   have hx:l[k]? =some l[k]:=aM hk;rw[cW hx,aB,hh _<|cO hk,aB,xt (λy=>by rw[nE,aB,sS]) hx hl,hx];dsimp only
   cases hB l[k]
   ·rfl
   ·cases ja l k
    ·cases bV m l[k] false <;> rfl
    ·rfl),aB,qF,sQ true (by omega),aB]
  rw[<-yv];generalize gi l.length _=o
  cases o <;> rfl
def mq(x:aW)(i:Nat):List (aT×Bool):=(x.aO.take i).foldl (λm n=>gB m n.bA true) []
theorem sT(l:List Net)(p:aT):∀(m:List (aT×Bool)),bV (l.foldl (λm n=>gB m n.bA true) m) p false=(lu l p||bV m p false):=by
 induction l with
 |nil=>intro m;rfl
 |cons n l ih=>
  intro m;rw[List.foldl_cons,ih,oH];unfold lu;rw[List.any_cons]
  by_cases h:p∈n.bA <;> simp[h]
theorem tX(x:aW)(i:Nat)(p:aT):bV (mq x i) p false=lu (x.aO.take i) p:=by
 unfold mq;rw[sT];simp[bV]
theorem tY{x:aW}{i:Nat}{n:Net}(h:x.aO[i]? =some n):mq x (i+1)=gB (mq x i) n.bA true:=by
 unfold mq;obtain⟨hlt,rfl⟩:=bG.1 h;rw[gX hlt,List.foldl_append];rfl
structure DX (x:aW):Prop where
 pl:x.bB.length<=1048576
 pn:∀p∈x.bB,p.Name.aU.length<=2097152
 nl:x.aO.length<=1048576
 nn:∀n∈x.aO,n.Name.aU.length<=2097152
 np:∀n∈x.aO,n.bA.length<=1048576
theorem mG{t:List aD}{x:aW}(hbt:bk t<=1048576)(hbx:DX x)(hN:4194304<=N):eQ N t x=some (nU t x):=by
 have hpl:=hbx.pl;have hln:=hbx.nl;unfold eQ nU;rw[jk hbt,aB]
 by_cases h1:checkTypes t≠0
 ·have e:(checkTypes t != 0)=true:=by rw[bne_iff_ne];exact h1
  rw[e,bO,aG h1]
 replace h1:=Decidable.not_not.1 h1
 have ht:=ov h1;have e:(checkTypes t != 0)=false:=by rw[h1];rfl
 rw[e,aZ,aH<|λh=>h h1,rG ht.sorted hbt hbx.pl hbx.pn hN,aB]
 by_cases h2:fK t x.bB≠0
 ·have e:(fK t x.bB != 0)=true:=by rw[bne_iff_ne];exact h2
  rw[e,bO,aG h2]
 replace h2:=Decidable.not_not.1 h2
 have hp:=sa h2;have e:(fK t x.bB != 0)=false:=by rw[h2];rfl
 rw[e,aZ,aH<|λh=>h h2];unfold pT
 by_cases h3:1000<x.aO.length
 ·rw[aG h3,cC (by omega),bO]
 ·rw[aH h3,bJ (by omega),aZ]
  rw[tP (s:=([]:List (aT×Bool))) (mq x) (rI t x) (by omega) rfl (λi hi _=>by
   have hx:x.aO[i]? =some x.aO[i]:=aM hi;have hb2:=hbx.nn _<|cO hi
   have hlp:=hbx.np _<|cO hi
   rw[tY hx]
   rw[cW hx,aB,kX (by omega) hN,aB,mA (jR t x.bB) (λp _=>by
    unfold fZ
    rw[kG ht hp.sorted hp.typed hbt hpl hN,aB]) (by omega),aB,lk Net.Name hx (by omega)]
   unfold rI;rw[hx];dsimp only
   cases jQ x.aO[i].Name
   ·rfl
   simp only[nL,aZ,Bool.true_eq_false,if_false]
   by_cases h4:x.aO[i].bA.length=0
   ·rw[aG h4,h4];rfl
   have e4:(((x.aO[i].bA.length:Nat):Int)==0)=false:=by rw[beq_eq_false_iff_ne];omega
   rw[aH h4,e4,aZ]
   by_cases h5:500<x.aO[i].bA.length
   ·rw[aG h5,aG h5];rfl
   rw[aH h5,aH h5]
   have e5:(gi x.aO[i].bA.length (λk=>match x.aO[i].bA[k]? with
    |none=>none
    |some p=>if jR t x.bB p=false then some (9:Int)else if ja x.aO[i].bA k=true then some 8 else if bV (mq x i) p false=true then some 7 else none))=gi x.aO[i].bA.length (rH t x i x.aO[i].bA):=by
    congr 1;funext k;unfold rH;split
    ·rfl
    ·rw[tX]
   rw[e5]
   cases h6:gi x.aO[i].bA.length (rH t x i x.aO[i].bA)with
   |some r=>
    obtain⟨j,_,hj,_⟩:=fQ.1 h6;have e6:(r != 0)=true:=by rw[bne_iff_ne];exact yL hj
    simp only[Option.elim_some,e6,bO];rfl
   |none=>
    simp only[Option.elim_none,bne_self_eq_false,aZ,Option.none_or]
    by_cases h7:0<x.aO[i].aX.length
    ·rw[aG h7,cC (by omega)];rfl
    ·rw[aH h7,bJ (by omega)]
     cases cZ Net.Name x.aO i <;> rfl),aB]
  cases gi x.aO.length (rI t x) <;> rfl
end
section
variable {N:Nat}
structure yM (t:List aD) (x:aW):Prop where
 types:mm t
 parts:nV t x.bB
 vZ:x.bB.length<=1000
 wL:x.aO.length<=1000
 qG:∀n∈x.aO,0<n.bA.length/\n.bA.length<=500
 zT:∀n∈x.aO,n.aX= []
 lx:dD Net.Name x.aO
 path:∀n∈x.aO,jQ n.Name=true
 Ah:∀p∈x.bB,jQ p.Name=true
 DF:∀n∈x.aO,∀p∈n.bA,jR t x.bB p=true
 v5:∀n∈x.aO,∀(i j:Nat)(p q:aT),i<j->n.bA[i]? =some p->n.bA[j]? =some q->fL p q=true
 once:∀(i j:Nat)(n m:Net)(p:aT),x.aO[i]? =some n->x.aO[j]? =some m->p∈n.bA->p∈m.bA->i=j
theorem kd(a:aT):fL a a=false:=by
 unfold fL;have h1:a.Part.mx a.Part=false:=by rw[<-ju];exact aL.lt_irrefl _
 have h2:a.aT.mx a.aT=false:=by rw[<-ju];exact aL.lt_irrefl _
 rw[h1,h2];simp
theorem kY{a b c:aT}(h1:fL a b=true)(h2:fL b c=true):fL a c=true:=by
 unfold fL at *;simp only[dQ,bS,ik]at *
 rcases h1 with h1|⟨e1,h1⟩
 ·rcases h2 with h2|⟨e2,_⟩
  ·exact .inl<|aL.lt_trans h1 h2
  ·rw[<-e2];exact .inl h1
 ·rcases h2 with h2|⟨e2,h2⟩
  ·rw[e1];exact .inl h2
  ·exact .inr ⟨e1.trans e2,aL.lt_trans h1 h2⟩
theorem jE(a b:aT):fL a b=true\/a=b\/fL b a=true:=by
 unfold fL;simp only[dQ,bS,ik]
 rcases aL.lH a.Part b.Part with h|h|h
 ·exact .inl<|.inl h
 ·rcases aL.lH a.aT b.aT with h'|h'|h'
  ·exact .inl<|.inr ⟨h,h'⟩
  ·refine .inr<|.inl ?_;cases a;cases b;simp_all
  ·exact .inr<|.inr<|.inr ⟨h.symm,h'⟩
 ·exact .inr<|.inr<|.inl h
def zU(t:List aD)(p:Part):aD:=(t.find?<|λy=>y.Name.iw p.eC).getD default
def DG(t:List aD)(p:Part):List aT:=(zU t p).bA.map<|λy=>⟨p.Name,y.Name⟩
theorem yN(hN:4194304<=N):eW N=some true:=by
 obtain⟨M,rfl⟩:∃M,N=M+64:=⟨N - 64,by omega⟩;rfl
end
def nz(e:Int):Option Int:=if e=0 then none else some e
def sU(t:List aD)(l:List Part)(k:Nat):Option Int:=
 match l[k]? with
 |none=>none
 |some p=>if isWord p.Name=false then some 5 else if nat? aD.Name t p.eC<0 then some 9 else if cZ Part.Name l k=true then some 8 else none
def nF(t:List aD)(l:List Part):Int:=if 1000<l.length then 2 else(gi l.length<|sU t l).getD 0
def yO(l:List aL)(k:Nat):Option Int:=
 match l[k]? with
 |none=>none
 |some s=>if isWord s=false then some 5 else if cZ (λs=>s) l k=true then some 8 else none
def rising(l:List aL):Int:=if 100<l.length then 2 else(gi l.length<|yO l).getD 0
def sV(l:List aF)(s:aF)(k:Nat):Option Int:=
 match s.Uses[k]? with
 |none=>none
 |some u=>if isWord u.Name=false then some 5 else if 0<=nat? Part.Name s.bB u.Name then some 7 else if nat? aF.Name l u.aF<0 then some 9 else if cZ iU.Name s.Uses k=true then some 8 else none
def nG(l:List aF)(s:aF):Int:=if 100<s.Uses.length then 2 else(gi s.Uses.length<|sV l s).getD 0
def u6(l:List aF)(s:aF)(w:aL):List aL:=(s.Uses[(nat? iU.Name s.Uses w).toNat]?).elim [] λu=>(l[(nat? aF.Name l u.aF).toNat]?).elim [] aF.aX
def v7(t:List aD)(l:List aF)(s:aF)(p:aT):Bool:=if 0<=nat? iU.Name s.Uses p.Part then decide (p.aT∈u6 l s p.Part)else jR t s.bB p
def kZ(l:List Net)(w:aL):Bool:=l.any λn=>decide<|w∈n.aX
def mu(t:List aD)(l:List aF)(s:aF)(i:Nat)(ps:List aT)(k:Nat):Option Int:=
 match ps[k]? with
 |none=>none
 |some p=>if v7 t l s p=false then some 9 else if ja ps k=true then some 8 else if lu (s.aO.take i) p=true then some 7 else none
def mw(s:aF)(i:Nat)(ws:List aL)(k:Nat):Option Int:=
 match ws[k]? with
 |none=>none
 |some w=>if decide (w∈s.aX)=false then some 9 else if cZ (λs=>s) ws k=true then some 8 else if kZ (s.aO.take i) w=true then some 7 else none
def rJ(t:List aD)(l:List aF)(s:aF)(i:Nat):Option Int:=
 match s.aO[i]? with
 |none=>none
 |some n=>if isWord n.Name=false then some 5 else if 500<n.bA.length then some 2 else
   (gi n.bA.length<|mu t l s i n.bA).or (if 100<n.aX.length then some 2 else(gi n.aX.length<|mw s i n.aX).or (if cZ Net.Name s.aO i=true then some 8 else none))
def nH(t:List aD)(l:List aF)(s:aF):Int:=if 1000<s.aO.length then 2 else(gi s.aO.length<|rJ t l s).getD 0
def pd(t:List aD)(l:List aF)(i:Nat):Option Int:=
 match l[i]? with
 |none=>none
 |some s=>if isWord s.Name=false then some 5 else(nz (rising s.aX)).or ((nz (nF t s.bB)).or ((nz (nG l s)).or ((nz (nH t l s)).or (if cZ aF.Name l i=true then some 8 else none))))
structure yP (l:List aF) (s:aF):Prop where
 vZ:s.Uses.length<=100
 word:∀u∈s.Uses,isWord u.Name=true
 part:∀u∈s.Uses,nat? Part.Name s.bB u.Name<0
 there:∀u∈s.Uses,0<=nat? aF.Name l u.aF
 up:dD iU.Name s.Uses
structure yQ (t:List aD) (l:List aF) (s:aF):Prop where
 vZ:s.aO.length<=1000
 word:∀n∈s.aO,isWord n.Name=true
 qG:∀n∈s.aO,n.bA.length<=500
 DF:∀n∈s.aO,∀p∈n.bA,v7 t l s p=true
 v5:∀n∈s.aO,∀(i j:Nat)(p q:aT),i<j->n.bA[i]? =some p->n.bA[j]? =some q->fL p q=true
 once:∀(i j:Nat)(n m:Net)(p:aT),s.aO[i]? =some n->s.aO[j]? =some m->p∈n.bA->p∈m.bA->i=j
 u7:∀n∈s.aO,n.aX.length<=100
 port:∀n∈s.aO,∀w∈n.aX,w∈s.aX
 Cb:∀n∈s.aO,dD (λs=>s) n.aX
 DY:∀(i j:Nat)(n m:Net)(w:aL),s.aO[i]? =some n->s.aO[j]? =some m->w∈n.aX->w∈m.aX->i=j
 up:dD Net.Name s.aO
structure wM (t:List aD) (l:List aF) (s:aF):Prop where
 word:isWord s.Name=true
 u7:s.aX.length<=100
 yR:s.bB.length<=1000
 kH:∀p∈s.bB,isWord p.Name=true
 parts:nV t s.bB
 qB:yP l s
 lx:yQ t l s
theorem yS{t:List aD}{l:List Part}{k:Nat}{r:Int}(h:sU t l k=some r):r≠0:=by
 unfold sU at h
 repeat' split at h
 all_goals first|(injection h with h;omega)|cases h
theorem sW{t:List aD}{l:List Part}(h:nF t l=0):l.length<=1000/\(∀p∈l,isWord p.Name=true)/\nV t l:=by
 unfold nF at h;split at h
 ·cases h
 rename_i hl;have hn:=lT (λk r hk=>yS hk) h;have key:∀k(hk:k<l.length),isWord l[k].Name=true/\0<=nat? aD.Name t l[k].eC/\cZ Part.Name l k=false:=by
  intro k hk;have:=hn k hk;unfold sU at this;rw[aM hk]at this;dsimp only at this
  repeat' split at this
  all_goals first|(simp at this;done)|simp_all
 refine⟨by omega,λx hx=>?_,eZ λk hk=>(key k hk).2.2,λx hx=>?_⟩
 all_goals
  obtain⟨k,hk⟩:=fN hx;obtain⟨hlt,rfl⟩:=bG.1 hk
 ·exact(key k hlt).1
 ·exact(key k hlt).2.1
theorem yT{l:List aF}{s:aF}{k:Nat}{r:Int}(h:sV l s k=some r):r≠0:=by
 unfold sV at h
 repeat' split at h
 all_goals first|(injection h with h;omega)|cases h
theorem sX{l:List aF}{s:aF}(h:nG l s=0):yP l s:=by
 unfold nG at h;split at h
 ·cases h
 rename_i hl;have hn:=lT (λk r hk=>yT hk) h;have key:∀k(hk:k<s.Uses.length),isWord s.Uses[k].Name=true/\nat? Part.Name s.bB s.Uses[k].Name<0/\0<=nat? aF.Name l s.Uses[k].aF/\cZ iU.Name s.Uses k=false:=by
  intro k hk;have:=hn k hk;unfold sV at this;rw[aM hk]at this;dsimp only at this
  repeat' split at this
  all_goals first|(simp at this;done)|simp_all
 refine⟨by omega,λx hx=>?_,λx hx=>?_,λx hx=>?_,eZ λk hk=>(key k hk).2.2.2⟩
 all_goals
  obtain⟨k,hk⟩:=fN hx;obtain⟨hlt,rfl⟩:=bG.1 hk
 ·exact(key k hlt).1
 ·exact(key k hlt).2.1
 ·exact(key k hlt).2.2.1
theorem sY{t:List aD}{l:List aF}{s:aF}{i:Nat}{ps:List aT}{k:Nat}{r:Int}(h:mu t l s i ps k=some r):r≠0:=by
 unfold mu at h
 repeat' split at h
 all_goals first|(injection h with h;omega)|cases h
theorem xu{s:aF}{i:Nat}{ws:List aL}{k:Nat}{r:Int}(h:mw s i ws k=some r):r≠0:=by
 unfold mw at h
 repeat' split at h
 all_goals first|(injection h with h;omega)|cases h
theorem or_none{a b:Option Int}(h:a.or b=none):a=none/\b=none:=by cases a <;> cases b <;> simp_all
theorem yU{t:List aD}{l:List aF}{s:aF}{i:Nat}{r:Int}(h:rJ t l s i=some r):r≠0:=by
 unfold rJ at h;split at h
 ·cases h
 split at h
 ·injection h with h;omega
 split at h
 ·injection h with h;omega
 rename_i n _ _ _
 cases h1:gi n.bA.length (mu t l s i n.bA)with
 |some q=>
  rw[h1]at h;injection h with h
  obtain⟨j,_,hj,_⟩:=fQ.1 h1;rw[<-h];exact sY hj
 |none=>
  rw[h1,Option.none_or]at h;split at h
  ·injection h with h;omega
  cases h2:gi n.aX.length (mw s i n.aX)with
  |some q=>
   rw[h2]at h;injection h with h
   obtain⟨j,_,hj,_⟩:=fQ.1 h2;rw[<-h];exact xu hj
  |none=>
   rw[h2,Option.none_or]at h;split at h
   ·injection h with h;omega
   ·cases h
theorem rK{l:List Net}{i:Nat}{p:aT}(h:lu (l.take i) p=false){j:Nat}{m:Net}(hj:j<i)(hm:l[j]? =some m):p∉m.bA:=by
 unfold lu at h;rw[List.any_eq_false]at h;have hin:m∈l.take i:=by
  obtain⟨hlt,rfl⟩:=bG.1 hm;exact List.mem_take_iff_getElem.2 ⟨j,by omega,rfl⟩
 have:=h m hin;simpa using this
theorem qf{l:List Net}{i:Nat}{p:aL}(h:kZ (l.take i) p=false){j:Nat}{m:Net}(hj:j<i)(hm:l[j]? =some m):p∉m.aX:=by
 unfold kZ at h;rw[List.any_eq_false]at h;have hin:m∈l.take i:=by
  obtain⟨hlt,rfl⟩:=bG.1 hm;exact List.mem_take_iff_getElem.2 ⟨j,by omega,rfl⟩
 have:=h m hin;simpa using this
theorem zV{ps:List aT}(h:∀k,k<ps.length->ja ps k=false):∀(i j:Nat)(p q:aT),i<j->ps[i]? =some p->ps[j]? =some q->fL p q=true:=by
 intro i j p q hij hp hq
 induction j generalizing q with
 |zero=>omega
 |succ j ih=>
  obtain⟨hj,rfl⟩:=bG.1 hq;have h1:=h (j+1) hj;have hy:ps[j]? =some (ps[j]'(by omega)):=aM _;unfold ja at h1;rw[hq,Nat.add_sub_cancel,hy]at h1;simp only[Bool.and_eq_false_iff,decide_eq_false_iff_not,Bool.not_eq_false']at h1;have h2:fL (ps[j]'(by omega)) ps[j+1]=true:=by
   rcases h1 with h1|h1
   ·omega
   ·exact h1
  by_cases e:i=j
  ·subst e;rw[hp]at hy;injection hy with hy;rw[hy];exact h2
  ·exact kY (ih _ (by omega) hy) h2
theorem xv{t:List aD}{l:List aF}{s:aF}(h:nH t l s=0):yQ t l s:=by
 unfold nH at h;split at h
 ·cases h
 rename_i hl;have hn:=lT (λk r hk=>yU hk) h;have key:∀i n,s.aO[i]? =some n->isWord n.Name=true/\n.bA.length<=500/\(∀k,k<n.bA.length->mu t l s i n.bA k=none)/\n.aX.length<=100/\(∀k,k<n.aX.length->mw s i n.aX k=none)/\cZ Net.Name s.aO i=false:=by
  intro i n hi;have:=hn i (bG.1 hi).1;unfold rJ at this;rw[hi]at this;dsimp only at this;split at this
  ·cases this
  split at this
  ·cases this
  obtain⟨h1,h2⟩:=or_none this;split at h2
  ·cases h2
  obtain⟨h3,h4⟩:=or_none h2;split at h4
  ·cases h4
  exact⟨by simp_all,by omega,fD.1 h1,by omega,fD.1 h3,by simp_all⟩
 have pk:∀i n,s.aO[i]? =some n->∀k p,n.bA[k]? =some p->v7 t l s p=true/\ja n.bA k=false/\lu (s.aO.take i) p=false:=by
  intro i n hi k p hp;have:=(key i n hi).2.2.1 k (bG.1 hp).1;unfold mu at this;rw[hp]at this;dsimp only at this
  repeat' split at this
  all_goals first|(simp at this;done)|simp_all
 have wk:∀i n,s.aO[i]? =some n->∀k p,n.aX[k]? =some p->p∈s.aX/\cZ (λs=>s) n.aX k=false/\kZ (s.aO.take i) p=false:=by
  intro i n hi k p hp;have:=(key i n hi).2.2.2.2.1 k (bG.1 hp).1;unfold mw at this;rw[hp]at this;dsimp only at this
  repeat' split at this
  all_goals first|(simp at this;done)|simp_all
 have at_:∀n∈s.aO,∃i,s.aO[i]? =some n:=λn hn=>fN hn;refine⟨by omega,λn hn=>?_,λn hn=>?_,λn hn p hp=>?_,λn hn=>?_,λi j n m p hi hj hp hq=>?_,λn hn=>?_,λn hn w hw=>?_,λn hn=>?_,λi j n m w hi hj hp hq=>?_,eZ λk hk=>(key k _<|aM hk).2.2.2.2.2⟩
 ·obtain⟨i,hi⟩:=at_ n hn;exact(key i n hi).1
 ·obtain⟨i,hi⟩:=at_ n hn;exact(key i n hi).2.1
 ·obtain⟨i,hi⟩:=at_ n hn;obtain⟨k,hk⟩:=fN hp;exact(pk i n hi k p hk).1
 ·obtain⟨i,hi⟩:=at_ n hn;exact zV λk hk=>(pk i n hi k _<|aM hk).2.1
 ·obtain⟨k,hk⟩:=fN hp;obtain⟨k',hk'⟩:=fN hq
  rcases Nat.lt_trichotomy i j with h1|h1|h1
  ·exact absurd hp<|rK (pk j m hj k' p hk').2.2 h1 hi
  ·exact h1
  ·exact absurd hq<|rK (pk i n hi k p hk).2.2 h1 hj
 ·obtain⟨i,hi⟩:=at_ n hn;exact(key i n hi).2.2.2.1
 ·obtain⟨i,hi⟩:=at_ n hn;obtain⟨k,hk⟩:=fN hw;exact(wk i n hi k w hk).1
 ·obtain⟨i,hi⟩:=at_ n hn;exact eZ λk hk=>(wk i n hi k _<|aM hk).2.1
 ·obtain⟨k,hk⟩:=fN hp;obtain⟨k',hk'⟩:=fN hq
  rcases Nat.lt_trichotomy i j with h1|h1|h1
  ·exact absurd hp<|qf (wk j m hj k' w hk').2.2 h1 hi
  ·exact h1
  ·exact absurd hq<|qf (wk i n hi k w hk).2.2 h1 hj
theorem qH{e:Int}(h:nz e=none):e=0:=by unfold nz at h;split at h <;> simp_all
theorem v8{l:List aL}(h:rising l=0):l.length<=100:=by
 unfold rising at h;split at h
 ·cases h
 ·omega
theorem u9{t:List aD}{l:List aF}{i:Nat}{s:aF}(hi:l[i]? =some s)(h:pd t l i=none):wM t l s/\cZ aF.Name l i=false:=by
 unfold pd at h;rw[hi]at h;dsimp only at h;split at h
 ·cases h
 rename_i hw;obtain⟨h1,h⟩:=or_none h;obtain⟨h2,h⟩:=or_none h;obtain⟨h3,h⟩:=or_none h;obtain⟨h4,h⟩:=or_none h;obtain⟨p1,p2,p3⟩:=sW<|qH h2
 refine⟨⟨by simpa using hw,v8<|qH h1,p1,p2,p3,sX<|qH h3,xv<|qH h4⟩,?_⟩;split at h
 ·cases h
 ·rename_i hq;simpa using hq
theorem yV{t:List aD}{l:List aF}{i:Nat}{r:Int}(h:pd t l i=some r):r≠0:=by
 have hz:∀{e q:Int},nz e=some q->q≠0:=λ{e q}h=>by
  unfold nz at h;split at h
  ·cases h
  ·injection h with h;omega
 unfold pd at h;split at h
 ·cases h
 split at h
 ·injection h with h;omega
 rename_i s _ _
 cases h1:nz (rising s.aX)with
 |some q=>rw[h1]at h;injection h with h;rw[<-h];exact hz h1
 |none=>
  rw[h1,Option.none_or]at h
  cases h2:nz (nF t s.bB)with
  |some q=>rw[h2]at h;injection h with h;rw[<-h];exact hz h2
  |none=>
   rw[h2,Option.none_or]at h
   cases h3:nz (nG l s)with
   |some q=>rw[h3]at h;injection h with h;rw[<-h];exact hz h3
   |none=>
    rw[h3,Option.none_or]at h
    cases h4:nz (nH t l s)with
    |some q=>rw[h4]at h;injection h with h;rw[<-h];exact hz h4
    |none=>
     rw[h4,Option.none_or]at h;split at h
     ·injection h with h;omega
     ·cases h
section
variable {N:Nat}
theorem hY{l:List aF}{w:aL}(hl:l.length<=1048576):cJ N l w=some (nat? aF.Name l w):=by
 have h:=lj (l:=l) (φ:=λy=>fG N y w) (λy=>y.Name.iw w) (by omega)<|λ_ _=>rfl
 have e:cJ N l w=(kA l<|λy=>fG N y w).bind λx=>some x:=rfl;rw[e,h,aB];rfl
theorem va{l:List iU}{w:aL}(hl:l.length<=1048576):eY N l w=some (nat? iU.Name l w):=by
 have h:=lj (l:=l) (φ:=λy=>gr N y w) (λy=>y.Name.iw w) (by omega)<|λ_ _=>rfl
 have e:eY N l w=(kA l<|λy=>gr N y w).bind λx=>some x:=rfl;rw[e,h,aB];rfl
theorem pe{l:List aL}{a:aL}(hl:l.length<=1048576):cY N l a=some (decide<|a∈l):=by
 have h:=il (l:=l) (φ:=λx=>some<|a.iw x) (λx=>a.iw x) (by omega)<|λ_ _=>rfl
 have e:cY N l a=gQ l (λx=>some<|a.iw x):=rfl;rw[e,h];congr 1;rw[Bool.eq_iff_iff,jv,fW];constructor
 ·rintro⟨x,hx,h⟩;rw[ik.1 h];exact hx
 ·intro h;exact⟨a,h,yx a⟩
theorem xw{t:List aD}{l:List Part}(hs:dD aD.Name t)(ht:bk t<=1048576)(hl:l.length<=1048576)(hln:∀p∈l,p.Name.aU.length<=2097152)(hN:4194304<=N):
  cF N t l (bN N)=some (nF t l):=by
 unfold cF nF
 by_cases h1:1000<l.length
 ·rw[aG h1,cC (by omega),bO]
 ·rw[aH h1,bJ (by omega),aZ]
  rw[gM (sU t l) (by omega) (λk hk _=>by
   have hx:l[k]? =some l[k]:=aM hk;have hb:=hln _<|cO hk
   rw[cW hx,aB,dF (by omega),aB,pS hs ht hN,aB,lk Part.Name hx (by omega)];refine(rE _ _ _ (λx:Int=>x)).trans ?_
   rw[rF];unfold sU;rw[hx]),aB,lS]
theorem xx{l:List aL}(hl:l.length<=1048576)(hln:∀s∈l,s.aU.length<=2097152):dV N l 100 (bN N) 5=some (rising l):=by
 unfold dV rising
 by_cases h1:100<l.length
 ·rw[aG h1,cC (by omega),bO]
 ·rw[aH h1,bJ (by omega),aZ]
  rw[gM (yO l) (by omega) (λk hk _=>by
   have hx:l[k]? =some l[k]:=aM hk;have hb:=hln _<|cO hk
   rw[cW hx,aB,dF (by omega),aB];rw[lk (λs=>s) hx (by omega)];unfold yO;rw[hx];dsimp only
   cases isWord l[k]
   ·rfl
   ·cases cZ (λs=>s) l k <;> rfl),aB,lS]
theorem xy{l:List aF}{s:aF}(hp:dD Part.Name s.bB)(hpl:s.bB.length<=1048576)(hl:l.length<=1048576)(hul:s.Uses.length<=1048576)(hun:∀u∈s.Uses,u.Name.aU.length<=2097152)(hN:4194304<=N):
  eN N l s=some (nG l s):=by
 unfold eN nG
 by_cases h1:100<s.Uses.length
 ·rw[aG h1,cC (by omega),bO]
 ·rw[aH h1,bJ (by omega),aZ]
  rw[gM (sV l s) (by omega) (λk hk _=>by
   have hx:s.Uses[k]? =some s.Uses[k]:=aM hk;have hb:=hun _<|cO hk
   rw[cW hx,aB,dF (by omega),aB,sR hp hpl hN,aB,hY hl,aB,lk iU.Name hx (by omega)];unfold sV;rw[hx];dsimp only
   cases isWord s.Uses[k].Name
   ·rfl
   rw[nL,aZ,aH (by simp)]
   by_cases h2:0<=nat? Part.Name s.bB s.Uses[k].Name
   ·rw[aG h2,cC (show nat? Part.Name s.bB s.Uses[k].Name>=0 from h2)];rfl
   rw[aH h2,bJ (show ¬nat? Part.Name s.bB s.Uses[k].Name>=0 from h2),aZ]
   by_cases h3:nat? aF.Name l s.Uses[k].aF<0
   ·rw[aG h3,cC h3];rfl
   rw[aH h3,bJ h3,aZ]
   cases cZ iU.Name s.Uses k <;> rfl),aB,lS]
theorem zW{t:List aD}{l:List aF}{s:aF}{p:aT}(ht:mm t)(hp:nV t s.bB)(hu:∀u∈s.Uses,0<=nat? aF.Name l u.aF)(hbt:bk t<=1048576)(hpl:s.bB.length<=1048576)(hl:l.length<=1048576)(hul:s.Uses.length<=1048576)
  (hpo:∀q∈l,q.aX.length<=1048576) (hN:4194304<=N):eG N p s l t=some (v7 t l s p):=by
 unfold eG v7;rw[va hul,aB]
 by_cases h:0<=nat? iU.Name s.Uses p.Part
 ·rw[aG h,cC (show nat? iU.Name s.Uses p.Part>=0 from h),bO];unfold u6
  rcases kF iU.Name s.Uses p.Part with⟨h1,_⟩|⟨k,u,h1,h2,h3⟩
  ·omega
  rw[h1,cW h2,aB,hY hl,aB,kj,h2];have hu2:=hu u<|dW h2
  rcases kF aF.Name l u.aF with⟨g1,_⟩|⟨j,q,g1,g2,g3⟩
  ·omega
  rw[g1,cW g2,aB,Option.elim_some,g1,kj,g2,Option.elim_some];have:=hpo q<|dW g2
  rw[pe (by omega),aB]
 ·rw[aH h,bJ (show ¬nat? iU.Name s.Uses p.Part>=0 from h),aZ,kG ht hp.sorted hp.typed hbt hpl hN,aB]
theorem pV{l:List aT}{has:aT->Option Bool}{m:List (aT×Bool)}(hB:aT->Bool)(hh:∀p∈l,has p=some (hB p))(hl:l.length<=1048576)(e:Nat->Option Int)
  (he:∀k p,l[k]? =some p->e k=if hB p=false then some (9:Int)else if ja l k=true then some 8 else if bV m p false=true then some 7 else none):
  cV N l has m=some (if 500<l.length then((2:Int),m)else(gi l.length e).elim ((0:Int),gB m l true) (λr=>(r,m))):=by
 rw[mA hB hh hl];rw[vR (e':=e) (λk hk _ _=>by rw[he k _<|aM hk,aM hk])]
def sZ(l:List Net)(i:Nat):List (aT×Bool):=(l.take i).foldl (λm n=>gB m n.bA true) []
def s6(l:List Net)(i:Nat):List (aL×Bool):=(l.take i).foldl (λm n=>gB m n.aX true) []
theorem v9(l:List Net)(i:Nat)(p:aT):bV (sZ l i) p false=lu (l.take i) p:=by
 unfold sZ;rw[sT];simp[bV]
theorem vc(l:List Net)(p:aL):∀(m:List (aL×Bool)),bV (l.foldl (λm n=>gB m n.aX true) m) p false=(kZ l p||bV m p false):=by
 induction l with
 |nil=>intro m;rfl
 |cons n l ih=>
  intro m;rw[List.foldl_cons,ih,oH];unfold kZ;rw[List.any_cons]
  by_cases h:p∈n.aX <;> simp[h]
theorem wa(l:List Net)(i:Nat)(p:aL):bV (s6 l i) p false=kZ (l.take i) p:=by
 unfold s6;rw[vc];simp[bV]
theorem wb{l:List Net}{i:Nat}{n:Net}(h:l[i]? =some n):sZ l (i+1)=gB (sZ l i) n.bA true:=by
 unfold sZ;obtain⟨hlt,rfl⟩:=bG.1 h;rw[gX hlt,List.foldl_append];rfl
theorem wc{l:List Net}{i:Nat}{n:Net}(h:l[i]? =some n):s6 l (i+1)=gB (s6 l i) n.aX true:=by
 unfold s6;obtain⟨hlt,rfl⟩:=bG.1 h;rw[gX hlt,List.foldl_append];rfl
theorem xz{t:List aD}{l:List aF}{s:aF}(ht:mm t)(hp:nV t s.bB)(hu:∀u∈s.Uses,0<=nat? aF.Name l u.aF)(hbt:bk t<=1048576)(hbl:bk l<=1048576)(hs:s∈l)(hN:4194304<=N):
  eO N t l s=some (nH t l s):=by
 have hb:=jo hs;rw[m9]at hb;have b1:=gT s.bB;have b2:=gT s.Uses;have b3:=gT s.aO;have b4:=gT s.aX;have b5:=gT l;have hpo:∀q∈l,q.aX.length<=1048576:=λq hq=>by
  have:=jo hq;rw[m9]at this;have:=gT q.aX;omega
 unfold eO nH
 by_cases h3:1000<s.aO.length
 ·rw[aG h3,cC (by omega),bO]
 ·rw[aH h3,bJ (by omega),aZ]
  rw[tP (s:=(([]:List (aT×Bool)),([]:List (aL×Bool)))) (λi=>(sZ s.aO i,s6 s.aO i)) (rJ t l s) (by omega) rfl (λi hi _=>by
   have hx:s.aO[i]? =some s.aO[i]:=aM hi;have hbn:=jo<|cO hi
   rw[vS]at hbn;have c1:=m7 s.aO[i].Name;have c2:=gT s.aO[i].bA;have c3:=gT s.aO[i].aX;rw[wb hx,wc hx];rw[cW hx,aB,dF (by omega),aB];dsimp only;rw[pV (v7 t l s) (λp _=>zW ht hp hu hbt (by omega) (by omega) (by omega) hpo hN) (by omega) (mu t l s i s.aO[i].bA) (λk p hk=>by unfold mu;rw[hk];dsimp only;rw[v9]),aB,lk Net.Name hx (by omega)];unfold rJ;rw[hx];dsimp only
   cases isWord s.aO[i].Name
   ·rfl
   simp only[nL,aZ,Bool.true_eq_false,if_false]
   by_cases h5:500<s.aO[i].bA.length
   ·rw[aG h5,aG h5];rfl
   rw[aH h5,aH h5]
   cases h6:gi s.aO[i].bA.length (mu t l s i s.aO[i].bA)with
   |some r=>
    obtain⟨j,_,hj,_⟩:=fQ.1 h6;have e6:(r != 0)=true:=by rw[bne_iff_ne];exact sY hj
    simp only[Option.elim_some,e6,bO];rfl
   |none=>
    simp only[Option.elim_none,bne_self_eq_false,aZ,Option.none_or]
    by_cases h7:100<s.aO[i].aX.length
    ·rw[aG h7,cC (by omega)];rfl
    rw[aH h7,bJ (by omega),aZ]
    rw[gM (mw s i s.aO[i].aX) (by omega) (λk hk _=>by
     have hy:s.aO[i].aX[k]? =some s.aO[i].aX[k]:=aM hk;rw[cW hy,aB,pe (by omega),aB,lk (λs=>s) hy (by omega),wa];unfold mw;rw[hy];dsimp only
     cases decide (s.aO[i].aX[k]∈s.aX)
     ·rfl
     ·cases cZ (λs=>s) s.aO[i].aX k
      ·cases kZ (s.aO.take i) s.aO[i].aX[k] <;> rfl
      ·rfl),aB,qF,sQ true (by omega),aB]
    cases h8:gi s.aO[i].aX.length (mw s i s.aO[i].aX)with
    |some r=>rfl
    |none=>
     simp only[Option.elim_none,Option.none_or]
     cases cZ Net.Name s.aO i <;> rfl),aB]
  cases gi s.aO.length (rJ t l s) <;> rfl
theorem yW{t:List aD}{l:List aF}(ht:mm t)(hbt:bk t<=1048576)(hbl:bk l<=1048576)(hN:4194304<=N){i:Nat}(hi:i<l.length):
  ((idx l (i:Int)).bind λx56=>(bN N x56.Name).bind λx60=>bif(!x60)then some (.rt 5)else((dV N x56.aX 100 (bN N) 5).bind λx62=>bif x62 != 0 then some (.rt x62)else((cF N t x56.bB<|bN N).bind λx64=>bif x64 != 0 then some (.rt x64)else((eN N l x56).bind λx66=>bif x66 != 0 then some (.rt x66)else((eO N t l x56).bind λx68=>bif x68 != 0 then some (.rt x68)else((bif decide ((i:Int)>0)then((idx l<|wrap .i64<|(i:Int) - 1).bind λx75=>some<|x56.Name.mx x75.Name||x56.Name.iw x75.Name)else some false).bind λs73=>bif s73 then some (.rt 8)else some (.nx ())))))):Option (Fl Unit Int))=some (qt (pd t l i) ()):=by
 have hx:l[i]? =some l[i]:=aM hi;have hm:l[i]∈l:=cO hi;have hb:=jo hm;rw[m9]at hb;have b0:=m7 l[i].Name;have b1:=gT l[i].bB;have b2:=gT l[i].Uses;have b4:=gT l[i].aX;have b5:=gT l;have jG:∀(e:Int)(o:Option Int),(bif e != 0 then(some (Fl.rt e):Option (Fl Unit Int))else some (qt o ()))=some (qt ((nz e).or o) ()):=λe o=>by
  unfold nz
  by_cases h:e=0
  ·subst h;rfl
  ·rw[aH h,show(e != 0)=true by simpa using h];rfl
 rw[cW hx,aB,dF (by omega),aB,xx (by omega) (λs hs=>by
  have:=jo hs;rw[m7]at this;omega),aB,xw ht.sorted hbt (by omega) (λp hp=>by
  have:=jo hp;rw[wJ]at this;have:=m7 p.Name;omega) hN,aB,lk aF.Name hx (by omega)]
 unfold pd;rw[hx];dsimp only
 cases isWord l[i].Name with
 |false=>rfl
 |true=>
  rw[nL,aZ,aH (by simp),<-jG]
  by_cases e1:¬rising l[i].aX=0
  ·rw[show(rising l[i].aX != 0)=true by simpa using e1];rfl
  replace e1:=Decidable.not_not.1 e1
  rw[e1,bne_self_eq_false,aZ,aZ,<-jG]
  by_cases e2:¬nF t l[i].bB=0
  ·rw[show(nF t l[i].bB != 0)=true by simpa using e2];rfl
  replace e2:=Decidable.not_not.1 e2
  obtain⟨p1,p2,p3⟩:=sW e2
  rw[e2,bne_self_eq_false,aZ,aZ,xy p3.sorted (by omega) (by omega) (by omega) (λu hu=>by
   have:=jo hu;rw[yE]at this;have:=m7 u.Name;omega) hN,aB,<-jG]
  by_cases e3:¬nG l l[i]=0
  ·rw[show(nG l l[i] != 0)=true by simpa using e3];rfl
  replace e3:=Decidable.not_not.1 e3
  have hu:=sX e3;rw[e3,bne_self_eq_false,aZ,aZ,xz ht p3 hu.there hbt hbl hm hN,aB,<-jG]
  by_cases e4:¬nH t l l[i]=0
  ·rw[show(nH t l l[i] != 0)=true by simpa using e4];rfl
  replace e4:=Decidable.not_not.1 e4
  rw[e4,bne_self_eq_false,aZ,aZ,aB]
  cases cZ aF.Name l i <;> rfl
end
end Go.Gk
namespace Go.Gk
open Go IntKind Classical
def qg(l:List aF)(i k:Nat):Prop:=∃s u,l[i]? =some s/\u∈s.Uses/\nat? aF.Name l u.aF=((k:Nat):Int)
inductive xA (l:List aF):Nat->Nat->Prop
 |one {i k:Nat} (h:qg l i k):xA l i k
 |step {i k j:Nat} (h:xA l i k) (e:qg l k j):xA l i j
def xB(l:List aF):Prop:=∃j,xA l j j
def qh(l:List aF)(ρ:Nat->Nat):Prop:=∀j,j<l.length->ρ j<l.length/\∀k,qg l j k->ρ k<ρ j
theorem tZ{α:Type}{key:α->aL}{l:List α}{w:aL}(h:0<=nat? key l w):∃k x,nat? key l w=((k:Nat):Int)/\l[k]? =some x/\key x=w/\k<l.length:=by
 rcases kF key l w with⟨h1,_⟩|⟨k,x,h1,h2,h3⟩
 ·omega
 ·exact⟨k,x,h1,h2,h3,(bG.1 h2).1⟩
theorem qg.lt{l:List aF}{i k:Nat}(h:qg l i k):i<l.length/\k<l.length:=by
 obtain⟨s,u,h1,_,h3⟩:=h;obtain⟨k',x,e,_,_,hk⟩:=tZ (key:=aF.Name) (l:=l) (w:=u.aF) (by omega);exact⟨(bG.1 h1).1,by omega⟩
theorem qh.DH{l:List aF}{ρ:Nat->Nat}(h:qh l ρ):¬xB l:=by
 rintro⟨j,hj⟩;have key:∀i k,xA l i k->ρ k<ρ i:=by
  intro i k h1
  induction h1 with
  |one e=>exact(h _ e.lt.1).2 _ e
  |step _ e ih=>have:=(h _ e.lt.1).2 _ e;omega
 have:=key j j hj;omega
structure Cc (l:List aF) (st:List Int):Prop where
 len:st.length=l.length
 val:∀x∈st,x=0\/x=1\/x=2
 AK:∃ρ:Nat->Nat,∀j,st[j]? =some 2->ρ j<st.count 2/\∀k,qg l j k->st[k]? =some 2/\ρ k<ρ j
structure DI (l:List aF) (st st':List Int):Prop where
 ok:Cc l st'
 act:∀j:Nat,st'[j]? =some (1:Int)↔st[j]? =some (1:Int)
 done:∀j:Nat,st[j]? =some 2->st'[j]? =some (2:Int)
 less:st'.count 0<=st.count 0
section
variable {N:Nat}
theorem vd{l:List aF}(hl:l.length<=1048576)(hu:∀s∈l,s.Uses.length<=100/\∀u∈s.Uses,0<=nat? aF.Name l u.aF):∀(d i:Nat)(st:List Int),i<l.length->st.count 0<d->Cc l st->(∀j:Nat,st[j]? =some (1:Int)->xA l j i)->
  Ok (gK N d l ((i:Nat):Int) st) (λr=>if r.1=true then xB l else DI l st r.2/\r.2[i]? =some 2)
 | 0,_,_,_,h,_,_=>by omega
 |d+1,i,st,hi,hd,hS,hact=>by
  have hlen:=hS.len;have hx:st[i]? =some (st[i]'(by omega)):=aM _;generalize hv:st[i]'(by omega)=v at hx;have hvm:v∈st:=dW hx;show Ok (gJ N (gK N d) l ((i:Nat):Int) st) _;unfold gJ;rw[cW hx,aB]
  by_cases h0:v>0
  ·rw[cC h0,bO,aB];refine EH ?_
   rcases hS.val v hvm with e|e|e
   ·omega
   ·subst e;rw[aG (show((1:Int)==1,st).1=true from rfl)];exact⟨i,hact i hx⟩
   ·subst e;rw[aH (show ¬((2:Int)==1)=true by decide)];exact⟨⟨hS,λ_=>Iff.rfl,λ_ h=>h,bP _⟩,hx⟩
  ·have hv0:v=0:=by rcases hS.val v hvm with e|e|e <;> omega
   subst hv0;have hs:l[i]? =some l[i]:=aM hi;obtain⟨hul,hun⟩:=hu _<|cO hi
   rw[bJ h0,aZ,aB,cW hs,aB,kj];have iz:∀j,(st.set i 1)[j]? =if j=i then some 1 else st[j]? :=λj=>by
    rw[fT]
    by_cases e:i=j
    ·subst e;rw[aG rfl,aG rfl,aG (by omega)]
    ·rw[aH e,aH<|λh=>e h.symm]
   have hc0:(st.set i 1).count 0+1=st.count 0:=by
    rw[List.count_set (by omega),hv];have:0<st.count 0:=List.count_pos_iff.2 hvm;simp;omega
   have hc2:(st.set i 1).count 2=st.count 2:=by
    rw[List.count_set (by omega),hv];simp
   have hS1:Cc l (st.set i 1):=by
    refine⟨by rw[fV];exact hlen,λx hx=>?_,?_⟩
    ·rcases List.mem_or_eq_of_mem_set hx with h|h
     ·exact hS.val x h
     ·exact .inr<|.inl h
    ·obtain⟨ρ,hρ⟩:=hS.AK;refine⟨ρ,λj hj=>?_⟩;rw[iz]at hj;split at hj
     ·cases hj
     ·obtain⟨h1,h2⟩:=hρ j hj;rw[hc2];refine⟨h1,λk hk=>?_⟩;obtain⟨h3,h4⟩:=h2 k hk;refine⟨?_,h4⟩;rw[iz];split
      ·rename_i e;subst e;rw[hx]at h3;cases h3
      ·exact h3
   refine EW (F9 (λk s=>DI l (st.set i 1) s/\∀j u,j<k->l[i].Uses[j]? =some u->∃q:Nat,nat? aF.Name l u.aF=((q:Nat):Int)/\s[q]? =some 2) (Go:=λs=>DI l (st.set i 1) s/\∀j u,l[i].Uses[j]? =some u->∃q:Nat,nat? aF.Name l u.aF=((q:Nat):Int)/\s[q]? =some 2) (Rt:=λr=>r.1=true/\xB l) (by omega) ⟨⟨hS1,λ_=>Iff.rfl,λ_ h=>h,bP _⟩,λj u h=>by omega⟩ ?_<|λs h=>⟨h.1,λj u hj=>h.2 j u (bG.1 hj).1 hj⟩)<|λo ho=>F8 ho ?_<|λr hr=>EH (by rw[aG hr.1];exact hr.2)
   ·rintro k s hk⟨hP,hU⟩;have hy:l[i].Uses[k]? =some l[i].Uses[k]:=aM hk;obtain⟨q,x,e,hq,hqn,hql⟩:=tZ<|hun _<|cO hk
    have hedge:qg l i q:=⟨l[i],l[i].Uses[k],hs,cO hk,e⟩;rw[cW hy,aB,hY hl,aB,e];have hless:=hP.less;refine EW (vd hl hu d q s hql (by omega) hP.ok<|λj hj=>?_)<|λr hr=>?_
    ·have h1:=(hP.act j).1 hj;rw[iz]at h1;split at h1
     ·rename_i e2;subst e2;exact .one hedge
     ·exact .step (hact j h1) hedge
    ·obtain⟨rb,rs⟩:=r
     cases rb with
     |true=>exact F7 ⟨rfl,hr⟩
     |false=>
      rw[aH (by simp)]at hr;obtain⟨hr,hr2⟩:=hr;dsimp only at hr hr2 ⊢;refine F6 ⟨⟨hr.ok,λj=>(hr.act j).trans<|hP.act j,λj h=>hr.done j<|hP.done j h,iH hr.less hP.less⟩,λj u hj hju=>?_⟩
      by_cases e2:j=k
      ·subst e2;rw[hy]at hju;injection hju with hju;subst hju
       exact⟨q,e,hr2⟩
      ·obtain⟨q',h1,h2⟩:=hU j u (by omega) hju;exact⟨q',h1,hr.done _ h2⟩
   ·rintro s⟨hP,hU⟩;have hsl:=hP.ok.len;have hsi:s[i]? =some 1:=(hP.act i).2 (by rw[iz,aG rfl]);rw[cW hsi,aB];refine EH ?_;rw[aH (by simp)];have hset2:∀j,(s.set i 2)[j]? =if j=i then some 2 else s[j]? :=λj=>by
     rw[fT]
     by_cases e:i=j
     ·subst e;rw[aG rfl,aG rfl,aG (by omega)]
     ·rw[aH e,aH<|λh=>e h.symm]
    have hsi':s[i]'(by omega)=1:=by
     obtain⟨_,h⟩:=bG.1 hsi;exact h
    have hd2:(s.set i 2).count 2=s.count 2+1:=by
     rw[List.count_set (by omega),hsi'];simp
    have hd0:(s.set i 2).count 0=s.count 0:=by
     rw[List.count_set (by omega),hsi'];simp
    refine⟨⟨⟨by rw[fV];exact hsl,λx hx=>?_,?_⟩,λj=>?_,λj hj=>?_,?_⟩,by dsimp only;rw[hset2,aG rfl]⟩
    ·rcases List.mem_or_eq_of_mem_set hx with h|h
     ·exact hP.ok.val x h
     ·exact .inr<|.inr h
    ·obtain⟨ρ,hρ⟩:=hP.ok.AK;refine⟨λj=>if j=i then s.count 2 else ρ j,λj hj=>?_⟩;dsimp only;rw[hset2]at hj;rw[hd2];split at hj
     ·rename_i e;subst e;rw[aG rfl];refine⟨by omega,λk hk=>?_⟩;obtain⟨s',u,h1,h2,h3⟩:=hk;rw[hs]at h1;injection h1 with h1;subst h1
      obtain⟨n,hn⟩:=fN h2;obtain⟨q,g1,g2⟩:=hU n u hn;have:q=k:=by omega
      subst this;have hne:q≠j:=λe=>by subst e;rw[hsi]at g2;cases g2
      rw[hset2,aH hne,aH hne];exact⟨g2,(hρ q g2).1⟩
     ·rename_i e;rw[aH e];obtain⟨h1,h2⟩:=hρ j hj;refine⟨by omega,λk hk=>?_⟩;obtain⟨g1,g2⟩:=h2 k hk;have hne:k≠i:=λe=>by subst e;rw[hsi]at g1;cases g1
      rw[hset2,aH hne,aH hne];exact⟨g1,g2⟩
    ·dsimp only;rw[hset2];split
     ·rename_i e;subst e;rw[hx];simp
     ·rename_i e;rw[hP.act j,iz,aH e]
    ·dsimp only;rw[hset2];split
     ·rfl
     ·rename_i e;exact hP.done j (by rw[iz,aH e];exact hj)
    ·dsimp only;have:=hP.less;omega
noncomputable def eH(t:List aD)(l:List aF):Int:=
 if checkTypes t≠0 then checkTypes t else if 100<l.length then 2 else(gi l.length<|pd t l).getD (if xB l then 17 else 0)
structure f9 (t:List aD) (l:List aF):Prop where
 types:mm t
 vZ:l.length<=100
 ok:∀s∈l,wM t l s
 up:dD aF.Name l
theorem xC{t:List aD}{l:List aF}(hbt:bk t<=1048576)(hbl:bk l<=1048576)(hN:4194304<=N):eV N t l=some (eH t l)/\(eH t l=0->f9 t l/\∃ρ,qh l ρ):=by
 have hll:=gT l;unfold eV eH;rw[jk hbt,aB]
 by_cases h1:checkTypes t≠0
 ·have e:(checkTypes t != 0)=true:=by rw[bne_iff_ne];exact h1
  rw[e,bO,aG h1];exact⟨rfl,λh=>absurd h h1⟩
 replace h1:=Decidable.not_not.1 h1
 have ht:=ov h1;have e:(checkTypes t != 0)=false:=by rw[h1];rfl
 rw[e,aZ,aH<|λh=>h h1]
 by_cases h2:100<l.length
 ·rw[aG h2,cC (by omega),bO];exact⟨rfl,λh=>by cases h⟩
 rw[aH h2,bJ (by omega),aZ];rw[gM (pd t l) (by omega)<|λk hk _=>yW ht hbt hbl hN hk,aB,qF]
 cases h3:gi l.length (pd t l)with
 |some r=>
  refine⟨rfl,λh=>?_⟩;obtain⟨j,_,hj,_⟩:=fQ.1 h3;exact absurd h<|yV hj
 |none=>
  have hall:=fD.1 h3;have hok:f9 t l:=by
   refine⟨ht,by omega,λs hs=>?_,eZ λk hk=>(u9 (aM hk)<|hall k hk).2⟩;obtain⟨k,hk⟩:=fN hs;exact(u9 hk<|hall k (bG.1 hk).1).1
  have hu:∀s∈l,s.Uses.length<=100/\∀u∈s.Uses,0<=nat? aF.Name l u.aF:=λs hs=>⟨(hok.ok s hs).qB.vZ,(hok.ok s hs).qB.there⟩;rw[Option.elim_none,wG 0 (by omega),aB,Option.getD_none];have key:Ok ((ly l.length (λ(k80:Nat)(s81:List Int)=>((lb N l (k80:Int) s81).bind λz8=>bif z8.1 then some (.rt 17)else(some<|.nx z8.2):Option (Fl (List Int) Int)))<|List.replicate l.length 0).bind λo85=>o85.cs (λ(s81:List Int)=>some (0:Int))<|λr=>some r) (λr=>(r=17/\xB l)\/r=0/\∃ρ,qh l ρ):=by
   refine EW (F9 (λk s=>Cc l s/\(∀j:Nat,s[j]? ≠some (1:Int))/\∀j,j<k->s[j]? =some 2) (Go:=λs=>∃ρ,qh l ρ) (Rt:=λr=>r=17/\xB l) (by omega) ⟨⟨by simp,λx hx=> .inl (List.mem_replicate.1 hx).2,⟨λ_=>0,λj hj=>?_⟩⟩,λj hj=>?_,λj h=>by omega⟩ ?_ ?_)<|λo ho=>F8 ho (λs hs=>EH<|.inr ⟨rfl,hs⟩)<|λr hr=>EH<|.inl hr
   ·have:=dW hj;have:=(List.mem_replicate.1 this).2
    cases this
   ·have:=dW hj;have:=(List.mem_replicate.1 this).2
    cases this
   ·rintro k s hk⟨hS,hA,hD⟩;have hcl:s.count 0<=s.length:=List.count_le_length;have:=hS.len;refine EW (vd (N:=N) (by omega) hu N k s hk (by omega) hS<|λj hj=>absurd hj<|hA j)<|λr hr=>?_
    obtain⟨rb,rs⟩:=r
    cases rb with
    |true=>exact F7 ⟨rfl,hr⟩
    |false=>
     rw[aH (by simp)]at hr;obtain⟨hr,hr2⟩:=hr;dsimp only at hr hr2 ⊢;refine F6 ⟨hr.ok,λj hj=>hA j<|(hr.act j).1 hj,λj hj=>?_⟩
     by_cases e:j=k
     ·subst e;exact hr2
     ·exact hr.done j<|hD j (by omega)
   ·rintro s⟨hS,_,hD⟩;obtain⟨ρ,hρ⟩:=hS.AK;refine⟨ρ,λj hj=>?_⟩;obtain⟨g1,g2⟩:=hρ j<|hD j hj
    have hcl:s.count 2<=s.length:=List.count_le_length;have:=hS.len;exact⟨by omega,λk hk=>(g2 k hk).2⟩
  obtain⟨r,k1,k2⟩:=key;rw[k1]
  rcases k2 with⟨e,hc⟩|⟨e,ρ,hρ⟩
  ·rw[aG hc,e];exact⟨rfl,λh=>by cases h⟩
  ·rw[aH hρ.DH,e];exact⟨rfl,λ_=>⟨hok,ρ,hρ⟩⟩
end
def eI(l:List aF)(u:iU):Nat:=(nat? aF.Name l u.aF).toNat
def jc(l:List aF)(i:Nat):List iU:=(l[i]?).elim [] aF.Uses
def pW(l:List aF)(i:Nat):List Part:=(l[i]?).elim [] aF.bB
def gV(l:List aF)(i:Nat):List Net:=(l[i]?).elim [] aF.aO
def jS(l:List aF):Nat->Nat->Nat×Nat
 | 0,_=>(0,0)
 |d+1,i=>(1+((jc l i).map λu=>(jS l d (eI l u)).1).sum,(pW l i).length+((jc l i).map λu=>(jS l d (eI l u)).2).sum)
def lU(l:List aF)(i:Nat):Nat×Nat:=jS l l.length i
theorem lV{l:List aF}{i:Nat}{s:aF}(h:l[i]? =some s):jc l i=s.Uses:=by unfold jc;rw[h];rfl
theorem pX{l:List aF}{i:Nat}{s:aF}(h:l[i]? =some s):pW l i=s.bB:=by unfold pW;rw[h];rfl
theorem ve{l:List aF}{i:Nat}{s:aF}(h:l[i]? =some s):gV l i=s.aO:=by unfold gV;rw[h];rfl
section
variable {l:List aF}{ρ:Nat->Nat}(hR:qh l ρ)(hU:∀s∈l,∀u∈s.Uses,0<=nat? aF.Name l u.aF)
include hR hU
theorem rL{i:Nat}{u:iU}(h:u∈jc l i):nat? aF.Name l u.aF=((eI l u:Nat):Int)/\eI l u<l.length/\i<l.length/\ρ (eI l u)<ρ i:=by
 unfold jc at h
 cases hs:l[i]? with
 |none=>rw[hs]at h;cases h
 |some s=>
  rw[hs]at h;have h':u∈s.Uses:=h;have h0:=hU s (dW hs) u h';have e:nat? aF.Name l u.aF=((eI l u:Nat):Int):=(Int.toNat_of_nonneg h0).symm;have hE:qg l i (eI l u):=⟨s,u,hs,h',e⟩;exact⟨e,hE.lt.2,hE.lt.1,(hR i hE.lt.1).2 _ hE⟩
theorem pY:∀(d d' i:Nat),ρ i<d->ρ i<d'->jS l d i=jS l d' i
 | 0,_,_,h,_=>by omega
 |_,0,_,_,h=>by omega
 |d+1,d'+1,i,h,h'=>by
  unfold jS;have e:∀u∈jc l i,jS l d (eI l u)=jS l d' (eI l u):=λu hu=>by
   have:=(rL hR hU hu).2.2.2;exact pY d d' _ (by omega) (by omega)
  rw[List.map_congr_left (λu hu=>by rw[e u hu]),List.map_congr_left (f:=λu=>(jS l d<|eI l u).2) (λu hu=>by rw[e u hu])]
theorem zX{i:Nat}(hi:i<l.length):lU l i=(1+((jc l i).map λu=>(lU l<|eI l u).1).sum,(pW l i).length+((jc l i).map λu=>(lU l<|eI l u).2).sum):=by
 have h:=(hR i hi).1;unfold lU;rw[pY hR hU l.length (l.length+1) i h (by omega)];rfl
end
def A3(l:List aF)(i:Nat):aS:=⟨((min (lU l i).1 2001:Nat):Int),((min (lU l i).2 1001:Nat):Int)⟩
def DJ(l:List aF)(m:List (Int×aS)):Prop:=∀j:Int,fB m j=true->∃i:Nat,j=((i:Nat):Int)/\bV m j ⟨0,0⟩=A3 l i
section
variable {N:Nat}{l:List aF}{ρ:Nat->Nat}
theorem wN(hR:qh l ρ)(hU:∀s∈l,∀u∈s.Uses,0<=nat? aF.Name l u.aF)(hl:l.length<=1048576)(hul:∀s∈l,s.Uses.length<=100/\s.bB.length<=1000):∀(d i:Nat)(m:List (Int×aS)),i<l.length->ρ i<d->DJ l m->
  Ok (g8 N d l ((i:Nat):Int) m) (λr=>r.1=A3 l i/\DJ l r.2)
 | 0,_,_,_,h,_=>by omega
 |d+1,i,m,hi,hd,hK=>by
  show Ok (g7 N (g8 N d) l ((i:Nat):Int) m) _;unfold g7
  cases hm:fB m ((i:Nat):Int)with
  |true=>
   rw[bO];obtain⟨i',e,h⟩:=hK _ hm;have:i'=i:=by omega
   subst this;exact EH ⟨h,hK⟩
  |false=>
   have hs:l[i]? =some l[i]:=aM hi;obtain⟨b1,b2⟩:=hul _<|cO hi
   rw[aZ,cW hs,aB,aB];have hus:=lV hs
   refine EW (E5 (λk st=>DJ l st.1/\st.2=(⟨((min (1+((l[i].Uses.take k).map λu=>(lU l (eI l u)).1).sum) 2001:Nat):Int),((min (l[i].bB.length+((l[i].Uses.take k).map λu=>(lU l (eI l u)).2).sum) 1001:Nat):Int)⟩:aS)) (by omega) ⟨hK,by
    rw[List.take_zero];show(⟨1,_⟩:aS)=_;congr 1
    simp;omega⟩ (λk st hk⟨h1,h2⟩=>?_)) (λst⟨h1,h2⟩=>EH ?_)
   ·obtain⟨m',n'⟩:=st;dsimp only at h1 h2 ⊢;subst h2;have hy:l[i].Uses[k]? =some l[i].Uses[k]:=aM hk;obtain⟨e,h3,h4,h5⟩:=rL hR hU (i:=i) (u:=l[i].Uses[k]) (by rw[hus];exact cO hk);rw[cW hy,aB,hY hl,aB,e];refine EW (wN hR hU hl hul d _ m' h3 (by omega) h1)<|λr hr=>EH ⟨hr.2,?_⟩
    rw[hr.1];unfold A3;dsimp only;rw[wrap_add (by omega),wrap_add (by omega),gX hk,eX,List.sum_append,eX,List.sum_append];simp only[eE,List.map_nil,List.sum_cons,List.sum_nil];congr 1
    ·split <;> omega
    ·split <;> omega
   ·obtain⟨m',n'⟩:=st;dsimp only at h1 h2 ⊢;rw[j4,<-hus,<-pX hs]at h2;have e:n'=A3 l i:=by
     rw[h2];unfold A3;rw[zX hR hU hi]
    refine⟨e,λj hj=>?_⟩;rw[ki];rw[nS]at hj
    by_cases ej:j=((i:Nat):Int)
    ·rw[aG ej];exact⟨i,ej,e⟩
    ·rw[aH ej];rw[bJ ej,Bool.false_or]at hj;exact h1 j hj
end
end Go.Gk
namespace Go.Gk
open Go IntKind
section
variable {N:Nat}
structure UF (n:Nat) (up:List Int) (r:Nat->Nat):Prop where
 len:up.length=n
 rt:∀i,i<n->∃u:Nat,up[i]? =some ((u:Nat):Int)/\u<=i/\r u=r i/\(u=i↔r i=i)
theorem UF.le{n:Nat}{up:List Int}{r:Nat->Nat}(h:UF n up r):∀i,i<n->r i<=i:=by
 intro i
 induction i using Nat.strongRecOn with
 |ind i ih=>
  intro hi;obtain⟨u,_,h2,h3,h4⟩:=h.rt i hi
  grind
theorem UF.rr{n:Nat}{up:List Int}{r:Nat->Nat}(h:UF n up r):∀i,i<n->r (r i)=r i:=by
 intro i
 induction i using Nat.strongRecOn with
 |ind i ih=>
  intro hi;obtain⟨u,_,h2,h3,h4⟩:=h.rt i hi
  grind
theorem t3{l:List Int}{j:Nat}{v:Int}{i:Nat}(hj:j<l.length):(l.set j v)[i]? =if i=j then some v else l[i]? :=by
 grind
def my(r:Nat->Nat)(a b:Nat):Nat->Nat:=λx=>if r x=max a b then min a b else r x
theorem AL(a b:Nat):(if((a:Nat):Int)<((b:Nat):Int)then((b:Nat):Int)else((a:Nat):Int))=((max a b:Nat):Int):=by
 omega
theorem AM(a b:Nat):(if((b:Nat):Int)<((a:Nat):Int)then((b:Nat):Int)else((a:Nat):Int))=((min a b:Nat):Int):=by
 omega
def rM(r:Nat->Nat)(E:List (Nat×Nat)):Prop:=∀p∈E,r p.1=r p.2
def yX(n:Nat)(r:Nat->Nat)(E:List (Nat×Nat)):Prop:=∀S:Nat->Prop,(∀p∈E,S p.1↔S p.2)->∀i j,i<n->j<n->r i=r j->S i->S j
theorem rM.join{r:Nat->Nat}{E:List (Nat×Nat)}(h:rM r E)(i k:Nat)(_h2:r (r i)=r i):rM (my r (r i)<|r k) (E++[(i,k)]):=λp hp=>by
 rcases k8.1 hp with hp|hp
 ·unfold my;rw[h p hp]
 ·simp at hp;subst hp;unfold my;dsimp only;split <;> split <;> omega
theorem yX.join{n:Nat}{r:Nat->Nat}{E:List (Nat×Nat)}(h:yX n r E){i k:Nat}(hi:i<n)(hk:k<n):yX n (my r (r i)<|r k) (E++[(i,k)]):=λS hS x y hx hy hr hSx=>by
 have hE:∀p∈E,S p.1↔S p.2:=λp hp=>hS p<|List.mem_append_left _ hp
 have hik:S i↔S k:=hS (i,k) (by simp);have key:=h S hE;unfold my at hr
 by_cases h1:r x=r y
 ·exact key x y hx hy h1 hSx
 ·have:(r x=r i/\r y=r k)\/(r x=r k/\r y=r i):=by
   split at hr <;> split at hr <;> omega
  rcases this with⟨e1,e2⟩|⟨e1,e2⟩
  ·exact key k y hk hy e2.symm<|hik.1<|key x i hx hi e1 hSx
  ·exact key i y hi hy e2.symm<|hik.2<|key x k hx hk e1 hSx
theorem yX.id(n:Nat):yX n (λi=>i) []:=λS _ i j _ _ h hs=>by
 have h:i=j:=h;subst h;exact hs
theorem rM.id:rM (λi=>i) []:=λp hp=>by simp at hp
end
end Go.Gk
namespace Go.Gk
open Go IntKind Classical
def jF(a b:aL):aL:=⟨a.aU++b.aU⟩
theorem lW{a b:aL}(h:a.aU.length+b.aU.length<=9223372036854775807):mR a b=some (jF a b):=by unfold mR jF;rw[aG h]
theorem rN(a b:aL):(jF a b).aU.length=a.aU.length+b.aU.length:=cT
def ow(b:aL)(u:iU):aL:=jF (jF b u.Name) ⟨[47]⟩
theorem xD(b:aL)(u:iU):(ow b u).aU.length=b.aU.length+u.Name.aU.length+1:=by
 unfold ow;rw[rN,rN];have:(⟨[47]⟩:aL).aU.length=1:=rfl;omega
def gz(l:List aF):Nat->Nat->aL->Nat->List (Nat×aL×Nat)
 | 0,_,_,_=>[]
 |d+1,i,b,w=>(i,b,w)::(jc l i).flatMap λu=>gz l d (eI l u) (ow b u) (w+1)
def vf(l:List aF)(e:Nat×aL×Nat):List Part:=(pW l e.1).map λp=>⟨jF e.2.1 p.Name,p.eC⟩
def rO(l:List aF)(e:Nat×aL×Nat):List aA:=(gV l e.1).map λn=>⟨jF e.2.1 n.Name,((e.2.2+1:Nat):Int)⟩
def xE(us:List iU)(p:aT):Bool:=decide<|nat? iU.Name us p.Part<0
def oc(us:List iU)(b:aL)(ps:List aT):List aT:=(ps.filter<|xE us).map λp=>⟨jF b p.Part,p.aT⟩
def po(l:List aF)(e:Nat×aL×Nat):List (List aT):=(gV l e.1).map λn=>oc (jc l e.1) e.2.1 n.bA
def iI(ns:List Net)(p:aT):Option Nat:=ns.findIdx? λn=>decide<|p∈n.bA
def A4(ns ms:List Net)(base:Nat)(w:aL)(bu j:Nat):List (Nat×Nat):=(ms[j]?).elim [] λn=>n.aX.filterMap λq=>(iI ns ⟨w,q⟩).map λa=>(base+a,bu+j)
def BZ(ns ms:List Net)(base:Nat)(w:aL)(bu:Nat):List (Nat×Nat):=(List.range ms.length).flatMap<|A4 ns ms base w bu
def we(l:List aF):Nat->Nat->Nat
 | 0,_=>0
 |d+1,i=>(gV l i).length+((jc l i).map λu=>we l d (eI l u)).sum
def AN(l:List aF):Nat->Nat->Nat->List (Nat×Nat)
 | 0,_,_=>[]
 |d+1,i,base=>((jc l i).foldl (λst u=>(st.1++(AN l d (eI l u) st.2++BZ (gV l i) (gV l (eI l u)) base u.Name st.2),st.2+we l d (eI l u))) (([]:List (Nat×Nat)),base+(gV l i).length)).1
def jX(r:Nat->Nat)(J:List (Nat×Nat)):Nat->Nat:=J.foldl (λr e=>my r (r e.1)<|r e.2) r
theorem nW(r:Nat->Nat)(J J':List (Nat×Nat)):jX r (J++J')=jX (jX r J) J':=List.foldl_append
def wg(n:Nat)(r:Nat->Nat):Prop:=∀i,n<=i->r i=i
theorem UF.push{n:Nat}{up:List Int}{r:Nat->Nat}(h:UF n up r)(hr:wg n r):UF (n+1) (up++[((n:Nat):Int)]) r:=by
 have hl:=h.len;refine⟨by rw[cT,hl];rfl,λi hi=>?_⟩
 by_cases e:i=n
 ·subst e;exact⟨i,by rw[iG (by omega),hl];simp,bP _,rfl,by simp[hr i<|bP _]⟩
 ·obtain⟨u,h1,h2⟩:=h.rt i (by omega);exact⟨u,by rw[iP (by omega)];exact h1,h2⟩
theorem wg.up{n m:Nat}{r:Nat->Nat}(h:wg n r)(hm:n<=m):wg m r:=λi hi=>h i (by omega)
theorem wg.join{n:Nat}{up:List Int}{r:Nat->Nat}(h:wg n r)(hu:UF n up r){a b:Nat}(ha:a<n)(hb:b<n):wg n (my r (r a)<|r b):=λi hi=>by
 have h1:=hu.le a ha;have h2:=hu.le b hb;have h3:=h i hi;unfold my;rw[aH (by omega),h3]
theorem t4(l:List aF):∀(d i:Nat)(b:aL)(w:Nat),((gz l d i b w).flatMap<|rO l).length=we l d i
 | 0,_,_,_=>rfl
 |d+1,i,b,w=>by
  unfold gz we;rw[List.flatMap_cons,cT,List.flatMap_assoc,List.length_flatMap];congr 1
  ·unfold rO;rw[gp]
  ·congr 1;exact List.map_congr_left λu _=>t4 l d _ _ _
theorem wh(l:List aF):∀(d i:Nat)(b:aL)(w:Nat),((gz l d i b w).flatMap<|vf l).length=(jS l d i).2
 | 0,_,_,_=>rfl
 |d+1,i,b,w=>by
  unfold gz jS;rw[List.flatMap_cons,cT,List.flatMap_assoc,List.length_flatMap];congr 1
  ·unfold vf;rw[gp]
  ·congr 1;exact List.map_congr_left λu _=>wh l d _ _ _
theorem t5{l:List aF}(h:∀i,(gV l i).length<=1000):∀(d i:Nat),we l d i<=1000*(jS l d i).1
 | 0,_=>bP _
 |d+1,i=>by
  unfold we jS;have h1:=h i;have key:∀us:List iU,(us.map λu=>we l d<|eI l u).sum<=1000*(us.map λu=>(jS l d<|eI l u).1).sum:=by
   intro us
   induction us with
   |nil=>simp
   |cons u us ih=>
    simp only[eE,List.sum_cons];have:=t5 h d<|eI l u
    omega
  have:=key<|jc l i
  dsimp only;omega
theorem qi{l:List Nat}(k:Nat):(l.take k).sum<=l.sum:=by
 have h:(l.take k++l.drop k).sum=l.sum:=by rw[List.take_append_drop]
 rw[List.sum_append]at h;omega
section
variable {N:Nat}
theorem t6{n:Nat}{up:List Int}{r:Nat->Nat}(h:UF n up r){i:Nat}(hi:i<n)(hn:n<N):∃up',bK N up ((i:Nat):Int)=some (((r i:Nat):Int),up')/\UF n up' r:=by
 unfold bK;obtain⟨o,h1,h2⟩:=o7 (R:=Empty) (body:=λ(s32:List Int×Int)=>((idx s32.1 s32.2).bind λx43=>bif x43 != s32.2 then((idx s32.1 s32.2).bind λx44=>(idx s32.1 x44).bind λx45=>(idx s32.1 s32.2).bind λx46=>(idx (s32.1.set (Int.toNat s32.2) x45) s32.2).bind λx47=>some<|.nx (s32.1.set (Int.toNat s32.2) x45,x47))else(some<|.br (s32.1,s32.2)):Option (Fl (List Int×Int) Empty)))
  (λs=>UF n s.1 r/\∃j:Nat,s.2=((j:Nat):Int)/\j<n/\r j=r i) (λs=>s.2.toNat) (λs=>s.2=((r i:Nat):Int)/\UF n s.1 r) (λ_=>True) (λs⟨hu,j,hj,hjn,hr⟩=>by
   obtain⟨l,y⟩:=s;dsimp only at hu hj ⊢;subst hj;obtain⟨u,a1,a2,a3,a4⟩:=hu.rt j hjn;rw[cW a1,aB]
   by_cases e:u=j
   ·simp_all
   ·obtain⟨v,b1,b2,b3,b4⟩:=hu.rt u (by omega);have hl:=hu.len
    refine⟨.nx (l.set j ((v:Nat):Int),((v:Nat):Int)),by
     grind [aB,cW,kj,t3],⟨⟨by simp[hl],λk hk=>?_⟩,v,rfl,by omega,?_⟩,?_⟩
    ·rw[t3 (by omega)]
     by_cases e2:k=j
     ·grind
     ·rw[aH e2];exact hu.rt k hk
    ·omega
    omega)
  N (up,((i:Nat):Int)) ⟨h,i,rfl,hi,rfl⟩ (by omega)
 rw[h1,aB]
 cases o with
 |go s'=>exact⟨s'.1,by rw[<-h2.1];rfl,h2.2⟩
 |rt r=>exact r.elim
theorem yY{n:Nat}{up:List Int}{r:Nat->Nat}(h:UF n up r){i k:Nat}(hi:i<n)(hk:k<n)(hn:n<N):
  ∃up',((bK N up ((i:Nat):Int)).bind λx978=>(bK N x978.2 ((k:Nat):Int)).bind λx980=>(idx x980.2 (if x978.1<x980.1 then x980.1 else x978.1)).bind λx982=>some<|x980.2.set (Int.toNat (if x978.1<x980.1 then x980.1 else x978.1)) (if x980.1<x978.1 then x980.1 else x978.1))=some up'/\UF n up' (my r (r i)<|r k):=by
 obtain⟨u1,a1,a2⟩:=t6 h hi hn;obtain⟨u2,b1,b2⟩:=t6 a2 hk hn;have hri:=h.le i hi;have hrk:=h.le k hk;have rri:=h.rr i hi;have rrk:=h.rr k hk;rw[a1,aB,b1,aB];dsimp only;rw[AL,AM];have hm:max (r i) (r k)<n:=by omega
 have hl:=b2.len;rw[jz _ _ (by omega),aB,kj];refine⟨_,rfl,by simp[hl],λx hx=>?_⟩;have rmax:r (max (r i)<|r k)=max (r i) (r k):=by grind
 have rmin:r (min (r i)<|r k)=min (r i) (r k):=by grind
 rw[t3 (by omega)]
 by_cases e:x=max (r i) (r k)
 ·grind [Min.min,my]
 ·rw[aH e];obtain⟨u,c1,c2,c3,c4⟩:=b2.rt x hx
  grind [my,Min.min,Max.max]
end
theorem rP{s:aL}(h:isWord s=true):1<=s.aU.length/\s.aU.length<=40:=by
 unfold isWord at h;simp only[bS,fW]at h;exact h.2
def yZ(ns:List Net)(base:Nat)(m:List (aL×Int))(j:Nat):Prop:=∀a n,a<j->ns[a]? =some n->bV m n.Name 0=((base+a:Nat):Int)
def B0(ns:List Net)(base:Nat)(m:List (aT×Int))(j:Nat):Prop:=∀p,fB m p=(iI (ns.take j) p).isSome/\∀a,iI (ns.take j) p=some a->bV m p 0=((base+a:Nat):Int)
theorem vg{ns:List Net}{j:Nat}(hj:j<ns.length)(p:aT):iI (ns.take<|j+1) p=(iI (ns.take j) p).or (if p∈ns[j].bA then some j else none):=by
 unfold iI;rw[gX hj,List.findIdx?_append];congr 1;rw[eJ,Nat.min_eq_left (by omega)]
 by_cases h:p∈ns[j].bA
 ·simp[List.findIdx?_cons,h]
 ·simp[List.findIdx?_cons,h]
theorem qj{ns:List Net}{p:aT}{a:Nat}(h:iI ns p=some a):∃n,ns[a]? =some n/\p∈n.bA:=by
 unfold iI at h;rw[List.findIdx?_eq_some_iff_getElem]at h;obtain⟨h1,h2,_⟩:=h;exact⟨ns[a],aM h1,by simpa using h2⟩
theorem B0.step{ns:List Net}{base:Nat}{m:List (aT×Int)}{j:Nat}(h:B0 ns base m j)(hj:j<ns.length)(once:∀(i j:Nat)(n m:Net)(p:aT),ns[i]? =some n->ns[j]? =some m->p∈n.bA->p∈m.bA->i=j):B0 ns base (gB m ns[j].bA ((base+j:Nat):Int)) (j+1):=λp=>by
 obtain⟨h1,h2⟩:=h p;rw[vW,oH,vg hj]
 by_cases hp:p∈ns[j].bA
 ·have hn:iI (ns.take j) p=none:=by
   cases ha:iI (ns.take j) p with
   |none=>rfl
   |some a=>
    obtain⟨n,g1,g2⟩:=qj ha;have hlt:=(bG.1 g1).1;rw[eJ]at hlt;rw[fR,aG (by omega)]at g1;have:=once a j n ns[j] p g1 (aM hj) g2 hp;omega
  rw[hn,aG hp,aG hp,cC hp];exact⟨rfl,λa ha=>by injection ha with ha;rw[ha]⟩
 ·rw[aH hp,aH hp,bJ hp,Option.or_none,Bool.false_or];exact⟨h1,h2⟩
section
variable {N:Nat}{t:List aD}{l:List aF}{ρ:Nat->Nat}
theorem y2{us:List iU}{b:aL}{n:Net}{m:List (aT×Int)}{x:Int}(hul:us.length<=1048576)(hpl:n.bA.length<=500)(hb:b.aU.length<=10000)(hp:∀p∈n.bA,p.Part.aU.length<=1048576):
  lz n.bA.length (λ(k283:Nat)(s284:List (aT×Int)×List aT)=>((idx n.bA (k283:Int)).bind λx328=>(eY N us x328.Part).bind λx334=>(bif decide (x334<0)then((mR b x328.Part).bind λx342=>(app 32 s284.2 ([(⟨x342,x328.aT⟩:aT)]:List aT)).bind λx345=>some x345)else some s284.2).bind λs340=>some (dG s284.1 x328 x,s340):Option (List (aT×Int)×List aT))) (m,([]:List aT))=some (gB m n.bA x,oc us b n.bA):=by
 have h:=E5 (m:=n.bA.length) (s:=(m,([]:List aT))) (body:=λ(k283:Nat)(s284:List (aT×Int)×List aT)=>((idx n.bA (k283:Int)).bind λx328=>(eY N us x328.Part).bind λx334=>(bif decide (x334<0)then((mR b x328.Part).bind λx342=>(app 32 s284.2 ([(⟨x342,x328.aT⟩:aT)]:List aT)).bind λx345=>some x345)else some s284.2).bind λs340=>some (dG s284.1 x328 x,s340):Option (List (aT×Int)×List aT)))
  (λk s=>s=(gB m (n.bA.take k) x,oc us b (n.bA.take k))) (by omega) (by simp[gB,oc]) (λk s hk e=>by
  subst e;have hx:n.bA[k]? =some n.bA[k]:=aM hk;have hle:(oc us b<|n.bA.take k).length<=k:=by
   unfold oc;rw[gp];exact iH (List.length_filter_le _ _) (by rw[eJ];omega)
  have h1:=hp _<|cO hk
  have e1:gB m (n.bA.take<|k+1) x=dG (gB m (n.bA.take k) x) n.bA[k] x:=by
   unfold gB;rw[gX hk,List.foldl_append];rfl
  have e2:oc us b (n.bA.take<|k+1)=oc us b (n.bA.take k)++if nat? iU.Name us n.bA[k].Part<0 then [⟨jF b n.bA[k].Part,n.bA[k].aT⟩]else []:=by
   unfold oc xE;rw[gX hk,List.filter_append,eX];congr 1
   by_cases h:nat? iU.Name us n.bA[k].Part<0
   ·simp[h]
   ·simp[h]
  rw[cW hx,aB,va hul,aB]
  by_cases h:nat? iU.Name us n.bA[k].Part<0
  ·rw[cC h,bO,lW (by omega),aB,jB (by simp only[gj,List.length_nil];omega),aB,aB];exact EH (by rw[e1,e2,aG h])
  ·rw[bJ h,aZ,aB]
   exact EH (by rw[e1,e2,aH h,iQ]))
 refine GL<|h.mono λs hs=>?_
 rw[hs,j4]
theorem wi{n:Nat}{ns ms:List Net}{base:Nat}{w:aL}{bu:Nat}{ofm:List (aT×Int)}{num:List (aL×Int)}{up:List Int}{r:Nat->Nat}(hU:UF n up r)(hRI:wg n r)(hof:B0 ns base ofm ns.length)(hnum:yZ ms bu num ms.length)
  (h1:base+ns.length<=n) (h2:bu+ms.length<=n) (hn:n<N) (hml:ms.length<=1000) (hpo:∀m∈ms,m.aX.length<=100):
  Ok (lz ms.length (λ(k801:Nat)(s802:List Int)=>((idx ms (k801:Int)).bind λx926=>(lz x926.aX.length (λ(k931:Nat)(s932:List Int)=>((idx x926.aX (k931:Int)).bind λx968=>(bif fB ofm (⟨w,x968⟩:aT)then((bK N s932<|bV ofm (⟨w,x968⟩:aT) (0:Int)).bind λx978=>(bK N x978.2<|bV num x926.Name (0:Int)).bind λx980=>(idx x980.2 (if x978.1<x980.1 then x980.1 else x978.1)).bind λx982=>some<|x980.2.set (Int.toNat (if x978.1<x980.1 then x980.1 else x978.1)) (if x980.1<x978.1 then x980.1 else x978.1))else some s932).bind λs976=>some s976:Option (List Int))) s802).bind λs932=>some s932:Option (List Int))) up)
   (λup'=>UF n up' (jX r<|BZ ns ms base w bu)/\wg n (jX r<|BZ ns ms base w bu)):=by
 refine Ok.mono (E5 (λj s=>UF n s (jX r<|(List.range j).flatMap<|A4 ns ms base w bu)/\wg n (jX r<|(List.range j).flatMap<|A4 ns ms base w bu)) (by omega) ⟨hU,hRI⟩<|λj s hj⟨g1,g2⟩=>?_)<|λs hs=>hs
 have hx:ms[j]? =some ms[j]:=aM hj;have hp:=hpo _<|cO hj
 have hnj:=hnum j ms[j] hj hx;rw[List.range_succ,List.flatMap_append,nW];generalize jX r ((List.range j).flatMap<|A4 ns ms base w bu)=r0 at g1 g2;have ej: [j].flatMap (A4 ns ms base w bu)=ms[j].aX.filterMap λq=>(iI ns ⟨w,q⟩).map λa=>(base+a,bu+j):=by
  unfold A4;simp[hx]
 rw[ej,cW hx,aB];refine EW (E5 (λq s=>UF n s (jX r0<|(ms[j].aX.take q).filterMap λq=>(iI ns ⟨w,q⟩).map λa=>(base+a,bu+j))/\wg n (jX r0<|(ms[j].aX.take q).filterMap λq=>(iI ns ⟨w,q⟩).map λa=>(base+a,bu+j))) (by omega) ⟨g1,g2⟩ ?_) ?_
 ·rintro q s hq⟨g3,g4⟩;have hy:ms[j].aX[q]? =some ms[j].aX[q]:=aM hq;rw[gX hq,List.filterMap_append,nW];generalize jX r0 ((ms[j].aX.take q).filterMap λq=>(iI ns ⟨w,q⟩).map λa=>(base+a,bu+j))=r1 at g3 g4;obtain⟨o1,o2⟩:=hof ⟨w,ms[j].aX[q]⟩;rw[j4]at o1 o2;rw[cW hy,aB,o1]
  cases hpn:iI ns ⟨w,ms[j].aX[q]⟩with
  |none=>
   rw[Option.isSome_none,aZ,aB];refine EH ?_;rw[List.filterMap_cons,hpn];exact⟨g3,g4⟩
  |some a=>
   obtain⟨m,k1,_⟩:=qj hpn;have w5:=(bG.1 k1).1;obtain⟨up',f1,f2⟩:=yY (N:=N) g3 (i:=base+a) (k:=bu+j) (by omega) (by omega) hn;rw[Option.isSome_some,bO,o2 a hpn,hnj,f1,aB];refine EH ?_;rw[List.filterMap_cons,hpn];exact⟨f2,g4.join g3 (a:=base+a) (b:=bu+j) (by omega) (by omega)⟩
 ·intro s hs;rw[j4]at hs;exact EH hs
end
section
variable {N:Nat}{t:List aD}{l:List aF}{ρ:Nat->Nat}
structure DK (l:List aF):Prop where
 vZ:l.length<=100
 qB:∀s∈l,s.Uses.length<=100
 B1:∀s∈l,∀u∈s.Uses,u.Name.aU.length<=40
 there:∀s∈l,∀u∈s.Uses,0<=nat? aF.Name l u.aF
 parts:∀s∈l,s.bB.length<=1000
 Ai:∀s∈l,∀p∈s.bB,p.Name.aU.length<=40
 lx:∀s∈l,s.aO.length<=1000
 B2:∀s∈l,∀n∈s.aO,n.Name.aU.length<=40
 pins:∀s∈l,∀n∈s.aO,n.bA.length<=500
 B3:∀s∈l,∀n∈s.aO,∀p∈n.bA,p.Part.aU.length<=1048576
 Aj:∀s∈l,∀n∈s.aO,n.aX.length<=100
 up:∀s∈l,dD Net.Name s.aO
 once:∀s∈l,∀(i j:Nat)(n m:Net)(p:aT),s.aO[i]? =some n->s.aO[j]? =some m->p∈n.bA->p∈m.bA->i=j
theorem f9.Ec(h:f9 t l)(hbl:bk l<=1048576):DK l where
 vZ:=h.vZ
 qB s hs:=(h.ok s hs).qB.vZ
 B1 s hs u hu:=(rP<|(h.ok s hs).qB.word u hu).2
 there s hs:=(h.ok s hs).qB.there
 parts s hs:=(h.ok s hs).yR
 Ai s hs p hp:=(rP<|(h.ok s hs).kH p hp).2
 lx s hs:=(h.ok s hs).lx.vZ
 B2 s hs n hn:=(rP<|(h.ok s hs).lx.word n hn).2
 pins s hs n hn:=(h.ok s hs).lx.qG n hn
 B3 s hs n hn p hp:=by
  have h1:=jo hs;rw[m9]at h1;have h2:=jo hn;rw[vS]at h2;have h3:=jo hp;rw[yF]at h3;have h4:=m7 p.Part;omega
 Aj s hs n hn:=(h.ok s hs).lx.u7 n hn
 up s hs:=(h.ok s hs).lx.up
 once s hs:=(h.ok s hs).lx.once
def wO(l:List aF)(d:Nat)(b:aL)(w:Nat)(us:List iU):List (Nat×aL×Nat):=us.flatMap λu=>gz l d (eI l u) (ow b u)<|w+1
def y3(l:List aF)(d i base:Nat)(us:List iU):List (Nat×Nat)×Nat:=us.foldl (λst u=>(st.1++(AN l d (eI l u) st.2++BZ (gV l i) (gV l<|eI l u) base u.Name st.2),st.2+we l d (eI l u))) (([]:List (Nat×Nat)),base+(gV l i).length)
theorem rQ{d:Nat}{b:aL}{w:Nat}{us:List iU}{k:Nat}(hk:k<us.length):wO l d b w (us.take<|k+1)=wO l d b w (us.take k)++gz l d (eI l us[k]) (ow b us[k]) (w+1):=by
 unfold wO;rw[gX hk,List.flatMap_append];simp
theorem vh{d i base:Nat}{us:List iU}{k:Nat}(hk:k<us.length):y3 l d i base (us.take<|k+1)=((y3 l d i base<|us.take k).1++(AN l d (eI l us[k]) (y3 l d i base<|us.take k).2++BZ (gV l i) (gV l<|eI l us[k]) base us[k].Name (y3 l d i base<|us.take k).2),(y3 l d i base<|us.take k).2+we l d (eI l us[k])):=by
 unfold y3;rw[gX hk,List.foldl_append];rfl
theorem AO(d:Nat)(b:aL)(w:Nat)(us:List iU):((wO l d b w us).flatMap<|rO l).length=(us.map λu=>we l d<|eI l u).sum:=by
 unfold wO;rw[List.flatMap_assoc,List.length_flatMap];congr 1;exact List.map_congr_left λu _=>t4 l d _ _ _
theorem AP(d:Nat)(b:aL)(w:Nat)(us:List iU):((wO l d b w us).flatMap<|vf l).length=(us.map λu=>(jS l d<|eI l u).2).sum:=by
 unfold wO;rw[List.flatMap_assoc,List.length_flatMap];congr 1;exact List.map_congr_left λu _=>wh l d _ _ _
structure DL (l:List aF) (d i:Nat) (b:aL) (w:Nat) (P:List Part) (K:List aA) (Q:List (List aT)) (r:Nat->Nat) (o:List (aL×Int)×List Part×List aA×List (List aT)×List Int):Prop where
 pP:o.2.1=P++(gz l d i b w).flatMap (vf l)
 pK:o.2.2.1=K++(gz l d i b w).flatMap (rO l)
 pQ:o.2.2.2.1=Q++(gz l d i b w).flatMap (po l)
 pU:UF o.2.2.1.length o.2.2.2.2 (jX r<|AN l d i K.length)
 pI:wg o.2.2.1.length (jX r<|AN l d i K.length)
 pN:yZ (gV l i) K.length o.1 (gV l i).length
theorem qI(S:DK l):∀i,(gV l i).length<=1000:=λi=>by
 unfold gV
 cases h:l[i]? with
 |none=>exact kR _
 |some s=>exact S.lx s (dW h)
theorem rR(f g:iU->Nat)(h:∀u,f u<=1000*g u):∀us:List iU,(us.map f).sum<=1000*(us.map g).sum
 | []=>by simp
 |u::us=>by
  simp only[eE,List.sum_cons];have:=h u;have:=rR f g h us;omega
theorem y4(S:DK l)(hR:qh l ρ)(hN:4398046511104<=N):∀(d i:Nat)(b:aL)(w:Nat)(P:List Part)(K:List aA)(Q:List (List aT))(U:List Int)(r:Nat->Nat),i<l.length->ρ i<d->b.aU.length+41*ρ i<=5000->w+ρ i<=1000->
  K.length+1000*(jS l d i).1<=3000000->P.length+(jS l d i).2<=1000000->Q.length=K.length->UF K.length U r->wg K.length r->
  Ok (dB N d l P K Q U ((i:Nat):Int) b ((w:Nat):Int)) (DL l d i b w P K Q r)
 | 0,_,_,_,_,_,_,_,_,_,h,_,_,_,_,_,_,_=>by omega
 |d+1,i,b,w,P,K,Q,U,r,hi,hd,hb,hw,hK,hP,hQ,hU,hI=>by
  show Ok (dA N (dB N d) l P K Q U ((i:Nat):Int) b ((w:Nat):Int)) _;unfold dA;have hs:l[i]? =some l[i]:=aM hi;have hm:l[i]∈l:=cO hi;have e1:=lV hs;have e2:=pX hs;have e3:=ve hs;have f1:=S.qB _ hm;have f2:=S.parts _ hm;have f3:=S.lx _ hm;unfold jS at hK hP;rw[e1]at hK hP;rw[e2]at hP;dsimp only at hK hP;rw[cW hs,aB];refine EW (E5 (λk st=>st=P++(l[i].bB.take k).map λp=>(⟨jF b p.Name,p.eC⟩:Part)) (by omega) (by simp)<|λk st hk e=>?_)<|λP1 eP=>?_
  ·subst e;have hx:l[i].bB[k]? =some l[i].bB[k]:=aM hk;have hpw:=S.Ai _ hm _<|cO hk
   rw[cW hx,aB,lW (by omega),aB,jB (by simp only[cT,gp,eJ,gj,List.length_nil];omega),aB];refine EH ?_;rw[gX hk,eX,cP];rfl
  rw[j4]at eP;refine EW (E5 (λk st=>st.1=K++(l[i].aO.take k).map (λn=>(⟨jF b n.Name,((w+1:Nat):Int)⟩:aA))/\st.2.1=Q++(l[i].aO.take k).map (λn=>oc l[i].Uses b n.bA)/\UF (K.length+k) st.2.2.1 r/\yZ l[i].aO K.length st.2.2.2.1 k/\B0 l[i].aO K.length st.2.2.2.2 k) (by omega) ⟨by simp,by simp,hU,λa n h=>by omega,λp=>⟨rfl,λa h=>by cases h⟩⟩ ?_) ?_
  ·rintro k⟨K',Q',U',num,of⟩hk⟨g1,g2,g3,g4,g5⟩;dsimp only at g1 g2 g3 g4 g5 ⊢;subst g1;subst g2;have hx:l[i].aO[k]? =some l[i].aO[k]:=aM hk;have hnm:=cO hk;have hnw:=S.B2 _ hm _ hnm;have hUl:=g3.len;have hlen:(K++(l[i].aO.take k).map (λn=>(⟨jF b n.Name,((w+1:Nat):Int)⟩:aA))).length=K.length+k:=by
    simp only[cT,gp,eJ];omega
   rw[cW hx,aB,lW (by omega),aB,u4 (by omega),jB (by rw[hlen];simp only[gj,List.length_nil];omega),aB,jB (by simp only[gj,List.length_nil];omega),aB,hlen,y2 (by omega) (S.pins _ hm _ hnm) (by omega) (S.B3 _ hm _ hnm),aB,
    jB (by simp only[cT,gp,eJ,gj,List.length_nil];omega),aB]
   refine EH ⟨?_,?_,g3.push<|hI.up (by omega),λa n ha hn=>?_,g5.step hk<|S.once _ hm⟩
   ·dsimp only;rw[gX hk,eX,cP];rfl
   ·dsimp only;rw[gX hk,eX,cP];rfl
   ·dsimp only;rw[ki]
    by_cases ea:n.Name=l[i].aO[k].Name
    ·rw[aG ea,(S.up _ hm).inj hn hx ea]
    ·rw[aH ea];refine g4 a n ?_ hn
     by_cases ek:a=k
     ·subst ek;rw[hx]at hn;injection hn with hn;exact absurd (by rw[hn]) ea
     ·omega
  rintro⟨K1,Q1,U1,num,of⟩⟨g1,g2,g3,g4,g5⟩;dsimp only at g1 g2 g3 g4 g5 ⊢;rw[j4]at g1 g2;have hnk:rO l (i,b,w)=l[i].aO.map (λn=>(⟨jF b n.Name,((w+1:Nat):Int)⟩:aA)):=by unfold rO;rw[e3]
  have hpt:vf l (i,b,w)=l[i].bB.map (λp=>(⟨jF b p.Name,p.eC⟩:Part)):=by unfold vf;rw[e2]
  have hpn:po l (i,b,w)=l[i].aO.map (λn=>oc l[i].Uses b n.bA):=by unfold po;rw[e3,e1]
  rw[<-hnk]at g1;rw[<-hpn]at g2;rw[<-hpt]at eP;have hK1:K1.length=K.length+l[i].aO.length:=by rw[g1,hnk,cT,gp]
  have hP1:P1.length=P.length+l[i].bB.length:=by rw[eP,hpt,cT,gp]
  have hQ1:Q1.length=K1.length:=by rw[g2,hpn,cT,gp,hK1,hQ]
  have hI1:wg K1.length r:=hI.up (by omega);rw[<-hK1]at g3
  refine EW (E5 (λk st=>st.1=P1++(wO l d b w (l[i].Uses.take k)).flatMap (vf l)/\st.2.1=K1++(wO l d b w (l[i].Uses.take k)).flatMap (rO l)/\st.2.2.1=Q1++(wO l d b w (l[i].Uses.take k)).flatMap (po l)/\st.2.2.1.length=st.2.1.length/\(y3 l d i K.length (l[i].Uses.take k)).2=st.2.1.length/\
   UF st.2.1.length st.2.2.2 (jX r (y3 l d i K.length (l[i].Uses.take k)).1)/\wg st.2.1.length (jX r (y3 l d i K.length (l[i].Uses.take k)).1)) (by omega) ⟨by simp[wO],by simp[wO],by simp[wO],hQ1,by show K.length+(gV l i).length=K1.length;rw[e3,hK1],g3,hI1⟩ ?_) ?_
  ·rintro k⟨P',K',Q',U'⟩hk⟨h1,h2,h3,h4,h5,h6,h7⟩;dsimp only at h1 h2 h3 h4 h5 h6 h7 ⊢;have hx:l[i].Uses[k]? =some l[i].Uses[k]:=aM hk;have hum:=cO hk;have huw:=S.B1 _ hm _ hum;obtain⟨q1,q2,q3,q4⟩:=rL hR S.there (i:=i) (u:=l[i].Uses[k]) (by rw[e1];exact hum);have hpl:=xD b l[i].Uses[k];have hK'l:K'.length=K1.length+((l[i].Uses.take k).map λu=>we l d<|eI l u).sum:=by rw[h2,cT,AO]
   have hP'l:P'.length=P1.length+((l[i].Uses.take k).map λu=>(jS l d<|eI l u).2).sum:=by rw[h1,cT,AP]
   have s1:=rR (λu=>we l d<|eI l u) (λu=>(jS l d<|eI l u).1) (λu=>t5 (qI S) d _)<|l[i].Uses.take k
   have s2:((l[i].Uses.take<|k+1).map λu=>(jS l d<|eI l u).1).sum<=(l[i].Uses.map λu=>(jS l d<|eI l u).1).sum:=by
    rw[List.map_take];exact qi _
   have s3:((l[i].Uses.take<|k+1).map λu=>(jS l d<|eI l u).2).sum<=(l[i].Uses.map λu=>(jS l d<|eI l u).2).sum:=by
    rw[List.map_take];exact qi _
   rw[gX hk,eX,List.sum_append]at s2 s3;simp only[eE,List.map_nil,List.sum_cons,List.sum_nil]at s2 s3;have ex:cJ N l l[i].Uses[k].aF=some ((eI l l[i].Uses[k]:Nat):Int):=by
    have:=S.vZ;rw[hY (by omega),q1]
   have hcl:=rN b l[i].Uses[k].Name;have hone:(⟨[47]⟩:aL).aU.length=1:=rfl;rw[cW hx,aB,ex,aB,lW (by omega),aB,lW (by omega),aB,u4 (by omega)];refine EW (y4 S hR hN d (eI l l[i].Uses[k]) (ow b l[i].Uses[k]) (w+1) P' K' Q' U' _ q2 (by omega) (by omega) (by omega) (by omega) (by omega) h4 h6 h7) ?_;rintro⟨inn,P2,K2,Q2,U2⟩⟨p1,p2,p3,p4,p5,p6⟩;dsimp only at p1 p2 p3 p4 p5 p6 ⊢;have hy:l[eI l l[i].Uses[k]]? =some (l[eI l l[i].Uses[k]]):=aM q2;have hm2:l[eI l l[i].Uses[k]]∈l:=cO q2;have e4:=ve hy;have hK2l:K2.length=K'.length+we l d (eI l l[i].Uses[k]):=by rw[p2,cT,t4]
   have hnn:(gV l<|eI l l[i].Uses[k]).length<=we l d (eI l l[i].Uses[k]):=by
    cases d with
    |zero=>omega
    |succ d=>unfold we;omega
   have hnd:=t5 (qI S) d<|eI l l[i].Uses[k]
   rw[cW hy,aB];rw[<-e4];rw[e3.symm]at g4 g5;refine EW (wi (n:=K2.length) (ns:=gV l i) (ms:=gV l<|eI l l[i].Uses[k]) (base:=K.length) (w:=l[i].Uses[k].Name) (bu:=K'.length) p4 p5 (by rw[e3]at g5 ⊢;exact g5) p6 (by rw[e3];omega) (by omega) (by omega) (qI S _)<|λm hm'=>S.Aj _ hm2 m (by rw[<-e4];exact hm'))<|λup' hup=>EH ⟨?_,?_,?_,?_,?_,?_⟩
   ·dsimp only;rw[rQ hk,List.flatMap_append,<-cP,<-h1];exact p1
   ·dsimp only;rw[rQ hk,List.flatMap_append,<-cP,<-h2];exact p2
   ·dsimp only;rw[rQ hk,List.flatMap_append,<-cP,<-h3];exact p3
   ·dsimp only;have hqn:((gz l d (eI l l[i].Uses[k]) (ow b l[i].Uses[k])<|w+1).flatMap<|po l).length=((gz l d (eI l l[i].Uses[k]) (ow b l[i].Uses[k])<|w+1).flatMap<|rO l).length:=by
     rw[List.length_flatMap,List.length_flatMap];congr 1;exact List.map_congr_left λe _=>by unfold po rO;rw[gp,gp]
    rw[p3,p2,cT,cT,hqn,h4]
   ·dsimp only;rw[vh hk];dsimp only;rw[h5,hK2l]
   ·dsimp only;rw[vh hk];dsimp only;rw[nW,nW,h5];exact hup
  ·rintro⟨P',K',Q',U'⟩⟨h1,h2,h3,h4,h5,h6,h7⟩;dsimp only at h1 h2 h3 h4 h5 h6 h7 ⊢;rw[j4]at h1 h2 h3 h5 h6 h7;have hin:gz l (d+1) i b w=(i,b,w)::wO l d b w l[i].Uses:=by
    show(i,b,w)::_=_;rw[e1];rfl
   have hjn:AN l (d+1) i K.length=(y3 l d i K.length l[i].Uses).1:=by
    show(y3 l d i K.length<|jc l i).1=_;rw[e1]
   refine EH ⟨?_,?_,?_,?_,?_,?_⟩
   ·dsimp only;rw[hin,List.flatMap_cons,<-cP,<-eP];exact h1
   ·dsimp only;rw[hin,List.flatMap_cons,<-cP,<-g1];exact h2
   ·dsimp only;rw[hin,List.flatMap_cons,<-cP,<-g2];exact h3
   ·dsimp only;rw[hjn];exact h6
   ·dsimp only;rw[hjn];exact h7
   ·dsimp only;rw[e3];exact g4
end
theorem nX{s:aL}(h:isWord s=true):(47:UInt8)∉s.aU:=λhm=>by
 unfold isWord at h;simp only[bS,Bool.not_eq_true']at h;have:=h.1;rw[List.any_eq_false]at this;exact this 47 hm (by decide)
inductive rS:aL->Prop
 |nil:rS ⟨[]⟩
 |use {b:aL} {u:iU} (h:rS b) (hu:isWord u.Name=true):rS (ow b u)
theorem lX(b:aL)(u:iU):(ow b u).aU=b.aU++(u.Name.aU++[47]):=by
 show(b.aU++u.Name.aU)++[47]=_;rw[cP]
theorem rS.cut{b:aL}(h:rS b):∃ws:List (List UInt8),(∀w∈ws,isWord ⟨w⟩=true)/\∀x,cutAt 47 (b.aU++x)=ws++cutAt 47 x:=by
 induction h with
 |nil=>exact⟨[],by simp,λx=>rfl⟩
 |use h hu ih=>
  rename_i b u;obtain⟨ws,h1,h2⟩:=ih;refine⟨ws++[u.Name.aU],λw hw=>?_,λx=>?_⟩
  ·rcases k8.1 hw with hw|hw
   ·exact h1 w hw
   ·rw[List.mem_singleton]at hw;subst hw;exact hu
  ·rw[lX,cP,cP,h2];have:=nB (c:=47) (a:=u.Name.aU) (b:=x)<|nX hu
   rw[List.singleton_append,this,cP];rfl
theorem kI{b b' x y:aL}(hb:rS b)(hb':rS b')(hx:isWord x=true)(hy:isWord y=true)(h:jF b x=jF b' y):b=b'/\x=y:=by
 obtain⟨ws,_,h1⟩:=hb.cut;obtain⟨ws',_,h2⟩:=hb'.cut;have e:b.aU++x.aU=b'.aU++y.aU:=congrArg aL.aU h;have c1:=h1 x.aU;have c2:=h2 y.aU;rw[kE<|nX hx]at c1;rw[kE<|nX hy]at c2;rw[e,c2]at c1;obtain⟨_,e2⟩:=List.append_inj' c1 rfl;have e3:y.aU=x.aU:=by injection e2
 rw[<-e3]at e;have e4:=List.append_cancel_right e;exact⟨by cases b;cases b';exact congrArg aL.mk e4,by cases x;cases y;exact congrArg aL.mk e3.symm⟩
theorem s8{b x:aL}(hb:rS b)(hx:isWord x=true)(hl:(jF b x).aU.length<=200):jQ (jF b x)=true:=by
 obtain⟨ws,h0,h1⟩:=hb.cut;have c1:=h1 x.aU;rw[kE<|nX hx]at c1;unfold jQ lr;rw[cC hl,Bool.true_and,gD];intro w hw;obtain⟨q,hq,rfl⟩:=dK.1 hw;have hq':q∈ws++[x.aU]:=by rw[<-c1];exact hq
 rcases k8.1 hq' with h|h
 ·exact h0 q h
 ·rw[List.mem_singleton]at h;subst h;exact hx
section
variable {t:List aD}{l:List aF}{ρ:Nat->Nat}
theorem pZ{i:Nat}{u:iU}(h:u∈jc l i):∃s,l[i]? =some s/\s∈l/\u∈s.Uses:=by
 unfold jc at h
 cases hs:l[i]? with
 |none=>rw[hs]at h;cases h
 |some s=>rw[hs]at h;exact⟨s,rfl,dW hs,h⟩
theorem vj(hW:∀s∈l,∀u∈s.Uses,isWord u.Name=true):∀(d i:Nat)(b:aL)(w:Nat),rS b->∀e∈gz l d i b w,rS e.2.1
 | 0,_,_,_,_,e,he=>by cases he
 |d+1,i,b,w,hb,e,he=>by
  unfold gz at he
  rcases gC.1 he with rfl|he
  ·exact hb
  ·obtain⟨u,hu,he⟩:=List.mem_flatMap.1 he;obtain⟨s,_,hs,hu'⟩:=pZ hu;exact vj hW d _ _ _ (.use hb<|hW s hs u hu') e he
theorem pf:∀(d i:Nat)(b:aL)(w:Nat),∀e∈gz l d i b w,∃q,e.2.1.aU=b.aU++q
 | 0,_,_,_,e,he=>by cases he
 |d+1,i,b,w,e,he=>by
  unfold gz at he
  rcases gC.1 he with rfl|he
  ·exact⟨[],by simp⟩
  ·obtain⟨u,hu,he⟩:=List.mem_flatMap.1 he;obtain⟨q,hq⟩:=pf d _ _ _ e he;exact⟨(u.Name.aU++[47])++q,by rw[hq,lX,cP]⟩
theorem wP(hW:∀s∈l,∀u∈s.Uses,isWord u.Name=true)(hU:∀s∈l,dD iU.Name s.Uses):∀(d i:Nat)(b:aL)(w:Nat),(gz l d i b w).Pairwise λe e'=>e.2.1≠e'.2.1
 | 0,_,_,_=>lY
 |d+1,i,b,w=>by
  unfold gz;rw[List.pairwise_cons,List.pairwise_flatMap];refine⟨λe he h=>?_,λu hu=>wP hW hU d _ _ _,?_⟩
  ·obtain⟨u,hu,he⟩:=List.mem_flatMap.1 he;obtain⟨q,hq⟩:=pf d _ _ _ e he;have h':b=e.2.1:=h;rw[<-h',lX]at hq;have:=congrArg List.length hq;simp only[cT,gj,List.length_nil]at this;omega
  ·have hs:(jc l i).Pairwise λu v=>u.Name≠v.Name:=by
    unfold jc
    cases hi:l[i]? with
    |none=>exact lY
    |some s=>
     have:=hU s<|dW hi
     show s.Uses.Pairwise _;rw[gk];intro a c ha hc hac e;exact aL.ot (this a c _ _ hac (aM ha)<|aM hc) e
   refine List.Pairwise.imp_of_mem (λ{u v}hu hv hne=>?_) hs;intro e he e' he' h;obtain⟨q,hq⟩:=pf d _ _ _ e he;obtain⟨q',hq'⟩:=pf d _ _ _ e' he';rw[h,hq',lX,lX,cP,cP,cP,cP]at hq;have e1:=List.append_cancel_left hq;obtain⟨s,_,hs1,hu1⟩:=pZ hu;obtain⟨s',_,hs2,hv1⟩:=pZ hv;have c1:=nB (c:=47) (a:=u.Name.aU) (b:=q)<|nX<|hW s hs1 u hu1
   have c2:=nB (c:=47) (a:=v.Name.aU) (b:=q')<|nX<|hW s' hs2 v hv1
   rw[List.singleton_append,List.singleton_append]at e1;rw[e1,c1]at c2;injection c2 with c2 _
   refine hne ?_
   cases hun:u.Name
   cases hvn:v.Name
   rw[hun,hvn]at c2;exact congrArg aL.mk c2
end
section
variable {t:List aD}{l:List aF}{ρ:Nat->Nat}
structure vk (l:List aF) (I:List (Nat×aL×Nat)):Prop where
 pre:∀e∈I,rS e.2.1
 nd:I.Pairwise λe e'=>e.2.1≠e'.2.1
theorem f9.inst(h:f9 t l)(d k:Nat):vk l (gz l d k ⟨[]⟩ 0):=
 ⟨vj (λs hs=>(h.ok s hs).qB.word) d k _ 0 .nil,wP (λs hs=>(h.ok s hs).qB.word) (λs hs=>(h.ok s hs).qB.up) d k _ 0⟩
theorem t7{α:Type}{f:aF->List α}{i:Nat}{x:α}(h:x∈(l[i]?).elim [] f):∃s,l[i]? =some s/\s∈l/\x∈f s:=by
 cases hs:l[i]? with
 |none=>rw[hs]at h;cases h
 |some s=>rw[hs]at h;exact⟨s,rfl,dW hs,h⟩
theorem y5{I:List (Nat×aL×Nat)}{p:Part}(h:p∈I.flatMap (vf l)):∃e∈I,∃s,l[e.1]? =some s/\s∈l/\∃x∈s.bB,p= ⟨jF e.2.1 x.Name,x.eC⟩:=by
 obtain⟨e,he,hp⟩:=List.mem_flatMap.1 h;unfold vf at hp;obtain⟨x,hx,rfl⟩:=dK.1 hp;obtain⟨s,h1,h2,h3⟩:=t7 hx;exact⟨e,he,s,h1,h2,x,h3,rfl⟩
theorem Ak(h:f9 t l){I:List (Nat×aL×Nat)}(hI:vk l I):(I.flatMap<|vf l).Pairwise λp q=>p.Name≠q.Name:=by
 rw[List.pairwise_flatMap];refine⟨λe he=>?_,List.Pairwise.imp_of_mem (λ{e e'}he he' hne p hp q hq hpq=>?_) hI.nd⟩
 ·unfold vf pW;rw[List.pairwise_map]
  cases hs:l[e.1]? with
  |none=>exact lY
  |some s=>
   have hm:=dW hs;have hso:=(h.ok s hm).parts.sorted;show s.bB.Pairwise _;rw[gk];intro a c ha hc hac hEq;have h1:=(h.ok s hm).kH _<|cO ha
   have h2:=(h.ok s hm).kH _<|cO hc
   have:=(kI (hI.pre e he) (hI.pre e he) h1 h2 hEq).2;exact aL.ot (hso a c _ _ hac (aM ha)<|aM hc) this
 ·unfold vf at hp hq;obtain⟨x,hx,rfl⟩:=dK.1 hp;obtain⟨y,hy,rfl⟩:=dK.1 hq;obtain⟨s,_,h2,h3⟩:=t7 hx;obtain⟨s',_,h2',h3'⟩:=t7 hy;exact hne (kI (hI.pre e he) (hI.pre e' he') ((h.ok s h2).kH x h3) ((h.ok s' h2').kH y h3') hpq).1
theorem AQ{I:List (Nat×aL×Nat)}{q:aA}(h:q∈I.flatMap (rO l)):∃e∈I,∃s,l[e.1]? =some s/\s∈l/\∃n∈s.aO,q= ⟨jF e.2.1 n.Name,((e.2.2+1:Nat):Int)⟩:=by
 obtain⟨e,he,hp⟩:=List.mem_flatMap.1 h;unfold rO at hp;obtain⟨x,hx,rfl⟩:=dK.1 hp;obtain⟨s,h1,h2,h3⟩:=t7 hx;exact⟨e,he,s,h1,h2,x,h3,rfl⟩
theorem B4(h:f9 t l){I:List (Nat×aL×Nat)}(hI:vk l I):(I.flatMap<|rO l).Pairwise λp q=>p.path≠q.path:=by
 rw[List.pairwise_flatMap];refine⟨λe he=>?_,List.Pairwise.imp_of_mem (λ{e e'}he he' hne p hp q hq hpq=>?_) hI.nd⟩
 ·unfold rO gV;rw[List.pairwise_map]
  cases hs:l[e.1]? with
  |none=>exact lY
  |some s=>
   have hm:=dW hs;have hso:=(h.ok s hm).lx.up;show s.aO.Pairwise _;rw[gk];intro a c ha hc hac hEq;have h1:=(h.ok s hm).lx.word _<|cO ha
   have h2:=(h.ok s hm).lx.word _<|cO hc
   have:=(kI (hI.pre e he) (hI.pre e he) h1 h2 hEq).2;exact aL.ot (hso a c _ _ hac (aM ha)<|aM hc) this
 ·unfold rO at hp hq;obtain⟨x,hx,rfl⟩:=dK.1 hp;obtain⟨y,hy,rfl⟩:=dK.1 hq;obtain⟨s,_,h2,h3⟩:=t7 hx;obtain⟨s',_,h2',h3'⟩:=t7 hy;exact hne (kI (hI.pre e he) (hI.pre e' he') ((h.ok s h2).lx.word x h3) ((h.ok s' h2').lx.word y h3') hpq).1
theorem vl(h:f9 t l){s:aF}(hs:s∈l){n:Net}(hn:n∈s.aO){p:aT}(hp:p∈n.bA)(ho:xE s.Uses p=true):jR t s.bB p=true/\∃x∈s.bB,x.Name=p.Part:=by
 have h1:=(h.ok s hs).lx.DF n hn p hp;unfold xE at ho;rw[fW]at ho;unfold v7 at h1;rw[aH (by omega)]at h1;refine⟨h1,?_⟩;unfold jR at h1
 cases hf:s.bB.find? (λx=>x.Name.iw p.Part)with
 |none=>rw[hf]at h1;cases h1
 |some x=>
  have h2:x.Name.iw p.Part=true:=by simpa using List.find?_some hf
  exact⟨x,List.mem_of_find?_eq_some hf,ik.1 h2⟩
theorem wj{I:List (Nat×aL×Nat)}{q:List aT}(h:q∈I.flatMap (po l)):∃e∈I,∃s,l[e.1]? =some s/\s∈l/\∃n∈s.aO,q=oc s.Uses e.2.1 n.bA:=by
 obtain⟨e,he,hp⟩:=List.mem_flatMap.1 h;unfold po at hp;obtain⟨x,hx,rfl⟩:=dK.1 hp;obtain⟨s,h1,h2,h3⟩:=t7 hx;exact⟨e,he,s,h1,h2,x,h3,by rw[lV h1]⟩
theorem pg{us:List iU}{b:aL}{ps:List aT}{q:aT}(h:q∈oc us b ps):∃p∈ps,xE us p=true/\q= ⟨jF b p.Part,p.aT⟩:=by
 unfold oc at h;obtain⟨p,hp,rfl⟩:=dK.1 h;obtain⟨h1,h2⟩:=jt.1 hp;exact⟨p,h1,h2,rfl⟩
theorem kJ(h:f9 t l){s:aF}(hs:s∈l){n:Net}(hn:n∈s.aO){p:aT}(hp:p∈n.bA)(ho:xE s.Uses p=true):isWord p.Part=true:=by
 obtain⟨_,x,hx,e⟩:=vl h hs hn hp ho;rw[<-e];exact(h.ok s hs).kH x hx
theorem B5(h:f9 t l){I:List (Nat×aL×Nat)}(hI:vk l I):(I.flatMap<|po l).flatten.Nodup:=by
 unfold List.Nodup;rw[List.pairwise_flatten];refine⟨λq hq=>?_,?_⟩
 ·obtain⟨e,he,s,h1,h2,n,hn,rfl⟩:=wj hq;unfold oc;rw[List.pairwise_map];have hnd:n.bA.Pairwise λp q=>p≠q:=by
   rw[gk];intro a c ha hc hac hEq;have:=(h.ok s h2).lx.v5 n hn a c _ _ hac (aM ha)<|aM hc
   rw[hEq,kd]at this
   cases this
  refine List.Pairwise.imp_of_mem (λ{p q}hp hq hne hEq=>?_)<|hnd.filter _
  obtain⟨p1,p2⟩:=jt.1 hp;obtain⟨q1,q2⟩:=jt.1 hq;injection hEq with e1 e2
  have e3:=(kI (hI.pre e he) (hI.pre e he) (kJ h h2 hn p1 p2) (kJ h h2 hn q1 q2) e1).2;refine hne ?_
  cases p;cases q
  dsimp only at e2 e3;rw[e2,e3]
 ·rw[List.pairwise_flatMap];refine⟨λe he=>?_,List.Pairwise.imp_of_mem (λ{e e'}he he' hne a ha c hc x hx y hy hxy=>?_) hI.nd⟩
  ·unfold po gV;rw[List.pairwise_map]
   cases hs:l[e.1]? with
   |none=>exact lY
   |some s=>
    have hm:=dW hs;show s.aO.Pairwise _;rw[lV hs,gk];intro a c ha hc hac x hx y hy hxy;obtain⟨p,p1,p2,rfl⟩:=pg hx;obtain⟨q,q1,q2,rfl⟩:=pg hy;injection hxy with e1 e2
    have e3:=(kI (hI.pre e he) (hI.pre e he) (kJ h hm (cO ha) p1 p2) (kJ h hm (cO hc) q1 q2) e1).2;have epq:p=q:=by
     cases p;cases q
     dsimp only at e2 e3;rw[e2,e3]
    subst epq;have:=(h.ok s hm).lx.once a c _ _ p (aM ha) (aM hc) p1 q1;omega
  ·unfold po at ha hc;obtain⟨n,hn,rfl⟩:=dK.1 ha;obtain⟨m,hm,rfl⟩:=dK.1 hc;obtain⟨s,g1,g2,g3⟩:=t7 hn;obtain⟨s',g1',g2',g3'⟩:=t7 hm;rw[lV g1]at hx;rw[lV g1']at hy;obtain⟨p,p1,p2,rfl⟩:=pg hx;obtain⟨q,q1,q2,rfl⟩:=pg hy;injection hxy with e1 e2
   exact hne (kI (hI.pre e he) (hI.pre e' he') (kJ h g2 g3 p1 p2) (kJ h g2' g3' q1 q2) e1).1
theorem AR(h:f9 t l){I:List (Nat×aL×Nat)}(hI:vk l I){P:List Part}(hP:P.Perm (I.flatMap<|vf l)){q:List aT}(hq:q∈I.flatMap (po l)){y:aT}(hy:y∈q):jR t P y=true:=by
 obtain⟨e,he,s,h1,h2,n,hn,rfl⟩:=wj hq;obtain⟨p,p1,p2,rfl⟩:=pg hy;have hh:=(vl h h2 hn p1 p2).1;have hw:=kJ h h2 hn p1 p2;unfold jR at hh ⊢
 cases hf:s.bB.find? (λx=>x.Name.iw p.Part)with
 |none=>rw[hf]at hh;cases hh
 |some x=>
  rw[hf]at hh;have hx:=List.mem_of_find?_eq_some hf;have hxb:x.Name.iw p.Part=true:=by simpa using List.find?_some hf
  have hxn:=ik.1 hxb;have hin:(⟨jF e.2.1 x.Name,x.eC⟩:Part)∈P:=by
   rw[hP.mem_iff];refine List.mem_flatMap.2 ⟨e,he,?_⟩;unfold vf;rw[pX h1];exact dK.2 ⟨x,hx,rfl⟩
  have hnd:P.Pairwise λa c=>a.Name≠c.Name:=hP.symm.pairwise (Ak h hI)<|λ{a c}h h'=>h h'.symm
  cases hg:P.find? (λz=>z.Name.iw<|jF e.2.1 p.Part)with
  |none=>
   rw[List.find?_eq_none]at hg;exact absurd (ik.2 (by rw[<-hxn]))<|hg _ hin
  |some z=>
   have hz:=List.mem_of_find?_eq_some hg;have hzb:z.Name.iw (jF e.2.1 p.Part)=true:=by simpa using List.find?_some hg
   have hzn:=ik.1 hzb;have hez:z=(⟨jF e.2.1 x.Name,x.eC⟩:Part):=by
    obtain⟨i,hi,rfl⟩:=List.mem_iff_getElem.1 hz;obtain⟨j,hj,e2⟩:=List.mem_iff_getElem.1 hin;rw[<-e2];have hnn:P[i].Name=P[j].Name:=by rw[hzn,e2,hxn]
    rcases Nat.lt_trichotomy i j with h4|h4|h4
    ·exact absurd hnn<|gk.1 hnd i j hi hj h4
    ·subst h4;rfl
    ·exact absurd hnn.symm<|gk.1 hnd j i hj hi h4
   subst hez;exact hh
end
end Go.Gk
namespace Go.Gk
open Go IntKind Go.Sort
section
variable {α:Type}
theorem ql{β:Type}(a:Array β){n:Nat}(h:a.size=n):a.extract 0 n=a:=by grind
theorem AU{φ:α->α->Option Int}{l:List α}(cf:α->α->Int)(hφ:∀x∈l,∀y∈l,φ x y=some (cf x y))(h1:∀x∈l,¬cf x x<0)
  (h2:∀x∈l,∀y∈l,∀z∈l,cf x y<0->cf y z<0->cf x z<0) (h3:∀x∈l,∀y∈l,∀z∈l,¬cf x y<0->¬cf y z<0->¬cf x z<0):SWO (z7<|vt φ l):=by
 have hm:∀i:Fin l.length,l[i]∈l:=λi=>cO i.isLt;have e:∀i j:Fin l.length,vt φ l i j=cf l[i] l[j]:=λi j=>by grind [vt]
 refine⟨λx=>?_,λx y z=>?_,λx y z=>?_⟩
 all_goals grind [z7,decide_eq_false_iff_not]
theorem vm{φ:α->α->Option Int}{l:List α}(cf:α->α->Int)(hφ:∀x∈l,∀y∈l,φ x y=some (cf x y))(h1:∀x∈l,¬cf x x<0)
  (h2:∀x∈l,∀y∈l,∀z∈l,cf x y<0->cf y z<0->cf x z<0) (h3:∀x∈l,∀y∈l,∀z∈l,¬cf x y<0->¬cf y z<0->¬cf x z<0) (hl:l.length<4611686018427387904):
  ∃m,lB φ l=some m/\m.Perm l/\m.Pairwise (λx y=>¬cf y x<0):=by
 have hO:=AU cf hφ h1 h2 h3;have hm:∀i:Fin l.length,l[i]∈l:=λi=>cO i.isLt;have hc:(∀i j:Fin l.length,∃c,φ l[i] l[j]=some c):=λi j=>⟨_,hφ _ (hm i) _<|hm j⟩;refine⟨wB φ l,by simp_all[lB,aG],?_⟩;unfold wB
 by_cases hn:0<l.length
 ·rw[dif_pos hn]
  letI inh:Inhabited (Fin l.length):=⟨⟨0,hn⟩⟩
  have hds:(Array.ofFn λi:Fin l.length=>i).size=l.length:=by simp
  obtain⟨hp,hs⟩:=pdq_sorts (z7<|vt φ l) hO (Array.ofFn λi:Fin l.length=>i) 0 l.length (Lib.bitLen l.length) true true (kR _) (by omega)<|Or.inl rfl
  show(List.map (λi=>l[i]) (pdq (z7<|vt φ l) (Array.ofFn λi:Fin l.length=>i) 0 l.length (Lib.bitLen l.length) true true).toList).Perm l/\_;generalize pdq (z7<|vt φ l) (Array.ofFn λi:Fin l.length=>i) 0 l.length (Lib.bitLen l.length) true true=d' at hp hs;obtain⟨hz,_,hpm⟩:=hp;have hz':d'.size=l.length:=hz.trans hds;rw[ql d' hz',ql _ hds]at hpm;have hof:(Array.ofFn λi:Fin l.length=>i).toList.map (λi=>l[i])=l:=by
   rw[Array.toList_ofFn,List.map_ofFn];exact List.ofFn_getElem
  refine⟨(hpm.map<|λi=>l[i]).trans<|List.Perm.of_eq hof,?_⟩;rw[List.pairwise_map,gk];intro i j hi hj hij;rw[Array.length_toList]at hi hj;have:=hs i j (kR _) hij (by omega)
  grind [vt,z7,decide_eq_false_iff_not]
 ·rw[dif_neg hn];have:l= []:=List.length_eq_zero_iff.1 (by omega);subst this;exact⟨List.Perm.refl _,lY⟩
end
end Go.Gk
namespace Go.Gk
open Go IntKind
section
variable {N:Nat}
section
variable {α:Type}
def qJ(l:List aT):Prop:=l.Pairwise<|λa b=>fL a b=true
theorem oJ{l:List aT}:(∀(i j:Nat)(p q:aT),i<j->l[i]? =some p->l[j]? =some q->fL p q=true)↔qJ l:=by
 unfold qJ;rw[gk];constructor
 ·intro h i j hi hj hij;exact h i j _ _ hij (aM hi)<|aM hj
 ·intro h i j x y hij hx hy;obtain⟨hi,rfl⟩:=bG.1 hx;obtain⟨hj,rfl⟩:=bG.1 hy;exact h i j hi hj hij
theorem dD.cZ{key:α->aL}{l:List α}(h:dD key l){k:Nat}(hk:k<l.length):Gk.cZ key l k=false:=by
 unfold Gk.cZ;rw[aM hk,aM (by omega:k - 1<l.length)];dsimp only
 by_cases h0:0<k
 ·rw[wH.2<|h (k - 1) k _ _ (by omega) (aM (by omega))<|aM hk];simp
 ·rw[bJ h0];simp
end
theorem xF{l:List aT}(h:qJ l){k:Nat}(hk:k<l.length):ja l k=false:=by
 unfold ja;rw[aM hk,aM (by omega:k - 1<l.length)];dsimp only
 by_cases h0:0<k
 ·rw[oJ.2 h (k - 1) k _ _ (by omega) (aM (by omega))<|aM hk];simp
 ·rw[bJ h0];simp
theorem rT{t:List aD}{x:aW}(h0:checkTypes t=0)(ok:yM t x):nU t x=0:=by
 unfold nU;rw[aH (by rw[h0];simp)];have h1:fK t x.bB=0:=by
  unfold fK;rw[aH (by have:=ok.vZ;omega),fD.2<|λk hk=>?_]
  ·rfl
  ·unfold mn;rw[aM hk];dsimp only;have hm:=cO hk;have:=ok.parts.typed _ hm;rw[aH (by rw[ok.Ah _ hm];decide),aH (by omega),aH (by rw[ok.parts.sorted.cZ hk];decide)]
 rw[aH (by rw[h1];simp)];unfold pT;rw[aH (by have:=ok.wL;omega),fD.2<|λi hi=>?_]
 ·rfl
 ·unfold rI;rw[aM hi];dsimp only;have hm:=cO hi;obtain⟨h3,h4⟩:=ok.qG _ hm;rw[aH (by rw[ok.path _ hm];decide),aH (by omega),aH (by omega),fD.2<|λk hk=>?_]
  ·rw[ok.zT _ hm,aH (by simp),aH (by rw[ok.lx.cZ hi];decide)];rfl
  ·unfold rH;rw[aM hk];dsimp only;have hp:=cO hk;rw[aH (by rw[ok.DF _ hm _ hp];decide),aH (by rw[xF (oJ.1<|ok.v5 _ hm) hk];decide),aH ?_];intro h;unfold lu at h;obtain⟨m,hm2,hp2⟩:=jv.1 h;obtain⟨j,hj⟩:=fN hm2;have hji:j<i:=by have:=(bG.1 hj).1;rw[eJ]at this;omega
   rw[List.getElem?_take_of_lt hji]at hj;have:=ok.once j i m _ _ hj (aM hi) (of_decide_eq_true hp2) hp;omega
section
variable {α:Type}
end
end
section
variable {N:Nat}
theorem nI{a b:aT}(h:fL a b=true):fL b a=false:=by
 cases h2:fL b a with
 |false=>rfl
 |true=>have:=kY h h2;rw[kd]at this;cases this
theorem nJ{a b:aT}:mo a b=0↔a=b:=by
 unfold mo;constructor
 ·intro h;split at h
  ·rename_i h1;have e1:=aL.ext'<|(gb _ _).1 h1
   have e2:=aL.ext'<|(gb _ _).1 h
   obtain⟨a1,a2⟩:=a;obtain⟨b1,b2⟩:=b;simp only at e1 e2;rw[e1,e2]
  ·rename_i h1;exact absurd h h1
 ·intro h;subst h;rw[aG<|(gb _ _).2 rfl];exact(gb _ _).2 rfl
theorem oK{a b:aT}:mo a b<0↔fL a b=true:=by
 have h:=sS a b;constructor
 ·intro h1;rw[cC (by omega)]at h
  rcases jE a b with h2|h2|h2
  ·exact h2
  ·rw[nJ.2 h2]at h1;omega
  ·rw[h2]at h;cases h
 ·intro h1;have h2:=nI h1;rw[h2,oM,fW]at h;have:mo a b≠0:=λe=>by rw[nJ]at e;subst e;rw[kd]at h1;cases h1
  omega
def t8(l:List aT):Prop:=l.Pairwise<|λa b=>fL b a=false
theorem xG{l m:List aT}(hl:t8 l)(hm:t8 m)(hp:l.Perm m):l=m:=
 List.Perm.eq_of_pairwise (le:=λa b=>fL b a=false) (λa b _ _ h h'=>by
  rcases jE a b with h2|h2|h2
  ·rw[h2]at h';cases h'
  ·exact h2
  ·rw[h2]at h;cases h) hl hm hp
theorem mB{a b c:aT}(h1:fL b a=false)(h2:fL c b=false):fL c a=false:=by
 cases h:fL c a with
 |false=>rfl
 |true=>
  rcases jE a b with h3|h3|h3
  ·rw[kY h h3]at h2;cases h2
  ·subst h3;rw[h]at h2;cases h2
  ·rw[h3]at h1;cases h1
def k6(l:List aT):List aT:=l.mergeSort<|λa b=> !fL b a
theorem kK(l:List aT):(k6 l).Perm l:=List.mergeSort_perm _ _
theorem vn(l:List aT):t8 (k6 l):=by
 have:=List.pairwise_mergeSort (le:=λa b:aT=> !fL b a) (λa b c h1 h2=>by
  simp only[Bool.not_eq_true']at h1 h2 ⊢;exact mB h1 h2) (λa b=>by
  rcases jE a b with h|h|h
  ·rw[nI h];rfl
  ·subst h;rw[kd];rfl
  ·rw[nI h];simp) l
 exact this.imp λh=>by simpa using h
theorem y6{l m:List aT}(hp:m.Perm l)(hm:t8 m):m=k6 l:=xG hm (vn l)<|hp.trans (kK l).symm
theorem y7{l:List aT}(h:l.Nodup):qJ (k6 l):=by
 have h1:(k6 l).Nodup:=(kK l).symm.nodup h;have h2:=List.Pairwise.and (vn l) h1;exact h2.imp λ{a b}h=>by
  rcases jE a b with h3|h3|h3
  ·exact h3
  ·exact absurd h3 h.2
  ·rw[h3]at h;cases h.1
theorem wm{l:List aT}(hl:l.length<4611686018427387904):lB (cN N) l=some (k6 l):=by
 obtain⟨m,h1,h2,h3⟩:=vm (φ:=cN N) (l:=l) mo (λa _ b _=>nE a b) (λa _=>by rw[nJ.2 rfl];decide)
  (λa _ b _ c _ h1 h2=>by rw[oK]at *;exact kY h1 h2) (λa _ b _ c _ h1 h2=>by
   rw[oK,ju]at *;exact mB h2 h1) hl
 rw[h1,y6 h2 (h3.imp λh=>by rw[oK,ju]at h;exact h)]
end
end Go.Gk
namespace Go.Gk
open Go IntKind Classical
theorem rU{α:Type}{key:α->aL}{φ:α->α->Option Int}(hφ:∀x y,φ x y=some (Lib.compareBytes (key x).aU (key y).aU)){l:List α}(hl:l.length<4611686018427387904)(hnd:l.Pairwise λx y=>key x≠key y):
  ∃m,lB φ l=some m/\m.Perm l/\dD key m:=by
 have hlt:∀x y:α,Lib.compareBytes (key x).aU (key y).aU<0↔aL.lt (key x) (key y):=λx y=>jm _ _;have ht:∀x,x∈l->∀y,y∈l->∀z,z∈l->¬Lib.compareBytes (key x).aU (key y).aU<0->¬Lib.compareBytes (key y).aU (key z).aU<0->¬Lib.compareBytes (key x).aU (key z).aU<0:=by
  intro x _ y _ z _ h1 h2 h3;rw[hlt]at h1 h2 h3
  rcases aL.lH (key x) (key y)with h|h|h
  ·exact h1 h
  ·rw[h]at h3;exact h2 h3
  ·exact h2<|aL.lt_trans h h3
 obtain⟨m,h1,h2,h3⟩:=vm (φ:=φ) (l:=l) (λx y=>Lib.compareBytes (key x).aU (key y).aU) (λx _ y _=>hφ x y) (λx _ h=>aL.lt_irrefl _<|(hlt x x).1 h) (λx _ y _ z _ h1 h2=>(hlt x z).2<|aL.lt_trans ((hlt x y).1 h1)<|(hlt y z).1 h2) ht hl;refine⟨m,h1,h2,?_⟩;have h4:m.Pairwise λx y=>key x≠key y:=h2.symm.pairwise hnd<|λ{a c}h h'=>h h'.symm
 intro i j x y hij hx hy;obtain⟨hi,rfl⟩:=bG.1 hx;obtain⟨hj,rfl⟩:=bG.1 hy;have a1:=gk.1 h3 i j hi hj hij;have a2:=gk.1 h4 i j hi hj hij
 rcases aL.lH (key m[i]) (key m[j])with h|h|h
 ·exact h
 ·exact absurd h a2
 ·exact absurd ((hlt _ _).2 h) a1
theorem vo{α:Type}{key:α->aL}{l m:List α}(hl:dD key l)(hm:dD key m)(hp:l.Perm m):l=m:=by
 have hw:∀{l:List α},dD key l->l.Pairwise λx y=>aL.lt (key x) (key y):=λ{l}h=>by
  rw[gk];intro i j hi hj hij;exact h i j _ _ hij (aM hi)<|aM hj
 exact List.Perm.eq_of_pairwise (le:=λx y=>aL.lt (key x)<|key y) (λa b _ _ h h'=>absurd h'<|aL.lt_asymm h) (hw hl) (hw hm) hp
theorem p7{κ ν:Type}[DecidableEq κ](k:κ)(x:ν):∀m:List (κ×ν),(dG m k x).map Prod.fst=if k∈m.map Prod.fst then m.map Prod.fst else m.map Prod.fst++[k]
 | []=>by simp[dG]
 |p::m=>by
  unfold dG
  by_cases h:k=p.1
  ·simp[h]
  ·rw[aH h,eE,p7 k x m];simp only[eE,gC,h,false_or];split <;> simp
theorem vq{κ ν:Type}[DecidableEq κ]{m:List (κ×ν)}(h:(m.map Prod.fst).Nodup)(k:κ)(x:ν):((dG m k x).map Prod.fst).Nodup:=by
 rw[p7];split
 ·exact h
 ·rename_i hk;rw[List.nodup_append];exact⟨h,by simp,λa ha b hb e=>by rw[List.mem_singleton]at hb;subst hb;subst e;exact hk ha⟩
def xH(a b:aA):Prop:=a.words<b.words\/a.words=b.words/\aL.lt a.path b.path
theorem xH.trans{a b c:aA}(h1:xH a b)(h2:xH b c):xH a c:=by
 unfold xH at *
 rcases h1 with h1|⟨h1,h3⟩ <;> rcases h2 with h2|⟨h2,h4⟩
 ·exact .inl (by omega)
 ·exact .inl (by omega)
 ·exact .inl (by omega)
 ·exact .inr ⟨by omega,aL.lt_trans h3 h4⟩
theorem xH.Ed(a:aA):¬xH a a:=λh=>by
 rcases h with h|⟨_,h⟩
 ·omega
 ·exact aL.lt_irrefl _ h
noncomputable def rV(Q:List (List aT))(r:Nat->Nat)(k:Nat)(h:Int):List aT:=((List.range k).filter λi=>decide<|((r i:Nat):Int)=h).flatMap λi=>Q.getD i []
theorem s9(Q:List (List aT))(r:Nat->Nat)(k:Nat)(h:Int):rV Q r (k+1) h=rV Q r k h++if((r k:Nat):Int)=h then Q.getD k []else []:=by
 unfold rV;rw[List.range_succ,List.filter_append,List.flatMap_append];congr 1
 by_cases e:((r k:Nat):Int)=h
 ·simp[e]
 ·simp[e]
theorem rW{Q:List (List aT)}(hQ:∀q∈Q,q.length<=500)(r:Nat->Nat)(h:Int):∀k,(rV Q r k h).length<=500*k
 | 0=>by simp[rV]
 |k+1=>by
  rw[s9,cT];have h1:=rW hQ r h k;have h2:(Q.getD k []).length<=500:=by
   rw[List.getD_eq_getElem?_getD]
   cases hq:Q[k]? with
   |none=>exact kR _
   |some q=>exact hQ q (dW hq)
  split
  ·omega
  ·simp;omega
structure AV (K:List aA) (Q:List (List aT)) (r:Nat->Nat) (k:Nat) (st:List Int×List (Int×aA)×List (Int×List aT)):Prop where
 U:UF K.length st.1 r
 nk:∀h,fB st.2.1 h=true↔∃i,i<k/\((r i:Nat):Int)=h
 nv:∀h,fB st.2.1 h=true->(∃i,i<k/\((r i:Nat):Int)=h/\K[i]? =some (bV st.2.1 h ⟨⟨[]⟩,0⟩))/\∀i q,i<k->((r i:Nat):Int)=h->K[i]? =some q->¬xH q (bV st.2.1 h ⟨⟨[]⟩,0⟩)
 pk:(st.2.2.map Prod.fst).Nodup
 pm:∀h,h∈st.2.2.map Prod.fst↔∃i,i<k/\((r i:Nat):Int)=h
 pv:∀h,bV st.2.2 h []=rV Q r k h
section
variable {N:Nat}
theorem AW(a b:Int):km N [a,b]=some (if a≠0 then a else b):=by
 unfold km
 rw[uX (l:=[a,b]) (λx=>if x≠0 then some x else none) (by simp) (λk x hk=>by
  rw[cW hk,aB]
  by_cases h:x=0
  ·subst h;rfl
  ·rw[show(x != 0)=true by simpa using h,aG h];rfl),aB]
 by_cases ha:a=0
 ·subst ha
  by_cases hb:b=0
  ·subst hb;rfl
  ·simp[uR,Fo.cs,hb]
 ·simp[uR,Fo.cs,ha]
theorem zY(a b:aA):∃c,cG N a b=some c/\(c<0↔xH a b):=by
 unfold cG;have h1:gL N a.words b.words=some (if a.words<b.words then -1 else if a.words>b.words then 1 else 0):=by
  unfold gL iB;simp only[bne_self_eq_false,aB,aZ]
  by_cases h:a.words<b.words
  ·simp[h]
  ·by_cases h2:a.words>b.words
   ·simp[h,h2]
   ·simp[h,h2]
 have h2:cI N a.path b.path=some (Lib.compareBytes a.path.aU b.path.aU):=rfl;rw[h1,aB,h2,aB,AW,aB];refine⟨_,rfl,?_⟩;have h3:=jm a.path.aU b.path.aU;have h4:Lib.compareBytes a.path.aU b.path.aU<0↔aL.lt a.path b.path:=h3;unfold xH;rw[<-h4]
 by_cases e:a.words<b.words
 ·simp[e]
 ·by_cases e2:a.words>b.words
  ·rw[aH e,aG e2];simp;omega
  ·have:a.words=b.words:=by omega
   rw[aH e,aH e2];simp[this]
theorem y8{K:List aA}{Q:List (List aT)}{U:List Int}{r:Nat->Nat}(hK:K.length<=3000000)(hQ:Q.length=K.length)(hq:∀q∈Q,q.length<=500)(hU:UF K.length U r)(hN:4398046511104<=N):
  Ok (lz K.length (λ(k34:Nat)(s35:List Int×List (Int×aA)×List (Int×List aT))=>((idx K (k34:Int)).bind λx96=>(bK N s35.1 (k34:Int)).bind λx100=>(bif(!(fB s35.2.1 x100.1))then some true else((cG N x96<|bV s35.2.1 x100.1 (⟨⟨[]⟩,0⟩:aA)).bind λx112=>some<|decide<|x112<0)).bind λs108=>(bif s108 then some (dG s35.2.1 x100.1 x96)else some s35.2.1).bind λs114=>(idx Q (k34:Int)).bind λx116=>(app 32 (bV s35.2.2 x100.1 ([]:List aT)) x116).bind λwX=>some (x100.2,s114,dG s35.2.2 x100.1 wX):Option (List Int×List (Int×aA)×List (Int×List aT)))) (U,([]:List (Int×aA)),([]:List (Int×List aT))))
   (AV K Q r K.length):=by
 refine E5 (λk st=>AV K Q r k st) (by omega) ⟨hU,λh=>⟨λh=>(by cases h),λ⟨i,h,_⟩=>(by omega)⟩,λh hh=>(by cases hh),List.nodup_nil,λh=>⟨λh=>(by cases h),λ⟨i,h,_⟩=>(by omega)⟩,λh=>rfl⟩ ?_;rintro k⟨up,nm,pm⟩hk⟨g1,g2,g3,g4,g5,g6⟩;dsimp only at g1 g2 g3 g4 g5 g6 ⊢;have hx:K[k]? =some K[k]:=aM hk;have hy:Q[k]? =some (Q[k]'(by omega)):=aM _;have hyl:=hq _<|cO (show k<Q.length by omega)
 have hyd:Q.getD k []=Q[k]'(by omega):=by rw[List.getD_eq_getElem?_getD,hy];rfl
 obtain⟨up',u1,u2⟩:=t6 (N:=N) g1 hk (by omega);rw[cW hx,aB,u1,aB];dsimp only;have hcl:=rW hq r ((r k:Nat):Int) k;have hname:∃c:Bool,(bif(!(fB nm ((r k:Nat):Int)))then some true else((cG N K[k]<|bV nm ((r k:Nat):Int) (⟨⟨[]⟩,0⟩:aA)).bind λx112=>some<|decide<|x112<0))=some c/\
   (c=true->fB nm ((r k:Nat):Int)=true->xH K[k] (bV nm ((r k:Nat):Int) ⟨⟨[]⟩,0⟩))/\(c=false->fB nm ((r k:Nat):Int)=true/\¬xH K[k] (bV nm ((r k:Nat):Int) ⟨⟨[]⟩,0⟩)):=by
  cases hm:fB nm ((r k:Nat):Int)with
  |false=>exact⟨true,rfl,λ_ h=>by(first|cases h|(rw[hm]at h;cases h)),λh=>by cases h⟩
  |true=>
   obtain⟨c,c1,c2⟩:=zY (N:=N) K[k]<|bV nm ((r k:Nat):Int) ⟨⟨[]⟩,0⟩
   refine⟨decide<|c<0,by rw[nL,aZ,c1,aB],λh _=>c2.1<|of_decide_eq_true h,λh=>⟨rfl,λh'=>of_decide_eq_false h<|c2.2 h'⟩⟩
 obtain⟨c,hc,hc1,hc2⟩:=hname;rw[hc,aB];have hput:(bif c then some (dG nm ((r k:Nat):Int) K[k])else some nm)=some (if c=true then dG nm ((r k:Nat):Int) K[k]else nm):=by cases c <;> rfl
 rw[hput,aB,cW hy,aB,g6,jB (by omega),aB];refine EH ⟨u2,λh=>?_,λh hh=>?_,vq g4 _ _,λh=>?_,λh=>?_⟩
 ·dsimp only;have e:fB (if c=true then dG nm ((r k:Nat):Int) K[k]else nm) h=(decide (h=((r k:Nat):Int))||fB nm h):=by
   cases c with
   |true=>rw[aG rfl,nS]
   |false=>
    rw[aH (by simp)]
    by_cases e:h=((r k:Nat):Int)
    ·subst e;rw[(hc2 rfl).1];simp
    ·simp[e]
  rw[e,dQ,fW,g2];constructor
  ·rintro(rfl|⟨i,h1,h2⟩)
   ·exact⟨k,by omega,rfl⟩
   ·exact⟨i,by omega,h2⟩
  ·rintro⟨i,h1,h2⟩
   by_cases e:i=k
   ·subst e;exact .inl h2.symm
   ·exact .inr ⟨i,by omega,h2⟩
 ·dsimp only at hh ⊢
  by_cases e:h=((r k:Nat):Int)
  ·subst e
   cases c with
   |true=>
    rw[aG rfl,ki,aG rfl];refine⟨⟨k,by omega,rfl,hx⟩,λi q hi hr hkq hlt=>?_⟩
    by_cases ek:i=k
    ·subst ek;rw[hx]at hkq;injection hkq with hkq;rw[hkq]at hlt;exact xH.Ed _ hlt
    ·have hm:=(g2 ((r k:Nat):Int)).2 ⟨i,by omega,hr⟩;exact(g3 _ hm).2 i q (by omega) hr hkq<|hlt.trans<|hc1 rfl hm
   |false=>
    rw[aH (by simp)];obtain⟨hm,hn⟩:=hc2 rfl;obtain⟨⟨i,i1,i2,i3⟩,h4⟩:=g3 _ hm;refine⟨⟨i,by omega,i2,i3⟩,λj q hj hr hkq=>?_⟩
    by_cases ek:j=k
    ·subst ek;rw[hx]at hkq;injection hkq with hkq;rw[<-hkq];exact hn
    ·exact h4 j q (by omega) hr hkq
  ·have e2:bV (if c=true then dG nm ((r k:Nat):Int) K[k]else nm) h ⟨⟨[]⟩,0⟩=bV nm h ⟨⟨[]⟩,0⟩:=by
    cases c with
    |true=>rw[aG rfl,ki,aH e]
    |false=>rw[aH (by simp)]
   have hm:fB nm h=true:=by
    cases c with
    |true=>rw[aG rfl,nS,bJ e,Bool.false_or]at hh;exact hh
    |false=>rw[aH (by simp)]at hh;exact hh
   rw[e2];obtain⟨⟨i,i1,i2,i3⟩,h4⟩:=g3 _ hm;refine⟨⟨i,by omega,i2,i3⟩,λj q hj hr hkq=>?_⟩
   by_cases ek:j=k
   ·subst ek;exact absurd hr.symm e
   ·exact h4 j q (by omega) hr hkq
 ·dsimp only;rw[p7];have e:h∈(if((r k:Nat):Int)∈pm.map Prod.fst then pm.map Prod.fst else pm.map Prod.fst++[((r k:Nat):Int)])↔h∈pm.map Prod.fst\/h=((r k:Nat):Int):=by
   split
   ·rename_i hh;exact⟨.inl,λh'=>h'.elim id λe=>e▸hh⟩
   ·simp
  rw[e,g5];constructor
  ·rintro(⟨i,h1,h2⟩|rfl)
   ·exact⟨i,by omega,h2⟩
   ·exact⟨k,by omega,rfl⟩
  ·rintro⟨i,h1,h2⟩
   by_cases e:i=k
   ·subst e;exact .inr h2.symm
   ·exact .inl ⟨i,by omega,h2⟩
 ·dsimp only;rw[ki,s9,hyd]
  by_cases e:h=((r k:Nat):Int)
  ·rw[aG e,aG e.symm,<-e]
  ·rw[aH e,aH<|λe'=>e e'.symm,iQ,g6]
end
def k7(nm:List (Int×aA))(h:Int):aL:=(bV nm h ⟨⟨[]⟩,0⟩).path
def mC(nm:List (Int×aA))(e:Int×List aT):Option Net:=if e.2.length=0 then none else some ⟨k7 nm e.1,k6 e.2,[]⟩
def za(nm:List (Int×aA))(e:Int×List aT):Bool:=decide (e.2.length=0)||(decide ((k7 nm e.1).aU.length<=200)&&decide (e.2.length<=500))
theorem rX{κ ν:Type}[DecidableEq κ]{z:ν}:∀{m:List (κ×ν)}{e:κ×ν},(m.map Prod.fst).Nodup->e∈m->bV m e.1 z=e.2
 |p::m,e,h,he=>by
  rw[eE,List.nodup_cons]at h;unfold bV;rw[List.find?_cons]
  rcases gC.1 he with rfl|he
  ·simp
  ·have hne:e.1≠p.1:=λh'=>h.1<|h'▸dK.2 ⟨e,he,rfl⟩
   rw[bJ hne];exact rX h.2 he
section
variable {N:Nat}
theorem ta(nm:List (Int×aA)):∀(p:List (Int×List aT))(out:List Net)(ok:Bool),(∀e∈p,e.2.length<=2000000000)->out.length+p.length<=1000000000->
  mW (λ(x127:Int×List aT)(s130:List Net×Bool)=>(bif(x127.2.length:Int)==0 then some (.nx (s130.1,s130.2))else((lB (cN N) x127.2).bind λx173=>(app 64 s130.1 ([(⟨(bV nm x127.1 (⟨⟨[]⟩,0⟩:aA)).path,x173,[]⟩:Net)]:List Net)).bind λx177=>(bif s130.2 then(bif decide (((((bV nm x127.1 (⟨⟨[]⟩,0⟩:aA)).path).aU.length:Nat):Int)<=200)then some (decide<|(x173.length:Int)<=500)else some false)else some false).bind λs184=>some<|.nx (x177,s184)):Option (Fl (List Net×Bool) Empty))) p (out,ok)=some (.go (out++p.filterMap (mC nm),ok&&p.all (za nm)))
 | [],out,ok,_,_=>by simp[mW]
 |e::p,out,ok,hp,hl=>by
  have he:=hp e (by simp);have ih:=λo k h=>ta nm p o k (λe he=>hp e (by simp[he])) h;simp only[gj]at hl;unfold mW
  by_cases h0:e.2.length=0
  ·rw[show((e.2.length:Int)==0)=true by rw[beq_iff_eq];omega,bO,aB];dsimp only;rw[ih out ok (by omega)];have e1:mC nm e=none:=aG h0;have e2:za nm e=true:=by unfold za;simp[h0]
   rw[List.filterMap_cons,e1,List.all_cons,e2,Bool.true_and]
  ·have e1:mC nm e=some ⟨k7 nm e.1,k6 e.2,[]⟩:=aH h0;have hsl:(k6 e.2).length=e.2.length:=(kK e.2).length_eq;have e2:(bif ok then(bif decide (((((bV nm e.1 (⟨⟨[]⟩,0⟩:aA)).path).aU.length:Nat):Int)<=200)then some (decide<|((k6 e.2).length:Int)<=500)else some false)else some false)=some (ok&&za nm e):=by
    unfold za k7;rw[bJ h0,Bool.false_or]
    cases ok with
    |false=>rfl
    |true=>
     rw[bO,Bool.true_and]
     by_cases h1:((bV nm e.1 (⟨⟨[]⟩,0⟩:aA)).path).aU.length<=200
     ·rw[cC h1,cC (show((((bV nm e.1 (⟨⟨[]⟩,0⟩:aA)).path).aU.length:Nat):Int)<=200 by omega),bO,Bool.true_and,hsl];congr 1;rw[decide_eq_decide];omega
     ·rw[bJ h1,bJ (show ¬((((bV nm e.1 (⟨⟨[]⟩,0⟩:aA)).path).aU.length:Nat):Int)<=200 by omega)];rfl
   rw[show((e.2.length:Int)==0)=false by rw[beq_eq_false_iff_ne];omega,aZ,wm (by omega),aB,jB (by simp only[gj,List.length_nil];omega),aB];dsimp only;rw[e2,aB,aB];dsimp only;rw[ih _ _ (by simp only[cT,gj,List.length_nil];omega),List.filterMap_cons,e1,List.all_cons,cP,Bool.and_assoc];rfl
theorem xI{l:List Part}(hl:l.length<4611686018427387904)(hnd:l.Pairwise λx y=>x.Name≠y.Name):∃m,lB (dX N) l=some m/\m.Perm l/\dD Part.Name m:=
 rU (key:=Part.Name) (λ_ _=>rfl) hl hnd
theorem tb{l:List Net}(hl:l.length<4611686018427387904)(hnd:l.Pairwise λx y=>x.Name≠y.Name):∃m,lB (dC N) l=some m/\m.Perm l/\dD Net.Name m:=
 rU (key:=Net.Name) (λ_ _=>rfl) hl hnd
structure Al (P:List Part) (K:List aA) (Q:List (List aT)) (r:Nat->Nat) (st:List Int×List (Int×aA)×List (Int×List aT)) (Ps:List Part) (Ns:List Net) (ok:Bool):Prop where
 AX:AV K Q r K.length st
 pp:Ps.Perm P
 ps:dD Part.Name Ps
 np:Ns.Perm (st.2.2.filterMap<|mC st.2.1)
 ns:dD Net.Name Ns
 ok:ok=(!(P.any λp=>decide<|200<p.Name.aU.length)&&st.2.2.all (za st.2.1)&&decide (Ns.length<=1000))
theorem wo{κ ν:Type}{m:List (κ×ν)}{n:Nat}{f:Nat->κ}(hnd:(m.map Prod.fst).Nodup)(h:∀k∈m.map Prod.fst,∃i,i<n/\f i=k):m.length<=n:=by
 have h1:=List.Nodup.length_le_of_subset (l₂:=(List.range n).map f) hnd (λk hk=>by
  obtain⟨i,hi,rfl⟩:=h k hk
  exact dK.2 ⟨i,List.mem_range.2 hi,rfl⟩)
 simpa using h1
theorem zZ{P:List Part}{K:List aA}{Q:List (List aT)}{U:List Int}{r:Nat->Nat}(hP:P.length<=1000000)(hPn:P.Pairwise λx y=>x.Name≠y.Name)(hK:K.length<=3000000)(hKn:K.Pairwise λx y=>x.path≠y.path)(hQ:Q.length=K.length)(hq:∀q∈Q,q.length<=500)(hU:UF K.length U r)(hN:4398046511104<=N):
  ∃st Ps Ns ok,dR N P K Q U=some (⟨Ps,Ns⟩,ok,Ps,st.1)/\Al P K Q r st Ps Ns ok:=by
 obtain⟨st,l1,L⟩:=y8 hK hQ hq hU hN;obtain⟨Ps,p1,p2,p3⟩:=xI (N:=N) (l:=P) (by omega) hPn;have hpl:=wo (f:=λi=>((r i:Nat):Int)) L.pk<|λk hk=>(L.pm k).1 hk
 have hel:∀e∈st.2.2,e.2.length<=2000000000:=λe he=>by
  have h1:=rX (z:=[]) L.pk he;rw[L.pv]at h1;have h2:=rW hq r e.1 K.length;rw[h1]at h2;omega
 have hnn:(st.2.2.filterMap<|mC st.2.1).Pairwise λx y=>x.Name≠y.Name:=by
  rw[List.pairwise_filterMap];have hnd:=L.pk;unfold List.Nodup at hnd;rw[List.pairwise_map]at hnd;refine List.Pairwise.imp_of_mem (λ{e e'}he he' hne u hu v hv huv=>?_) hnd;unfold mC at hu hv;split at hu
  ·cases hu
  split at hv
  ·cases hv
  injection hu with hu
  injection hv with hv
  subst hu;subst hv;have k1:=(L.nk e.1).2<|(L.pm e.1).1<|dK.2 ⟨e,he,rfl⟩
  have k2:=(L.nk e'.1).2<|(L.pm e'.1).1<|dK.2 ⟨e',he',rfl⟩
  obtain⟨⟨i,i1,i2,i3⟩,_⟩:=L.nv _ k1;obtain⟨⟨j,j1,j2,j3⟩,_⟩:=L.nv _ k2;obtain⟨hi,ei⟩:=bG.1 i3;obtain⟨hj,ej⟩:=bG.1 j3;have huv':k7 st.2.1 e.1=k7 st.2.1 e'.1:=huv;unfold k7 at huv';rw[<-ei,<-ej]at huv'
  rcases Nat.lt_trichotomy i j with h|h|h
  ·exact gk.1 hKn i j hi hj h huv'
  ·subst h;exact hne (by rw[<-i2,<-j2])
  ·exact gk.1 hKn j i hj hi h huv'.symm
 have hfl:(st.2.2.filterMap<|mC st.2.1).length<=st.2.2.length:=List.length_filterMap_le _ _;obtain⟨Ns,n1,n2,n3⟩:=tb (N:=N) (l:=st.2.2.filterMap<|mC st.2.1) (by omega) hnn;refine⟨st,Ps,Ns,_,?_,L,p2,p3,n2,n3,rfl⟩;unfold dR;rw[l1,aB,p1,aB];have hc:dJ N Ps (bY N)=some (P.any λp=>decide<|200<p.Name.aU.length):=by
  have h:=il (l:=Ps) (φ:=bY N) (λp=>decide<|(p.Name.aU.length:Int)>200) (by rw[p2.length_eq];omega)<|λ_ _=>rfl
  have e:dJ N Ps (bY N)=gQ Ps (bY N):=rfl;rw[e,h];congr 1;rw[p2.any_eq];congr 1;funext p;rw[decide_eq_decide];omega
 rw[hc,aB];refine zu λp hp=>?_;have hml:=hp.length_eq;rw[ta st.2.1 p [] _ (λe he=>hel e<|hp.mem_iff.1 he) (by simp only[List.length_nil];omega),aB];show(lB (dC N)<|[]++p.filterMap (mC st.2.1)).bind _=_;rw[List.nil_append];have hpf:=hp.filterMap<|mC st.2.1
 obtain⟨Ns',m1,m2,m3⟩:=tb (N:=N) (l:=p.filterMap<|mC st.2.1) (by rw[hpf.length_eq];omega)<|hpf.symm.pairwise hnn<|λ{a c}h h'=>h h'.symm
 have e:Ns'=Ns:=vo m3 n3<|(m2.trans hpf).trans n2.symm
 subst e;rw[m1,aB,hp.all_eq];dsimp only;have e2:(bif(!(P.any λp=>decide<|200<p.Name.aU.length)&&st.2.2.all (za st.2.1))then some (decide<|(Ns'.length:Int)<=1000)else some false)=some (!(P.any λp=>decide<|200<p.Name.aU.length)&&st.2.2.all (za st.2.1)&&decide (Ns'.length<=1000)):=by
  cases(!(P.any λp=>decide<|200<p.Name.aU.length)&&st.2.2.all (za st.2.1))with
  |false=>rfl
  |true=>
   rw[bO,Bool.true_and];congr 1;rw[decide_eq_decide];omega
 rw[e2,aB]
end
theorem ph{t:List aD}{l:List aF}(h:eH t l=0):checkTypes t=0:=by
 unfold eH at h;split at h
 ·rename_i h1;exact absurd h h1
 ·rename_i h1;exact Decidable.not_not.1 h1
section
variable {N:Nat}{t:List aD}{l:List aF}{ρ:Nat->Nat}
structure Am (N:Nat) (l:List aF) (k:Nat) (I:List (Nat×aL×Nat)) (r:Nat->Nat) (st:List Int×List (Int×aA)×List (Int×List aT)) (Ps:List Part) (Ns:List Net) (ok:Bool):Prop where
 fI:I=gz l N k ⟨[]⟩ 0
 fr:r=jX (λi=>i) (AN l N k 0)
 vZ:(I.flatMap<|vf l).length<=1000
 len:(I.flatMap<|po l).length=(I.flatMap<|rO l).length
 fU:∃up,UF (I.flatMap<|rO l).length up r
 AX:Al (I.flatMap<|vf l) (I.flatMap<|rO l) (I.flatMap<|po l) r st Ps Ns ok
theorem z3(hbt:bk t<=1048576)(hbl:bk l<=1048576)(hN:4398046511104<=N)(top:aL):
  (eH t l≠0/\dM N t l top=some (⟨[],[]⟩,eH t l))\/
  (eH t l=0/\nat? aF.Name l top<0/\dM N t l top=some (⟨[],[]⟩,9))\/
  ∃k:Nat,eH t l=0/\f9 t l/\nat? aF.Name l top=((k:Nat):Int)/\((2000<(lU l k).1\/1000<(lU l k).2)/\dM N t l top=some (⟨[],[]⟩,2)\/
   ¬(2000<(lU l k).1\/1000<(lU l k).2)/\∃I r st Ps Ns ok,Am N l k I r st Ps Ns ok/\dM N t l top=some (if ok=true then(⟨Ps,Ns⟩,0)else(⟨[],[]⟩,2))):=by
 obtain⟨c1,c2⟩:=xC (N:=N) hbt hbl (by omega)
 by_cases h0:eH t l≠0
 ·refine .inl ⟨h0,?_⟩;unfold dM;rw[c1,aB,show(eH t l != 0)=true by simpa using h0,bO]
 replace h0:=Decidable.not_not.1 h0
 obtain⟨S,ρ,hR⟩:=c2 h0;have SI:=S.Ec hbl;have hll:=S.vZ;right
 by_cases ht:nat? aF.Name l top<0
 ·refine .inl ⟨h0,ht,?_⟩;unfold dM;rw[c1,aB,h0,bne_self_eq_false,aZ,hY (by omega),aB,cC ht,bO]
 right;obtain⟨k,s,e,hk,hkn,hkl⟩:=tZ (key:=aF.Name) (l:=l) (w:=top) (by omega);refine⟨k,h0,S,e,?_⟩;have hrk:=(hR k hkl).1;obtain⟨sz,z1,z2,_⟩:=wN (N:=N) hR SI.there (by omega) (λs hs=>⟨SI.qB s hs,SI.parts s hs⟩) N k [] hkl (by omega) (λj hj=>by cases hj);have hcond:(bif decide (sz.1.e0>2000)then some true else some (decide<|sz.1.e1>1000))=some (decide<|2000<(lU l k).1\/1000<(lU l k).2):=by
  rw[z2];unfold A3;dsimp only
  by_cases h1:2000<(lU l k).1
  ·rw[cC (show((min (lU l k).1 2001:Nat):Int)>2000 by omega),bO,cC<|.inl h1]
  ·rw[bJ (show ¬((min (lU l k).1 2001:Nat):Int)>2000 by omega),aZ];congr 1;rw[decide_eq_decide];omega
 by_cases hbig:2000<(lU l k).1\/1000<(lU l k).2
 ·refine .inl ⟨hbig,?_⟩;unfold dM j6;rw[c1,aB,h0,bne_self_eq_false,aZ,hY (by omega),aB,e,bJ (by omega),aZ,z1,aB,hcond,aB,cC hbig,bO]
 refine .inr ⟨hbig,?_⟩;simp only[not_or,Nat.not_lt]at hbig;have hcs:jS l N k=lU l k:=pY hR SI.there N l.length k (by omega) hrk;obtain⟨⟨num,P,K,Q,U⟩,q1,q2,q3,q4,q5,q6,q7⟩:=y4 SI hR hN N k ⟨[]⟩ 0 [] [] [] [] (λi=>i) hkl (by omega) (by show 0+41*ρ k<=5000;omega) (by omega) (by rw[hcs];simp only[List.length_nil];omega) (by rw[hcs];simp only[List.length_nil];omega) rfl ⟨rfl,λi h=>by cases h⟩<|λ_ _=>rfl
 dsimp only at q2 q3 q4 q5 q6;rw[List.nil_append]at q2 q3 q4;subst q2;subst q3;subst q4;have hI:=S.inst N k;have hp1:=wh l N k ⟨[]⟩ 0;have hn1:=t4 l N k ⟨[]⟩ 0;have hn2:=t5 (qI SI) N k;rw[hcs]at hp1 hn2;have hlen:((gz l N k ⟨[]⟩ 0).flatMap<|po l).length=((gz l N k ⟨[]⟩ 0).flatMap<|rO l).length:=by
  rw[List.length_flatMap,List.length_flatMap];congr 1;exact List.map_congr_left λe _=>by unfold po rO;rw[gp,gp]
 have hq500:∀q∈(gz l N k ⟨[]⟩ 0).flatMap (po l),q.length<=500:=λq hq=>by
  obtain⟨e,he,s,_,hs,n,hn,rfl⟩:=wj hq;unfold oc;rw[gp];exact iH (List.length_filter_le _ _)<|SI.pins s hs n hn
 obtain⟨st,Ps,Ns,ok,g1,g2⟩:=zZ (N:=N) (by omega) (Ak S hI) (by omega) (B4 S hI) hlen hq500 q5 hN;refine⟨_,_,st,Ps,Ns,ok,⟨rfl,rfl,by omega,hlen,⟨U,q5⟩,g2⟩,?_⟩;have q1':gu N l [] [] [] [] ((k:Nat):Int) ⟨[]⟩ 0=some (num,(gz l N k ⟨[]⟩ 0).flatMap<|vf l,(gz l N k ⟨[]⟩ 0).flatMap<|rO l,(gz l N k ⟨[]⟩ 0).flatMap<|po l,U):=q1;unfold dM j6;rw[c1,aB,h0,bne_self_eq_false,aZ,hY (by omega),aB,e,bJ (by omega),aZ,z1,aB,hcond,aB,bJ (by omega),aZ,q1',aB];dsimp only;rw[g1,aB]
 cases ok <;> rfl
theorem wq(S:f9 t l){k:Nat}{I:List (Nat×aL×Nat)}{r:Nat->Nat}{st:List Int×List (Int×aA)×List (Int×List aT)}{Ps:List Part}{Ns:List Net}(F:Am N l k I r st Ps Ns true):yM t ⟨Ps,Ns⟩:=by
 have hI:=S.inst N k;rw[<-F.fI]at hI;have L:=F.AX;have hok:=L.ok.symm;simp only[bS,Bool.not_eq_true',fW]at hok;obtain⟨⟨o1,o2⟩,o3⟩:=hok;rw[List.any_eq_false]at o1;rw[gD]at o2;have hU:=F.fU;obtain⟨up,hU⟩:=hU;have hnet:∀n∈Ns,∃e∈st.2.2,n= ⟨k7 st.2.1 e.1,k6 e.2,[]⟩/\e.2.length≠0/\e.2=rV (I.flatMap<|po l) r (I.flatMap<|rO l).length e.1/\(k7 st.2.1 e.1).aU.length<=200/\e.2.length<=500:=by
  intro n hn;obtain⟨e,he,h⟩:=List.mem_filterMap.1<|L.np.mem_iff.1 hn
  unfold mC at h;split at h
  ·cases h
  rename_i h0;injection h with h
  have h1:=rX (z:=[]) L.AX.pk he;rw[L.AX.pv]at h1;have h2:=o2 e he;unfold za at h2;simp only[dQ,bS,fW]at h2
  rcases h2 with h2|h2
  ·exact absurd h2 h0
  ·exact⟨e,he,h.symm,h0,h1.symm,h2.1,h2.2⟩
 have hpin:∀(h:Int)(x:aT),x∈rV (I.flatMap<|po l) r (I.flatMap<|rO l).length h->∃i q,((r i:Nat):Int)=h/\(I.flatMap<|po l)[i]? =some q/\x∈q:=by
  intro h x hx;unfold rV at hx;obtain⟨i,hi,hxi⟩:=List.mem_flatMap.1 hx;obtain⟨i1,i2⟩:=jt.1 hi;rw[fW]at i2;rw[List.getD_eq_getElem?_getD]at hxi
  cases hq:(I.flatMap<|po l)[i]? with
  |none=>rw[hq]at hxi;cases hxi
  |some q=>rw[hq]at hxi;exact⟨i,q,i2,hq,hxi⟩
 have hnd:=B5 S hI;unfold List.Nodup at hnd;rw[List.pairwise_flatten]at hnd;have hdis:∀(i j:Nat)(q q':List aT)(x:aT),(I.flatMap<|po l)[i]? =some q->(I.flatMap<|po l)[j]? =some q'->x∈q->x∈q'->i=j:=by
  intro i j q q' x hi hj hx hx';obtain⟨hi',rfl⟩:=bG.1 hi;obtain⟨hj',rfl⟩:=bG.1 hj
  rcases Nat.lt_trichotomy i j with h|h|h
  ·exact absurd rfl<|gk.1 hnd.2 i j hi' hj' h x hx x hx'
  ·exact h
  ·exact absurd rfl<|gk.1 hnd.2 j i hj' hi' h x hx' x hx
 have hcnd:∀h,(rV (I.flatMap<|po l) r (I.flatMap<|rO l).length h).Nodup:=by
  intro h;unfold rV List.Nodup;rw[List.pairwise_flatMap];refine⟨λi hi=>?_,List.Pairwise.imp_of_mem (λ{i j}hi hj hij x hx y hy hxy=>?_)<|List.pairwise_lt_range.filter _⟩
  ·rw[List.getD_eq_getElem?_getD]
   cases hq:(I.flatMap<|po l)[i]? with
   |none=>exact lY
   |some q=>exact hnd.1 q (dW hq)
  ·subst hxy;rw[List.getD_eq_getElem?_getD]at hx hy
   cases hq:(I.flatMap<|po l)[i]? with
   |none=>rw[hq]at hx;cases hx
   |some q=>
    cases hq':(I.flatMap<|po l)[j]? with
    |none=>rw[hq']at hy;cases hy
    |some q'=>
     rw[hq]at hx;rw[hq']at hy;have:=hdis i j q q' x hq hq' hx hy;omega
 have hsp:∀(e:List aT)(p:aT),p∈k6 e->p∈e:=λe p hp=>(kK e).mem_iff.1 hp;refine⟨S.types,⟨L.ps,λx hx=>?_⟩,by show Ps.length<=1000;rw[L.pp.length_eq];exact F.vZ,o3,λn hn=>?_,λn hn=>?_,L.ns,λn hn=>?_,λp hp=>?_,λn hn p hp=>?_,λn hn=>?_,λi j n m p hi hj hp hq=>?_⟩
 ·obtain⟨e,he,s,_,hs,y,hy,rfl⟩:=y5<|L.pp.mem_iff.1 hx
  exact(S.ok s hs).parts.typed y hy
 ·obtain⟨e,he,rfl,h0,_,_,h5⟩:=hnet n hn;have:=(kK e.2).length_eq;show 0<(k6 e.2).length/\(k6 e.2).length<=500;omega
 ·obtain⟨e,he,rfl,_⟩:=hnet n hn;rfl
 ·obtain⟨e,he,rfl,h0,_,h4,_⟩:=hnet n hn;have k1:=(L.AX.nk e.1).2<|(L.AX.pm e.1).1<|dK.2 ⟨e,he,rfl⟩
  obtain⟨⟨i,_,_,i3⟩,_⟩:=L.AX.nv _ k1;obtain⟨e',he',s,_,hs,n',hn',e2⟩:=AQ<|dW i3
  have e3:k7 st.2.1 e.1=jF e'.2.1 n'.Name:=by unfold k7;rw[e2]
  show jQ (k7 st.2.1 e.1)=true;rw[e3]at h4 ⊢;exact s8 (hI.pre e' he') ((S.ok s hs).lx.word n' hn') h4
 ·have hp':=L.pp.mem_iff.1 hp;obtain⟨e,he,s,_,hs,y,hy,rfl⟩:=y5 hp';have h1:=o1 _ hp';rw[fW]at h1;exact s8 (hI.pre e he) ((S.ok s hs).kH y hy)<|Nat.le_of_not_lt h1
 ·obtain⟨e,he,rfl,_,h3,_⟩:=hnet n hn;have hp':=hsp _ _ hp;rw[h3]at hp';obtain⟨i,q,_,hq,hpq⟩:=hpin _ _ hp';exact AR S hI L.pp (dW hq) hpq
 ·obtain⟨e,he,rfl,_,h3,_⟩:=hnet n hn;refine oJ.2<|y7 ?_
  rw[h3];exact hcnd e.1
 ·obtain⟨e,he,rfl,_,h3,_⟩:=hnet n<|dW hi
  obtain⟨e',he',rfl,_,h3',_⟩:=hnet m<|dW hj
  have p1:=hsp _ _ hp;have p2:=hsp _ _ hq;rw[h3]at p1;rw[h3']at p2;obtain⟨a,q,a1,a2,a3⟩:=hpin _ _ p1;obtain⟨c,q',c1,c2,c3⟩:=hpin _ _ p2;have hac:=hdis a c q q' p a2 c2 a3 c3;have hk:e.1=e'.1:=by rw[<-a1,<-c1,hac]
  exact L.ns.inj hi hj (by show k7 st.2.1 e.1=k7 st.2.1 e'.1;rw[hk])
theorem mH{top:aL}(hbt:bk t<=1048576)(hbl:bk l<=1048576)(_htp:bk top<=1048576)(hN:4398046511104<=N):bR N t l top=some true:=by
 have aw:=yN (N:=N) (by omega);have bad:∀{e:Int},e≠0->dM N t l top=some (⟨[],[]⟩,e)->bR N t l top=some true:=λ{e}he h=>by
  unfold bR;rw[h,aB,show(e != 0)=true by simpa using he,bO,aw];rfl
 rcases z3 (N:=N) hbt hbl hN top with⟨h1,h2⟩|⟨_,_,h2⟩|⟨k,h0,S,_,⟨_,h2⟩|⟨_,I,r,st,Ps,Ns,ok,F,h2⟩⟩
 ·exact bad h1 h2
 ·exact bad (by omega) h2
 ·exact bad (by omega) h2
 cases ok with
 |false=>exact bad (e:=2) (by omega) h2
 |true=>
  have ok:=wq S F;have hck:=rT (ph h0) ok;have hsm:DX (⟨Ps,Ns⟩:aW):=by
   have hpath:∀{s:aL},jQ s=true->s.aU.length<=200:=λ{s}h=>by
    unfold jQ at h;simp only[bS,fW]at h;exact h.1
   refine⟨iH ok.vZ (by decide),λp hp=>iH (hpath<|ok.Ah p hp) (by decide),iH ok.wL (by decide),λn hn=>iH (hpath<|ok.path n hn) (by decide),λn hn=>iH (ok.qG n hn).2 (by decide)⟩
  unfold bR;rw[h2,aG rfl,aB,bne_self_eq_false,aZ,mG hbt hsm (by omega),aB,hck,show((0:Int)==0)=true from rfl,bO,aw];rfl
end
end Go.Gk
