/-
  Helping texts: plain functions and plain laws. No statement of the seed is proved here.
-/
import Derived.Test.YtfidohbopcdgdaaGreatDoorA1
import Derived.ChangeShapes
import Derived.ChangeSame
import Derived.Carry
import Derived.RowKit
import Derived.Test.YtfidohbopcdgdaaGreatDoorA2
set_option linter.unusedVariables false
set_option linter.unusedSimpArgs false
set_option linter.unusedSectionVars false
namespace Go.Gk
open Go IntKind
noncomputable section
structure bP where
 Name:aN
 Kind:Int
 bT:Int
 deriving DecidableEq,Inhabited
structure aG where
 Name:aN
 aU:List bP
 deriving DecidableEq,Inhabited
structure Part where
 Name:aN
 eD:aN
 deriving DecidableEq,Inhabited
structure ln where
 Name:aN
 aF:aN
 deriving DecidableEq,Inhabited
structure Pin where
 Part:aN
 Pin:aN
 deriving DecidableEq,Inhabited
structure Net where
 Name:aN
 aU:List Pin
 aO:List aN
 deriving DecidableEq,Inhabited
structure aF where
 Name:aN
 aO:List aN
 bB:List Part
 Uses:List ln
 aM:List Net
 deriving DecidableEq,Inhabited
structure bG where
 bB:List Part
 aM:List Net
 deriving DecidableEq,Inhabited
structure bI where
 e0:Int
 e1:Int
 deriving DecidableEq,Inhabited
def bI.st(x:bI)(k:Fin 2)(y:Int):bI:=if k.val=0 then{x with e0:=y}else{x with e1:=y}
structure aC where
 path:aN
 words:Int
 deriving DecidableEq,Inhabited
def jd(N:Nat)(p0:aN)(p1:Int):Option Int:=
 some (Lib.indexByte p0.bL (Int.toNat p1).toUInt8)
def iq(N:Nat)(p0:aN)(p1:Int):Option Int:=
 (jd N p0 p1).bind λj=>some j
def cK(N:Nat)(p0:aN):Option Bool:=
 (kb p0.bL.length (λ(o:Nat)(aa:Unit)=>((y8 p0 (o:Int)).bind λj=>(bif((decide ((j.toNat:Int)<65)||decide ((j.toNat:Int)>90))&&(decide ((j.toNat:Int)<97)||decide ((j.toNat:Int)>122)))&&(decide ((j.toNat:Int)<48)||decide ((j.toNat:Int)>57))then((iq N (⟨[95,43,45,35]⟩) (j.toNat:Int)).bind λab=>some<|decide<|ab<0)else some false).bind λad=>bif ad then some (.rt false)else(some<|.nx ()):Option (Fl Unit Bool))) ()).bind λae=>ae.cs (λ(aa:Unit)=>some<|decide ((p0.bL.length:Int)>=1)&&decide ((p0.bL.length:Int)<=40))<|λr=>some r
def eL(N:Nat)(p0 p1:bP):Option Bool:=
 (bif decide (p1.bT>0)then(bif p0.bT==p1.bT then some (p0.Kind != p1.Kind)else some false)else some false).bind λj=>some j
def jv(N:Nat)(p0:List bP)(p1:bP->Option Bool):Option Int:=
 (kb p0.length (λ(j:Nat)(o:Unit)=>((idx p0 (j:Int)).bind λaa=>(p1 aa).bind λab=>bif ab then some (.rt (j:Int))else(some<|.nx ()):Option (Fl Unit Int))) ()).bind λad=>ad.cs (λ(o:Unit)=>some<|-1)<|λr=>some r
def gI(N:Nat)(p0:List bP)(p1:bP->Option Bool):Option Bool:=
 (jv N p0 p1).bind λj=>some<|decide<|j>=0
def jo(N:Nat)(p0:List bP):Option Int:=
 bif(p0.length:Int)==0 then some 9 else(bif decide ((p0.length:Int)>200)then some 2 else((kb p0.length (λ(o:Nat)(ad:Unit)=>((idx p0 (o:Int)).bind λj=>(cK N j.Name).bind λae=>bif(!ae)then some (.rt 5)else(bif decide (j.Kind<1)||decide (j.Kind>7)then some (.rt 4)else(bif decide (j.bT<0)||decide (j.bT>200)then some (.rt 1)else((bif decide ((o:Int)>0)then((idx p0<|wrap .i64<|(o:Int) - 1).bind λaa=>some<|j.Name.jc aa.Name||j.Name.fY aa.Name)else some false).bind λaf=>bif af then some (.rt 8)else some (.nx ())))):Option (Fl Unit Int))) ()).bind λag=>ag.cs (λ(ad:Unit)=>(kb p0.length (λ(ab:Nat)(ah:Unit)=>((idx p0 (ab:Int)).bind λai=>(Ao p0 0 (ab:Int)).bind λaj=>(gI N aj<|λy0=>eL N y0 ai).bind λak=>bif ak then some (.rt 12)else(some<|.nx ()):Option (Fl Unit Int))) ()).bind λal=>al.cs (λ(ah:Unit)=>some 0)<|λr=>some r)<|λr=>some r))
def fW(N:Nat)(p0:List aG):Option Int:=
 bif decide ((p0.length:Int)>200)then some 2 else((kb p0.length (λ(o:Nat)(ad:Unit)=>((idx p0 (o:Int)).bind λj=>(cK N j.Name).bind λae=>bif(!ae)then some (.rt 5)else((jo N j.aU).bind λaa=>bif aa != 0 then some (.rt aa)else((bif decide ((o:Int)>0)then((idx p0<|wrap .i64<|(o:Int) - 1).bind λab=>some<|j.Name.jc ab.Name||j.Name.fY ab.Name)else some false).bind λaf=>bif af then some (.rt 8)else some (.nx ()))):Option (Fl Unit Int))) ()).bind λag=>ag.cs (λ(ad:Unit)=>some 0)<|λr=>some r)
def gP(N:Nat)(p0:List aN)(p1:Int)(p2:aN->Option Bool)(p3:Int):Option Int:=
 bif decide ((p0.length:Int)>p1)then some 2 else((kb p0.length (λ(j:Nat)(ab:Unit)=>((idx p0 (j:Int)).bind λo=>(p2 o).bind λad=>bif(!ad)then some (.rt p3)else((bif decide ((j:Int)>0)then((idx p0<|wrap .i64<|(j:Int) - 1).bind λaa=>some<|o.jc aa||o.fY aa)else some false).bind λae=>bif ae then some (.rt 8)else some (.nx ())):Option (Fl Unit Int))) ()).bind λaf=>af.cs (λ(ab:Unit)=>some 0)<|λr=>some r)
def cR(N:Nat)(p0:List aG)(p1:aN)(p2:aG->aN->Option Int):Option (Int×Bool):=
 (tI (λ(j:Int×Int)=>(bif decide (j.1<j.2)then((idx p0<|wrap .i64<|Int.fdiv (wrap .u64<|wrap .i64<|j.1+j.2) 2).bind λaa=>(p2 aa p1).bind λab=>(bif decide (ab<0)then some (wrap .i64<|wrap .i64 (Int.fdiv (wrap .u64<|wrap .i64<|j.1+j.2) 2)+1,j.2)else some (j.1,wrap .i64<|Int.fdiv (wrap .u64<|wrap .i64<|j.1+j.2) 2)).bind λo=>some<|.nx (o.1,o.2))else(some<|.br (j.1,j.2)):Option (Fl (Int×Int) Empty))) N (0,(p0.length:Int))).bind λad=>ad.cs (λ(j:Int×Int)=>(bif decide (j.1<(p0.length:Int))then((idx p0 j.1).bind λae=>(p2 ae p1).bind λaf=>some<|af==0)else some false).bind λag=>some (j.1,ag))<|λr=>r.elim
def kp(N:Nat)(p0 p1:aN):Option Int:=
 some (Lib.compareBytes p0.bL p1.bL)
def dS(N:Nat)(p0 p1:aN):Option Int:=
 (kp N p0 p1).bind λj=>some j
def ir(N:Nat)(p0:aG)(p1:aN):Option Int:=
 (dS N p0.Name p1).bind λj=>some j
def iU(N:Nat)(p0:List aG)(p1:aN):Option Int:=
 (cR N p0 p1<|ir N).bind λj=>bif(!j.2)then some (-1)else some j.1
def fX(N:Nat)(p0:List aG)(p1:List Part)(p2:aN->Option Bool):Option Int:=
 bif decide ((p1.length:Int)>1000)then some 2 else((kb p1.length (λ(o:Nat)(ab:Unit)=>((idx p1 (o:Int)).bind λj=>(p2 j.Name).bind λad=>bif(!ad)then some (.rt 5)else((iU N p0 j.eD).bind λae=>bif decide (ae<0)then some (.rt 9)else((bif decide ((o:Int)>0)then((idx p1<|wrap .i64<|(o:Int) - 1).bind λaa=>some<|j.Name.jc aa.Name||j.Name.fY aa.Name)else some false).bind λaf=>bif af then some (.rt 8)else some (.nx ()))):Option (Fl Unit Int))) ()).bind λag=>ag.cs (λ(ab:Unit)=>some 0)<|λr=>some r)
def dH(N:Nat)(p0:List Part)(p1:aN)(p2:Part->aN->Option Int):Option (Int×Bool):=
 (tI (λ(j:Int×Int)=>(bif decide (j.1<j.2)then((idx p0<|wrap .i64<|Int.fdiv (wrap .u64<|wrap .i64<|j.1+j.2) 2).bind λaa=>(p2 aa p1).bind λab=>(bif decide (ab<0)then some (wrap .i64<|wrap .i64 (Int.fdiv (wrap .u64<|wrap .i64<|j.1+j.2) 2)+1,j.2)else some (j.1,wrap .i64<|Int.fdiv (wrap .u64<|wrap .i64<|j.1+j.2) 2)).bind λo=>some<|.nx (o.1,o.2))else(some<|.br (j.1,j.2)):Option (Fl (Int×Int) Empty))) N (0,(p0.length:Int))).bind λad=>ad.cs (λ(j:Int×Int)=>(bif decide (j.1<(p0.length:Int))then((idx p0 j.1).bind λae=>(p2 ae p1).bind λaf=>some<|af==0)else some false).bind λag=>some (j.1,ag))<|λr=>r.elim
def iu(N:Nat)(p0:Part)(p1:aN):Option Int:=
 (dS N p0.Name p1).bind λj=>some j
def jJ(N:Nat)(p0:List Part)(p1:aN):Option Int:=
 (dH N p0 p1<|iu N).bind λj=>bif(!j.2)then some (-1)else some j.1
def iV(N:Nat)(p0:aF)(p1:aN):Option Bool:=
 some (p0.Name.fY p1)
def j5(N:Nat)(p0:List aF)(p1:aF->Option Bool):Option Int:=
 (kb p0.length (λ(j:Nat)(o:Unit)=>((idx p0 (j:Int)).bind λaa=>(p1 aa).bind λab=>bif ab then some (.rt (j:Int))else(some<|.nx ()):Option (Fl Unit Int))) ()).bind λad=>ad.cs (λ(o:Unit)=>some<|-1)<|λr=>some r
def dT(N:Nat)(p0:List aF)(p1:aN):Option Int:=
 (j5 N p0<|λy0=>iV N y0 p1).bind λj=>some j
def iv(N:Nat)(p0:List aF)(p1:aF):Option Int:=
 bif decide ((p1.Uses.length:Int)>100)then some 2 else((kb p1.Uses.length (λ(j:Nat)(aa:Unit)=>((idx p1.Uses (j:Int)).bind λlh=>(cK N lh.Name).bind λab=>bif(!ab)then some (.rt 5)else((jJ N p1.bB lh.Name).bind λad=>bif decide (ad>=0)then some (.rt 7)else((dT N p0 lh.aF).bind λae=>bif decide (ae<0)then some (.rt 9)else((bif decide ((j:Int)>0)then((idx p1.Uses<|wrap .i64<|(j:Int) - 1).bind λo=>some<|lh.Name.jc o.Name||lh.Name.fY o.Name)else some false).bind λaf=>bif af then some (.rt 8)else some (.nx ())))):Option (Fl Unit Int))) ()).bind λag=>ag.cs (λ(aa:Unit)=>some 0)<|λr=>some r)
def jK(N:Nat)(p0:ln)(p1:aN):Option Bool:=
 some (p0.Name.fY p1)
def kO(N:Nat)(p0:List ln)(p1:ln->Option Bool):Option Int:=
 (kb p0.length (λ(j:Nat)(o:Unit)=>((idx p0 (j:Int)).bind λaa=>(p1 aa).bind λab=>bif ab then some (.rt (j:Int))else(some<|.nx ()):Option (Fl Unit Int))) ()).bind λad=>ad.cs (λ(o:Unit)=>some<|-1)<|λr=>some r
def iM(N:Nat)(p0:List ln)(p1:aN):Option Int:=
 (kO N p0<|λy0=>jK N y0 p1).bind λj=>some j
def gQ(N:Nat)(p0:List aN)(p1:aN):Option Int:=
 (kb p0.length (λ(j:Nat)(o:Unit)=>((idx p0 (j:Int)).bind λaa=>bif p1.fY aa then some (.rt (j:Int))else(some<|.nx ()):Option (Fl Unit Int))) ()).bind λab=>ab.cs (λ(o:Unit)=>some<|-1)<|λr=>some r
def cO(N:Nat)(p0:List aN)(p1:aN):Option Bool:=
 (gQ N p0 p1).bind λj=>some<|decide<|j>=0
def cX(N:Nat)(p0:List bP)(p1:aN)(p2:bP->aN->Option Int):Option (Int×Bool):=
 (tI (λ(j:Int×Int)=>(bif decide (j.1<j.2)then((idx p0<|wrap .i64<|Int.fdiv (wrap .u64<|wrap .i64<|j.1+j.2) 2).bind λaa=>(p2 aa p1).bind λab=>(bif decide (ab<0)then some (wrap .i64<|wrap .i64 (Int.fdiv (wrap .u64<|wrap .i64<|j.1+j.2) 2)+1,j.2)else some (j.1,wrap .i64<|Int.fdiv (wrap .u64<|wrap .i64<|j.1+j.2) 2)).bind λo=>some<|.nx (o.1,o.2))else(some<|.br (j.1,j.2)):Option (Fl (Int×Int) Empty))) N (0,(p0.length:Int))).bind λad=>ad.cs (λ(j:Int×Int)=>(bif decide (j.1<(p0.length:Int))then((idx p0 j.1).bind λae=>(p2 ae p1).bind λaf=>some<|af==0)else some false).bind λag=>some (j.1,ag))<|λr=>r.elim
def iQ(N:Nat)(p0:bP)(p1:aN):Option Int:=
 (dS N p0.Name p1).bind λj=>some j
def lr(N:Nat)(p0:aG)(p1:aN):Option Int:=
 (cX N p0.aU p1<|iQ N).bind λj=>bif(!j.2)then some (-1)else some j.1
def kP(N:Nat)(p0:List aG)(p1:List Part)(p2:Pin):Option Bool:=
 (jJ N p1 p2.Part).bind λj=>(bif decide (j>=0)then((idx p1 j).bind λo=>(iU N p0 o.eD).bind λaa=>(idx p0 aa).bind λab=>(lr N ab p2.Pin).bind λad=>some<|decide<|ad>=0)else some false).bind λae=>some ae
def hZ(N:Nat)(p0:Pin)(p1:aF)(p2:List aF)(p3:List aG):Option Bool:=
 (iM N p1.Uses p0.Part).bind λj=>bif decide (j>=0)then((idx p1.Uses j).bind λo=>(dT N p2 o.aF).bind λaa=>(idx p2 aa).bind λab=>(cO N ab.aO p0.Pin).bind λad=>some ad)else((kP N p3 p1.bB p0).bind λae=>some ae)
def dZ(N:Nat)(p0 p1:Pin):Option Int:=
 (dS N p0.Part p1.Part).bind λj=>bif j != 0 then some j else((dS N p0.Pin p1.Pin).bind λo=>some o)
def eM(N:Nat)(p0:List Pin)(p1:Pin->Option Bool)(p2:List (Pin×Bool)):Option (Int×List (Pin×Bool)):=
 bif decide ((p0.length:Int)>500)then some (2,p2)else((kb p0.length (λ(j:Nat)(ab:Unit)=>((idx p0 (j:Int)).bind λo=>(p1 o).bind λad=>bif(!ad)then some (.rt (9,p2))else((bif decide ((j:Int)>0)then((idx p0<|wrap .i64<|(j:Int) - 1).bind λae=>(dZ N o ae).bind λaf=>some<|decide<|af<=0)else some false).bind λag=>bif ag then some (.rt (8,p2))else(bif cP p2 o (false:Bool)then some (.rt (7,p2))else some (.nx ()))):Option (Fl Unit<|Int×List (Pin×Bool)))) ()).bind λah=>ah.cs (λ(ab:Unit)=>(kJ p0.length (λ(ai:Nat)(aa:List (Pin×Bool))=>((idx p0 (ai:Int)).bind λaj=>some (fM aa aj true):Option (List<|Pin×Bool))) p2).bind λaa=>some (0,aa))<|λr=>some r)
def iw(N:Nat)(p0:List aG)(p1:List aF)(p2:aF):Option Int:=
 bif decide ((p2.aM.length:Int)>1000)then some 2 else((kb p2.aM.length (λ(ab:Nat)(o:List (Pin×Bool)×List (aN×Bool))=>((idx p2.aM (ab:Int)).bind λj=>(cK N j.Name).bind λai=>bif(!ai)then some (.rt 5)else((eM N j.aU (λy0=>hZ N y0 p2 p1 p0) o.1).bind λad=>bif ad.1 != 0 then some (.rt ad.1)else(bif decide ((j.aO.length:Int)>100)then some (.rt 2)else((kb j.aO.length (λ(ae:Nat)(aj:Unit)=>((idx j.aO (ae:Int)).bind λaa=>(cO N p2.aO aa).bind λak=>bif(!ak)then some (.rt 9)else((bif decide ((ae:Int)>0)then((idx j.aO<|wrap .i64<|(ae:Int) - 1).bind λag=>some<|aa.jc ag||aa.fY ag)else some false).bind λal=>bif al then some (.rt 8)else(bif cP o.2 aa (false:Bool)then some (.rt 7)else some (.nx ()))):Option (Fl Unit Int))) ()).bind λan=>an.cs (λ(aj:Unit)=>(kJ j.aO.length (λ(ao:Nat)(af:List (aN×Bool))=>((idx j.aO (ao:Int)).bind λaq=>some (fM af aq true):Option (List<|aN×Bool))) o.2).bind λaf=>(bif decide ((ab:Int)>0)then((idx p2.aM<|wrap .i64<|(ab:Int) - 1).bind λah=>some<|j.Name.jc ah.Name||j.Name.fY ah.Name)else some false).bind λar=>bif ar then some (.rt 8)else some (.nx (ad.2,af)))<|λr=>some<|.rt r))):Option (Fl (List (Pin×Bool)×List (aN×Bool)) Int))) (([]:List (Pin×Bool)),([]:List (aN×Bool)))).bind λau=>au.cs (λ(o:List (Pin×Bool)×List (aN×Bool))=>some 0)<|λr=>some r)
def kd(N:Nat)(rc:List aF->Int->List Int->Option (Bool×List Int))(p0:List aF)(p1:Int)(p2:List Int):Option (Bool×List Int):=
 (idx p2 p1).bind λab=>bif decide (ab>0)then((idx p2 p1).bind λad=>some (ad==1,p2))else((idx p2 p1).bind λai=>(idx p0 p1).bind λaa=>(kb aa.Uses.length (λ(ae:Nat)(j:List Int)=>((idx aa.Uses (ae:Int)).bind λaf=>(dT N p0 af.aF).bind λag=>(rc p0 ag j).bind λo=>bif o.1 then some (.rt (true,o.2))else(some<|.nx o.2):Option (Fl (List Int)<|Bool×List Int)))<|p2.set (Int.toNat p1) 1).bind λah=>ah.cs (λ(j:List Int)=>(idx j p1).bind λaj=>some (false,j.set (Int.toNat p1) 2))<|λr=>some r)
def ke(N:Nat):Nat->List aF->Int->List Int->Option (Bool×List Int)
 | 0=>λ_ _ _=>none
 |d+1=>kd N (ke N d)
def pM(N:Nat)(p0:List aF)(p1:Int)(p2:List Int):Option (Bool×List Int):=ke N N p0 p1 p2
def gR(N:Nat)(p0:List aG)(p1:List aF):Option Int:=
 (fW N p0).bind λaa=>bif aa != 0 then some aa else(bif decide ((p1.length:Int)>100)then some 2 else((kb p1.length (λ(o:Nat)(aj:Unit)=>((idx p1 (o:Int)).bind λj=>(cK N j.Name).bind λak=>bif(!ak)then some (.rt 5)else((gP N j.aO 100 (cK N) 5).bind λab=>bif ab != 0 then some (.rt ab)else((fX N p0 j.bB<|cK N).bind λad=>bif ad != 0 then some (.rt ad)else((iv N p1 j).bind λae=>bif ae != 0 then some (.rt ae)else((iw N p0 p1 j).bind λaf=>bif af != 0 then some (.rt af)else((bif decide ((o:Int)>0)then((idx p1<|wrap .i64<|(o:Int) - 1).bind λag=>some<|j.Name.jc ag.Name||j.Name.fY ag.Name)else some false).bind λal=>bif al then some (.rt 8)else some (.nx ())))))):Option (Fl Unit Int))) ()).bind λan=>an.cs (λ(aj:Unit)=>(mk 8 (0:Int) (p1.length:Int)).bind λao=>(kb p1.length (λ(aq:Nat)(ah:List Int)=>((pM N p1 (aq:Int) ah).bind λai=>bif ai.1 then some (.rt 17)else(some<|.nx ai.2):Option (Fl (List Int) Int))) ao).bind λar=>ar.cs (λ(ah:List Int)=>some 0)<|λr=>some r)<|λr=>some r))
def kQ(N:Nat)(rc:List aF->Int->List (Int×bI)->Option (bI×List (Int×bI)))(p0:List aF)(p1:Int)(p2:List (Int×bI)):Option (bI×List (Int×bI)):=
 bif iP p2 p1 then some (cP p2 p1 (⟨0,0⟩:bI),p2)else((idx p0 p1).bind λab=>(idx p0 p1).bind λaa=>(kJ aa.Uses.length (λ(ad:Nat)(j:List (Int×bI)×bI)=>((idx aa.Uses (ad:Int)).bind λae=>(dT N p0 ae.aF).bind λaf=>(rc p0 af j.1).bind λo=>some (o.2,{{j.2 with e0:=(if 2001<(wrap .i64<|j.2.e0+o.1.e0)then 2001 else wrap .i64 (j.2.e0+o.1.e0))}with e1:=(if 1001<(wrap .i64<|j.2.e1+o.1.e1)then 1001 else wrap .i64 (j.2.e1+o.1.e1))}):Option (List (Int×bI)×bI))) (p2,(⟨1,(ab.bB.length:Int)⟩:bI))).bind λj=>some (j.2,fM j.1 p1 j.2))
def kR(N:Nat):Nat->List aF->Int->List (Int×bI)->Option (bI×List (Int×bI))
 | 0=>λ_ _ _=>none
 |d+1=>kQ N (kR N d)
def nY(N:Nat)(p0:List aF)(p1:Int)(p2:List (Int×bI)):Option (bI×List (Int×bI)):=kR N N p0 p1 p2
def bZ(N:Nat)(p0_4:List Int)(p1:Int):Option (Int×List Int):=
 (tI (λ(j:List Int×Int)=>((idx j.1 j.2).bind λaa=>bif aa != j.2 then((idx j.1 j.2).bind λab=>(idx j.1 ab).bind λo=>(idx j.1 j.2).bind λaf=>(idx (j.1.set (Int.toNat j.2) o) j.2).bind λad=>some<|.nx (j.1.set (Int.toNat j.2) o,ad))else(some<|.br (j.1,j.2)):Option (Fl (List Int×Int) Empty))) N (p0_4,p1)).bind λae=>ae.cs (λ(j:List Int×Int)=>some (j.2,j.1))<|λr=>r.elim
def eW(N:Nat)(rc:List aF->List Part->List aC->List (List Pin)->List Int->Int->aN->Int->Option (List (aN×Int)×List Part×List aC×List (List Pin)×List Int))(p0_0:List aF)(p0_1:List Part)(p0_2:List aC)(p0_3:List (List Pin))(p0_4:List Int)(p1:Int)(p2:aN)(p3:Int):Option (List (aN×Int)×List Part×List aC×List (List Pin)×List Int):=
 (idx p0_0 p1).bind λab=>(kJ ab.bB.length (λ(av:Nat)(ak:List Part)=>((idx ab.bB (av:Int)).bind λao=>(mw p2 ao.Name).bind λaw=>(app 32 ak ([(⟨aw,ao.eD⟩:Part)]:List Part)).bind λax=>some ax:Option (List Part))) p0_1).bind λak=>(kJ ab.aM.length (λ(ay:Nat)(j:List aC×List (List Pin)×List Int×List (aN×Int)×List (Pin×Int))=>((idx ab.aM (ay:Int)).bind λag=>(mw p2 ag.Name).bind λaz=>(app 24 j.1 ([(⟨az,wrap .i64<|p3+1⟩:aC)]:List aC)).bind λa0=>(app 8 j.2.2.1 ([(j.1.length:Int)]:List Int)).bind λa1=>(kJ ag.aU.length (λ(a2:Nat)(ae:List (Pin×Int)×List Pin)=>((idx ag.aU (a2:Int)).bind λah=>(iM N ab.Uses ah.Part).bind λa3=>(bif decide (a3<0)then((mw p2 ah.Part).bind λa4=>(app 32 ae.2 ([(⟨a4,ah.Pin⟩:Pin)]:List Pin)).bind λa5=>some a5)else some ae.2).bind λa6=>some (fM ae.1 ah (j.1.length:Int),a6):Option (List (Pin×Int)×List Pin))) (j.2.2.2.2,([]:List Pin))).bind λae=>(app 24 j.2.1 ([ae.2]:List (List Pin))).bind λa7=>some (a0,a7,a1,fM j.2.2.2.1 ag.Name (j.1.length:Int),ae.1):Option (List aC×List (List Pin)×List Int×List (aN×Int)×List (Pin×Int)))) (p0_2,p0_3,p0_4,([]:List (aN×Int)),([]:List (Pin×Int)))).bind λj=>(kJ ab.Uses.length (λ(a8:Nat)(o:List Part×List aC×List (List Pin)×List Int)=>((idx ab.Uses (a8:Int)).bind λai=>(dT N p0_0 ai.aF).bind λaq=>(mw p2 ai.Name).bind λa9=>(mw a9<|⟨[47]⟩).bind λba=>(rc p0_0 o.1 o.2.1 o.2.2.1 o.2.2.2 aq ba<|wrap .i64<|p3+1).bind λaf=>(idx p0_0 aq).bind λar=>(kJ ar.aM.length (λ(bb:Nat)(al:List Int)=>((idx ar.aM (bb:Int)).bind λan=>(kJ an.aO.length (λ(bc:Nat)(aj:List Int)=>((idx an.aO (bc:Int)).bind λau=>(bif iP j.2.2.2.2 (⟨ai.Name,au⟩:Pin)then((bZ N aj<|cP j.2.2.2.2 (⟨ai.Name,au⟩:Pin) (0:Int)).bind λad=>(bZ N ad.2<|cP af.1 an.Name (0:Int)).bind λaa=>(idx aa.2 (if ad.1<aa.1 then aa.1 else ad.1)).bind λbf=>some<|aa.2.set (Int.toNat (if ad.1<aa.1 then aa.1 else ad.1)) (if aa.1<ad.1 then aa.1 else ad.1))else some aj).bind λbd=>some bd:Option (List Int))) al).bind λaj=>some aj:Option (List Int))) af.2.2.2.2).bind λal=>some (af.2.1,af.2.2.1,af.2.2.2.1,al):Option (List Part×List aC×List (List Pin)×List Int))) (ak,j.1,j.2.1,j.2.2.1)).bind λo=>some (j.2.2.2.1,o.1,o.2.1,o.2.2.1,o.2.2.2)
def eX(N:Nat):Nat->List aF->List Part->List aC->List (List Pin)->List Int->Int->aN->Int->Option (List (aN×Int)×List Part×List aC×List (List Pin)×List Int)
 | 0=>λ_ _ _ _ _ _ _ _=>none
 |d+1=>eW N (eX N d)
def jL(N:Nat)(p0_0:List aF)(p0_1:List Part)(p0_2:List aC)(p0_3:List (List Pin))(p0_4:List Int)(p1:Int)(p2:aN)(p3:Int):Option (List (aN×Int)×List Part×List aC×List (List Pin)×List Int):=eX N N p0_0 p0_1 p0_2 p0_3 p0_4 p1 p2 p3
def lu(N:Nat)(p0:Int):Option Bool:=
 some (p0 != p0)
def kf(N:Nat)(p0 p1:Int):Option Int:=
 (lu N p0).bind λo=>(lu N p1).bind λj=>bif o then(bif j then some 0 else some (-1))else(bif j then some 1 else(bif decide (p0<p1)then some (-1)else(bif decide (p0>p1)then some 1 else some 0)))
def ox(N:Nat)(p0:List Int):Option Int:=
 (kb p0.length (λ(o:Nat)(aa:Unit)=>((idx p0 (o:Int)).bind λj=>bif j != 0 then some (.rt j)else(some<|.nx ()):Option (Fl Unit Int))) ()).bind λab=>ab.cs (λ(aa:Unit)=>some 0)<|λr=>some r
def dN(N:Nat)(p0 p1:aC):Option Int:=
 (kf N p0.words p1.words).bind λj=>(dS N p0.path p1.path).bind λo=>(ox N ([j,o]:List Int)).bind λaa=>some aa
def gW(N:Nat)(p0 p1:Part):Option Int:=
 (dS N p0.Name p1.Name).bind λj=>some j
def kq(N:Nat)(p0:List Part)(p1:Part->Option Bool):Option Int:=
 (kb p0.length (λ(j:Nat)(o:Unit)=>((idx p0 (j:Int)).bind λaa=>(p1 aa).bind λab=>bif ab then some (.rt (j:Int))else(some<|.nx ()):Option (Fl Unit Int))) ()).bind λad=>ad.cs (λ(o:Unit)=>some<|-1)<|λr=>some r
def fO(N:Nat)(p0:List Part)(p1:Part->Option Bool):Option Bool:=
 (kq N p0 p1).bind λj=>some<|decide<|j>=0
def cU(N:Nat)(p0:Part):Option Bool:=
 some (decide<|(p0.Name.bL.length:Int)>200)
def eY(N:Nat)(p0 p1:Net):Option Int:=
 (dS N p0.Name p1.Name).bind λj=>some j
def gM(N:Nat)(p0_1:List Part)(p0_2:List aC)(p0_3:List (List Pin))(p0_4:List Int):Option (bG×Bool×List Part×List Int):=
 (kJ p0_2.length (λ(ae:Nat)(j:List Int×List (Int×aC)×List (Int×List Pin))=>((idx p0_2 (ae:Int)).bind λaf=>(bZ N j.1 (ae:Int)).bind λaa=>(bif(!(iP j.2.1 aa.1))then some true else((dN N af<|cP j.2.1 aa.1 (⟨⟨[]⟩,0⟩:aC)).bind λai=>some<|decide<|ai<0)).bind λaj=>(bif aj then some (fM j.2.1 aa.1 af)else some j.2.1).bind λak=>(idx p0_3 (ae:Int)).bind λal=>(app 32 (cP j.2.2 aa.1 ([]:List Pin)) al).bind λBR=>some (aa.2,ak,fM j.2.2 aa.1 BR):Option (List Int×List (Int×aC)×List (Int×List Pin)))) (p0_4,([]:List (Int×aC)),([]:List (Int×List Pin)))).bind λj=>(qg (gW N) p0_1).bind λab=>(fO N ab<|cU N).bind λan=>zv j.2.2 (λ(ad:Int×List Pin)(o:List Net×Bool)=>(bif(ad.2.length:Int)==0 then some (.nx (o.1,o.2))else((qg (dZ N) ad.2).bind λag=>(app 64 o.1 ([(⟨(cP j.2.1 ad.1 (⟨⟨[]⟩,0⟩:aC)).path,ag,[]⟩:Net)]:List Net)).bind λao=>(bif o.2 then(bif decide (((((cP j.2.1 ad.1 (⟨⟨[]⟩,0⟩:aC)).path).bL.length:Nat):Int)<=200)then some (decide<|(ag.length:Int)<=500)else some false)else some false).bind λaq=>some<|.nx (ao,aq)):Option (Fl (List Net×Bool) Empty))) (([]:List Net),(!an)) (λ(o:List Net×Bool)=>(qg (eY N) o.1).bind λah=>(bif o.2 then some (decide<|((((⟨ab,ah⟩:bG).aM).length:Nat):Int)<=1000)else some false).bind λar=>some ((⟨ab,ah⟩:bG),ar,ab,j.1))<|λr=>r.elim
def fT(N:Nat)(p0:List aG)(p1:List aF)(p2:aN):Option (bG×Int):=
 (gR N p0 p1).bind λaa=>bif aa != 0 then some ((⟨([]:List Part),([]:List Net)⟩:bG),aa)else((dT N p1 p2).bind λo=>bif decide (o<0)then some ((⟨([]:List Part),([]:List Net)⟩:bG),9)else((nY N p1 o ([]:List (Int×bI))).bind λab=>(bif decide (ab.1.e0>2000)then some true else some (decide<|ab.1.e1>1000)).bind λae=>bif ae then some ((⟨([]:List Part),([]:List Net)⟩:bG),2)else((jL N p1 ([]:List Part) ([]:List aC) ([]:List (List Pin)) ([]:List Int) o (⟨[]⟩) 0).bind λj=>(gM N j.2.1 j.2.2.1 j.2.2.2.1 j.2.2.2.2).bind λad=>bif(!ad.2.1)then some ((⟨([]:List Part),([]:List Net)⟩:bG),2)else some (ad.1,0))))
def dI(N:Nat)(p0 p1 p2:Int):Option Bool:=
 some (decide (p1<=p0)&&decide (p0<=p2))
def cD(N:Nat)(p0:aN):Option Bool:=
 (kb p0.bL.length (λ(o:Nat)(aa:Unit)=>((y8 p0 (o:Int)).bind λj=>(bif((decide ((j.toNat:Int)<97)||decide ((j.toNat:Int)>122))&&(decide ((j.toNat:Int)<65)||decide ((j.toNat:Int)>90)))&&(decide ((j.toNat:Int)<48)||decide ((j.toNat:Int)>57))then((iq N (⟨[95,43,45,35]⟩) (j.toNat:Int)).bind λab=>some<|decide<|ab<0)else some false).bind λad=>bif ad then some (.rt false)else(some<|.nx ()):Option (Fl Unit Bool))) ()).bind λae=>ae.cs (λ(aa:Unit)=>(dI N (p0.bL.length:Int) 1 40).bind λaf=>some af)<|λr=>some r
def fZ(N:Nat)(p0:aG):Option Int:=
 (cD N p0.Name).bind λag=>bif(!ag)then some 5 else(bif(p0.aU.length:Int)==0 then some 9 else(bif decide ((p0.aU.length:Int)>200)then some 2 else((kb p0.aU.length (λ(o:Nat)(ah:Unit)=>((idx p0.aU (o:Int)).bind λj=>(cD N j.Name).bind λai=>bif(!ai)then some (.rt 5)else((dI N j.Kind 1 7).bind λaj=>bif(!aj)then some (.rt 4)else((dI N j.bT 0 200).bind λak=>bif(!ak)then some (.rt 1)else((bif decide ((o:Int)>0)then((idx p0.aU<|wrap .i64<|(o:Int) - 1).bind λab=>some<|j.Name.jc ab.Name||j.Name.fY ab.Name)else some false).bind λal=>bif al then some (.rt 8)else some (.nx ())))):Option (Fl Unit Int))) ()).bind λan=>an.cs (λ(ah:Unit)=>(kb p0.aU.length (λ(ad:Nat)(ao:Unit)=>((idx p0.aU (ad:Int)).bind λaa=>(Ao p0.aU 0 (ad:Int)).bind λae=>(kb ae.length (λ(aq:Nat)(ar:Unit)=>((idx ae (aq:Int)).bind λaf=>bif(decide (aa.bT>0)&&(aa.bT==af.bT))&&(aa.Kind != af.Kind)then some (.rt 12)else(some<|.nx ()):Option (Fl Unit Int))) ()).bind λau=>au.cs (λ(ar:Unit)=>some<|.nx ()) (λr=>some<|.rt r):Option (Fl Unit Int))) ()).bind λav=>av.cs (λ(ao:Unit)=>some 0)<|λr=>some r)<|λr=>some r)))
def dW(N:Nat)(p0:List aG):Option Int:=
 bif decide ((p0.length:Int)>200)then some 2 else((kb p0.length (λ(j:Nat)(ad:Unit)=>((idx p0 (j:Int)).bind λo=>(fZ N o).bind λaa=>bif aa != 0 then some (.rt aa)else((bif decide ((j:Int)>0)then((idx p0<|wrap .i64<|(j:Int) - 1).bind λab=>some<|o.Name.jc ab.Name||o.Name.fY ab.Name)else some false).bind λae=>bif ae then some (.rt 8)else some (.nx ())):Option (Fl Unit Int))) ()).bind λaf=>af.cs (λ(ad:Unit)=>some 0)<|λr=>some r)
def dX(N:Nat)(p0:List aN):Option Int:=
 (kb p0.length (λ(j:Nat)(ab:Unit)=>((idx p0 (j:Int)).bind λo=>(cD N o).bind λad=>bif(!ad)then some (.rt 5)else((bif decide ((j:Int)>0)then((idx p0<|wrap .i64<|(j:Int) - 1).bind λaa=>some<|o.jc aa||o.fY aa)else some false).bind λae=>bif ae then some (.rt 8)else some (.nx ())):Option (Fl Unit Int))) ()).bind λaf=>af.cs (λ(ab:Unit)=>some 0)<|λr=>some r
def gz(N:Nat)(p0:List aG)(p1:aN):Option Int:=
 (kb p0.length (λ(j:Nat)(o:Unit)=>((idx p0 (j:Int)).bind λaa=>bif aa.Name.fY p1 then some (.rt (j:Int))else(some<|.nx ()):Option (Fl Unit Int))) ()).bind λab=>ab.cs (λ(o:Unit)=>some<|-1)<|λr=>some r
def dY(N:Nat)(p0:List aG)(p1:List Part):Option Int:=
 bif decide ((p1.length:Int)>1000)then some 2 else((kb p1.length (λ(o:Nat)(ab:Unit)=>((idx p1 (o:Int)).bind λj=>(cD N j.Name).bind λad=>bif(!ad)then some (.rt 5)else((gz N p0 j.eD).bind λae=>bif decide (ae<0)then some (.rt 9)else((bif decide ((o:Int)>0)then((idx p1<|wrap .i64<|(o:Int) - 1).bind λaa=>some<|j.Name.jc aa.Name||j.Name.fY aa.Name)else some false).bind λaf=>bif af then some (.rt 8)else some (.nx ()))):Option (Fl Unit Int))) ()).bind λag=>ag.cs (λ(ab:Unit)=>some 0)<|λr=>some r)
def eO(N:Nat)(p0:List Part)(p1:aN):Option Int:=
 (kb p0.length (λ(j:Nat)(o:Unit)=>((idx p0 (j:Int)).bind λaa=>bif aa.Name.fY p1 then some (.rt (j:Int))else(some<|.nx ()):Option (Fl Unit Int))) ()).bind λab=>ab.cs (λ(o:Unit)=>some<|-1)<|λr=>some r
def cE(N:Nat)(p0:List aF)(p1:aN):Option Int:=
 (kb p0.length (λ(j:Nat)(o:Unit)=>((idx p0 (j:Int)).bind λaa=>bif aa.Name.fY p1 then some (.rt (j:Int))else(some<|.nx ()):Option (Fl Unit Int))) ()).bind λab=>ab.cs (λ(o:Unit)=>some<|-1)<|λr=>some r
def eG(N:Nat)(p0:List aF)(p1:aF):Option Int:=
 bif decide ((p1.Uses.length:Int)>100)then some 2 else((kb p1.Uses.length (λ(j:Nat)(aa:Unit)=>((idx p1.Uses (j:Int)).bind λlh=>(cD N lh.Name).bind λab=>bif(!ab)then some (.rt 5)else((eO N p1.bB lh.Name).bind λad=>bif decide (ad>=0)then some (.rt 7)else((cE N p0 lh.aF).bind λae=>bif decide (ae<0)then some (.rt 9)else((bif decide ((j:Int)>0)then((idx p1.Uses<|wrap .i64<|(j:Int) - 1).bind λo=>some<|lh.Name.jc o.Name||lh.Name.fY o.Name)else some false).bind λaf=>bif af then some (.rt 8)else some (.nx ())))):Option (Fl Unit Int))) ()).bind λag=>ag.cs (λ(aa:Unit)=>some 0)<|λr=>some r)
def iE(N:Nat)(p0:aG)(p1:aN):Option Int:=
 (kb p0.aU.length (λ(j:Nat)(o:Unit)=>((idx p0.aU (j:Int)).bind λaa=>bif aa.Name.fY p1 then some (.rt (j:Int))else(some<|.nx ()):Option (Fl Unit Int))) ()).bind λab=>ab.cs (λ(o:Unit)=>some<|-1)<|λr=>some r
def ia(N:Nat)(p0:List aG)(p1:List aF)(p2:aF)(p3:Pin):Option Bool:=
 (eO N p2.bB p3.Part).bind λj=>bif decide (j>=0)then((idx p2.bB j).bind λaa=>(gz N p0 aa.eD).bind λab=>(idx p0 ab).bind λad=>(iE N ad p3.Pin).bind λae=>some<|decide<|ae>=0)else((kb p2.Uses.length (λ(af:Nat)(ag:Unit)=>((idx p2.Uses (af:Int)).bind λo=>bif o.Name.fY p3.Part then((cE N p1 o.aF).bind λah=>(idx p1 ah).bind λai=>(cO N ai.aO p3.Pin).bind λaj=>some<|.rt aj)else(some<|.nx ()):Option (Fl Unit Bool))) ()).bind λak=>ak.cs (λ(ag:Unit)=>some false)<|λr=>some r)
def gA(N:Nat)(p0 p1:Pin):Option Bool:=
 some (p0.Part.jc p1.Part||(p0.Part.fY p1.Part&&p0.Pin.jc p1.Pin))
def mH(N:Nat)(p0:List Pin)(p1:Pin):Option Int:=
 (kb p0.length (λ(j:Nat)(o:Unit)=>((idx p0 (j:Int)).bind λaa=>bif decide (p1=aa)then some (.rt (j:Int))else(some<|.nx ()):Option (Fl Unit Int))) ()).bind λab=>ab.cs (λ(o:Unit)=>some<|-1)<|λr=>some r
def fE(N:Nat)(p0:List Pin)(p1:Pin):Option Bool:=
 (mH N p0 p1).bind λj=>some<|decide<|j>=0
def ib(N:Nat)(p0:List Net)(p1:Pin):Option Bool:=
 (kb p0.length (λ(j:Nat)(o:Unit)=>((idx p0 (j:Int)).bind λaa=>(fE N aa.aU p1).bind λab=>bif ab then some (.rt true)else(some<|.nx ()):Option (Fl Unit Bool))) ()).bind λad=>ad.cs (λ(o:Unit)=>some false)<|λr=>some r
def fP(N:Nat)(p0:List Net)(p1:aN):Option Bool:=
 (kb p0.length (λ(j:Nat)(o:Unit)=>((idx p0 (j:Int)).bind λaa=>(cO N aa.aO p1).bind λab=>bif ab then some (.rt true)else(some<|.nx ()):Option (Fl Unit Bool))) ()).bind λad=>ad.cs (λ(o:Unit)=>some false)<|λr=>some r
def cW(N:Nat)(p0:List aG)(p1:List aF)(p2:aF):Option Int:=
 bif decide ((p2.aM.length:Int)>1000)then some 2 else((kb p2.aM.length (λ(o:Nat)(ah:Unit)=>((idx p2.aM (o:Int)).bind λj=>(cD N j.Name).bind λai=>bif(!ai)then some (.rt 5)else(bif decide ((j.aU.length:Int)>500)then some (.rt 2)else((kb j.aU.length (λ(ab:Nat)(aj:Unit)=>((idx j.aU (ab:Int)).bind λad=>(ia N p0 p1 p2 ad).bind λak=>bif(!ak)then some (.rt 9)else((bif decide ((ab:Int)>0)then((idx j.aU<|wrap .i64<|(ab:Int) - 1).bind λal=>(gA N al ad).bind λan=>some<|!an)else some false).bind λao=>bif ao then some (.rt 8)else((Ao p2.aM 0 (o:Int)).bind λaq=>(ib N aq ad).bind λar=>bif ar then some (.rt 7)else some (.nx ()))):Option (Fl Unit Int))) ()).bind λau=>au.cs (λ(aj:Unit)=>bif decide ((j.aO.length:Int)>100)then some (.rt 2)else((kb j.aO.length (λ(ae:Nat)(av:Unit)=>((idx j.aO (ae:Int)).bind λaa=>(cO N p2.aO aa).bind λaw=>bif(!aw)then some (.rt 9)else((bif decide ((ae:Int)>0)then((idx j.aO<|wrap .i64<|(ae:Int) - 1).bind λaf=>some<|aa.jc af||aa.fY af)else some false).bind λax=>bif ax then some (.rt 8)else((Ao p2.aM 0 (o:Int)).bind λay=>(fP N ay aa).bind λaz=>bif az then some (.rt 7)else some (.nx ()))):Option (Fl Unit Int))) ()).bind λa0=>a0.cs (λ(av:Unit)=>(bif decide ((o:Int)>0)then((idx p2.aM<|wrap .i64<|(o:Int) - 1).bind λag=>some<|j.Name.jc ag.Name||j.Name.fY ag.Name)else some false).bind λa1=>bif a1 then some (.rt 8)else some (.nx ()))<|λr=>some<|.rt r))<|λr=>some<|.rt r)):Option (Fl Unit Int))) ()).bind λa2=>a2.cs (λ(ah:Unit)=>some 0)<|λr=>some r)
def iW(N:Nat)(p0:List aF)(p1 p2:Int):Option Bool:=
 (mk 1 (false:Bool) (p0.length:Int)).bind λae=>(tI (λ(o:List Bool×List Int)=>(bif decide ((o.2.length:Int)>0)then((idx o.2 0).bind λaf=>(Ao o.2 1 (o.2.length:Int)).bind λag=>(idx p0 af).bind λab=>(kb ab.Uses.length (λ(ah:Nat)(j:List Bool×List Int)=>((idx ab.Uses (ah:Int)).bind λai=>(cE N p0 ai.aF).bind λaa=>bif aa==p2 then some (.rt true)else((idx j.1 aa).bind λaj=>(bif(!aj)then((app 8 j.2 ([aa]:List Int)).bind λak=>(idx j.1 aa).bind λao=>some (j.1.set (Int.toNat aa) true,ak))else some (j.1,j.2)).bind λad=>some<|.nx (ad.1,ad.2)):Option (Fl (List Bool×List Int) Bool))) (o.1,ag)).bind λal=>al.cs (λ(j:List Bool×List Int)=>some<|.nx (j.1,j.2))<|λr=>some<|.rt r)else(some<|.br (o.1,o.2)):Option (Fl (List Bool×List Int) Bool))) N (ae,([p1]:List Int))).bind λan=>an.cs (λ(o:List Bool×List Int)=>some false)<|λr=>some r
def dK(N:Nat)(p0:List aG)(p1:List aF):Option Int:=
 (dW N p0).bind λaa=>bif aa != 0 then some aa else(bif decide ((p1.length:Int)>100)then some 2 else((kb p1.length (λ(o:Nat)(ai:Unit)=>((idx p1 (o:Int)).bind λj=>(cD N j.Name).bind λaj=>bif(!aj)then some (.rt 5)else(bif decide ((j.aO.length:Int)>100)then some (.rt 2)else((dX N j.aO).bind λab=>bif ab != 0 then some (.rt ab)else((dY N p0 j.bB).bind λad=>bif ad != 0 then some (.rt ad)else((eG N p1 j).bind λae=>bif ae != 0 then some (.rt ae)else((cW N p0 p1 j).bind λaf=>bif af != 0 then some (.rt af)else((bif decide ((o:Int)>0)then((idx p1<|wrap .i64<|(o:Int) - 1).bind λag=>some<|j.Name.jc ag.Name||j.Name.fY ag.Name)else some false).bind λak=>bif ak then some (.rt 8)else some (.nx ()))))))):Option (Fl Unit Int))) ()).bind λal=>al.cs (λ(ai:Unit)=>(kb p1.length (λ(ah:Nat)(an:Unit)=>((iW N p1 (ah:Int) (ah:Int)).bind λao=>bif ao then some (.rt 17)else(some<|.nx ()):Option (Fl Unit Int))) ()).bind λaq=>aq.cs (λ(an:Unit)=>some 0)<|λr=>some r)<|λr=>some r))
def eZ(N:Nat)(rc:List aF->Int->Option Int)(p0:List aF)(p1:Int):Option Int:=
 (idx p0 p1).bind λaa=>(kb aa.Uses.length (λ(ab:Nat)(j:Int)=>((idx aa.Uses (ab:Int)).bind λad=>(cE N p0 ad.aF).bind λae=>(rc p0 ae).bind λo=>bif decide ((if 2001<(wrap .i64<|j+o)then 2001 else wrap .i64 (j+o))>2000)then some (.rt (if 2001<(wrap .i64<|j+o)then 2001 else wrap .i64 (j+o)))else(some<|.nx (if 2001<(wrap .i64<|j+o)then 2001 else wrap .i64 (j+o))):Option (Fl Int Int))) 1).bind λaf=>af.cs (λ(j:Int)=>some j)<|λr=>some r
def fA(N:Nat):Nat->List aF->Int->Option Int
 | 0=>λ_ _=>none
 |d+1=>eZ N (fA N d)
def jM(N:Nat)(p0:List aF)(p1:Int):Option Int:=fA N N p0 p1
def eH(N:Nat)(p0_5:List Int)(p1:Int):Option Int:=
 (tI (λ(j:Int)=>((idx p0_5 j).bind λo=>bif o != j then((idx p0_5 j).bind λaa=>some<|.nx aa)else(some<|.br j):Option (Fl Int Empty))) N p1).bind λab=>ab.cs (λ(j:Int)=>some j)<|λr=>r.elim
def dJ(N:Nat)(p0_5:List Int)(p1:Int):Option Int:=
 (tI (λ(j:Int)=>((idx p0_5 j).bind λo=>bif o != j then((idx p0_5 j).bind λaa=>some<|.nx aa)else(some<|.br j):Option (Fl Int Empty))) N p1).bind λab=>ab.cs (λ(j:Int)=>some j)<|λr=>r.elim
def eI(N:Nat)(p0_5:List Int)(p1 p2:Int):Option (List Int):=
 (dJ N p0_5 p1).bind λj=>(dJ N p0_5 p2).bind λo=>(idx p0_5 (if j<o then o else j)).bind λaa=>some<|p0_5.set (Int.toNat (if j<o then o else j)) (if o<j then o else j)
def dE(N:Nat)(rc:List aF->List Part->List aN->List (List Pin)->List Int->Int->aN->List Int->Option (List Part×List aN×List (List Pin)×List Int))(p0_1:List aF)(p0_2:List Part)(p0_3:List aN)(p0_4:List (List Pin))(p0_5:List Int)(p1:Int)(p2:aN)(p3:List Int):Option (List Part×List aN×List (List Pin)×List Int):=
 (idx p0_1 p1).bind λj=>(kJ j.bB.length (λ(au:Nat)(ai:List Part)=>((idx j.bB (au:Int)).bind λan=>(mw p2 an.Name).bind λav=>(app 32 ai ([(⟨av,an.eD⟩:Part)]:List Part)).bind λaw=>some aw:Option (List Part))) p0_2).bind λai=>(kJ j.aM.length (λ(ab:Nat)(aa:List aN×List (List Pin)×List Int)=>((idx j.aM (ab:Int)).bind λae=>(mw p2 ae.Name).bind λax=>(app 16 aa.1 ([ax]:List aN)).bind λay=>(app 24 aa.2.1 [([]:List Pin)]).bind λaz=>(app 8 aa.2.2 ([wrap .i64<|(p0_3.length:Int)+(ab:Int)]:List Int)).bind λa0=>(kJ ae.aO.length (λ(a1:Nat)(af:List Int)=>((idx ae.aO (a1:Int)).bind λa2=>(gQ N j.aO a2).bind λa3=>(idx p3 a3).bind λao=>(bif decide (ao>=0)then((eI N af (wrap .i64<|(p0_3.length:Int)+(ab:Int)) ao).bind λa4=>some a4)else some af).bind λa5=>some a5:Option (List Int))) a0).bind λaf=>(kJ ae.aU.length (λ(a6:Nat)(ad:List (List Pin))=>((idx ae.aU (a6:Int)).bind λaj=>(eO N j.bB aj.Part).bind λa7=>(bif decide (a7>=0)then((idx ad<|wrap .i64<|(p0_3.length:Int)+(ab:Int)).bind λa8=>(mw p2 aj.Part).bind λa9=>(app 32 a8 ([(⟨a9,aj.Pin⟩:Pin)]:List Pin)).bind λba=>(idx ad<|wrap .i64<|(p0_3.length:Int)+(ab:Int)).bind λbp=>some<|ad.set (Int.toNat<|wrap .i64<|(p0_3.length:Int)+(ab:Int)) ba)else some ad).bind λbb=>some bb:Option (List<|List Pin))) az).bind λad=>some (ay,ad,af):Option (List aN×List (List Pin)×List Int))) (p0_3,p0_4,p0_5)).bind λaa=>(kJ j.Uses.length (λ(bc:Nat)(o:List Part×List aN×List (List Pin)×List Int)=>((idx j.Uses (bc:Int)).bind λag=>(cE N p0_1 ag.aF).bind λbd=>(idx p0_1 bd).bind λaq=>(kJ aq.aO.length (λ(bf:Nat)(ak:List Int)=>((idx aq.aO (bf:Int)).bind λbg=>(kJ j.aM.length (λ(ar:Nat)(al:Int)=>((idx j.aM (ar:Int)).bind λbh=>(fE N bh.aU (⟨ag.Name,bg⟩:Pin)).bind λbj=>(bif bj then some (wrap .i64<|(p0_3.length:Int)+(ar:Int))else some al).bind λbk=>some bk:Option Int))<|-1).bind λal=>(app 8 ak ([al]:List Int)).bind λbl=>some bl:Option (List Int))) ([]:List Int)).bind λak=>(cE N p0_1 ag.aF).bind λbm=>(mw p2 ag.Name).bind λbn=>(mw bn<|⟨[47]⟩).bind λbo=>(rc p0_1 o.1 o.2.1 o.2.2.1 o.2.2.2 bm bo ak).bind λah=>some (ah.1,ah.2.1,ah.2.2.1,ah.2.2.2):Option (List Part×List aN×List (List Pin)×List Int))) (ai,aa.1,aa.2.1,aa.2.2)).bind λo=>some (o.1,o.2.1,o.2.2.1,o.2.2.2)
def dF(N:Nat):Nat->List aF->List Part->List aN->List (List Pin)->List Int->Int->aN->List Int->Option (List Part×List aN×List (List Pin)×List Int)
 | 0=>λ_ _ _ _ _ _ _ _=>none
 |d+1=>dE N (dF N d)
def iy(N:Nat)(p0_1:List aF)(p0_2:List Part)(p0_3:List aN)(p0_4:List (List Pin))(p0_5:List Int)(p1:Int)(p2:aN)(p3:List Int):Option (List Part×List aN×List (List Pin)×List Int):=dF N N p0_1 p0_2 p0_3 p0_4 p0_5 p1 p2 p3
def iF(N:Nat)(p0:List aN):Option (List aN):=
 (app 16 ([]:List aN) p0).bind λj=>some j
def l4(N:Nat)(p0 p1:aN):Option Int:=
 bif((p1.bL.length:Int)==0)||p1.fY p0 then some 0 else(bif(p1.bL.length:Int)==1 then((y8 p1 0).bind λj=>(jd N p0 (j.toNat:Int)).bind λo=>some o)else(bif decide ((p1.bL.length:Int)>=(p0.bL.length:Int))then some (-1)else none))
def m0(N:Nat)(p0 p1:aN):Option Int:=
 (l4 N p0 p1).bind λj=>some j
def jw(N:Nat)(p0 p1:aN):Option Int:=
 bif(p1.bL.length:Int)==0 then none else(bif(p1.bL.length:Int)==1 then((y8 p1 0).bind λaa=>some ((Lib.countByte p0.bL (Int.toNat (aa.toNat:Int)).toUInt8:Nat):Int))else((tI (λ(j:aN×Int)=>((m0 N j.1 p1).bind λo=>bif o==(-1)then some (.rt j.2)else((yj j.1 (wrap .i64<|o+(p1.bL.length:Int)) (j.1.bL.length:Int)).bind λab=>some<|.nx (ab,wrap .i64<|j.2+1)):Option (Fl (aN×Int) Int))) N (p0,0)).bind λad=>ad.cs (λ(j:aN×Int)=>some 0)<|λr=>some r))
def gB(N:Nat)(p0 p1:aN):Option Bool:=
 (jw N p0<|⟨[47]⟩).bind λj=>(jw N p1<|⟨[47]⟩).bind λo=>some<|decide (j<o)||((j==o)&&p0.jc p1)
def dL(N:Nat)(p0:List Part):Option (List Part):=
 (kJ p0.length (λ(ad:Nat)(o:List Part)=>((idx p0 (ad:Int)).bind λaa=>(tI (λ(j:Int)=>((bif decide (j>0)then((idx o<|wrap .i64<|j - 1).bind λab=>some<|!(ab.Name.jc aa.Name||ab.Name.fY aa.Name))else some false).bind λae=>bif ae then some (.nx<|wrap .i64<|j - 1)else(some<|.br j):Option (Fl Int Empty))) N (o.length:Int)).bind λaf=>af.cs (λ(j:Int)=>(vQ 32 o j ([aa]:List Part)).bind λag=>some ag) (λr=>r.elim):Option (List Part))) ([]:List Part)).bind λo=>some o
def cY(N:Nat)(p0:List Pin):Option (List Pin):=
 (kJ p0.length (λ(ab:Nat)(o:List Pin)=>((idx p0 (ab:Int)).bind λaa=>(tI (λ(j:Int)=>((bif decide (j>0)then((idx o<|wrap .i64<|j - 1).bind λad=>(gA N aa ad).bind λae=>some ae)else some false).bind λaf=>bif af then some (.nx<|wrap .i64<|j - 1)else(some<|.br j):Option (Fl Int Empty))) N (o.length:Int)).bind λag=>ag.cs (λ(j:Int)=>(vQ 32 o j ([aa]:List Pin)).bind λah=>some ah) (λr=>r.elim):Option (List Pin))) ([]:List Pin)).bind λo=>some o
def gC(N:Nat)(p0_2:List Part)(p0_3:List aN)(p0_4:List (List Pin))(p0_5:List Int):Option bG:=
 (iF N p0_3).bind λai=>(mk 24 ([]:List Pin) (p0_3.length:Int)).bind λaj=>(kJ p0_3.length (λ(ad:Nat)(j:List aN×List (List Pin))=>((eH N p0_5 (ad:Int)).bind λo=>(idx p0_3 (ad:Int)).bind λak=>(idx j.1 o).bind λal=>(gB N ak al).bind λan=>(bif an then((idx p0_3 (ad:Int)).bind λao=>(idx j.1 o).bind λa2=>some<|j.1.set (Int.toNat o) ao)else some j.1).bind λaq=>(idx j.2 o).bind λar=>(idx p0_4 (ad:Int)).bind λau=>(app 32 ar au).bind λav=>(idx j.2 o).bind λa3=>some (aq,j.2.set (Int.toNat o) av):Option (List aN×List (List Pin)))) (ai,aj)).bind λj=>(dL N p0_2).bind λaw=>(kJ j.1.length (λ(ae:Nat)(aa:List Net)=>((idx j.2 (ae:Int)).bind λax=>bif(ax.length:Int)==0 then some aa else((idx j.1 (ae:Int)).bind λaf=>(idx j.2 (ae:Int)).bind λay=>(cY N ay).bind λag=>(tI (λ(ab:Int)=>((bif decide (ab>0)then((idx aa<|wrap .i64<|ab - 1).bind λah=>some<|!(ah.Name.jc ((⟨af,ag,([]:List aN)⟩:Net).Name)||ah.Name.fY ((⟨af,ag,([]:List aN)⟩:Net).Name)))else some false).bind λaz=>bif az then some (.nx<|wrap .i64<|ab - 1)else(some<|.br ab):Option (Fl Int Empty))) N (aa.length:Int)).bind λa0=>a0.cs (λ(ab:Int)=>(vQ 64 aa ab ([(⟨af,ag,([]:List aN)⟩:Net)]:List Net)).bind λa1=>some a1)<|λr=>r.elim):Option (List Net))) ([]:List Net)).bind λaa=>some (⟨aw,aa⟩:bG)
def ie(N:Nat)(p0:bG):Option Bool:=
 (kb p0.bB.length (λ(o:Nat)(aa:Unit)=>((idx p0.bB (o:Int)).bind λab=>bif decide ((ab.Name.bL.length:Int)>200)then some (.rt false)else(some<|.nx ()):Option (Fl Unit Bool))) ()).bind λad=>ad.cs (λ(aa:Unit)=>(kb p0.aM.length (λ(ae:Nat)(af:Unit)=>((idx p0.aM (ae:Int)).bind λj=>(bif decide ((j.Name.bL.length:Int)>200)then some true else some (decide<|(j.aU.length:Int)>500)).bind λag=>bif ag then some (.rt false)else(some<|.nx ()):Option (Fl Unit Bool))) ()).bind λah=>ah.cs (λ(af:Unit)=>(bif decide ((p0.bB.length:Int)<=1000)then some (decide<|(p0.aM.length:Int)<=1000)else some false).bind λai=>some ai)<|λr=>some r)<|λr=>some r
def cM(N:Nat)(p0:List aG)(p1:List aF)(p2:aN):Option (bG×Int):=
 (dK N p0 p1).bind λab=>bif ab != 0 then some ((⟨([]:List Part),([]:List Net)⟩:bG),ab)else((cE N p1 p2).bind λj=>bif decide (j<0)then some ((⟨([]:List Part),([]:List Net)⟩:bG),9)else((jM N p1 j).bind λag=>bif decide (ag>2000)then some ((⟨([]:List Part),([]:List Net)⟩:bG),2)else((idx p1 j).bind λah=>(mk 8 (0:Int) (ah.aO.length:Int)).bind λad=>(kJ ad.length (λ(ae:Nat)(o:List Int)=>((idx o (ae:Int)).bind λaj=>some (o.set (Int.toNat (ae:Int))<|-1):Option (List Int))) ad).bind λo=>(iy N p1 ([]:List Part) ([]:List aN) ([]:List (List Pin)) ([]:List Int) j (⟨[]⟩) o).bind λaa=>(gC N aa.1 aa.2.1 aa.2.2.1 aa.2.2.2).bind λaf=>(ie N af).bind λai=>bif(!ai)then some ((⟨([]:List Part),([]:List Net)⟩:bG),2)else some (af,0))))
def kD(N:Nat)(p0:List Part)(p1:List Part):Option Bool:=
 bif(p0.length:Int) != (p1.length:Int)then some false else((kb p0.length (λ(j:Nat)(o:Unit)=>((idx p0 (j:Int)).bind λaa=>(idx p1 (j:Int)).bind λab=>bif(!(decide<|aa=ab))then some (.rt false)else(some<|.nx ()):Option (Fl Unit Bool))) ()).bind λad=>ad.cs (λ(o:Unit)=>some true)<|λr=>some r)
def ld(N:Nat)(p0:List Pin)(p1:List Pin):Option Bool:=
 bif(p0.length:Int) != (p1.length:Int)then some false else((kb p0.length (λ(j:Nat)(o:Unit)=>((idx p0 (j:Int)).bind λaa=>(idx p1 (j:Int)).bind λab=>bif(!(decide<|aa=ab))then some (.rt false)else(some<|.nx ()):Option (Fl Unit Bool))) ()).bind λad=>ad.cs (λ(o:Unit)=>some true)<|λr=>some r)
def fF(N:Nat)(p0:List aN)(p1:List aN):Option Bool:=
 bif(p0.length:Int) != (p1.length:Int)then some false else((kb p0.length (λ(j:Nat)(o:Unit)=>((idx p0 (j:Int)).bind λaa=>(idx p1 (j:Int)).bind λab=>bif(!aa.fY ab)then some (.rt false)else(some<|.nx ()):Option (Fl Unit Bool))) ()).bind λad=>ad.cs (λ(o:Unit)=>some true)<|λr=>some r)
def iX(N:Nat)(p0 p1:bG):Option Bool:=
 ((kD N p0.bB p1.bB).bind λaa=>bif(!aa)then some true else some ((p0.aM.length:Int) != (p1.aM.length:Int))).bind λab=>bif ab then some false else((kb p0.aM.length (λ(j:Nat)(ad:Unit)=>((idx p0.aM (j:Int)).bind λo=>((idx p1.aM (j:Int)).bind λae=>bif(!o.Name.fY ae.Name)then some true else((idx p1.aM (j:Int)).bind λaf=>(ld N o.aU af.aU).bind λag=>bif(!ag)then some true else((idx p1.aM (j:Int)).bind λah=>(fF N o.aO ah.aO).bind λai=>some<|!ai))).bind λaj=>bif aj then some (.rt false)else(some<|.nx ()):Option (Fl Unit Bool))) ()).bind λak=>ak.cs (λ(ad:Unit)=>some true)<|λr=>some r)
def mI(N:Nat)(p0 p1:aN)(p2 p3:Int):Option (List aN):=
 bif p3==0 then some ([]:List aN)else(bif p1.fY (⟨[]⟩)then none else((bif decide (p3<0)then((jw N p0 p1).bind λab=>some<|wrap .i64<|ab+1)else some p3).bind λo=>(mk 16 (⟨[]⟩:aN) (if wrap .i64 ((p0.bL.length:Int)+1)<o then wrap .i64 ((p0.bL.length:Int)+1)else o)).bind λad=>(tI (λ(j:aN×List aN×Int)=>(bif decide (j.2.2< wrap .i64 ((if wrap .i64 ((p0.bL.length:Int)+1)<o then wrap .i64 ((p0.bL.length:Int)+1)else o) - 1))then((m0 N j.1 p1).bind λaa=>bif decide (aa<0)then some (.br (j.1,j.2.1,j.2.2))else((yj j.1 0<|wrap .i64<|aa+p2).bind λae=>(idx j.2.1 j.2.2).bind λai=>(yj j.1 (wrap .i64<|aa+(p1.bL.length:Int)) (j.1.bL.length:Int)).bind λaf=>some<|.nx (af,j.2.1.set (Int.toNat j.2.2) ae,wrap .i64<|j.2.2+1)))else(some<|.br (j.1,j.2.1,j.2.2)):Option (Fl (aN×List aN×Int) Empty))) N (p0,ad,0)).bind λag=>ag.cs (λ(j:aN×List aN×Int)=>(idx j.2.1 j.2.2).bind λaj=>(Ao (j.2.1.set (Int.toNat j.2.2) j.1) 0<|wrap .i64<|j.2.2+1).bind λah=>some ah)<|λr=>r.elim))
def pO(N:Nat)(p0 p1:aN):Option (List aN):=
 (mI N p0 p1 0<|-1).bind λj=>some j
def jN(N:Nat)(p0:List aN)(p1:aN->Option Bool):Option Int:=
 (kb p0.length (λ(j:Nat)(o:Unit)=>((idx p0 (j:Int)).bind λaa=>(p1 aa).bind λab=>bif ab then some (.rt (j:Int))else(some<|.nx ()):Option (Fl Unit Int))) ()).bind λad=>ad.cs (λ(o:Unit)=>some<|-1)<|λr=>some r
def iY(N:Nat)(p0:List aN)(p1:aN->Option Bool):Option Bool:=
 (jN N p0 p1).bind λj=>some<|decide<|j>=0
def l5(N:Nat)(p0:aN):Option Bool:=
 (cK N p0).bind λj=>some<|!j
def l6(N:Nat)(p0:aN):Option Bool:=
 (bif decide ((p0.bL.length:Int)<=200)then((pO N p0<|⟨[47]⟩).bind λj=>(iY N j<|l5 N).bind λo=>some<|!o)else some false).bind λaa=>some aa
def kS(N:Nat)(p0:Pin)(p1:List aG)(p2:bG):Option Bool:=
 (kP N p1 p2.bB p0).bind λj=>some j
def l7(N:Nat)(p0:List aG)(p1:bG):Option Int:=
 (fW N p0).bind λab=>bif ab != 0 then some ab else((fX N p0 p1.bB<|l6 N).bind λad=>bif ad != 0 then some ad else(bif decide ((p1.aM.length:Int)>1000)then some 2 else((kb p1.aM.length (λ(o:Nat)(ae:List (Pin×Bool))=>((idx p1.aM (o:Int)).bind λj=>(l6 N j.Name).bind λag=>bif(!ag)then some (.rt 5)else(bif(j.aU.length:Int)==0 then some (.rt 9)else((eM N j.aU (λy0=>kS N y0 p0 p1) ae).bind λaa=>bif aa.1 != 0 then some (.rt aa.1)else(bif decide ((j.aO.length:Int)>0)then some (.rt 3)else((bif decide ((o:Int)>0)then((idx p1.aM<|wrap .i64<|(o:Int) - 1).bind λaf=>some<|j.Name.jc af.Name||j.Name.fY af.Name)else some false).bind λah=>bif ah then some (.rt 8)else some (.nx aa.2))))):Option (Fl (List<|Pin×Bool) Int))) ([]:List (Pin×Bool))).bind λai=>ai.cs (λ(ae:List (Pin×Bool))=>some 0)<|λr=>some r)))
def qQ(N:Nat)(p0:bG):Option (List<|Pin×Int):=
 (kJ p0.aM.length (λ(aa:Nat)(j:List (Pin×Int))=>((idx p0.aM (aa:Int)).bind λab=>(kJ ab.aU.length (λ(ad:Nat)(o:List (Pin×Int))=>((idx ab.aU (ad:Int)).bind λae=>some (fM o ae (aa:Int)):Option (List<|Pin×Int))) j).bind λo=>some o:Option (List<|Pin×Int))) ([]:List (Pin×Int))).bind λj=>some j
def oy(N:Nat)(p0:List aG)(p1:Part):Option (List Pin):=
 (iU N p0 p1.eD).bind λaa=>(idx p0 aa).bind λo=>(kJ o.aU.length (λ(ab:Nat)(j:List Pin)=>((idx o.aU (ab:Int)).bind λad=>(app 32 j ([(⟨p1.Name,ad.Name⟩:Pin)]:List Pin)).bind λae=>some ae:Option (List Pin))) ([]:List Pin)).bind λj=>some j
def ny(N:Nat)(p0:List aG)(p1:bG):Option (List Pin):=
 (qQ N p1).bind λad=>(kJ p1.bB.length (λ(ae:Nat)(o:List Pin)=>((idx p1.bB (ae:Int)).bind λaf=>(oy N p0 af).bind λaa=>(kJ aa.length (λ(ag:Nat)(j:List Pin)=>((idx aa (ag:Int)).bind λab=>(bif(!(iP ad ab))then((app 32 j ([ab]:List Pin)).bind λah=>some ah)else some j).bind λai=>some ai:Option (List Pin))) o).bind λj=>some j:Option (List Pin))) ([]:List Pin)).bind λo=>some o
def pR(N:Nat)(p0:List aG)(p1:bG):Option (List Pin×Int):=
 (l7 N p0 p1).bind λj=>bif j != 0 then some (([]:List Pin),j)else((ny N p0 p1).bind λo=>some (o,0))
def jG(N:Nat):Option Bool:=
 (pR N ([(⟨⟨[114]⟩,([(⟨⟨[49]⟩,6,0⟩:bP)]:List bP)⟩:aG)]:List aG) (⟨([(⟨⟨[97]⟩,⟨[114]⟩⟩:Part)]:List Part),[]⟩:bG)).bind λj=>(bif j.2==0 then(bif(j.1.length:Int)==1 then((idx j.1 0).bind λo=>some<|decide<|o=(⟨⟨[97]⟩,⟨[49]⟩⟩:Pin))else some false)else some false).bind λaa=>some aa
def dC(N:Nat)(p0:List aG)(p1:List aF)(p2:aN):Option Bool:=
 (fT N p0 p1 p2).bind λj=>(cM N p0 p1 p2).bind λo=>((fW N p0).bind λaa=>(dW N p0).bind λab=>bif aa==ab then((gR N p0 p1).bind λad=>(dK N p0 p1).bind λae=>bif(ad==ae)&&(j.2==o.2)then((iX N j.1 o.1).bind λaf=>bif af then((jG N).bind λag=>some ag)else some false)else some false)else some false).bind λah=>some ah
end
def jf{R:Type}(m:Nat)(e:Nat->Option R):Option R:=(List.range m).findSome? e
theorem gS{R:Type}{m:Nat}{e:Nat->Option R}:jf m e=none↔∀k,k<m->e k=none:=by
 simp[jf]
theorem iR{R:Type}{m:Nat}{e:Nat->Option R}{r:R}:jf m e=some r↔∃k,k<m/\e k=some r/\∀j,j<k->e j=none:=by
 constructor
 ·intro h;obtain⟨l1,a,l2,hl,ha,hn⟩:=List.findSome?_eq_some_iff.1 h;have hlen:l1.length<m:=by have:=congrArg List.length hl;grind
  have hget:∀i,i<l1.length->l1[i]? =some i:=λi hi=>by
   have:=congrArg (·[i]?) hl
   grind
  have hat:a=l1.length:=by
   have:=congrArg (·[l1.length]?) hl
   grind
  grind
 ·rintro⟨k,hk,he,hn⟩;refine List.findSome?_eq_some_iff.2 ⟨List.range k,k,(List.range<|m - k - 1).map (· +(k+1)),?_,he,λx hx=>hn x<|lD.1 hx⟩;refine List.ext_getElem? λi=>?_
  by_cases h1:i<k
  ·grind
  ·rw[ja (by grind),List.length_range]
   by_cases h2:i=k
   all_goals grind
theorem AH{R:Type}{m:Nat}{e e':Nat->Option R}(h:∀k,k<m->(∀j,j<k->e j=none)->(∀j,j<k->e' j=none)->e k=e' k):jf m e=jf m e':=by
 have key:∀k,k<=m->(∀j,j<k->e j=none)->∀j,j<k->e' j=none:=by
  intro k
  induction k with
  |zero=>omega
  |succ k ih=>
   grind
 have key':∀k,k<=m->(∀j,j<k->e' j=none)->∀j,j<k->e j=none:=by
  intro k
  induction k with
  |zero=>omega
  |succ k ih=>
   grind
 cases hx:jf m e with
 |none=>
  grind [gS]
 |some r=>
  grind [iR]
theorem DA{R R':Type}{m:Nat}{e:Nat->Option R}(f:R->R'):(jf m e).map f=jf m (λk=>(e k).map f):=by
 cases hx:jf m e with
 |none=>grind [gS]
 |some r=>
  grind [iR]
section
variable {S R:Type}
def su(o:Option R)(s:S):Fl S R:=match o with|some r=> .rt r|none=> .nx s
def xv(o:Option R)(s:S):Fo S R:=match o with|some r=> .rt r|none=> .go s
theorem zN{body:Nat->S->Option (Fl S R)}(F:Nat->S)(e:Nat->Option R)(m:Nat):∀(n k:Nat),k+n=m->
  (∀j,k<=j->j<m->(∀i,k<=i->i<j->e i=none)->body j (F j)=some (su (e j)<|F<|j+1))->
  ∃o,yi body n k (F k)=some o/\((∀j,k<=j->j<m->e j=none)/\o = .go (F m)\/∃j r,k<=j/\j<m/\e j=some r/\(∀i,k<=i->i<j->e i=none)/\o = .rt r)
 | 0,k,hk,_=>⟨_,rfl, .inl ⟨λj h1 h2=>by omega,by grind⟩⟩
 |n+1,k,hk,h=>by
  have hb:=h k (bV _) (by omega) (λi h1 h2=>by omega);unfold yi;rw[hb]
  cases hx:e k with
  |some r=>exact⟨_,rfl, .inr ⟨k,r,bV _,by omega,hx,λi h1 h2=>by omega,rfl⟩⟩
  |none=>
   obtain⟨o,ho,hc⟩:=zN F e m n (k+1) (by omega) (λj h1 h2 h3=>h j (by omega) h2 λi h4 h5=>by
    grind)
   refine⟨o,ho,?_⟩
   rcases hc with⟨h1,h2⟩|⟨j,r,h1,h2,h3,h4,h5⟩
   ·refine .inl ⟨λj h3 h4=>?_,h2⟩
    by_cases h6:j=k
    ·subst h6;exact hx
    ·exact h1 j (by omega) h4
   ·refine .inr ⟨j,r,by omega,h2,h3,λi h6 h7=>?_,h5⟩
    by_cases h8:i=k
    ·subst h8;exact hx
    ·exact h4 i (by omega) h7
theorem Bs{body:Nat->S->Option (Fl S R)}{m:Nat}{s:S}(F:Nat->S)(e:Nat->Option R)(hm:m<=4611686018427387904)(hs:F 0=s)
  (h:∀k,k<m->(∀i,i<k->e i=none)->body k (F k)=some (su (e k)<|F<|k+1)):kb m body s=some (xv (jf m e)<|F m):=by
 subst hs;unfold kb;rw[aH hm];obtain⟨o,ho,hc⟩:=zN F e m m 0 (by omega)<|λj _ h2 h3=>h j h2 λi hi=>h3 i (la _) hi
 rw[ho]
 rcases hc with⟨h1,h2⟩|⟨j,r,_,h2,h3,h4,h5⟩
 ·rw[gS.2 λk hk=>h1 k (la _) hk,h2];rfl
 ·rw[iR.2 ⟨j,h2,h3,λi hi=>h4 i (la _) hi⟩,h5];rfl
theorem eE{body:Nat->Unit->Option (Fl Unit R)}{m:Nat}(e:Nat->Option R)(hm:m<=4611686018427387904)
  (h:∀k,k<m->(∀i,i<k->e i=none)->body k ()=some (su (e k) ())):kb m body ()=some (xv (jf m e) ()):=
 Bs (λ_=>()) e hm rfl h
theorem zO{body:Nat->S->Option S}(F:Nat->S):∀(n k:Nat),(∀j,k<=j->j<k+n->body j (F j)=some (F<|j+1))->Ak body n k (F k)=some (F<|k+n)
 | 0,_,_=>rfl
 |n+1,k,h=>by
  unfold Ak;rw[h k (bV _) (by omega)];have:=zO F n (k+1)<|λj h1 h2=>h j (by omega) (by omega)
  rw[show k+(n+1)=k+1+n by omega];exact this
theorem E0{body:Nat->S->Option S}{m:Nat}{s:S}(F:Nat->S)(hm:m<=4611686018427387904)(hs:F 0=s)
  (h:∀k,k<m->body k (F k)=some (F<|k+1)):kJ m body s=some (F m):=by
 subst hs
 simp_all[kJ,aH,zO,ik]
theorem wg{body:S->Option (Fl S R)}(Inv:S->Prop)(μ:S->Nat)(Go:S->Prop)(Rt:R->Prop)
  (h:∀s,Inv s->∃fl,body s=some fl/\match fl with| .nx s'=>Inv s'/\μ s'<μ s| .br s'=>Go s'| .rt r=>Rt r):
  ∀(N:Nat)(s:S),Inv s->μ s<N->∃o,tI body N s=some o/\match o with| .go s'=>Go s'| .rt r=>Rt r
 | 0,s,_,hn=>by omega
 |N+1,s,hi,hn=>by
  obtain⟨fl,hb,hf⟩:=h s hi;unfold tI;rw[hb]
  cases fl with
  |nx s'=>exact wg Inv μ Go Rt h N s' hf.1 (by have:=hf.2;omega)
  |br s'=>exact⟨_,rfl,hf⟩
  |rt r=>exact⟨_,rfl,hf⟩
theorem zP{body:Nat->S->Option (Fl S R)}(Inv:Nat->S->Prop)(Go:S->Prop)(Rt:R->Prop)(m:Nat)
  (h:∀k s,k<m->Inv k s->∃fl,body k s=some fl/\match fl with| .nx s'=>Inv (k+1) s'| .br s'=>Go s'| .rt r=>Rt r) (hg:∀s,Inv m s->Go s):
  ∀(n k:Nat)(s:S),k+n=m->Inv k s->∃o,yi body n k s=some o/\match o with| .go s'=>Go s'| .rt r=>Rt r
 | 0,k,s,hk,hi=>⟨_,rfl,hg s (by rw[<-hk];exact hi)⟩
 |n+1,k,s,hk,hi=>by
  obtain⟨fl,hb,hf⟩:=h k s (by omega) hi;unfold yi;rw[hb]
  cases fl with
  |nx s'=>exact zP Inv Go Rt m h hg n (k+1) s' (by omega) hf
  |br s'=>exact⟨_,rfl,hf⟩
  |rt r=>exact⟨_,rfl,hf⟩
theorem E1{body:Nat->S->Option (Fl S R)}{m:Nat}{s:S}(Inv:Nat->S->Prop)(Go:S->Prop)(Rt:R->Prop)(hm:m<=4611686018427387904)(h0:Inv 0 s)
  (h:∀k s,k<m->Inv k s->∃fl,body k s=some fl/\match fl with| .nx s'=>Inv (k+1) s'| .br s'=>Go s'| .rt r=>Rt r) (hg:∀s,Inv m s->Go s):
  ∃o,kb m body s=some o/\match o with| .go s'=>Go s'| .rt r=>Rt r:=by
 unfold kb;rw[aH hm];exact zP Inv Go Rt m h hg m 0 s (by omega) h0
theorem zQ{body:Nat->S->Option S}(Inv:Nat->S->Prop)(m:Nat)(h:∀k s,k<m->Inv k s->∃s',body k s=some s'/\Inv (k+1) s'):
  ∀(n k:Nat)(s:S),k+n=m->Inv k s->∃s',Ak body n k s=some s'/\Inv m s'
 | 0,k,s,hk,hi=>⟨_,rfl,by grind⟩
 |n+1,k,s,hk,hi=>by
  obtain⟨s',hb,hf⟩:=h k s (by omega) hi;unfold Ak;rw[hb];exact zQ Inv m h n (k+1) s' (by omega) hf
theorem E2{body:Nat->S->Option S}{m:Nat}{s:S}(Inv:Nat->S->Prop)(hm:m<=4611686018427387904)(h0:Inv 0 s)
  (h:∀k s,k<m->Inv k s->∃s',body k s=some s'/\Inv (k+1) s'):∃s',kJ m body s=some s'/\Inv m s':=by
 simp_all[kJ,aH,zQ]
end
section
variable {α β:Type}
theorem aA(x:α)(f:α->Option β):(some x).bind f=f x:=rfl
theorem m5(l:List α)(k:Nat)(h:k<l.length):idx l ((k:Nat):Int)=some l[k]:=by
 unfold idx;simp
theorem bQ{l:List α}{k:Nat}{x:α}(h:l[k]? =some x):idx l ((k:Nat):Int)=some x:=by
 grind [idx,dA]
theorem zR(s:aN)(k:Nat)(h:k<s.bL.length):y8 s ((k:Nat):Int)=some s.bL[k]:=by
 unfold y8;simp
theorem qo{k:Nat}(h:0<k)(hk:k<=4611686018427387904):wrap .i64 (((k:Nat):Int) - 1)=((k - 1:Nat):Int):=by
 grind [hG]
theorem ux(l:List α)(k:Nat)(h:k<=l.length):Ao l 0 ((k:Nat):Int)=some (l.take k):=by
 unfold Ao;grind
theorem DB(l:List α)(k:Nat)(h:k<=l.length):Ao l ((k:Nat):Int) ((l.length:Nat):Int)=some (l.drop k):=by
 grind [Ao,dA,Option.some.injEq,List.take_of_length_le,fJ]
theorem ig{b:Nat}{l ys:List α}(h:(l.length+ys.length)*b<=140737488355328):app b l ys=some (l++ys):=by grind [app]
theorem wh{b:Nat}(z:α){n:Nat}(h:n*b<=140737488355328):mk b z ((n:Nat):Int)=some (List.replicate n z):=by
 unfold mk
 grind
end
theorem aN.ext'{a b:aN}(h:a.bL=b.bL):a=b:=by cases a;simp_all
theorem ix{a b:aN}:a.fY b=true↔a=b:=by
 grind [aN.fY,aN.ext']
theorem oo{a b:aN}:a.fY b=false↔a≠b:=by grind [ix]
theorem E3(a b:aN):a.fY b=decide (a=b):=by grind [ix]
theorem uy(a:aN):a.fY a=true:=ix.2 rfl
theorem vF:∀(a:List UInt8),Op.bytesLess a a=false
 | []=>rfl
 |a::l=>by
  unfold Op.bytesLess;rw[vF l];simp
theorem wP:∀{a b c:List UInt8},Op.bytesLess a b=true->Op.bytesLess b c=true->Op.bytesLess a c=true
 | [],[],_,h,_=>by simp[Op.bytesLess]at h
 | [],_::_,[],_,h=>by simp[Op.bytesLess]at h
 | [],_::_,_::_,_,_=>rfl
 |_::_,[],_,h,_=>by simp[Op.bytesLess]at h
 |_::_,_::_,[],_,h=>by simp[Op.bytesLess]at h
 |a::l,b::m,c::n,h1,h2=>by
  unfold Op.bytesLess at h1 h2 ⊢;simp only[fK,cJ,il,beq_iff_eq]at h1 h2 ⊢
  rcases h1 with h1|⟨rfl,h1⟩
  ·rcases h2 with h2|⟨rfl,h2⟩
   ·exact .inl<|UInt8.lt_trans h1 h2
   ·exact .inl h1
  ·rcases h2 with h2|⟨rfl,h2⟩
   ·exact .inl h2
   ·exact .inr ⟨rfl,wP h1 h2⟩
theorem wQ:∀(a b:List UInt8),Op.bytesLess a b=true\/a=b\/Op.bytesLess b a=true
 | [],[]=> .inr (.inl rfl)
 | [],_::_=> .inl rfl
 |_::_,[]=> .inr (.inr rfl)
 |a::l,b::m=>by
  unfold Op.bytesLess;simp only[fK,cJ,il,beq_iff_eq]
  by_cases h1:a<b
  ·exact .inl<|.inl h1
  ·by_cases h2:b<a
   ·exact .inr<|.inr<|.inl h2
   ·have e:a=b:=by
     simp only[UInt8.lt_iff_toNat_lt]at h1 h2;exact UInt8.toNat_inj.1 (by omega)
    subst e
    rcases wQ l m with h|h|h
    ·exact .inl<|.inr ⟨rfl,h⟩
    ·exact .inr<|.inl (by rw[h])
    ·exact .inr<|.inr<|.inr ⟨rfl,h⟩
theorem mL:∀(a b:List UInt8),Lib.compareBytes a b<0↔Op.bytesLess a b=true
 | [],[]=>by simp[Lib.compareBytes,Op.bytesLess]
 | [],_::_=>by simp[Lib.compareBytes,Op.bytesLess]
 |_::_,[]=>by simp[Lib.compareBytes,Op.bytesLess]
 |a::l,b::m=>by
  unfold Lib.compareBytes Op.bytesLess;simp only[fK,cJ,il,beq_iff_eq];split
  ·simp_all
  ·rename_i h1;split
   ·rename_i h2;have h3:a≠b:=λe=>by subst e;exact h1 h2
    simp[h1,h3]
   ·rename_i h2;have e:a=b:=by
     simp only[UInt8.lt_iff_toNat_lt]at h1 h2;exact UInt8.toNat_inj.1 (by omega)
    subst e;rw[mL l m];simp[h1]
theorem jA:∀(a b:List UInt8),Lib.compareBytes a b=0↔a=b
 | [],[]=>by simp[Lib.compareBytes]
 | [],_::_=>by simp[Lib.compareBytes]
 |_::_,[]=>by simp[Lib.compareBytes]
 |a::l,b::m=>by
  unfold Lib.compareBytes;split
  ·rename_i h1;have h3:a≠b:=λe=>by subst e;exact absurd h1 (by simp)
   simp[h3]
  ·rename_i h1;split
   ·rename_i h2;have h3:a≠b:=λe=>by subst e;exact h1 h2
    simp[h3]
   ·rename_i h2;have e:a=b:=by
     simp only[UInt8.lt_iff_toNat_lt]at h1 h2;exact UInt8.toNat_inj.1 (by omega)
    subst e;rw[jA l m];simp
def aN.lt(a b:aN):Prop:=a.jc b=true
theorem aN.lt_irrefl(a:aN):¬aN.lt a a:=by simp[aN.lt,aN.jc,vF,decide]
theorem aN.lt_trans{a b c:aN}(h1:aN.lt a b)(h2:aN.lt b c):aN.lt a c:=wP h1 h2
theorem aN.kW(a b:aN):aN.lt a b\/a=b\/aN.lt b a:=by
 rcases wQ a.bL b.bL with h|h|h
 ·exact .inl h
 ·grind [aN.ext']
 ·exact .inr<|.inr h
theorem aN.sw{a b:aN}(h:aN.lt a b):a≠b:=by grind [aN.lt_irrefl]
theorem aN.lt_asymm{a b:aN}(h:aN.lt a b):¬aN.lt b a:=by grind [aN.lt_irrefl,aN.lt_trans]
theorem Bt{a b:aN}:(a.jc b||a.fY b)=false↔aN.lt b a:=by
 grind [Bool.or_eq_false_iff,oo,aN.kW,aN.lt,aN.sw,aN.lt_asymm]
end Go.Gk
namespace Go.Gk
open Go IntKind
class Bk (α:Type)where
 bk:α->Nat
 pos:∀x,1<=bk x
def bk{α:Type}[Bk α](x:α):Nat:=Bk.bk x
theorem AJ{α:Type}[Bk α](x:α):1<=bk x:=Bk.pos x
instance:Bk aN:=⟨λs=>s.bL.length+1,λ_=>by omega⟩
instance:Bk Int:=⟨λ_=>1,λ_=>by omega⟩
instance:Bk Bool:=⟨λ_=>1,λ_=>by omega⟩
instance {α:Type} [Bk α]:Bk (List α):=⟨λl=>(l.map bk).sum+1,λ_=>by omega⟩
theorem AK{α:Type}[Bk α]:bk ([]:List α)=1:=rfl
theorem uz{α:Type}[Bk α](x:α)(l:List α):bk (x::l)=bk x+bk l:=by
 rfl
theorem ji{α:Type}[Bk α]:∀{l:List α}{x:α},x∈l->bk x+1<=bk l
 |y::l,x,h=>by
  rw[uz]
  rcases jX.1 h with h|h
  ·subst h;have:=AJ l;omega
  ·have:=ji h;omega
theorem wR{α:Type}[Bk α]{l:List α}{k:Nat}{x:α}(h:l[k]? =some x):bk x+1<=bk l:=ji<|dD h
theorem dO{α:Type}[Bk α]:∀(l:List α),l.length+1<=bk l
 | []=>by rw[AK];simp
 |x::l=>by rw[uz,dM];have:=dO l;have:=AJ x;omega
theorem lI(s:aN):bk s=s.bL.length+1:=rfl
theorem Bu{α:Type}[Bk α]:∀(l:List α)(k:Nat),bk (l.take k)<=bk l
 | [],k=>by simp
 |x::l,0=>by rw[List.take_zero,AK];exact AJ _
 |x::l,k+1=>by rw[List.take_succ_cons,uz,uz];have:=Bu l k;omega
section
variable {α R:Type}
theorem B5{l:List α}{e:Nat->Option R}(f:α->Option R)(h:∀k x,l[k]? =some x->e k=f x):jf l.length e=l.findSome? f:=by
 cases hx:jf l.length e with
 |none=>
  grind [List.findSome?_eq_none_iff,gK,gS,bM]
 |some r=>
  obtain⟨k,hk,he,hn⟩:=iR.1 hx;refine(List.findSome?_eq_some_iff.2 ⟨l.take k,l[k],l.drop<|k+1,?_,?_,λy hy=>?_⟩).symm
  ·simp
  ·grind
  grind [gK,bM,cC,List.getElem?_take_of_lt]
theorem yJ(l:List α)(p:α->Bool)(r:R):l.findSome? (λx=>if p x=true then some r else none)=if l.any p=true then some r else none:=by
 induction l with
 |nil=>simp
 |cons x l ih=>
  grind
theorem wS{l:List α}{body:Nat->Unit->Option (Fl Unit R)}(f:α->Option R)(hl:l.length<=4611686018427387904)
  (h:∀k x,l[k]? =some x->body k ()=some (su (f x) ())):kb l.length body ()=some (xv (l.findSome? f) ()):=by
 have h2:=eE (body:=body) (m:=l.length) (λk=>(l[k]?).bind f) hl (λk hk _=>by
  grind)
 grind [B5]
theorem qY{l:List α}{body:Nat->Unit->Option (Fl Unit R)}(p:α->Bool)(r:R)(hl:l.length<=4611686018427387904)
  (h:∀k x,l[k]? =some x->body k ()=some (if p x=true then .rt r else .nx ())):kb l.length body ()=some (if l.any p=true then .rt r else .go ()):=by
 rw[wS (λx=>if p x=true then some r else none) hl (λk x hx=>by rw[h k x hx];cases p x <;> rfl),yJ]
 cases l.any p <;> rfl
end
section
variable {α β:Type}
def zS(l:List α)(p:α->Bool):Int:=match l.findIdx? p with|some k=>((k:Nat):Int)|none=> -1
theorem zT{l:List α}{p:α->Bool}(h:l.any p=false):zS l p = -1:=by
 unfold zS
 grind
theorem DC{l:List α}{p:α->Bool}{k:Nat}{x:α}(hk:l[k]? =some x)(hp:p x=true)(hn:∀j y,j<k->l[j]? =some y->p y=false):zS l p=((k:Nat):Int):=by
 unfold zS;have hlt:=(bM.1 hk).1;have:l.findIdx? p=some k:=by
  rw[List.findIdx?_eq_some_iff_getElem]
  grind
 rw[this]
theorem mM(l:List α)(p:α->Bool):(zS l p = -1/\∀x∈l,p x=false)\/∃k x,zS l p=((k:Nat):Int)/\l[k]? =some x/\p x=true/\∀j y,j<k->l[j]? =some y->p y=false:=by
 unfold zS
 cases h:l.findIdx? p with
 |none=>grind
 |some k=>
  grind [List.findIdx?_eq_some_iff_getElem,aP]
theorem AL(l:List α)(p:α->Bool):decide (zS l p>=0)=l.any p:=by
 grind [mM,List.any_eq_false,decide,mX,dD]
def oD(p0:List α)(p1:α->Option Bool):Option Int:=
 (kb p0.length (λ(k1:Nat)(_:Unit)=>((idx p0 ((k1:Nat):Int)).bind λx7=>(p1 x7).bind λx10=>bif x10 then some (.rt ((k1:Nat):Int))else(some<|.nx ()):Option (Fl Unit Int))) ()).bind λo11=>o11.cs (λ(_:Unit)=>some<|-1)<|λr=>some r
theorem km{l:List α}{φ:α->Option Bool}(p:α->Bool)(hl:l.length<=4611686018427387904)(h:∀x∈l,φ x=some (p x)):oD l φ=some (zS l p):=by
 unfold oD
 rw[eE (λk=>(l[k]?).bind λx=>if p x=true then some ((k:Nat):Int)else none) hl (λk hk _=>by
  grind [m5,aA,cB,aP,su]),aA]
 grind [mM,gS,aP,cB,xv,Fo.cs,iR,bM]
def lz(p0:List α)(p1:α->Option Bool):Option Bool:=
 (oD p0 p1).bind λx1=>some<|decide<|x1>=0
theorem mN{l:List α}{φ:α->Option Bool}(p:α->Bool)(hl:l.length<=4611686018427387904)(h:∀x∈l,φ x=some (p x)):lz l φ=some (l.any p):=by
 simp_all[lz,km,aA,AL]
def DD [DecidableEq α](p0:List α)(p1:α):Option Int:=
 (kb p0.length (λ(k2:Nat)(_:Unit)=>((idx p0 ((k2:Nat):Int)).bind λx12=>bif decide (p1=x12)then some (.rt ((k2:Nat):Int))else(some<|.nx ()):Option (Fl Unit Int))) ()).bind λo18=>o18.cs (λ(_:Unit)=>some<|-1)<|λr=>some r
theorem B6 [DecidableEq α]{l:List α}{a:α}(hl:l.length<=4611686018427387904):DD l a=some (zS l<|λx=>decide<|a=x):=by
 have:=km (l:=l) (φ:=λx=>some<|decide<|a=x) (λx=>decide<|a=x) hl<|λ_ _=>rfl
 rw[<-this];rfl
def s6 [DecidableEq α](p0:List α)(p1:α):Option Bool:=(DD p0 p1).bind λx3=>some<|decide<|x3>=0
theorem uA [DecidableEq α]{l:List α}{a:α}(hl:l.length<=4611686018427387904):s6 l a=some (decide<|a∈l):=by
 grind [s6,B6,aA,AL,Option.some.injEq]
def yK [DecidableEq α](p0 p1:List α):Option Bool:=
 bif((p0.length:Nat):Int) != ((p1.length:Nat):Int)then some false else((kb p0.length (λ(k1:Nat)(_:Unit)=>((idx p0 ((k1:Nat):Int)).bind λx13=>(idx p1 ((k1:Nat):Int)).bind λx16=>bif(!(decide<|x13=x16))then some (.rt false)else(some<|.nx ()):Option (Fl Unit Bool))) ()).bind λo23=>o23.cs (λ(_:Unit)=>some true)<|λr=>some r)
theorem vd [DecidableEq α]{l m:List α}(hl:l.length<=4611686018427387904):yK l m=some (decide<|l=m):=by
 unfold yK
 by_cases h:l.length=m.length
 ·have e:(((l.length:Nat):Int) != ((m.length:Nat):Int))=false:=by rw[h];simp
  rw[e,aW]
  rw[eE (λk=>if l[k]? =m[k]? then none else some false) hl (λk hk _=>by
   grind [m5,aA,aP,su]),aA]
  by_cases hx:l=m
  ·grind [gS,xv,Fo.cs]
  ·have:∃r,jf l.length (λk=>if l[k]? =m[k]? then none else some false)=some r:=by
    cases hf:jf l.length (λk=>if l[k]? =m[k]? then none else some false)with
    |some r=>simp
    |none=>
     exfalso;refine hx<|List.ext_getElem? λi=>?_
     grind [gS,List.getElem?_eq_none]
   grind [iR,xv,Fo.cs]
 ·have e:(((l.length:Nat):Int) != ((m.length:Nat):Int))=true:=by simp;omega
  rw[e,bK,bJ<|λh'=>h (by rw[h'])]
def eF(key:α->aN)(l:List α):Prop:=∀(i j:Nat)(x y:α),i<j->l[i]? =some x->l[j]? =some y->aN.lt (key x) (key y)
theorem B7{key:α->aN}{l:List α}(h:∀k x y,l[k]? =some x->l[k+1]? =some y->aN.lt (key x) (key y)):eF key l:=by
 intro i j
 induction j with
 |zero=>omega
 |succ j ih=>
  grind [bM,aN.lt_trans,aP]
theorem eF.inj{key:α->aN}{l:List α}(h:eF key l){i j:Nat}{x y:α}(hx:l[i]? =some x)(hy:l[j]? =some y)(e:key x=key y):i=j:=by
 rcases Nat.lt_trichotomy i j with h1|h1|h1
 ·exact absurd e<|aN.sw<|h i j x y h1 hx hy
 ·exact h1
 ·exact absurd e.symm<|aN.sw<|h j i y x h1 hy hx
def nat?(key:α->aN)(l:List α)(s:aN):Int:=zS l<|λx=>(key x).fY s
def DE(N:Nat)(p0:List α)(p1:β)(p2:α->β->Option Int):Option (Int×Bool):=
 (tI (λ(s2:Int×Int)=>(bif decide (s2.1<s2.2)then((idx p0<|wrap .i64<|Int.fdiv (wrap .u64<|wrap .i64<|s2.1+s2.2) 2).bind λx13=>(p2 x13 p1).bind λx16=>(bif decide (x16<0)then some (wrap .i64<|wrap .i64 (Int.fdiv (wrap .u64<|wrap .i64<|s2.1+s2.2) 2)+1,s2.2)else some (s2.1,wrap .i64<|Int.fdiv (wrap .u64<|wrap .i64<|s2.1+s2.2) 2)).bind λs17=>some<|.nx (s17.1,s17.2))else(some<|.br (s2.1,s2.2)):Option (Fl (Int×Int) Empty))) N (0,((p0.length:Nat):Int))).bind λo29=>o29.cs (λ(s2:Int×Int)=>(bif decide (s2.1<((p0.length:Nat):Int))then((idx p0 s2.1).bind λx25=>(p2 x25 p1).bind λx28=>some<|x28==0)else some false).bind λs23=>some (s2.1,s23))<|λr=>r.elim
theorem B8{a b:Nat}(h:a<b)(hb:b<=4611686018427387904):wrap .i64 (Int.fdiv (wrap .u64<|wrap .i64<|((a:Nat):Int)+((b:Nat):Int)) 2)=(((a+b) / 2:Nat):Int):=by
 rw[hG (x:=((a:Nat):Int)+((b:Nat):Int)) (by omega) (by omega)];have e:wrap .u64 (((a:Nat):Int)+((b:Nat):Int))=((a+b:Nat):Int):=by
  show((a:Int)+b) % 18446744073709551616=_;omega
 grind [Int.fdiv_eq_ediv_of_nonneg,hG]
theorem yL{N:Nat}{key:α->aN}{l:List α}{s:aN}{φ:α->aN->Option Int}(hφ:∀x,φ x s=some (Lib.compareBytes (key x).bL s.bL))(hs:eF key l)
  (hl:l.length<=1048576) (hN:4194304<=N):∃r,DE N l s φ=some r/\(bif(!r.2)then some (-1)else some r.1)=some (nat? key l s):=by
 unfold DE;have h:=wg (S:=Int×Int) (R:=Empty)
  (body:=(λ(s2:Int×Int)=>(bif decide (s2.1<s2.2)then((idx l<|wrap .i64<|Int.fdiv (wrap .u64<|wrap .i64<|s2.1+s2.2) 2).bind λx13=>(φ x13 s).bind λx16=>(bif decide (x16<0)then some (wrap .i64<|wrap .i64 (Int.fdiv (wrap .u64<|wrap .i64<|s2.1+s2.2) 2)+1,s2.2)else some (s2.1,wrap .i64<|Int.fdiv (wrap .u64<|wrap .i64<|s2.1+s2.2) 2)).bind λs17=>some<|.nx (s17.1,s17.2))else(some<|.br (s2.1,s2.2)):Option (Fl (Int×Int) Empty))))
  (λst=>∃a b:Nat,st=(((a:Nat):Int),((b:Nat):Int))/\a<=b/\b<=l.length/\(∀j x,j<a->l[j]? =some x->aN.lt (key x) s)/\(∀j x,b<=j->l[j]? =some x->¬aN.lt (key x) s))
  (λst=>(st.2 - st.1).toNat)
  (λst=>∃a:Nat,st.1=((a:Nat):Int)/\a<=l.length/\(∀j x,j<a->l[j]? =some x->aN.lt (key x) s)/\(∀j x,a<=j->l[j]? =some x->¬aN.lt (key x) s))
  (λ_=>True) (by
   rintro st⟨a,b,rfl,hab,hb,h1,h2⟩
   by_cases hlt:a<b
   ·have hm:(a+b) / 2<l.length:=by omega
    have hd:decide (((a:Nat):Int)<((b:Nat):Int))=true:=by grind
    simp only[hd,bK,B8 hlt (by omega),m5 l _ hm,aA,hφ]
    by_cases hc:Lib.compareBytes (key l[(a+b) / 2]).bL s.bL<0
    ·have hc':aN.lt (key l[(a+b) / 2]) s:=(mL _ _).1 hc;simp only[hc,decide_true,bK,aA];refine⟨_,rfl,⟨(a+b) / 2+1,b,?_,by omega,hb,λj x hj hx=>?_,h2⟩,?_⟩
     ·grind [hG]
     ·by_cases e:j=(a+b) / 2
      ·grind
      ·exact aN.lt_trans (hs j _ x _ (by omega) hx<|aP hm) hc'
     grind [hG]
    ·have hc':¬aN.lt (key l[(a+b) / 2]) s:=λh=>hc<|(mL _ _).2 h
     simp only[hc,decide_false,aW,aA];refine⟨_,rfl,⟨a,(a+b) / 2,rfl,by omega,by omega,h1,λj x hj hx=>?_⟩,by omega⟩
     by_cases e:j=(a+b) / 2
     ·grind
     ·exact λh3=>hc'<|aN.lt_trans (hs _ j _ x (by omega) (aP hm) hx) h3
   ·have hd:decide (((a:Nat):Int)<((b:Nat):Int))=false:=by rw[decide_eq_false_iff_not];omega
    simp only[hd,aW]
    exact⟨_,rfl,a,rfl,by omega,h1,λj x hj hx=>h2 j x (by omega) hx⟩)
  N (0,((l.length:Nat):Int)) ⟨0,l.length,rfl,by omega,bV _,λj x hj=>by omega,λj x hj hx=>by have:=(bM.1 hx).1;omega⟩ (by simp only;omega)
 obtain⟨o,ho,hc⟩:=h;rw[ho,aA]
 cases o with
 |rt r=>exact r.elim
 |go st=>
  obtain⟨a,ha,hle,h1,h2⟩:=hc;simp only[Fo.cs,ha]
  by_cases hlt:a<l.length
  ·have hd:decide (((a:Nat):Int)<((l.length:Nat):Int))=true:=by rw[il];omega
   simp only[hd,bK,m5 l _ hlt,aA,hφ];refine⟨_,rfl,?_⟩
   by_cases he:key l[a]=s
   ·have e0:Lib.compareBytes (key l[a]).bL s.bL=0:=(jA _ _).2 (by rw[he]);simp only[e0,BEq.rfl,lE,aW];unfold nat?;rw[DC (aP hlt) (ix.2 he) (λj y hj hy=>by rw[oo];exact aN.sw<|h1 j y hj hy)]
   ·have e0:(Lib.compareBytes (key l[a]).bL s.bL==0)=false:=by
     rw[beq_eq_false_iff_ne];intro h;exact he<|aN.ext'<|(jA _ _).1 h
    simp only[e0,ph,bK];unfold nat?;rw[zT];rw[List.any_eq_false];intro x hx;rw[lX,oo];obtain⟨j,hj⟩:=gK hx;intro hk
    by_cases hja:j<a
    ·exact aN.sw (h1 j x hja hj) hk
    ·by_cases e:j=a
     ·subst e;rw[aP hlt]at hj;injection hj with hj;subst hj;exact he hk
     ·have h3:=hs a j _ x (by omega) (aP hlt) hj;rw[hk]at h3;exact h2 a _ (bV _) (aP hlt) h3
  ·have hd:decide (((a:Nat):Int)<((l.length:Nat):Int))=false:=by rw[decide_eq_false_iff_not];omega
   simp only[hd,aW,aA];refine⟨_,rfl,?_⟩;simp only[ph,bK];unfold nat?;rw[zT];rw[List.any_eq_false];intro x hx;rw[lX,oo];obtain⟨j,hj⟩:=gK hx;have:=(bM.1 hj).1;exact aN.sw<|h1 j x (by omega) hj
def HA(key:α->aN)(p0:List α)(p1:aN):Option Int:=
 (kb p0.length (λ(k1:Nat)(_:Unit)=>((idx p0 ((k1:Nat):Int)).bind λx7=>bif(key x7).fY p1 then some (.rt ((k1:Nat):Int))else(some<|.nx ()):Option (Fl Unit Int))) ()).bind λo11=>o11.cs (λ(_:Unit)=>some<|-1)<|λr=>some r
theorem uB{key:α->aN}{l:List α}{s:aN}(hl:l.length<=4611686018427387904):HA key l s=some (nat? key l s):=by
 have:=km (l:=l) (φ:=λx=>some<|(key x).fY s) (λx=>(key x).fY s) hl<|λ_ _=>rfl
 unfold nat?;rw[<-this];rfl
def eB(key:α->aN)(l:List α)(k:Nat):Bool:=match l[k]?,l[k - 1]? with|some x,some y=>decide (0<k)&&((key x).jc (key y)||(key x).fY (key y))|_,_=>false
theorem lk(key:α->aN){l:List α}{k:Nat}{x:α}(hx:l[k]? =some x)(hl:l.length<=1048576):
  (bif decide (((k:Nat):Int)>0)then((idx l<|wrap .i64<|((k:Nat):Int) - 1).bind λy=>some<|(key x).jc (key y)||(key x).fY (key y))else some false)=some (eB key l k):=by
 grind [bM,eB,bR,qo,m5,aA,aP]
theorem jB{key:α->aN}{l:List α}(h:∀k,k<l.length->eB key l k=false):eF key l:=by grind [B7,bM,eB,sU,decide_true,Bt]
end
end Go.Gk
namespace Go.Gk
open Go IntKind Go.ChangeShapes Go.WideShapes Go.RowKit
structure UB (ub:(H:Type)->DataW H->Nat) (ua:(H:Type)->List (DataW H)->Nat):Prop where
 str:∀(H:Type)(b:List UInt8),ub H (.lit<|.string b)=b.length+1
 pos:∀(H:Type)(d:DataW H),1<=ub H d
 sl:∀(H:Type)(e s:List (DataW H)),ub H (.slice e s)=ua H e+ua H s+1
 ag:∀(H:Type)(l:List (DataW H)),ub H (.agg l)=ua H l+1
 nil:∀(H:Type),ua H []=0
 cons:∀(H:Type)(x:DataW H)(l:List (DataW H)),ua H (x::l)=ub H x+ua H l
def Hw(w:World):cL:=λb=>w.heap[b]?
structure iO (ub:(H:Type)->DataW H->Nat) (P:Program) (T:TypeId) (α:Type) [GT α] [Bk α]:Prop where
 trod:∀{H:Type}{enc:TypeId×Value->H}{w:World}{base:Nat}{spare:Nat->Bool}{held:Bool}{fuel:Nat}{cs:List Value}{d:DataW H×List MemPlace},
  DataW.trod enc P w base spare held fuel T cs=some d->∃x:α,GT.ok (Hw w) cs x/\bk x<=ub H d.1
 HN:∀{w:World}{r:Reach}{base:Nat}{v:Value},Value.okWide P w r base T v->v=rW α v.cells.toList
section
variable {ub:(H:Type)->DataW H->Nat}{ua:(H:Type)->List (DataW H)->Nat}{P:Program}{T e:TypeId}
theorem B9(u:UB ub ua)(ht:P.underlying T=some (.int .i64)):iO ub P T Int where
 trod:=λh=>by
  obtain⟨n,rfl,rfl,_⟩:=DataW.trod_int ht h;exact⟨n,rfl,u.pos _ _⟩
 HN:=λh=>by obtain⟨n,rfl⟩:=okWide_int ht h;rfl
theorem Ca(u:UB ub ua)(ht:P.underlying T=some .string):iO ub P T aN where
 trod:=λh=>by
  obtain⟨s,rfl,rfl,_⟩:=DataW.trod_string ht h;refine⟨⟨s.data.toList⟩,?_,?_⟩
  ·show [Value.string s]= [Gk.str ⟨s.data.toList⟩]
   cases s;rfl
  ·rw[u.str];exact bV _
 HN:=λh=>by obtain⟨n,rfl⟩:=okWide_string ht h;rfl
theorem vG{α:Type}{R:Nat->α->Prop}:∀(n:Nat),(∀i,i<n->∃x,R i x)->∃l:List α,l.length=n/\∀i x,l[i]? =some x->R i x
 | 0,_=>⟨[],rfl,λi x h=>by simp at h⟩
 |n+1,h=>by
  obtain⟨l,h1,h2⟩:=vG n<|λi hi=>h i (by omega)
  obtain⟨x,hx⟩:=h n (by omega);refine⟨l++[x],by simp[h1],λi y hy=>?_⟩
  by_cases hi:i<n
  ·rw[jW (by omega)]at hy;exact h2 i y hy
  ·have:=(bM.1 hy).1;rw[bY]at this;have:i=n:=by simp at this;omega
   subst this;rw[ja (by omega),h1]at hy;simp at hy;subst hy;exact hx
theorem xV{H α:Type}[Bk α](u:UB ub ua):∀{l:List α}{es:List (DataW H×List MemPlace)},l.length=es.length->
  (∀(i:Nat)(x:α)(y:DataW H×List MemPlace),l[i]? =some x->es[i]? =some y->bk x<=ub H y.1)->bk l<=ua H (es.map (·.1))+1
 | [],[],_,_=>by rw[AK];omega
 |x::l,y::es,hl,h=>by
  have h1:=h 0 x y rfl rfl;have h2:=xV (H:=H) u (l:=l) (es:=es) (by simpa using hl)<|λi x y hx hy=>h (i+1) x y (by simpa using hx) (by simpa using hy)
  rw[uz,fR,u.cons];omega
theorem zU{w:World}{base:Nat}{a:Addr}{n:Nat}{cs:List Value}(h:w.cells? base a n=some cs):At (Hw w) a cs:=by
 intro j v hv;obtain⟨_,hlen,hc⟩:=World.cells?_some h;have hj:=(bM.1 hv).1;have h2:=hc j (by omega);rw[hv]at h2;unfold uf Hw;unfold World.cell? at h2;exact h2
theorem kX{α:Type}[GT α][Bk α](u:UB ub ua)(he:iO ub P e α)(ht:P.underlying T=some (.slice e):=by kernel_rfl)(hc:P.cellsOf e=GT.sz α:=by kernel_rfl):iO ub P T (List α)where
 trod:=λ{H enc w base spare held fuel cs d}h=>by
  rcases DataW.trod_slice ht h with⟨rfl,rfl⟩|⟨a,len,cap,elems,rest,n,_,rfl,rfl,_,hlc,hcm,hlen,hel,_⟩
  ·exact⟨[],⟨_,rfl,none,0,0,rfl,rfl,bV _,by simp[maxLen],λi x hx=>by simp at hx⟩,u.pos _ _⟩
  ·have each:∀i,i<len->∃x:α,(∃c y,GT.ok (Hw w) c x/\At (Hw w) (a.add<|i*GT.sz α) c/\elems[i]? =some y/\bk x<=ub H y.1):=by
    intro i hi;have h1:=hel i hi;rw[aP (by omega:i<elems.length),Option.bind_eq_some_iff]at h1;obtain⟨c,h2,h3⟩:=h1;obtain⟨x,h4,h5⟩:=he.trod h3;refine⟨x,c,_,h4,?_,aP (by omega),h5⟩;rw[hc]at h2;exact zU h2
   obtain⟨l,hl,hr⟩:=vG len each;refine⟨l,⟨_,rfl,some a,len,cap,rfl,hl.symm,hlc,hcm,λi x hx=>?_⟩,?_⟩
   ·obtain⟨c,y,h1,h2,_⟩:=hr i x hx;exact⟨a,c,rfl,h1,h2⟩
   ·have:=xV (H:=H) u (l:=l) (es:=elems) (by omega) (λi x y hx hy=>by
     obtain⟨c,y',_,_,h3,h4⟩:=hr i x hx
     rw[hy]at h3;injection h3 with h3;subst h3;exact h4)
    rw[u.sl];omega
 HN:=λh=>by obtain⟨a,n,c,rfl⟩:=okWide_slice ht h;rfl
def Bv(ub:(H:Type)->DataW H->Nat)(ua:(H:Type)->List (DataW H)->Nat)(P:Program)(off:Nat)(fs:List Field)(β:Type)[GT β](m:β->Nat):Prop:=
 ∀{H:Type}{enc:TypeId×Value->H}{w:World}{base:Nat}{spare:Nat->Bool}{held:Bool}{n:Nat}{cs:List Value}{ys:List (DataW H×List MemPlace)},
  (∀(i:Nat)(f:Field),fs[i]? =some f->DataW.trod enc P w base spare held n f.type ((cs.drop f.offset).take<|P.cellsOf f.type)=ys[i]?)->ys.length=fs.length->
  cs.length=off+GT.sz β->∃x:β,GT.ok (Hw w) (cs.drop off) x/\m x<=ua H (ys.map (·.1))
theorem mO{β:Type}[GT β][Bk β]{off:Nat}{f:Field}(u:UB ub ua)(h:iO ub P f.type β)(ho:f.offset=off:=by exact rfl)(hc:P.cellsOf f.type=GT.sz β:=by kernel_rfl):Bv ub ua P off [f] β bk:=by
 intro H enc w base spare held n cs ys hf hl hcs
 match ys,hl with
 | [y],_=>
  have h1:=hf 0 f rfl;rw[ho,hc,List.take_of_length_le (by rw[fJ];omega)]at h1;obtain⟨x,h2,h3⟩:=h.trod (d:=y) h1;exact⟨x,h2,by rw[fR,u.cons];omega⟩
theorem iA{α β:Type}[GT α][GT β][Bk α]{off off':Nat}{f:Field}{fs:List Field}{m:β->Nat}(u:UB ub ua)(h:iO ub P f.type α)(hr:Bv ub ua P off' fs β m)(ho:f.offset=off:=by exact rfl)(hc:P.cellsOf f.type=GT.sz α:=by kernel_rfl)(hoff:off'=off+GT.sz α:=by exact rfl):Bv ub ua P off (f::fs) (α×β) (λx=>bk x.1+m x.2):=by
 intro H enc w base spare held n cs ys hf hl hcs;have hsz:GT.sz (α×β)=GT.sz α+GT.sz β:=rfl
 match ys,hl with
 |y::ys,hl=>
  have h1:=hf 0 f rfl;rw[ho,hc]at h1;obtain⟨x,h2,h3⟩:=h.trod (d:=y) h1;obtain⟨x',h4,h5⟩:=hr (n:=n) (cs:=cs) (ys:=ys) (λi g hg=>hf (i+1) g hg) (by simpa using hl) (by omega);refine⟨(x,x'),⟨_,_,?_,h2,h4⟩,?_⟩
  ·rw[hoff,<-List.drop_drop,List.take_append_drop]
  ·rw[fR,u.cons];show bk x+m x'<=_;omega
theorem j9{γ β:Type}[GT β][Bk γ]{fs:Array Field}{m:β->Nat}(u:UB ub ua)(f:γ->β)(g:β->γ)(hfg:∀b,f (g b)=b)(ht:P.underlying T=some (.struct fs))(h:Bv ub ua P 0 fs.toList β m)(hm:∀b,bk (g b)<=m b+1)(hc:P.cellsOf T=GT.sz β:=by kernel_rfl): @iO ub P T γ (GT.via f) _:=
 @iO.mk ub P T γ (GT.via f) _
  (λ{H enc w base spare held fuel cs d}hd=>by
   obtain⟨xs,n,_,rfl,hl,hlen,hf⟩:=DataW.trod_struct ht hd;obtain⟨b,h1,h2⟩:=h (n:=n) (cs:=cs) (ys:=xs) (λi g hg=>hf i g (by rw[<-Array.getElem?_toList];exact hg)) (by rw[hlen];simp) (by omega);refine⟨g b,?_,?_⟩
   ·show GT.ok (Hw w) cs (f<|g b);rw[hfg];exact h1
   ·rw[u.ag];have:=hm b;omega)
  (λhv=>by
   obtain⟨cs,rfl,_⟩:=okWide_struct ht hv
   cases cs;rfl)
theorem iO.arg{H:Type}{enc:TypeId×Value->H}{w:World}{base:Nat}{spare:Nat->Bool}{held:Bool}{r:Reach}{b0:Nat}{v:Value}{d:DataW H}{ps:List MemPlace}{α:Type}[GT α][Bk α](o:iO ub P T α)
  (hv:Value.okWide P w r b0 T v) (hd:DataW.Trod enc P w base spare held T v d ps):∃x:α,tu (Hw w) v x/\bk x<=ub H d:=by
 obtain⟨fuel,hf⟩:=hd;obtain⟨x,h1,h2⟩:=o.trod hf;exact⟨x,⟨_,o.HN hv,h1⟩,h2⟩
theorem iO.Jg{H:Type}{enc:TypeId×Value->H}{w:World}{base:Nat}{spare:Nat->Bool}{held:Bool}{r:Reach}{b0:Nat}{v:Value}{d:DataW H}{ps:List MemPlace}{α:Type}[Sc α][Bk α](o:iO ub P T α)
  (hv:Value.okWide P w r b0 T v) (hd:DataW.Trod enc P w base spare held T v d ps):∃x:α,v=Sc.toV x/\bk x<=ub H d:=by
 obtain⟨x,h1,h2⟩:=o.arg hv hd;exact⟨x,wm.1 h1,h2⟩
end
theorem Calls.fin{P:Program}{f:FuncId}{args:Array Value}{w:World}{R Q:Value->World->Prop}(h:Calls P f args w (fD R))(k:∀v w',R v w'->Q v w'):
  Calls P f args w (λe W'=>∃v,e = .returned v/\Q v W'):=Calls.mono h λ_ w'⟨v,e,hr⟩=>⟨v,e,k v w' hr⟩
def Cb(W:World):HP:=⟨λM h=>hle (Hw W) M/\h=ou,λk⟨a,b⟩=>⟨BG a k,b⟩⟩
theorem Holds.begin(W:World):Holds W W [Cb W]:=by
 refine⟨Hw W,λ_=>ou,⟨rfl,rfl,rfl,bV _,λb o h=>h,λi Pr hq=>?_,λ_ _ _ _ h=>(by cases h),λ_ _ _ _ h=>(by cases h),λ_ _ _ _ _ _ _ h=>(by cases h)⟩⟩
 match i,hq with
 | 0,hq=>simp at hq;subst hq;exact⟨CR _,rfl⟩
theorem Holds.FE{α:Type}[GT α]{W:World}{V:List HP}{v:Value}{x:α}(h:Holds W W (V++[Cb W]))(hv:Gk.tu (Hw W) v x):Holds W W (rd v x::(V++[Cb W])):=
 h.vO λM hs g=>by
  have h1:=(g.sat V.length (Cb W) (by simp)).1;exact⟨hv.mono h1,rfl⟩
theorem Holds.kept{E W w:World}{V:List HP}(h:Holds E w (V++[Cb W]))(he:E=W):Below W.heap.size W w:=by
 subst he;obtain⟨M,hs,g⟩:=h;have h1:=(g.sat V.length (Cb E) (by simp)).1;have h2:∀k o,E.heap[k]? =some o->w.heap[k]? =some o:=λk o ho=>g.im k o<|h1 k o ho
 refine⟨g.os,g.tape,g.out,?_,λk hk=>?_⟩
 ·by_cases h0:E.heap.size=0
  ·omega
  ·have h3:=h2 (E.heap.size - 1) _<|i9 (by omega)
   have:=(Array.getElem?_eq_some_iff.1 h3).1;omega
 ·rw[i9 hk];exact h2 k _<|i9 hk
section
variable {H:Type}{enc:TypeId×Value->H}{P:Program}
theorem Cc{f:Func}{s:ChangeSpec}{apart fresh handsOn again:Bool}{W W':World}{args:Array Value}{v:Value}{ds gs:List (DataW H)}{before pa pv:List MemPlace}
  (hW:DataW.Whole enc P f.params.toList s.vars apart W args.toList ds gs before)
  (hres:∀(b:Nat)(sp:Nat->Bool)(hd:Bool),DataW.TrodAll enc P W' b sp hd f.resultTypes.toList (v.resultList f.resultTypes.size) (s.fn H<|ds++gs).results [])
  (hargs:∀sp:Nat->Bool,(∀p∈before,sp p.block=true)->DataW.TrodAll enc P W' 0 sp true f.params.toList args.toList (s.fn H<|ds++gs).args pa)
  (hvars:∀sp:Nat->Bool,(∀p∈before,sp p.block=true)->DataW.TrodVars enc P W' sp s.vars (s.fn H<|ds++gs).vars pv)
  (hps:before=pa++pv) (hb:Below W.heap.size W W')
  (hok:∀(j:Nat)(t:TypeId)(r:Value),f.resultTypes[j]? =some t->(v.resultList f.resultTypes.size)[j]? =some r->Value.okWide P W' .any 0 t r):
  s.post enc P f apart fresh handsOn again W args v W':=by
 have hlt:∀p∈before,p.block<W.heap.size:=λp hp=>hW.lt p hp;have hold:∀p∈before,(λb=>decide<|b<W.heap.size) p.block=true:=λp hp=>by simpa using hlt p hp
 refine⟨ds,gs,before,[],pa,pv,hW,hres _ _ _,hargs _ hold,hvars _ hold,World.keptBut_mono (λp hp=>⟨hp,?_⟩)<|hb.frame (· ∈before),λ_=>?_⟩
 ·rw[hps,kK]at hp;exact Or.inr hp
 ·obtain⟨_,_,_,_,_,hz,hn⟩:=hW;refine⟨hok,_,_,([]++pa)++pv,⟨[]++pa,pv,trodAll_append (hargs _<|λ_ _=>rfl)<|hres _ _ _,hvars _<|λ_ _=>rfl,rfl,?_,?_⟩,?_⟩
  ·intro b off hp;have hin:MemPlace.cell b off∈before:=by rw[hps];simpa using hp
   rw[hb.frozen<|hlt _ hin];exact hz b off hin
  ·intro ha;have:=hn ha;rw[hps]at this;simpa using this
  ·intro p hp _;rw[hps];simpa using hp
theorem tC{W W':World}(hl:laidOutB P=true)(hb:Below W.heap.size W W'){sp:Nat->Bool}:∀{ts:List TypeId}{vs:List Value}{ds:List (DataW H)}{ps:List MemPlace},
  (∀t∈ts,P.readableRec t=true/\t<P.types.size)->DataW.TrodAll enc P W 0 (λ_=>true) true ts vs ds ps->(∀p∈ps,p.block<W.heap.size)->(∀p∈ps,sp p.block=true)->DataW.TrodAll enc P W' 0 sp true ts vs ds ps
 | [],_,_,_,_,h,_,_=>by
  obtain⟨rfl,rfl,rfl⟩:=trodAll_nil h;rfl
 |t::ts,_,_,_,ht,h,hlt,hsp=>by
  obtain⟨v,vs,d,ds,p,q,rfl,rfl,rfl,h1,h2⟩:=trodAll_cons h;refine⟨p,q,?_,tC hl hb (λt h=>ht t (by simp[h])) h2 (λx hx=>hlt x (by simp[hx]))<|λx hx=>hsp x (by simp[hx]),rfl⟩;exact WideElems.Trod_stays hl (ht t (by simp)).1 (ht t (by simp)).2 h1 (λx hx=>hb.same<|hlt x (by simp[hx]))<|λx hx=>hsp x (by simp[hx])
end
end Go.Gk
namespace Go.Gk
open Go IntKind
instance:Bk bP:=⟨λx=>bk x.Name+bk x.Kind+bk x.bT+1,λ_=>by omega⟩
theorem tW(x:bP):bk x=bk x.Name+bk x.Kind+bk x.bT+1:=rfl
instance:Bk aG:=⟨λx=>bk x.Name+bk x.aU+1,λ_=>by omega⟩
theorem m9(x:aG):bk x=bk x.Name+bk x.aU+1:=rfl
instance:Bk Part:=⟨λx=>bk x.Name+bk x.eD+1,λ_=>by omega⟩
theorem yM(x:Part):bk x=bk x.Name+bk x.eD+1:=rfl
instance:Bk ln:=⟨λx=>bk x.Name+bk x.aF+1,λ_=>by omega⟩
theorem AM(x:ln):bk x=bk x.Name+bk x.aF+1:=rfl
instance:Bk Pin:=⟨λx=>bk x.Part+bk x.Pin+1,λ_=>by omega⟩
theorem DF(x:Pin):bk x=bk x.Part+bk x.Pin+1:=rfl
instance:Bk Net:=⟨λx=>bk x.Name+bk x.aU+bk x.aO+1,λ_=>by omega⟩
theorem ve(x:Net):bk x=bk x.Name+bk x.aU+bk x.aO+1:=rfl
instance:Bk aF:=⟨λx=>bk x.Name+bk x.aO+bk x.bB+bk x.Uses+bk x.aM+1,λ_=>by omega⟩
theorem na(x:aF):bk x=bk x.Name+bk x.aO+bk x.bB+bk x.Uses+bk x.aM+1:=rfl
instance:Bk bG:=⟨λx=>bk x.bB+bk x.aM+1,λ_=>by omega⟩
instance:Bk bI:=⟨λx=>bk x.e0+bk x.e1+1,λ_=>by omega⟩
instance:Bk aC:=⟨λx=>bk x.path+bk x.words+1,λ_=>by omega⟩
section
variable {N:Nat}
def Cd(c:UInt8):Bool:=
 (((decide (((c.toNat:Nat):Int)<65)||decide (((c.toNat:Nat):Int)>90))&&(decide (((c.toNat:Nat):Int)<97)||decide (((c.toNat:Nat):Int)>122)))&&(decide (((c.toNat:Nat):Int)<48)||decide (((c.toNat:Nat):Int)>57)))&&decide (Lib.indexByte [95,43,45,35] c<0)
def isWord(s:aN):Bool:= !s.bL.any Cd&&(decide (1<=s.bL.length)&&decide (s.bL.length<=40))
theorem yP(s:aN)(c:UInt8):iq N s ((c.toNat:Nat):Int)=some (Lib.indexByte s.bL c):=by
 show some (Lib.indexByte s.bL (Int.toNat ((c.toNat:Nat):Int)).toUInt8)=_;simp
theorem wU{R:Type}(b1:Bool)(c:UInt8)(r:R):
  ((bif b1 then((iq N (⟨[95,43,45,35]⟩) ((c.toNat:Nat):Int)).bind λx14=>some<|decide<|x14<0)else some false).bind λs12=>bif s12 then some (.rt r)else(some<|.nx ()):Option (Fl Unit R))=some (if(b1&&decide (Lib.indexByte [95,43,45,35] c<0))=true then .rt r else .nx ()):=by
 rw[yP,aA]
 grind
theorem gN{s:aN}(h:s.bL.length<=2097152):cK N s=some (isWord s):=by
 unfold cK
 rw[qY Cd false (by omega) (λk x hx=>by
  have hk:=(bM.1 hx).1;have e:y8 s ((k:Nat):Int)=some x:=by grind [zR,aP]
  rw[e,aA]
  exact wU (R:=Bool) _ x false),aA]
 unfold isWord
 grind [Cd,Fo.cs,ph,Bool.false_eq_true,Option.some.injEq]
theorem jD{s:aN}(h:s.bL.length<=2097152):cD N s=some (isWord s):=by
 unfold cD
 rw[qY Cd false (by omega) (λk x hx=>by
  have hk:=(bM.1 hx).1;have e:y8 s ((k:Nat):Int)=some x:=by rw[zR s k hk,<-aP hk,hx]
  rw[e,aA];refine(wU (R:=Bool) _ x false).trans ?_;unfold Cd
  rw[Bool.and_comm (_||_) (_||_)]),aA]
 unfold isWord dI
 cases s.bL.any Cd
 ·simp only[Fo.cs,aA,ph,Bool.true_and,Bool.false_eq_true,if_false,Option.some.injEq];rw[lY,cJ,cJ];simp only[il];omega
 ·simp[Fo.cs]
def cutAt(c:UInt8):List UInt8->List (List UInt8)
 | []=>[[]]
 |b::l=>if b==c then []::cutAt c l else match cutAt c l with|h::t=>(b::h)::t| []=>[[b]]
theorem rq{c:UInt8}:∀{l:List UInt8},c∉l->cutAt c l= [l]
 | [],_=>rfl
 |b::l,h=>by
  unfold cutAt;have hb:(b==c)=false:=by rw[beq_eq_false_iff_ne];rintro rfl;exact h (by simp)
  rw[hb,rq<|λh'=>h (by simp[h'])];rfl
theorem uF{c:UInt8}:∀{a b:List UInt8},c∉a->cutAt c (a++c::b)=a::cutAt c b
 | [],b,_=>by rw[List.nil_append];show(if(c==c)=true then _ else _)=_;simp
 |x::a,b,h=>by
  have hb:(x==c)=false:=by rw[beq_eq_false_iff_ne];rintro rfl;exact h (by simp)
  have ih:=uF (c:=c) (a:=a) (b:=b)<|λh'=>h (by simp[h'])
  show(if(x==c)=true then []::cutAt c (a++c::b)else match cutAt c (a++c::b)with|h::t=>(x::h)::t| []=>[[x]])=_;rw[hb,ih];rfl
theorem zW(s:aN)(c:UInt8):jw N s ⟨[c]⟩=some ((s.bL.count c:Nat):Int):=by
 unfold jw;show(some _:Option Int)=_;simp[Lib.countByte]
def DG(s:aN)(c:UInt8):List aN:=(cutAt c s.bL).map aN.mk
def t6(s:aN):Bool:=decide (s.bL.length<=200)&&(DG s 47).all isWord
end
def Ok{β:Type}(o:Option β)(P:β->Prop):Prop:=∃r,o=some r/\P r
section
variable {α β S R:Type}{P:α->Prop}{Q:β->Prop}
theorem Kn{x:β}(h:Q x):Ok (some x) Q:=⟨x,rfl,h⟩
theorem MW{o:Option β}{x:β}(h:o=some x)(hq:Q x):Ok o Q:=⟨x,h,hq⟩
theorem Ok.mono{o:Option α}{P':α->Prop}(h:Ok o P)(k:∀x,P x->P' x):Ok o P':=by obtain⟨x,h1,h2⟩:=h;exact⟨x,h1,k x h2⟩
theorem KA{o:Option α}{f:α->Option β}(h:Ok o P)(k:∀x,P x->Ok (f x) Q):Ok (o.bind f) Q:=by
 obtain⟨x,h1,h2⟩:=h;grind
theorem MX{o:Option α}{f:α->Option β}{x:α}(h:o=some x)(k:Ok (f x) Q):Ok (o.bind f) Q:=by grind
theorem MY{b:Bool}{x y:Option β}(ht:b=true->Ok x Q)(hf:b=false->Ok y Q):Ok (bif b then x else y) Q:=by
 grind
theorem Lr{o:Option β}{x:β}(h:Ok o (λr=>r=x)):o=some x:=by obtain⟨r,h1,h2⟩:=h;rw[h1,h2]
def Gr(Go:S->Prop)(Rt:R->Prop):Fo S R->Prop| .go s=>Go s| .rt r=>Rt r
def HD(Nx Br:S->Prop)(Rt:R->Prop):Fl S R->Prop| .nx s=>Nx s| .br s=>Br s| .rt r=>Rt r
theorem Li{Nx Br:S->Prop}{Rt:R->Prop}{s:S}(h:Nx s):Ok (some<|Fl.nx s) (HD Nx Br Rt):=⟨_,rfl,h⟩
theorem LD{Nx Br:S->Prop}{Rt:R->Prop}{s:S}(h:Br s):Ok (some<|Fl.br s) (HD Nx Br Rt):=⟨_,rfl,h⟩
theorem Ly{Nx Br:S->Prop}{Rt:R->Prop}{r:R}(h:Rt r):Ok (some (Fl.rt r:Fl S R)) (HD Nx Br Rt):=⟨_,rfl,h⟩
theorem Ld{Go:S->Prop}{Rt:R->Prop}{o:Fo S R}{f:S->Option β}{g:R->Option β}(h:Gr Go Rt o)(hf:∀s,Go s->Ok (f s) Q)(hg:∀r,Rt r->Ok (g r) Q):Ok (o.cs f g) Q:=by
 cases o with
 |go s=>exact hf s h
 |rt r=>exact hg r h
theorem KI{body:Nat->S->Option S}{m:Nat}{s:S}(Inv:Nat->S->Prop)(hm:m<=4611686018427387904)(h0:Inv 0 s)(h:∀k s,k<m->Inv k s->Ok (body k s) (Inv<|k+1)):Ok (kJ m body s) (Inv m):=
 E2 Inv hm h0 h
theorem LF{body:Nat->S->Option (Fl S R)}{m:Nat}{s:S}(Inv:Nat->S->Prop){Go:S->Prop}{Rt:R->Prop}(hm:m<=4611686018427387904)(h0:Inv 0 s)
  (h:∀k s,k<m->Inv k s->Ok (body k s) (HD (Inv<|k+1) Go Rt)) (hg:∀s,Inv m s->Go s):Ok (kb m body s) (Gr Go Rt):=by
 obtain⟨o,h1,h2⟩:=E1 (R:=R) Inv Go Rt hm h0 (λk s hk hi=>by
  obtain⟨fl,a1,a2⟩:=h k s hk hi
  exact⟨fl,a1,by cases fl <;> exact a2⟩) hg
 exact⟨o,h1,by cases o <;> exact h2⟩
theorem LQ{body:S->Option (Fl S R)}{N:Nat}{s:S}(Inv:S->Prop)(μ:S->Nat){Go:S->Prop}{Rt:R->Prop}
  (h:∀s,Inv s->Ok (body s) (HD (λs'=>Inv s'/\μ s'<μ s) Go Rt)) (hi:Inv s) (hn:μ s<N):Ok (tI body N s) (Gr Go Rt):=by
 obtain⟨o,h1,h2⟩:=wg (R:=R) Inv μ Go Rt (λs hi=>by
  obtain⟨fl,a1,a2⟩:=h s hi
  exact⟨fl,a1,by cases fl <;> exact a2⟩) N s hi hn
 exact⟨o,h1,by cases o <;> exact h2⟩
theorem MZ{b:Nat}{l ys:List α}{f:List α->Option β}(h:(l.length+ys.length)*b<=140737488355328)(k:Ok (f<|l++ys) Q):Ok ((Go.Gk.app b l ys).bind f) Q:=by grind [ig]
theorem M1{l:List α}{i:Nat}{f:α->Option β}(h:i<l.length)(k:Ok (f l[i]) Q):Ok ((Go.Gk.idx l ((i:Nat):Int)).bind f) Q:=by grind [m5]
end
theorem wrap_add{n m:Nat}(h:n+m<=4611686018427387904):wrap .i64 (((n:Nat):Int)+((m:Nat):Int))=((n+m:Nat):Int):=by grind [hG]
theorem zX{n:Nat}(h:n+1<=4611686018427387904):wrap .i64 (((n:Nat):Int)+1)=((n+1:Nat):Int):=by grind [hG]
section
variable {α:Type}{N:Nat}
end
section
variable {κ ν:Type}[DecidableEq κ]
theorem oq(m:List (κ×ν))(k k':κ)(x z:ν):cP (fM m k x) k' z=if k'=k then x else cP m k' z:=by
 induction m with
 |nil=>grind [fM,cP]
 |cons p m ih=>
  grind [fM,cP,bJ,bR]
theorem s7(m:List (κ×ν))(k k':κ)(x:ν):iP (fM m k x) k'=(decide (k'=k)||iP m k'):=by
 induction m with
 |nil=>rfl
 |cons p m ih=>
  unfold fM
  grind [iP,bJ,decide]
def kG(m:List (κ×ν))(l:List κ)(x:ν):List (κ×ν):=l.foldl (λm k=>fM m k x) m
theorem t7(l:List κ)(x z:ν)(k:κ):∀(m:List (κ×ν)),cP (kG m l x) k z=if k∈l then x else cP m k z:=by
 induction l with
 |nil=>simp[kG]
 |cons a l ih=>
  intro m;show cP (kG (fM m a x) l x) k z=_
  grind [oq]
theorem AP(l:List κ)(x:ν)(k:κ):∀(m:List (κ×ν)),iP (kG m l x) k=(decide (k∈l)||iP m k):=by
 induction l with
 |nil=>simp[kG]
 |cons a l ih=>
  intro m;show iP (kG (fM m a x) l x) k=_
  grind [s7]
theorem xW{l:List κ}{m:List (κ×ν)}(x:ν)(hl:l.length<=4611686018427387904):
  kJ l.length (λ(k:Nat)(s:List (κ×ν))=>((idx l ((k:Nat):Int)).bind λy=>some (fM s y x):Option (List<|κ×ν))) m=some (kG m l x):=by
 rw[E0 (s:=m) (λk=>kG m (l.take k) x) hl rfl (λk hk=>by
  grind [m5,aA,kG,gU]),gG]
end
section
variable {N:Nat}
def ru(l:List bP)(k:Nat):Option Int:=
 match l[k]? with
 |none=>none
 |some p=>if isWord p.Name=false then some 5 else if(decide (p.Kind<1)||decide (p.Kind>7))=true then some 4 else if(decide (p.bT<0)||decide (p.bT>200))=true then some 1 else if eB bP.Name l k=true then some 8 else none
def ry(p q:bP):Bool:=decide (p.bT>0)&&(q.bT==p.bT)&&(q.Kind != p.Kind)
def wV(l:List bP)(k:Nat):Option Int:=
 match l[k]? with
 |none=>none
 |some p=>if(l.take k).any (ry p)=true then some 12 else none
def iS(l:List bP):Int:=if l.length=0 then 9 else if 200<l.length then 2 else((jf l.length<|ru l).or<|jf l.length<|wV l).getD 0
def py(t:List aG)(k:Nat):Option Int:=
 match t[k]? with
 |none=>none
 |some x=>if isWord x.Name=false then some 5 else if iS x.aU≠0 then some (iS x.aU)else if eB aG.Name t k=true then some 8 else none
def checkTypes(t:List aG):Int:=if 200<t.length then 2 else(jf t.length<|py t).getD 0
theorem pA{R β:Type}(o:Option R)(f:Unit->Option β)(g:R->Option β):(xv o ()).cs f g=o.elim (f ()) g:=by cases o <;> rfl
theorem kl(o:Option Int):(xv o ()).cs (λ_=>some (0:Int)) (λr=>some r)=some (o.getD 0):=by cases o <;> rfl
theorem getD_or(a b:Option Int):(a.elim (some<|b.getD 0) λr=>some r)=some ((a.or b).getD 0):=by cases a <;> rfl
theorem sL{l:List bP}(h:bk l<=1048576):jo N l=some (iS l):=by
 have hlen:=dO l;unfold jo iS
 by_cases h0:l.length=0
 ·rw[aH h0,h0];rfl
 ·have e0:(((l.length:Nat):Int)==0)=false:=by rw[beq_eq_false_iff_ne];omega
  rw[aJ h0,e0,aW]
  by_cases h1:200<l.length
  ·rw[aH h1,bR (by omega),bK]
  ·rw[aJ h1,bJ (by omega),aW]
   rw[eE (ru l) (by omega) (λk hk _=>by
    have hx:l[k]? =some l[k]:=aP hk;have hb:=wR hx;rw[tW,lI]at hb;rw[bQ hx,aA,gN (by omega),aA,lk bP.Name hx (by omega)];unfold ru;rw[hx];dsimp only
    cases isWord l[k].Name
    ·rfl
    ·cases decide (l[k].Kind<1)||decide (l[k].Kind>7)
     ·cases decide (l[k].bT<0)||decide (l[k].bT>200)
      ·cases eB bP.Name l k <;> rfl
      ·rfl
     ·rfl),aA]
   rw[pA]
   rw[eE (wV l) (by omega) (λk hk _=>by
    have hx:l[k]? =some l[k]:=aP hk;rw[bQ hx,aA,ux l k (by omega),aA]
    have e:=mN (l:=l.take k) (φ:=λy0=>eL N y0 l[k]) (ry l[k]) (by rw[cC];omega) (λq _=>by
     unfold eL ry
     cases decide (l[k].bT>0)
     ·rfl
     ·cases q.bT==l[k].bT <;> rfl)
    have e2:gI N (l.take k) (λy0=>eL N y0 l[k])=lz (l.take k) (λy0=>eL N y0 l[k]):=rfl;rw[e2,e,aA];unfold wV;rw[hx];dsimp only
    cases(l.take k).any (ry l[k]) <;> rfl),aA,kl]
   exact getD_or _ _
theorem mE{t:List aG}(h:bk t<=1048576):fW N t=some (checkTypes t):=by
 have hlen:=dO t;unfold fW checkTypes
 by_cases h1:200<t.length
 ·rw[aH h1,bR (by omega),bK]
 ·rw[aJ h1,bJ (by omega),aW]
  rw[eE (py t) (by omega) (λk hk _=>by
   have hx:t[k]? =some t[k]:=aP hk;have hb:=wR hx;rw[m9]at hb;have hb2:=lI t[k].Name;rw[bQ hx,aA,gN (by omega),aA,sL (by omega),aA,lk aG.Name hx (by omega)];unfold py;rw[hx];dsimp only
   cases isWord t[k].Name
   ·rfl
   ·by_cases hc:iS t[k].aU=0
    ·rw[hc];cases eB aG.Name t k <;> rfl
    ·have:(iS t[k].aU != 0)=true:=by rw[bne_iff_ne];exact hc
     rw[this];simp[hc,su]),aA,kl]
theorem tD(a b c:Int):dI N a b c=some (!(decide (a<b)||decide (a>c))):=by
 unfold dI;congr 1;rw[lY];simp
theorem vl{x:aG}(h:bk x<=1048576):fZ N x=some (if isWord x.Name=false then 5 else iS x.aU):=by
 rw[m9]at h;have hs:=lI x.Name;have hlen:=dO x.aU;unfold fZ;rw[jD (by omega),aA]
 cases isWord x.Name
 ·rfl
 simp only[lE,aW,Bool.true_eq_false,if_false];unfold iS;generalize hl:x.aU=l at *
 by_cases h0:l.length=0
 ·rw[aH h0,h0];rfl
 ·have e0:(((l.length:Nat):Int)==0)=false:=by rw[beq_eq_false_iff_ne];omega
  rw[aJ h0,e0,aW]
  by_cases h1:200<l.length
  ·rw[aH h1,bR (by omega),bK]
  ·rw[aJ h1,bJ (by omega),aW]
   rw[eE (ru l) (by omega) (λk hk _=>by
    have hx:l[k]? =some l[k]:=aP hk;have hb:=wR hx;rw[tW,lI]at hb;rw[bQ hx,aA,jD (by omega),aA,tD,aA,tD,aA,lk bP.Name hx (by omega)];unfold ru;rw[hx];dsimp only
    cases isWord l[k].Name
    ·rfl
    ·cases decide (l[k].Kind<1)||decide (l[k].Kind>7)
     ·cases decide (l[k].bT<0)||decide (l[k].bT>200)
      ·cases eB bP.Name l k <;> rfl
      ·rfl
     ·rfl),aA]
   rw[pA]
   rw[eE (wV l) (by omega) (λk hk _=>by
    have hx:l[k]? =some l[k]:=aP hk;rw[bQ hx,aA,ux l k (by omega),aA]
    rw[qY (ry l[k]) (12:Int) (by rw[cC];omega) (λj q hq=>by
     rw[bQ hq,aA];have e:((decide (l[k].bT>0)&&(l[k].bT==q.bT))&&(l[k].Kind != q.Kind))=ry l[k] q:=by
      unfold ry;rw[lY];simp;omega
     rw[e];cases ry l[k] q <;> rfl),aA]
    unfold wV;rw[hx];dsimp only
    cases(l.take k).any (ry l[k]) <;> rfl),aA,kl]
   exact getD_or _ _
theorem pB{t:List aG}(h:bk t<=1048576):dW N t=some (checkTypes t):=by
 have hlen:=dO t;unfold dW checkTypes
 by_cases h1:200<t.length
 ·rw[aH h1,bR (by omega),bK]
 ·rw[aJ h1,bJ (by omega),aW]
  rw[eE (py t) (by omega) (λk hk _=>by
   have hx:t[k]? =some t[k]:=aP hk;have hb:=wR hx;rw[bQ hx,aA,vl (by omega),aA,lk aG.Name hx (by omega)];unfold py;rw[hx];dsimp only
   cases isWord t[k].Name
   ·rfl
   ·simp only[Bool.true_eq_false,if_false]
    by_cases hc:iS t[k].aU=0
    ·rw[hc];cases eB aG.Name t k <;> rfl
    ·have:(iS t[k].aU != 0)=true:=by rw[bne_iff_ne];exact hc
     rw[this];simp[hc,su]),aA,kl]
structure rA (t:List aG):Prop where
 sorted:eF aG.Name t
 pins:∀x∈t,eF bP.Name x.aU
theorem s8{e:Nat->Option Int}{m:Nat}(hz:∀k r,e k=some r->r≠0)(h:(jf m e).getD 0=0):∀k,k<m->e k=none:=by
 cases hx:jf m e with
 |none=>exact gS.1 hx
 |some r=>
  obtain⟨k,_,hk,_⟩:=iR.1 hx;rw[hx]at h;exact absurd h<|hz k r hk
theorem Ce{l:List bP}{k:Nat}{r:Int}(h:ru l k=some r):r≠0:=by
 unfold ru at h
 repeat' split at h
 all_goals first|(injection h with h;omega)|cases h
theorem yQ{l:List bP}(h:iS l=0):eF bP.Name l:=by
 unfold iS at h;split at h
 ·cases h
 split at h
 ·cases h
 refine jB λk hk=>?_
 cases hx:jf l.length (ru l)with
 |some r=>
  obtain⟨j,_,hj,_⟩:=iR.1 hx;rw[hx]at h;exact absurd h<|Ce hj
 |none=>
  have:=gS.1 hx k hk;unfold ru at this;rw[aP hk]at this;dsimp only at this
  repeat' split at this
  all_goals first|(simp at this;done)|simp_all
theorem tE{t:List aG}(h:checkTypes t=0):rA t:=by
 unfold checkTypes at h;split at h
 ·cases h
 have hz:∀k r,py t k=some r->r≠0:=by
  intro k r hk;unfold py at hk
  repeat' split at hk
  all_goals first|(injection hk with hk;subst hk;first|assumption|omega)|cases hk
 have hn:=s8 hz h;have key:∀k(hk:k<t.length),iS t[k].aU=0/\eB aG.Name t k=false:=by
  intro k hk;have:=hn k hk;unfold py at this;rw[aP hk]at this;dsimp only at this
  repeat' split at this
  all_goals first|(simp at this;done)|simp_all
 refine⟨jB λk hk=>(key k hk).2,λx hx=>?_⟩;obtain⟨k,hk⟩:=gK hx;obtain⟨hlt,rfl⟩:=bM.1 hk;exact yQ (key k hlt).1
end
section
variable {N:Nat}
theorem xX{t:List aG}{s:aN}(hs:eF aG.Name t)(ht:bk t<=1048576)(hN:4194304<=N):iU N t s=some (nat? aG.Name t s):=by
 have:=dO t;obtain⟨r,h1,h2⟩:=yL (N:=N) (key:=aG.Name) (l:=t) (s:=s) (φ:=ir N) (λx=>rfl) hs (by omega) hN;have e:cR N t s (ir N)=DE N t s (ir N):=rfl;unfold iU;rw[e,h1,aA];exact h2
theorem xY{l:List Part}{s:aN}(hs:eF Part.Name l)(hl:l.length<=1048576)(hN:4194304<=N):jJ N l s=some (nat? Part.Name l s):=by
 obtain⟨r,h1,h2⟩:=yL (N:=N) (key:=Part.Name) (l:=l) (s:=s) (φ:=iu N) (λx=>rfl) hs (by omega) hN;have e:dH N l s (iu N)=DE N l s (iu N):=rfl;unfold jJ;rw[e,h1,aA];exact h2
theorem DH{y:aG}{s:aN}(hs:eF bP.Name y.aU)(hl:y.aU.length<=1048576)(hN:4194304<=N):lr N y s=some (nat? bP.Name y.aU s):=by
 obtain⟨r,h1,h2⟩:=yL (N:=N) (key:=bP.Name) (l:=y.aU) (s:=s) (φ:=iQ N) (λx=>rfl) hs (by omega) hN;have e:cX N y.aU s (iQ N)=DE N y.aU s (iQ N):=rfl;unfold lr;rw[e,h1,aA];exact h2
theorem xZ{t:List aG}{s:aN}(hl:t.length<=1048576):gz N t s=some (nat? aG.Name t s):=by
 rw[<-uB (by omega)];rfl
theorem qF{l:List Part}{s:aN}(hl:l.length<=1048576):eO N l s=some (nat? Part.Name l s):=by
 rw[<-uB (by omega)];rfl
theorem DI{y:aG}{s:aN}(hl:y.aU.length<=1048576):iE N y s=some (nat? bP.Name y.aU s):=by
 rw[<-uB (by omega)];rfl
theorem kZ{α:Type}(key:α->aN)(l:List α)(s:aN):(nat? key l s = -1/\∀x∈l,key x≠s)\/∃k x,nat? key l s=((k:Nat):Int)/\l[k]? =some x/\key x=s:=by
 rcases mM l (λx=>(key x).fY s)with⟨h1,h2⟩|⟨k,x,h1,h2,h3,_⟩
 ·exact .inl ⟨h1,λx hx=>oo.1<|h2 x hx⟩
 ·exact .inr ⟨k,x,h1,h2,ix.1 h3⟩
theorem Bw{α:Type}(key:α->aN)(l:List α)(s:aN):decide (nat? key l s>=0)=l.any (λx=>(key x).fY s):=AL _ _
def E5(t:List aG)(l:List Part)(k:Nat):Option Int:=
 match l[k]? with
 |none=>none
 |some p=>if t6 p.Name=false then some 5 else if nat? aG.Name t p.eD<0 then some 9 else if eB Part.Name l k=true then some 8 else none
def F9(t:List aG)(l:List Part):Int:=if 1000<l.length then 2 else(jf l.length<|E5 t l).getD 0
theorem wW{R:Type}(a:Bool)(z:Int)(b:Bool)(f:Int->R):
  ((bif(!a)then some (.rt<|f 5)else(bif decide (z<0)then some (.rt<|f 9)else((some b).bind λs=>bif s then some (.rt<|f 8)else some (.nx ())))):Option (Fl Unit R)) =
  some (su ((if a=false then some (5:Int)else if z<0 then some 9 else if b=true then some 8 else none).map f) ()):=by
 cases a
 ·rfl
 ·by_cases hz:z<0
  ·rw[bR hz];simp[su,hz]
  ·rw[bJ hz];cases b <;> simp[su,hz]
theorem wX(o:Option Int):o.map (λx=>x)=o:=by cases o <;> rfl
def oR(t:List aG)(l:List Part)(p:Pin):Bool:=
 match l.find? (λx=>x.Name.fY p.Part)with
 |none=>false
 |some x=>match t.find? (λy=>y.Name.fY x.eD)with
  |none=>false
  |some y=>y.aU.any (λq=>q.Name.fY p.Pin)
theorem Bx{α:Type}{l:List α}{p:α->Bool}{k:Nat}{x:α}(hk:zS l p=((k:Nat):Int))(hx:l[k]? =some x):l.find? p=some x:=by
 rcases mM l p with⟨h1,_⟩|⟨k',x',h1,h2,h3,h4⟩
 ·omega
 ·have:k'=k:=by omega
  subst this;rw[hx]at h2;injection h2 with h2;subst h2
  rw[List.find?_eq_some_iff_getElem];obtain⟨hlt,hxx⟩:=bM.1 hx;exact⟨h3,k',hlt,hxx,λj hj=>by rw[h4 j l[j] hj<|aP (by omega)];rfl⟩
theorem Cf{α:Type}{l:List α}{p:α->Bool}(hk:zS l p = -1):l.find? p=none:=by
 rcases mM l p with⟨_,h⟩|⟨k',x',h1,_⟩
 ·rw[List.find?_eq_none];intro x hx;rw[h x hx];decide
 ·omega
def Typed(t:List aG)(l:List Part):Prop:=∀x∈l,0<=nat? aG.Name t x.eD
theorem vI{t:List aG}{l:List Part}{p:Pin}(htl:Typed t l){fp:Option Int}{ft:aN->Option Int}{fq:aG->Option Int}
  (h1:fp=some (nat? Part.Name l p.Part)) (h2:∀s,ft s=some (nat? aG.Name t s)) (h3:∀y∈t,fq y=some (nat? bP.Name y.aU p.Pin)):
  (fp.bind λx2=>(bif decide (x2>=0)then((idx l x2).bind λx18=>(ft x18.eD).bind λx21=>(idx t x21).bind λGL=>(fq GL).bind λx25=>some<|decide<|x25>=0)else some false).bind λs16=>some s16)=some (oR t l p):=by
 rw[h1,aA];unfold oR
 rcases kZ Part.Name l p.Part with⟨h4,_⟩|⟨k,x,h4,h5,h6⟩
 ·rw[Cf h4,h4];rfl
 ·rw[Bx h4 h5,h4,bR (by omega),bK,bQ h5,aA,h2,aA];dsimp only;have h7:=htl x<|dD h5
  rcases kZ aG.Name t x.eD with⟨h8,_⟩|⟨j,y,h8,h9,_⟩
  ·omega
  ·rw[Bx h8 h9,h8,bQ h9,aA,h3 y<|dD h9,aA,aA,Bw]
theorem t8{t:List aG}{l:List Part}{p:Pin}(ht:rA t)(hl:eF Part.Name l)(htl:Typed t l)(hbt:bk t<=1048576)(hbl:l.length<=1048576)(hN:4194304<=N):
  kP N t l p=some (oR t l p):=by
 exact vI htl (xY hl (by omega) hN) (λs=>xX ht.sorted hbt hN) (λy hy=>DH (ht.pins y hy) (by
  have h1:=ji hy;rw[m9]at h1;have h2:=dO y.aU;omega) hN)
def g8(a b:Pin):Bool:=a.Part.jc b.Part||(a.Part.fY b.Part&&a.Pin.jc b.Pin)
def nM(l:List Pin)(k:Nat):Bool:=match l[k]?,l[k - 1]? with|some p,some q=>decide (0<k)&& !g8 q p|_,_=>false
theorem DJ(a b:aN):0<Lib.compareBytes a.bL b.bL↔aN.lt b a:=by
 have h1:=mL a.bL b.bL;have h2:=jA a.bL b.bL
 rcases aN.kW a b with h|h|h
 ·have h3:=h1.2 h;exact⟨λh'=>by omega,λh'=>absurd h'<|aN.lt_asymm h⟩
 ·subst h;have h3:=h2.2 rfl;exact⟨λh'=>by omega,λh'=>absurd h'<|aN.lt_irrefl _⟩
 ·refine⟨λ_=>h,λ_=>?_⟩;have h3:¬Lib.compareBytes a.bL b.bL<0:=λh'=>aN.lt_asymm h<|h1.1 h'
  have h4:¬Lib.compareBytes a.bL b.bL=0:=λh'=>aN.sw h (aN.ext'<|h2.1 h').symm;omega
def rB(a b:Pin):Int:=if Lib.compareBytes a.Part.bL b.Part.bL=0 then Lib.compareBytes a.Pin.bL b.Pin.bL else Lib.compareBytes a.Part.bL b.Part.bL
theorem sM(a b:Pin):dZ N a b=some (rB a b):=by
 show(bif Lib.compareBytes a.Part.bL b.Part.bL != 0 then some (Lib.compareBytes a.Part.bL b.Part.bL)else some (Lib.compareBytes a.Pin.bL b.Pin.bL))=_;unfold rB
 by_cases h:Lib.compareBytes a.Part.bL b.Part.bL=0
 ·rw[h];rfl
 ·have:(Lib.compareBytes a.Part.bL b.Part.bL != 0)=true:=by rw[bne_iff_ne];exact h
  rw[this,aJ h];rfl
theorem x0(a b:Pin):decide (rB a b<=0) = !g8 b a:=by
 unfold rB g8
 by_cases h:Lib.compareBytes a.Part.bL b.Part.bL=0
 ·have e:a.Part=b.Part:=aN.ext'<|(jA _ _).1 h
  have e2:b.Part.jc a.Part=false:=by rw[e,<-lX];exact aN.lt_irrefl _
  rw[aH h,e2,ix.2 e.symm,Bool.false_or,Bool.true_and];have:=DJ a.Pin b.Pin;rw[lY,il,Bool.not_eq_true',<-lX];constructor
  ·intro h1 h2;have:=this.2 h2;omega
  ·intro h1
   by_cases h3:0<Lib.compareBytes a.Pin.bL b.Pin.bL
   ·exact absurd (this.1 h3) h1
   ·omega
 ·have e:b.Part≠a.Part:=λe=>h<|(jA _ _).2 (by rw[e])
  rw[aJ h,oo.2 e,Bool.false_and,Bool.or_false];have:=DJ a.Part b.Part;rw[lY,il,Bool.not_eq_true',<-lX];constructor
  ·intro h1 h2;have:=this.2 h2;omega
  ·intro h1
   by_cases h3:0<Lib.compareBytes a.Part.bL b.Part.bL
   ·exact absurd (this.1 h3) h1
   ·omega
theorem x4{l:List Pin}{k:Nat}{x:Pin}{f:Pin->Option Bool}(hf:∀y,f y=some (!g8 y x))(hx:l[k]? =some x)(hl:l.length<=1048576):
  (bif decide (((k:Nat):Int)>0)then(idx l<|wrap .i64<|((k:Nat):Int) - 1).bind f else some false)=some (nM l k):=by
 have hk:=(bM.1 hx).1;unfold nM
 by_cases h0:0<k
 ·rw[bR (by omega),bK,qo h0 (by omega),m5 l _ (by omega),aA,hx,aP (by omega:k - 1<l.length),hf];simp[h0]
 ·have:k=0:=by omega
  subst this;rw[hx];simp
def oS(l:List Net)(p:Pin):Bool:=l.any<|λn=>decide<|p∈n.aU
def HE(t:List aG)(x:bG)(i:Nat)(l:List Pin)(k:Nat):Option Int:=
 match l[k]? with
 |none=>none
 |some p=>if oR t x.bB p=false then some 9 else if nM l k=true then some 8 else if oS (x.aM.take i) p=true then some 7 else none
def Ga(t:List aG)(x:bG)(i:Nat):Option Int:=
 match x.aM[i]? with
 |none=>none
 |some n=>if t6 n.Name=false then some 5 else if n.aU.length=0 then some 9 else if 500<n.aU.length then some 2 else
   (jf n.aU.length<|HE t x i n.aU).or (if 0<n.aO.length then some 3 else if eB Net.Name x.aM i=true then some 8 else none)
def Gs(t:List aG)(x:bG):Int:=if 1000<x.aM.length then 2 else(jf x.aM.length<|Ga t x).getD 0
structure rC (t:List aG) (l:List Part):Prop where
 sorted:eF Part.Name l
 typed:Typed t l
theorem v7{l:List Pin}{has:Pin->Option Bool}{m:List (Pin×Bool)}(hB:Pin->Bool)(hh:∀p∈l,has p=some (hB p))(hl:l.length<=1048576):
  eM N l has m=some (if 500<l.length then((2:Int),m)else
   (jf l.length (λk=>match l[k]? with
    |none=>none
    |some p=>if hB p=false then some (9:Int)else if nM l k=true then some 8 else if cP m p false=true then some 7 else none)).elim ((0:Int),kG m l true) (λr=>(r,m))):=by
 unfold eM
 by_cases h1:500<l.length
 ·rw[aH h1,bR (by omega),bK]
 ·rw[aJ h1,bJ (by omega),aW]
  rw[eE (λk=>Option.map (λ(r:Int)=>(r,m)) (match l[k]? with
    |none=>none
    |some p=>if hB p=false then some (9:Int)else if nM l k=true then some 8 else if cP m p false=true then some 7 else none)) (by omega) (λk hk _=>by
   have hx:l[k]? =some l[k]:=aP hk;rw[bQ hx,aA,hh _<|cB hk,aA,x4 (λy=>by rw[sM,aA,x0]) hx hl,hx];dsimp only
   cases hB l[k]
   ·rfl
   ·cases nM l k
    ·cases cP m l[k] false <;> rfl
    ·rfl),aA,pA,xW true (by omega),aA]
  rw[<-DA];generalize jf l.length _=o
  cases o <;> rfl
theorem Cg(l:List Net)(p:Pin):∀(m:List (Pin×Bool)),cP (l.foldl (λm n=>kG m n.aU true) m) p false=(oS l p||cP m p false):=by
 induction l with
 |nil=>intro m;rfl
 |cons n l ih=>
  intro m;rw[List.foldl_cons,ih,t7];unfold oS;rw[List.any_cons]
  by_cases h:p∈n.aU <;> simp[h]
structure J6 (x:bG):Prop where
 pl:x.bB.length<=1048576
 pn:∀p∈x.bB,p.Name.bL.length<=2097152
 nl:x.aM.length<=1048576
 nn:∀n∈x.aM,n.Name.bL.length<=2097152
 np:∀n∈x.aM,n.aU.length<=1048576
theorem Ch{l:List Net}{p:Pin}(hb:bk l<=1048576):ib N l p=some (oS l p):=by
 have:=dO l;unfold ib
 rw[qY (λn=>decide (p∈n.aU)) true (by omega) (λk n hn=>by
  have hb2:=wR hn;rw[ve]at hb2;have:=dO n.aU;have e:fE N n.aU p=s6 n.aU p:=rfl;rw[bQ hn,aA,e,uA (by omega),aA]
  cases decide (p∈n.aU) <;> rfl),aA]
 unfold oS
 cases l.any _ <;> rfl
end
section
variable {N:Nat}
structure Gb (t:List aG) (x:bG):Prop where
 types:rA t
 parts:rC t x.bB
 xx:x.bB.length<=1000
 E6:x.aM.length<=1000
 yR:∀n∈x.aM,0<n.aU.length/\n.aU.length<=500
 E7:∀n∈x.aM,n.aO= []
 og:eF Net.Name x.aM
 path:∀n∈x.aM,t6 n.Name=true
 JR:∀p∈x.bB,t6 p.Name=true
 JS:∀n∈x.aM,∀p∈n.aU,oR t x.bB p=true
 DK:∀n∈x.aM,∀(i j:Nat)(p q:Pin),i<j->n.aU[i]? =some p->n.aU[j]? =some q->g8 p q=true
 once:∀(i j:Nat)(n m:Net)(p:Pin),x.aM[i]? =some n->x.aM[j]? =some m->p∈n.aU->p∈m.aU->i=j
theorem oh(a:Pin):g8 a a=false:=by
 unfold g8;have h1:a.Part.jc a.Part=false:=by rw[<-lX];exact aN.lt_irrefl _
 have h2:a.Pin.jc a.Pin=false:=by rw[<-lX];exact aN.lt_irrefl _
 rw[h1,h2];simp
theorem pC{a b c:Pin}(h1:g8 a b=true)(h2:g8 b c=true):g8 a c=true:=by
 unfold g8 at *;simp only[fK,cJ,ix]at *
 rcases h1 with h1|⟨e1,h1⟩
 ·rcases h2 with h2|⟨e2,_⟩
  ·exact .inl<|aN.lt_trans h1 h2
  ·rw[<-e2];exact .inl h1
 ·rcases h2 with h2|⟨e2,h2⟩
  ·rw[e1];exact .inl h2
  ·exact .inr ⟨e1.trans e2,aN.lt_trans h1 h2⟩
theorem ni(a b:Pin):g8 a b=true\/a=b\/g8 b a=true:=by
 unfold g8;simp only[fK,cJ,ix]
 rcases aN.kW a.Part b.Part with h|h|h
 ·exact .inl<|.inl h
 ·rcases aN.kW a.Pin b.Pin with h'|h'|h'
  ·exact .inl<|.inr ⟨h,h'⟩
  ·refine .inr<|.inl ?_;cases a;cases b;simp_all
  ·exact .inr<|.inr<|.inr ⟨h.symm,h'⟩
 ·exact .inr<|.inr<|.inl h
def E8(t:List aG)(p:Part):aG:=(t.find?<|λy=>y.Name.fY p.eD).getD default
def Jv(t:List aG)(p:Part):List Pin:=(E8 t p).aU.map<|λy=>⟨p.Name,y.Name⟩
theorem DL(hN:4194304<=N):jG N=some true:=by
 obtain⟨M,rfl⟩:∃M,N=M+64:=⟨N - 64,by omega⟩;rfl
end
def nz(e:Int):Option Int:=if e=0 then none else some e
def vJ(t:List aG)(l:List Part)(k:Nat):Option Int:=
 match l[k]? with
 |none=>none
 |some p=>if isWord p.Name=false then some 5 else if nat? aG.Name t p.eD<0 then some 9 else if eB Part.Name l k=true then some 8 else none
def nN(t:List aG)(l:List Part):Int:=if 1000<l.length then 2 else(jf l.length<|vJ t l).getD 0
def wY(l:List aN)(k:Nat):Option Int:=
 match l[k]? with
 |none=>none
 |some s=>if isWord s=false then some 5 else if eB (λs=>s) l k=true then some 8 else none
def rising(l:List aN):Int:=if 100<l.length then 2 else(jf l.length<|wY l).getD 0
def vK(l:List aF)(s:aF)(k:Nat):Option Int:=
 match s.Uses[k]? with
 |none=>none
 |some u=>if isWord u.Name=false then some 5 else if 0<=nat? Part.Name s.bB u.Name then some 7 else if nat? aF.Name l u.aF<0 then some 9 else if eB ln.Name s.Uses k=true then some 8 else none
def nO(l:List aF)(s:aF):Int:=if 100<s.Uses.length then 2 else(jf s.Uses.length<|vK l s).getD 0
def uG(l:List aF)(s:aF)(w:aN):List aN:=(s.Uses[(nat? ln.Name s.Uses w).toNat]?).elim [] λu=>(l[(nat? aF.Name l u.aF).toNat]?).elim [] aF.aO
def xy(t:List aG)(l:List aF)(s:aF)(p:Pin):Bool:=if 0<=nat? ln.Name s.Uses p.Part then decide (p.Pin∈uG l s p.Part)else oR t s.bB p
def mn(l:List Net)(w:aN):Bool:=l.any λn=>decide<|w∈n.aO
def nP(t:List aG)(l:List aF)(s:aF)(i:Nat)(ps:List Pin)(k:Nat):Option Int:=
 match ps[k]? with
 |none=>none
 |some p=>if xy t l s p=false then some 9 else if nM ps k=true then some 8 else if oS (s.aM.take i) p=true then some 7 else none
def nQ(s:aF)(i:Nat)(ws:List aN)(k:Nat):Option Int:=
 match ws[k]? with
 |none=>none
 |some w=>if decide (w∈s.aO)=false then some 9 else if eB (λs=>s) ws k=true then some 8 else if mn (s.aM.take i) w=true then some 7 else none
def uH(t:List aG)(l:List aF)(s:aF)(i:Nat):Option Int:=
 match s.aM[i]? with
 |none=>none
 |some n=>if isWord n.Name=false then some 5 else if 500<n.aU.length then some 2 else
   (jf n.aU.length<|nP t l s i n.aU).or (if 100<n.aO.length then some 2 else(jf n.aO.length<|nQ s i n.aO).or (if eB Net.Name s.aM i=true then some 8 else none))
def nR(t:List aG)(l:List aF)(s:aF):Int:=if 1000<s.aM.length then 2 else(jf s.aM.length<|uH t l s).getD 0
def qG(t:List aG)(l:List aF)(i:Nat):Option Int:=
 match l[i]? with
 |none=>none
 |some s=>if isWord s.Name=false then some 5 else(nz (rising s.aO)).or ((nz (nN t s.bB)).or ((nz (nO l s)).or ((nz (nR t l s)).or (if eB aF.Name l i=true then some 8 else none))))
structure wZ (l:List aF) (s:aF):Prop where
 xx:s.Uses.length<=100
 word:∀u∈s.Uses,isWord u.Name=true
 part:∀u∈s.Uses,nat? Part.Name s.bB u.Name<0
 there:∀u∈s.Uses,0<=nat? aF.Name l u.aF
 up:eF ln.Name s.Uses
structure DM (t:List aG) (l:List aF) (s:aF):Prop where
 xx:s.aM.length<=1000
 word:∀n∈s.aM,isWord n.Name=true
 yR:∀n∈s.aM,n.aU.length<=500
 JS:∀n∈s.aM,∀p∈n.aU,xy t l s p=true
 DK:∀n∈s.aM,∀(i j:Nat)(p q:Pin),i<j->n.aU[i]? =some p->n.aU[j]? =some q->g8 p q=true
 once:∀(i j:Nat)(n m:Net)(p:Pin),s.aM[i]? =some n->s.aM[j]? =some m->p∈n.aU->p∈m.aU->i=j
 sN:∀n∈s.aM,n.aO.length<=100
 port:∀n∈s.aM,∀w∈n.aO,w∈s.aO
 HO:∀n∈s.aM,eF (λs=>s) n.aO
 JT:∀(i j:Nat)(n m:Net)(w:aN),s.aM[i]? =some n->s.aM[j]? =some m->w∈n.aO->w∈m.aO->i=j
 up:eF Net.Name s.aM
structure Bz (t:List aG) (l:List aF) (s:aF):Prop where
 word:isWord s.Name=true
 sN:s.aO.length<=100
 DN:s.bB.length<=1000
 oT:∀p∈s.bB,isWord p.Name=true
 parts:rC t s.bB
 sO:wZ l s
 og:DM t l s
theorem DO{t:List aG}{l:List Part}{k:Nat}{r:Int}(h:vJ t l k=some r):r≠0:=by
 unfold vJ at h
 repeat' split at h
 all_goals first|(injection h with h;omega)|cases h
theorem vm{t:List aG}{l:List Part}(h:nN t l=0):l.length<=1000/\(∀p∈l,isWord p.Name=true)/\rC t l:=by
 unfold nN at h;split at h
 ·cases h
 rename_i hl;have hn:=s8 (λk r hk=>DO hk) h;have key:∀k(hk:k<l.length),isWord l[k].Name=true/\0<=nat? aG.Name t l[k].eD/\eB Part.Name l k=false:=by
  intro k hk;have:=hn k hk;unfold vJ at this;rw[aP hk]at this;dsimp only at this
  repeat' split at this
  all_goals first|(simp at this;done)|simp_all
 refine⟨by omega,λx hx=>?_,jB λk hk=>(key k hk).2.2,λx hx=>?_⟩
 all_goals
  obtain⟨k,hk⟩:=gK hx;obtain⟨hlt,rfl⟩:=bM.1 hk
 ·exact(key k hlt).1
 ·exact(key k hlt).2.1
theorem DQ{l:List aF}{s:aF}{k:Nat}{r:Int}(h:vK l s k=some r):r≠0:=by
 unfold vK at h
 repeat' split at h
 all_goals first|(injection h with h;omega)|cases h
theorem vn{l:List aF}{s:aF}(h:nO l s=0):wZ l s:=by
 unfold nO at h;split at h
 ·cases h
 rename_i hl;have hn:=s8 (λk r hk=>DQ hk) h;have key:∀k(hk:k<s.Uses.length),isWord s.Uses[k].Name=true/\nat? Part.Name s.bB s.Uses[k].Name<0/\0<=nat? aF.Name l s.Uses[k].aF/\eB ln.Name s.Uses k=false:=by
  intro k hk;have:=hn k hk;unfold vK at this;rw[aP hk]at this;dsimp only at this
  repeat' split at this
  all_goals first|(simp at this;done)|simp_all
 refine⟨by omega,λx hx=>?_,λx hx=>?_,λx hx=>?_,jB λk hk=>(key k hk).2.2.2⟩
 all_goals
  obtain⟨k,hk⟩:=gK hx;obtain⟨hlt,rfl⟩:=bM.1 hk
 ·exact(key k hlt).1
 ·exact(key k hlt).2.1
 ·exact(key k hlt).2.2.1
theorem x5{t:List aG}{l:List aF}{s:aF}{i:Nat}{ps:List Pin}{k:Nat}{r:Int}(h:nP t l s i ps k=some r):r≠0:=by
 unfold nP at h
 repeat' split at h
 all_goals first|(injection h with h;omega)|cases h
theorem Ci{s:aF}{i:Nat}{ws:List aN}{k:Nat}{r:Int}(h:nQ s i ws k=some r):r≠0:=by
 unfold nQ at h
 repeat' split at h
 all_goals first|(injection h with h;omega)|cases h
theorem or_none{a b:Option Int}(h:a.or b=none):a=none/\b=none:=by cases a <;> cases b <;> simp_all
theorem DR{t:List aG}{l:List aF}{s:aF}{i:Nat}{r:Int}(h:uH t l s i=some r):r≠0:=by
 unfold uH at h;split at h
 ·cases h
 split at h
 ·injection h with h;omega
 split at h
 ·injection h with h;omega
 rename_i n _ _ _
 cases h1:jf n.aU.length (nP t l s i n.aU)with
 |some q=>
  rw[h1]at h;injection h with h
  obtain⟨j,_,hj,_⟩:=iR.1 h1;rw[<-h];exact x5 hj
 |none=>
  rw[h1,Option.none_or]at h;split at h
  ·injection h with h;omega
  cases h2:jf n.aO.length (nQ s i n.aO)with
  |some q=>
   rw[h2]at h;injection h with h
   obtain⟨j,_,hj,_⟩:=iR.1 h2;rw[<-h];exact Ci hj
  |none=>
   rw[h2,Option.none_or]at h;split at h
   ·injection h with h;omega
   ·cases h
theorem w3{l:List Net}{i:Nat}{p:Pin}(h:oS (l.take i) p=false){j:Nat}{m:Net}(hj:j<i)(hm:l[j]? =some m):p∉m.aU:=by
 unfold oS at h;rw[List.any_eq_false]at h;have hin:m∈l.take i:=by
  obtain⟨hlt,rfl⟩:=bM.1 hm;exact List.mem_take_iff_getElem.2 ⟨j,by omega,rfl⟩
 have:=h m hin;simpa using this
theorem vL{l:List Net}{i:Nat}{p:aN}(h:mn (l.take i) p=false){j:Nat}{m:Net}(hj:j<i)(hm:l[j]? =some m):p∉m.aO:=by
 unfold mn at h;rw[List.any_eq_false]at h;have hin:m∈l.take i:=by
  obtain⟨hlt,rfl⟩:=bM.1 hm;exact List.mem_take_iff_getElem.2 ⟨j,by omega,rfl⟩
 have:=h m hin;simpa using this
theorem E9{ps:List Pin}(h:∀k,k<ps.length->nM ps k=false):∀(i j:Nat)(p q:Pin),i<j->ps[i]? =some p->ps[j]? =some q->g8 p q=true:=by
 intro i j p q hij hp hq
 induction j generalizing q with
 |zero=>omega
 |succ j ih=>
  obtain⟨hj,rfl⟩:=bM.1 hq;have h1:=h (j+1) hj;have hy:ps[j]? =some (ps[j]'(by omega)):=aP _;unfold nM at h1;rw[hq,sU,hy]at h1;simp only[Bool.and_eq_false_iff,decide_eq_false_iff_not,Bool.not_eq_false']at h1;have h2:g8 (ps[j]'(by omega)) ps[j+1]=true:=by
   rcases h1 with h1|h1
   ·omega
   ·exact h1
  by_cases e:i=j
  ·subst e;rw[hp]at hy;injection hy with hy;rw[hy];exact h2
  ·exact pC (ih _ (by omega) hy) h2
theorem Cj{t:List aG}{l:List aF}{s:aF}(h:nR t l s=0):DM t l s:=by
 unfold nR at h;split at h
 ·cases h
 rename_i hl;have hn:=s8 (λk r hk=>DR hk) h;have key:∀i n,s.aM[i]? =some n->isWord n.Name=true/\n.aU.length<=500/\(∀k,k<n.aU.length->nP t l s i n.aU k=none)/\n.aO.length<=100/\(∀k,k<n.aO.length->nQ s i n.aO k=none)/\eB Net.Name s.aM i=false:=by
  intro i n hi;have:=hn i (bM.1 hi).1;unfold uH at this;rw[hi]at this;dsimp only at this;split at this
  ·cases this
  split at this
  ·cases this
  obtain⟨h1,h2⟩:=or_none this;split at h2
  ·cases h2
  obtain⟨h3,h4⟩:=or_none h2;split at h4
  ·cases h4
  exact⟨by simp_all,by omega,gS.1 h1,by omega,gS.1 h3,by simp_all⟩
 have pk:∀i n,s.aM[i]? =some n->∀k p,n.aU[k]? =some p->xy t l s p=true/\nM n.aU k=false/\oS (s.aM.take i) p=false:=by
  intro i n hi k p hp;have:=(key i n hi).2.2.1 k (bM.1 hp).1;unfold nP at this;rw[hp]at this;dsimp only at this
  repeat' split at this
  all_goals first|(simp at this;done)|simp_all
 have wk:∀i n,s.aM[i]? =some n->∀k p,n.aO[k]? =some p->p∈s.aO/\eB (λs=>s) n.aO k=false/\mn (s.aM.take i) p=false:=by
  intro i n hi k p hp;have:=(key i n hi).2.2.2.2.1 k (bM.1 hp).1;unfold nQ at this;rw[hp]at this;dsimp only at this
  repeat' split at this
  all_goals first|(simp at this;done)|simp_all
 have at_:∀n∈s.aM,∃i,s.aM[i]? =some n:=λn hn=>gK hn;refine⟨by omega,λn hn=>?_,λn hn=>?_,λn hn p hp=>?_,λn hn=>?_,λi j n m p hi hj hp hq=>?_,λn hn=>?_,λn hn w hw=>?_,λn hn=>?_,λi j n m w hi hj hp hq=>?_,jB λk hk=>(key k _<|aP hk).2.2.2.2.2⟩
 ·obtain⟨i,hi⟩:=at_ n hn;exact(key i n hi).1
 ·obtain⟨i,hi⟩:=at_ n hn;exact(key i n hi).2.1
 ·obtain⟨i,hi⟩:=at_ n hn;obtain⟨k,hk⟩:=gK hp;exact(pk i n hi k p hk).1
 ·obtain⟨i,hi⟩:=at_ n hn;exact E9 λk hk=>(pk i n hi k _<|aP hk).2.1
 ·obtain⟨k,hk⟩:=gK hp;obtain⟨k',hk'⟩:=gK hq
  rcases Nat.lt_trichotomy i j with h1|h1|h1
  ·exact absurd hp<|w3 (pk j m hj k' p hk').2.2 h1 hi
  ·exact h1
  ·exact absurd hq<|w3 (pk i n hi k p hk).2.2 h1 hj
 ·obtain⟨i,hi⟩:=at_ n hn;exact(key i n hi).2.2.2.1
 ·obtain⟨i,hi⟩:=at_ n hn;obtain⟨k,hk⟩:=gK hw;exact(wk i n hi k w hk).1
 ·obtain⟨i,hi⟩:=at_ n hn;exact jB λk hk=>(wk i n hi k _<|aP hk).2.1
 ·obtain⟨k,hk⟩:=gK hp;obtain⟨k',hk'⟩:=gK hq
  rcases Nat.lt_trichotomy i j with h1|h1|h1
  ·exact absurd hp<|vL (wk j m hj k' w hk').2.2 h1 hi
  ·exact h1
  ·exact absurd hq<|vL (wk i n hi k w hk).2.2 h1 hj
theorem wi{e:Int}(h:nz e=none):e=0:=by unfold nz at h;split at h <;> simp_all
theorem AQ{l:List aN}(h:rising l=0):l.length<=100:=by
 unfold rising at h;split at h
 ·cases h
 ·omega
theorem w4{t:List aG}{l:List aF}{i:Nat}{s:aF}(hi:l[i]? =some s)(h:qG t l i=none):Bz t l s/\eB aF.Name l i=false:=by
 unfold qG at h;rw[hi]at h;dsimp only at h;split at h
 ·cases h
 rename_i hw;obtain⟨h1,h⟩:=or_none h;obtain⟨h2,h⟩:=or_none h;obtain⟨h3,h⟩:=or_none h;obtain⟨h4,h⟩:=or_none h;obtain⟨p1,p2,p3⟩:=vm<|wi h2
 refine⟨⟨by simpa using hw,AQ<|wi h1,p1,p2,p3,vn<|wi h3,Cj<|wi h4⟩,?_⟩;split at h
 ·cases h
 ·rename_i hq;simpa using hq
theorem DS{t:List aG}{l:List aF}{i:Nat}{r:Int}(h:qG t l i=some r):r≠0:=by
 have hz:∀{e q:Int},nz e=some q->q≠0:=λ{e q}h=>by
  unfold nz at h;split at h
  ·cases h
  ·injection h with h;omega
 unfold qG at h;split at h
 ·cases h
 split at h
 ·injection h with h;omega
 rename_i s _ _
 cases h1:nz (rising s.aO)with
 |some q=>rw[h1]at h;injection h with h;rw[<-h];exact hz h1
 |none=>
  rw[h1,Option.none_or]at h
  cases h2:nz (nN t s.bB)with
  |some q=>rw[h2]at h;injection h with h;rw[<-h];exact hz h2
  |none=>
   rw[h2,Option.none_or]at h
   cases h3:nz (nO l s)with
   |some q=>rw[h3]at h;injection h with h;rw[<-h];exact hz h3
   |none=>
    rw[h3,Option.none_or]at h
    cases h4:nz (nR t l s)with
    |some q=>rw[h4]at h;injection h with h;rw[<-h];exact hz h4
    |none=>
     rw[h4,Option.none_or]at h;split at h
     ·injection h with h;omega
     ·cases h
section
variable {N:Nat}
theorem k8{l:List aF}{w:aN}(hl:l.length<=1048576):dT N l w=some (nat? aF.Name l w):=by
 have h:=km (l:=l) (φ:=λy=>iV N y w) (λy=>y.Name.fY w) (by omega)<|λ_ _=>rfl
 have e:dT N l w=(oD l<|λy=>iV N y w).bind λx=>some x:=rfl;rw[e,h,aA];rfl
theorem zY{l:List ln}{w:aN}(hl:l.length<=1048576):iM N l w=some (nat? ln.Name l w):=by
 have h:=km (l:=l) (φ:=λy=>jK N y w) (λy=>y.Name.fY w) (by omega)<|λ_ _=>rfl
 have e:iM N l w=(oD l<|λy=>jK N y w).bind λx=>some x:=rfl;rw[e,h,aA];rfl
theorem mo{l:List aN}{a:aN}(hl:l.length<=1048576):cO N l a=some (decide<|a∈l):=by
 have h:=mN (l:=l) (φ:=λx=>some<|a.fY x) (λx=>a.fY x) (by omega)<|λ_ _=>rfl
 have e:cO N l a=lz l (λx=>some<|a.fY x):=rfl;rw[e,h];congr 1;rw[lY,mX,il];constructor
 ·rintro⟨x,hx,h⟩;rw[ix.1 h];exact hx
 ·intro h;exact⟨a,h,uy a⟩
theorem Ck{t:List aG}{l:List Part}(hs:eF aG.Name t)(ht:bk t<=1048576)(hl:l.length<=1048576)(hln:∀p∈l,p.Name.bL.length<=2097152)(hN:4194304<=N):
  fX N t l (cK N)=some (nN t l):=by
 unfold fX nN
 by_cases h1:1000<l.length
 ·rw[aH h1,bR (by omega),bK]
 ·rw[aJ h1,bJ (by omega),aW]
  rw[eE (vJ t l) (by omega) (λk hk _=>by
   have hx:l[k]? =some l[k]:=aP hk;have hb:=hln _<|cB hk
   rw[bQ hx,aA,gN (by omega),aA,xX hs ht hN,aA,lk Part.Name hx (by omega)];refine(wW _ _ _ (λx:Int=>x)).trans ?_
   rw[wX];unfold vJ;rw[hx]),aA,kl]
theorem Cl{l:List aN}(hl:l.length<=1048576)(hln:∀s∈l,s.bL.length<=2097152):gP N l 100 (cK N) 5=some (rising l):=by
 unfold gP rising
 by_cases h1:100<l.length
 ·rw[aH h1,bR (by omega),bK]
 ·rw[aJ h1,bJ (by omega),aW]
  rw[eE (wY l) (by omega) (λk hk _=>by
   have hx:l[k]? =some l[k]:=aP hk;have hb:=hln _<|cB hk
   rw[bQ hx,aA,gN (by omega),aA];rw[lk (λs=>s) hx (by omega)];unfold wY;rw[hx];dsimp only
   cases isWord l[k]
   ·rfl
   ·cases eB (λs=>s) l k <;> rfl),aA,kl]
theorem Cm{l:List aF}{s:aF}(hp:eF Part.Name s.bB)(hpl:s.bB.length<=1048576)(hl:l.length<=1048576)(hul:s.Uses.length<=1048576)(hun:∀u∈s.Uses,u.Name.bL.length<=2097152)(hN:4194304<=N):
  iv N l s=some (nO l s):=by
 unfold iv nO
 by_cases h1:100<s.Uses.length
 ·rw[aH h1,bR (by omega),bK]
 ·rw[aJ h1,bJ (by omega),aW]
  rw[eE (vK l s) (by omega) (λk hk _=>by
   have hx:s.Uses[k]? =some s.Uses[k]:=aP hk;have hb:=hun _<|cB hk
   rw[bQ hx,aA,gN (by omega),aA,xY hp hpl hN,aA,k8 hl,aA,lk ln.Name hx (by omega)];unfold vK;rw[hx];dsimp only
   cases isWord s.Uses[k].Name
   ·rfl
   rw[lE,aW,aJ (by simp)]
   by_cases h2:0<=nat? Part.Name s.bB s.Uses[k].Name
   ·rw[aH h2,bR (show nat? Part.Name s.bB s.Uses[k].Name>=0 from h2)];rfl
   rw[aJ h2,bJ (show ¬nat? Part.Name s.bB s.Uses[k].Name>=0 from h2),aW]
   by_cases h3:nat? aF.Name l s.Uses[k].aF<0
   ·rw[aH h3,bR h3];rfl
   rw[aJ h3,bJ h3,aW]
   cases eB ln.Name s.Uses k <;> rfl),aA,kl]
theorem Fa{t:List aG}{l:List aF}{s:aF}{p:Pin}(ht:rA t)(hp:rC t s.bB)(hu:∀u∈s.Uses,0<=nat? aF.Name l u.aF)(hbt:bk t<=1048576)(hpl:s.bB.length<=1048576)(hl:l.length<=1048576)(hul:s.Uses.length<=1048576)
  (hpo:∀q∈l,q.aO.length<=1048576) (hN:4194304<=N):hZ N p s l t=some (xy t l s p):=by
 unfold hZ xy;rw[zY hul,aA]
 by_cases h:0<=nat? ln.Name s.Uses p.Part
 ·rw[aH h,bR (show nat? ln.Name s.Uses p.Part>=0 from h),bK];unfold uG
  rcases kZ ln.Name s.Uses p.Part with⟨h1,_⟩|⟨k,u,h1,h2,h3⟩
  ·omega
  rw[h1,bQ h2,aA,k8 hl,aA,dA,h2];have hu2:=hu u<|dD h2
  rcases kZ aF.Name l u.aF with⟨g1,_⟩|⟨j,q,g1,g2,g3⟩
  ·omega
  rw[g1,bQ g2,aA,Option.elim_some,g1,dA,g2,Option.elim_some];have:=hpo q<|dD g2
  rw[mo (by omega),aA]
 ·rw[aJ h,bJ (show ¬nat? ln.Name s.Uses p.Part>=0 from h),aW,t8 ht hp.sorted hp.typed hbt hpl hN,aA]
theorem vo{l:List Pin}{has:Pin->Option Bool}{m:List (Pin×Bool)}(hB:Pin->Bool)(hh:∀p∈l,has p=some (hB p))(hl:l.length<=1048576)(e:Nat->Option Int)
  (he:∀k p,l[k]? =some p->e k=if hB p=false then some (9:Int)else if nM l k=true then some 8 else if cP m p false=true then some 7 else none):
  eM N l has m=some (if 500<l.length then((2:Int),m)else(jf l.length e).elim ((0:Int),kG m l true) (λr=>(r,m))):=by
 rw[v7 hB hh hl];rw[AH (e':=e) (λk hk _ _=>by rw[he k _<|aP hk,aP hk])]
def x6(l:List Net)(i:Nat):List (Pin×Bool):=(l.take i).foldl (λm n=>kG m n.aU true) []
def x8(l:List Net)(i:Nat):List (aN×Bool):=(l.take i).foldl (λm n=>kG m n.aO true) []
theorem AR(l:List Net)(i:Nat)(p:Pin):cP (x6 l i) p false=oS (l.take i) p:=by
 unfold x6;rw[Cg];simp[cP]
theorem zZ(l:List Net)(p:aN):∀(m:List (aN×Bool)),cP (l.foldl (λm n=>kG m n.aO true) m) p false=(mn l p||cP m p false):=by
 induction l with
 |nil=>intro m;rfl
 |cons n l ih=>
  intro m;rw[List.foldl_cons,ih,t7];unfold mn;rw[List.any_cons]
  by_cases h:p∈n.aO <;> simp[h]
theorem AU(l:List Net)(i:Nat)(p:aN):cP (x8 l i) p false=mn (l.take i) p:=by
 unfold x8;rw[zZ];simp[cP]
theorem AV{l:List Net}{i:Nat}{n:Net}(h:l[i]? =some n):x6 l (i+1)=kG (x6 l i) n.aU true:=by
 unfold x6;obtain⟨hlt,rfl⟩:=bM.1 h;rw[gU hlt,List.foldl_append];rfl
theorem AW{l:List Net}{i:Nat}{n:Net}(h:l[i]? =some n):x8 l (i+1)=kG (x8 l i) n.aO true:=by
 unfold x8;obtain⟨hlt,rfl⟩:=bM.1 h;rw[gU hlt,List.foldl_append];rfl
theorem Cn{t:List aG}{l:List aF}{s:aF}(ht:rA t)(hp:rC t s.bB)(hu:∀u∈s.Uses,0<=nat? aF.Name l u.aF)(hbt:bk t<=1048576)(hbl:bk l<=1048576)(hs:s∈l)(hN:4194304<=N):
  iw N t l s=some (nR t l s):=by
 have hb:=ji hs;rw[na]at hb;have b1:=dO s.bB;have b2:=dO s.Uses;have b3:=dO s.aM;have b4:=dO s.aO;have b5:=dO l;have hpo:∀q∈l,q.aO.length<=1048576:=λq hq=>by
  have:=ji hq;rw[na]at this;have:=dO q.aO;omega
 unfold iw nR
 by_cases h3:1000<s.aM.length
 ·rw[aH h3,bR (by omega),bK]
 ·rw[aJ h3,bJ (by omega),aW]
  rw[Bs (s:=(([]:List (Pin×Bool)),([]:List (aN×Bool)))) (λi=>(x6 s.aM i,x8 s.aM i)) (uH t l s) (by omega) rfl (λi hi _=>by
   have hx:s.aM[i]? =some s.aM[i]:=aP hi;have hbn:=ji<|cB hi
   rw[ve]at hbn;have c1:=lI s.aM[i].Name;have c2:=dO s.aM[i].aU;have c3:=dO s.aM[i].aO;rw[AV hx,AW hx];rw[bQ hx,aA,gN (by omega),aA];dsimp only;rw[vo (xy t l s) (λp _=>Fa ht hp hu hbt (by omega) (by omega) (by omega) hpo hN) (by omega) (nP t l s i s.aM[i].aU) (λk p hk=>by unfold nP;rw[hk];dsimp only;rw[AR]),aA,lk Net.Name hx (by omega)];unfold uH;rw[hx];dsimp only
   cases isWord s.aM[i].Name
   ·rfl
   simp only[lE,aW,Bool.true_eq_false,if_false]
   by_cases h5:500<s.aM[i].aU.length
   ·rw[aH h5,aH h5];rfl
   rw[aJ h5,aJ h5]
   cases h6:jf s.aM[i].aU.length (nP t l s i s.aM[i].aU)with
   |some r=>
    obtain⟨j,_,hj,_⟩:=iR.1 h6;have e6:(r != 0)=true:=by rw[bne_iff_ne];exact x5 hj
    simp only[Option.elim_some,e6,bK];rfl
   |none=>
    simp only[Option.elim_none,bne_self_eq_false,aW,Option.none_or]
    by_cases h7:100<s.aM[i].aO.length
    ·rw[aH h7,bR (by omega)];rfl
    rw[aJ h7,bJ (by omega),aW]
    rw[eE (nQ s i s.aM[i].aO) (by omega) (λk hk _=>by
     have hy:s.aM[i].aO[k]? =some s.aM[i].aO[k]:=aP hk;rw[bQ hy,aA,mo (by omega),aA,lk (λs=>s) hy (by omega),AU];unfold nQ;rw[hy];dsimp only
     cases decide (s.aM[i].aO[k]∈s.aO)
     ·rfl
     ·cases eB (λs=>s) s.aM[i].aO k
      ·cases mn (s.aM.take i) s.aM[i].aO[k] <;> rfl
      ·rfl),aA,pA,xW true (by omega),aA]
    cases h8:jf s.aM[i].aO.length (nQ s i s.aM[i].aO)with
    |some r=>rfl
    |none=>
     simp only[Option.elim_none,Option.none_or]
     cases eB Net.Name s.aM i <;> rfl),aA]
  cases jf s.aM.length (uH t l s) <;> rfl
theorem DT{t:List aG}{l:List aF}(ht:rA t)(hbt:bk t<=1048576)(hbl:bk l<=1048576)(hN:4194304<=N){i:Nat}(hi:i<l.length):
  ((idx l (i:Int)).bind λx56=>(cK N x56.Name).bind λx60=>bif(!x60)then some (.rt 5)else((gP N x56.aO 100 (cK N) 5).bind λx62=>bif x62 != 0 then some (.rt x62)else((fX N t x56.bB<|cK N).bind λx64=>bif x64 != 0 then some (.rt x64)else((iv N l x56).bind λx66=>bif x66 != 0 then some (.rt x66)else((iw N t l x56).bind λx68=>bif x68 != 0 then some (.rt x68)else((bif decide ((i:Int)>0)then((idx l<|wrap .i64<|(i:Int) - 1).bind λx75=>some<|x56.Name.jc x75.Name||x56.Name.fY x75.Name)else some false).bind λs73=>bif s73 then some (.rt 8)else some (.nx ())))))):Option (Fl Unit Int))=some (su (qG t l i) ()):=by
 have hx:l[i]? =some l[i]:=aP hi;have hm:l[i]∈l:=cB hi;have hb:=ji hm;rw[na]at hb;have b0:=lI l[i].Name;have b1:=dO l[i].bB;have b2:=dO l[i].Uses;have b4:=dO l[i].aO;have b5:=dO l;have lK:∀(e:Int)(o:Option Int),(bif e != 0 then(some (Fl.rt e):Option (Fl Unit Int))else some (su o ()))=some (su ((nz e).or o) ()):=λe o=>by
  unfold nz
  by_cases h:e=0
  ·subst h;rfl
  ·rw[aJ h,show(e != 0)=true by simpa using h];rfl
 rw[bQ hx,aA,gN (by omega),aA,Cl (by omega) (λs hs=>by
  have:=ji hs;rw[lI]at this;omega),aA,Ck ht.sorted hbt (by omega) (λp hp=>by
  have:=ji hp;rw[yM]at this;have:=lI p.Name;omega) hN,aA,lk aF.Name hx (by omega)]
 unfold qG;rw[hx];dsimp only
 cases isWord l[i].Name with
 |false=>rfl
 |true=>
  rw[lE,aW,aJ (by simp),<-lK]
  by_cases e1:¬rising l[i].aO=0
  ·rw[show(rising l[i].aO != 0)=true by simpa using e1];rfl
  replace e1:=Decidable.not_not.1 e1
  rw[e1,bne_self_eq_false,aW,aW,<-lK]
  by_cases e2:¬nN t l[i].bB=0
  ·rw[show(nN t l[i].bB != 0)=true by simpa using e2];rfl
  replace e2:=Decidable.not_not.1 e2
  obtain⟨p1,p2,p3⟩:=vm e2
  rw[e2,bne_self_eq_false,aW,aW,Cm p3.sorted (by omega) (by omega) (by omega) (λu hu=>by
   have:=ji hu;rw[AM]at this;have:=lI u.Name;omega) hN,aA,<-lK]
  by_cases e3:¬nO l l[i]=0
  ·rw[show(nO l l[i] != 0)=true by simpa using e3];rfl
  replace e3:=Decidable.not_not.1 e3
  have hu:=vn e3;rw[e3,bne_self_eq_false,aW,aW,Cn ht p3 hu.there hbt hbl hm hN,aA,<-lK]
  by_cases e4:¬nR t l l[i]=0
  ·rw[show(nR t l l[i] != 0)=true by simpa using e4];rfl
  replace e4:=Decidable.not_not.1 e4
  rw[e4,bne_self_eq_false,aW,aW,aA]
  cases eB aF.Name l i <;> rfl
end
end Go.Gk
namespace Go.Gk
open Go IntKind Classical
def rH(l:List aF)(i k:Nat):Prop:=∃s u,l[i]? =some s/\u∈s.Uses/\nat? aF.Name l u.aF=((k:Nat):Int)
inductive rU (l:List aF):Nat->Nat->Prop
 |one {i k:Nat} (h:rH l i k):rU l i k
 |step {i k j:Nat} (h:rU l i k) (e:rH l k j):rU l i j
def AX(l:List aF):Prop:=∃j,rU l j j
def pD(l:List aF)(ρ:Nat->Nat):Prop:=∀j,j<l.length->ρ j<l.length/\∀k,rH l j k->ρ k<ρ j
theorem uI{α:Type}{key:α->aN}{l:List α}{w:aN}(h:0<=nat? key l w):∃k x,nat? key l w=((k:Nat):Int)/\l[k]? =some x/\key x=w/\k<l.length:=by
 rcases kZ key l w with⟨h1,_⟩|⟨k,x,h1,h2,h3⟩
 ·omega
 ·exact⟨k,x,h1,h2,h3,(bM.1 h2).1⟩
theorem rH.lt{l:List aF}{i k:Nat}(h:rH l i k):i<l.length/\k<l.length:=by
 obtain⟨s,u,h1,_,h3⟩:=h;obtain⟨k',x,e,_,_,hk⟩:=uI (key:=aF.Name) (l:=l) (w:=u.aF) (by omega);exact⟨(bM.1 h1).1,by omega⟩
theorem pD.Jw{l:List aF}{ρ:Nat->Nat}(h:pD l ρ):¬AX l:=by
 rintro⟨j,hj⟩;have key:∀i k,rU l i k->ρ k<ρ i:=by
  intro i k h1
  induction h1 with
  |one e=>exact(h _ e.lt.1).2 _ e
  |step _ e ih=>have:=(h _ e.lt.1).2 _ e;omega
 have:=key j j hj;omega
structure HQ (l:List aF) (st:List Int):Prop where
 len:st.length=l.length
 val:∀x∈st,x=0\/x=1\/x=2
 Gc:∃ρ:Nat->Nat,∀j,st[j]? =some 2->ρ j<st.count 2/\∀k,rH l j k->st[k]? =some 2/\ρ k<ρ j
structure Jx (l:List aF) (st st':List Int):Prop where
 ok:HQ l st'
 act:∀j:Nat,st'[j]? =some (1:Int)↔st[j]? =some (1:Int)
 done:∀j:Nat,st[j]? =some 2->st'[j]? =some (2:Int)
 less:st'.count 0<=st.count 0
section
variable {N:Nat}
theorem z3{l:List aF}(hl:l.length<=1048576)(hu:∀s∈l,s.Uses.length<=100/\∀u∈s.Uses,0<=nat? aF.Name l u.aF):∀(d i:Nat)(st:List Int),i<l.length->st.count 0<d->HQ l st->(∀j:Nat,st[j]? =some (1:Int)->rU l j i)->
  Ok (ke N d l ((i:Nat):Int) st) (λr=>if r.1=true then AX l else Jx l st r.2/\r.2[i]? =some 2)
 | 0,_,_,_,h,_,_=>by omega
 |d+1,i,st,hi,hd,hS,hact=>by
  have hlen:=hS.len;have hx:st[i]? =some (st[i]'(by omega)):=aP _;generalize hv:st[i]'(by omega)=v at hx;have hvm:v∈st:=dD hx;show Ok (kd N (ke N d) l ((i:Nat):Int) st) _;unfold kd;rw[bQ hx,aA]
  by_cases h0:v>0
  ·rw[bR h0,bK,aA];refine Kn ?_
   rcases hS.val v hvm with e|e|e
   ·omega
   ·subst e;rw[aH (show((1:Int)==1,st).1=true from rfl)];exact⟨i,hact i hx⟩
   ·subst e;rw[aJ (show ¬((2:Int)==1)=true by decide)];exact⟨⟨hS,λ_=>Iff.rfl,λ_ h=>h,bV _⟩,hx⟩
  ·have hv0:v=0:=by rcases hS.val v hvm with e|e|e <;> omega
   subst hv0;have hs:l[i]? =some l[i]:=aP hi;obtain⟨hul,hun⟩:=hu _<|cB hi
   rw[bJ h0,aW,aA,bQ hs,aA,dA];have jZ:∀j,(st.set i 1)[j]? =if j=i then some 1 else st[j]? :=λj=>by
    rw[gH]
    by_cases e:i=j
    ·subst e;rw[aH rfl,aH rfl,aH (by omega)]
    ·rw[aJ e,aJ<|λh=>e h.symm]
   have hc0:(st.set i 1).count 0+1=st.count 0:=by
    rw[List.count_set (by omega),hv];have:0<st.count 0:=List.count_pos_iff.2 hvm;simp;omega
   have hc2:(st.set i 1).count 2=st.count 2:=by
    rw[List.count_set (by omega),hv];simp
   have hS1:HQ l (st.set i 1):=by
    refine⟨by rw[ij];exact hlen,λx hx=>?_,?_⟩
    ·rcases List.mem_or_eq_of_mem_set hx with h|h
     ·exact hS.val x h
     ·exact .inr<|.inl h
    ·obtain⟨ρ,hρ⟩:=hS.Gc;refine⟨ρ,λj hj=>?_⟩;rw[jZ]at hj;split at hj
     ·cases hj
     ·obtain⟨h1,h2⟩:=hρ j hj;rw[hc2];refine⟨h1,λk hk=>?_⟩;obtain⟨h3,h4⟩:=h2 k hk;refine⟨?_,h4⟩;rw[jZ];split
      ·rename_i e;subst e;rw[hx]at h3;cases h3
      ·exact h3
   refine KA (LF (λk s=>Jx l (st.set i 1) s/\∀j u,j<k->l[i].Uses[j]? =some u->∃q:Nat,nat? aF.Name l u.aF=((q:Nat):Int)/\s[q]? =some 2) (Go:=λs=>Jx l (st.set i 1) s/\∀j u,l[i].Uses[j]? =some u->∃q:Nat,nat? aF.Name l u.aF=((q:Nat):Int)/\s[q]? =some 2) (Rt:=λr=>r.1=true/\AX l) (by omega) ⟨⟨hS1,λ_=>Iff.rfl,λ_ h=>h,bV _⟩,λj u h=>by omega⟩ ?_<|λs h=>⟨h.1,λj u hj=>h.2 j u (bM.1 hj).1 hj⟩)<|λo ho=>Ld ho ?_<|λr hr=>Kn (by rw[aH hr.1];exact hr.2)
   ·rintro k s hk⟨hP,hU⟩;have hy:l[i].Uses[k]? =some l[i].Uses[k]:=aP hk;obtain⟨q,x,e,hq,hqn,hql⟩:=uI<|hun _<|cB hk
    have hedge:rH l i q:=⟨l[i],l[i].Uses[k],hs,cB hk,e⟩;rw[bQ hy,aA,k8 hl,aA,e];have hless:=hP.less;refine KA (z3 hl hu d q s hql (by omega) hP.ok<|λj hj=>?_)<|λr hr=>?_
    ·have h1:=(hP.act j).1 hj;rw[jZ]at h1;split at h1
     ·rename_i e2;subst e2;exact .one hedge
     ·exact .step (hact j h1) hedge
    ·obtain⟨rb,rs⟩:=r
     cases rb with
     |true=>exact Ly ⟨rfl,hr⟩
     |false=>
      rw[aJ (by simp)]at hr;obtain⟨hr,hr2⟩:=hr;dsimp only at hr hr2 ⊢;refine Li ⟨⟨hr.ok,λj=>(hr.act j).trans<|hP.act j,λj h=>hr.done j<|hP.done j h,iG hr.less hP.less⟩,λj u hj hju=>?_⟩
      by_cases e2:j=k
      ·subst e2;rw[hy]at hju;injection hju with hju;subst hju
       exact⟨q,e,hr2⟩
      ·obtain⟨q',h1,h2⟩:=hU j u (by omega) hju;exact⟨q',h1,hr.done _ h2⟩
   ·rintro s⟨hP,hU⟩;have hsl:=hP.ok.len;have hsi:s[i]? =some 1:=(hP.act i).2 (by rw[jZ,aH rfl]);rw[bQ hsi,aA];refine Kn ?_;rw[aJ (by simp)];have hset2:∀j,(s.set i 2)[j]? =if j=i then some 2 else s[j]? :=λj=>by
     rw[gH]
     by_cases e:i=j
     ·subst e;rw[aH rfl,aH rfl,aH (by omega)]
     ·rw[aJ e,aJ<|λh=>e h.symm]
    have hsi':s[i]'(by omega)=1:=by
     obtain⟨_,h⟩:=bM.1 hsi;exact h
    have hd2:(s.set i 2).count 2=s.count 2+1:=by
     rw[List.count_set (by omega),hsi'];simp
    have hd0:(s.set i 2).count 0=s.count 0:=by
     rw[List.count_set (by omega),hsi'];simp
    refine⟨⟨⟨by rw[ij];exact hsl,λx hx=>?_,?_⟩,λj=>?_,λj hj=>?_,?_⟩,by dsimp only;rw[hset2,aH rfl]⟩
    ·rcases List.mem_or_eq_of_mem_set hx with h|h
     ·exact hP.ok.val x h
     ·exact .inr<|.inr h
    ·obtain⟨ρ,hρ⟩:=hP.ok.Gc;refine⟨λj=>if j=i then s.count 2 else ρ j,λj hj=>?_⟩;dsimp only;rw[hset2]at hj;rw[hd2];split at hj
     ·rename_i e;subst e;rw[aH rfl];refine⟨by omega,λk hk=>?_⟩;obtain⟨s',u,h1,h2,h3⟩:=hk;rw[hs]at h1;injection h1 with h1;subst h1
      obtain⟨n,hn⟩:=gK h2;obtain⟨q,g1,g2⟩:=hU n u hn;have:q=k:=by omega
      subst this;have hne:q≠j:=λe=>by subst e;rw[hsi]at g2;cases g2
      rw[hset2,aJ hne,aJ hne];exact⟨g2,(hρ q g2).1⟩
     ·rename_i e;rw[aJ e];obtain⟨h1,h2⟩:=hρ j hj;refine⟨by omega,λk hk=>?_⟩;obtain⟨g1,g2⟩:=h2 k hk;have hne:k≠i:=λe=>by subst e;rw[hsi]at g1;cases g1
      rw[hset2,aJ hne,aJ hne];exact⟨g1,g2⟩
    ·dsimp only;rw[hset2];split
     ·rename_i e;subst e;rw[hx];simp
     ·rename_i e;rw[hP.act j,jZ,aJ e]
    ·dsimp only;rw[hset2];split
     ·rfl
     ·rename_i e;exact hP.done j (by rw[jZ,aJ e];exact hj)
    ·dsimp only;have:=hP.less;omega
noncomputable def eA(t:List aG)(l:List aF):Int:=
 if checkTypes t≠0 then checkTypes t else if 100<l.length then 2 else(jf l.length<|qG t l).getD (if AX l then 17 else 0)
structure fQ (t:List aG) (l:List aF):Prop where
 types:rA t
 xx:l.length<=100
 ok:∀s∈l,Bz t l s
 up:eF aF.Name l
theorem vq{t:List aG}{l:List aF}(hbt:bk t<=1048576)(hbl:bk l<=1048576)(hN:4194304<=N):gR N t l=some (eA t l)/\(eA t l=0->fQ t l/\∃ρ,pD l ρ):=by
 have hll:=dO l;unfold gR eA;rw[mE hbt,aA]
 by_cases h1:checkTypes t≠0
 ·have e:(checkTypes t != 0)=true:=by rw[bne_iff_ne];exact h1
  rw[e,bK,aH h1];exact⟨rfl,λh=>absurd h h1⟩
 replace h1:=Decidable.not_not.1 h1
 have ht:=tE h1;have e:(checkTypes t != 0)=false:=by rw[h1];rfl
 rw[e,aW,aJ<|λh=>h h1]
 by_cases h2:100<l.length
 ·rw[aH h2,bR (by omega),bK];exact⟨rfl,λh=>by cases h⟩
 rw[aJ h2,bJ (by omega),aW];rw[eE (qG t l) (by omega)<|λk hk _=>DT ht hbt hbl hN hk,aA,pA]
 cases h3:jf l.length (qG t l)with
 |some r=>
  refine⟨rfl,λh=>?_⟩;obtain⟨j,_,hj,_⟩:=iR.1 h3;exact absurd h<|DS hj
 |none=>
  have hall:=gS.1 h3;have hok:fQ t l:=by
   refine⟨ht,by omega,λs hs=>?_,jB λk hk=>(w4 (aP hk)<|hall k hk).2⟩;obtain⟨k,hk⟩:=gK hs;exact(w4 hk<|hall k (bM.1 hk).1).1
  have hu:∀s∈l,s.Uses.length<=100/\∀u∈s.Uses,0<=nat? aF.Name l u.aF:=λs hs=>⟨(hok.ok s hs).sO.xx,(hok.ok s hs).sO.there⟩;rw[Option.elim_none,wh 0 (by omega),aA,Option.getD_none];have key:Ok ((kb l.length (λ(k80:Nat)(s81:List Int)=>((pM N l (k80:Int) s81).bind λx84=>bif x84.1 then some (.rt 17)else(some<|.nx x84.2):Option (Fl (List Int) Int)))<|List.replicate l.length 0).bind λo85=>o85.cs (λ(s81:List Int)=>some (0:Int))<|λr=>some r) (λr=>(r=17/\AX l)\/r=0/\∃ρ,pD l ρ):=by
   refine KA (LF (λk s=>HQ l s/\(∀j:Nat,s[j]? ≠some (1:Int))/\∀j,j<k->s[j]? =some 2) (Go:=λs=>∃ρ,pD l ρ) (Rt:=λr=>r=17/\AX l) (by omega) ⟨⟨by simp,λx hx=> .inl (List.mem_replicate.1 hx).2,⟨λ_=>0,λj hj=>?_⟩⟩,λj hj=>?_,λj h=>by omega⟩ ?_ ?_)<|λo ho=>Ld ho (λs hs=>Kn<|.inr ⟨rfl,hs⟩)<|λr hr=>Kn<|.inl hr
   ·have:=dD hj;have:=(List.mem_replicate.1 this).2
    cases this
   ·have:=dD hj;have:=(List.mem_replicate.1 this).2
    cases this
   ·rintro k s hk⟨hS,hA,hD⟩;have hcl:s.count 0<=s.length:=List.count_le_length;have:=hS.len;refine KA (z3 (N:=N) (by omega) hu N k s hk (by omega) hS<|λj hj=>absurd hj<|hA j)<|λr hr=>?_
    obtain⟨rb,rs⟩:=r
    cases rb with
    |true=>exact Ly ⟨rfl,hr⟩
    |false=>
     rw[aJ (by simp)]at hr;obtain⟨hr,hr2⟩:=hr;dsimp only at hr hr2 ⊢;refine Li ⟨hr.ok,λj hj=>hA j<|(hr.act j).1 hj,λj hj=>?_⟩
     by_cases e:j=k
     ·subst e;exact hr2
     ·exact hr.done j<|hD j (by omega)
   ·rintro s⟨hS,_,hD⟩;obtain⟨ρ,hρ⟩:=hS.Gc;refine⟨ρ,λj hj=>?_⟩;obtain⟨g1,g2⟩:=hρ j<|hD j hj
    have hcl:s.count 2<=s.length:=List.count_le_length;have:=hS.len;exact⟨by omega,λk hk=>(g2 k hk).2⟩
  obtain⟨r,k1,k2⟩:=key;rw[k1]
  rcases k2 with⟨e,hc⟩|⟨e,ρ,hρ⟩
  ·rw[aH hc,e];exact⟨rfl,λh=>by cases h⟩
  ·rw[aJ hρ.Jw,e];exact⟨rfl,λ_=>⟨hok,ρ,hρ⟩⟩
end
end Go.Gk
namespace Go.Gk
open Go IntKind
section
variable {N:Nat}
theorem k9{l:List aF}{w:aN}(hl:l.length<=1048576):cE N l w=some (nat? aF.Name l w):=by
 rw[<-uB (by omega)];rfl
theorem Co{l:List aN}(hl:l.length<=1048576)(hln:∀s∈l,s.bL.length<=2097152):dX N l=some ((jf l.length<|wY l).getD 0):=by
 unfold dX
 rw[eE (wY l) (by omega) (λk hk _=>by
  have hx:l[k]? =some l[k]:=aP hk;have hb:=hln _<|cB hk
  rw[bQ hx,aA,jD (by omega),aA];rw[lk (λs=>s) hx (by omega)];unfold wY;rw[hx];dsimp only
  cases isWord l[k]
  ·rfl
  ·cases eB (λs=>s) l k <;> rfl),aA,kl]
theorem Cp{t:List aG}{l:List Part}(ht:bk t<=1048576)(hl:l.length<=1048576)(hln:∀p∈l,p.Name.bL.length<=2097152):dY N t l=some (nN t l):=by
 have hlt:=dO t;unfold dY nN
 by_cases h1:1000<l.length
 ·rw[aH h1,bR (by omega),bK]
 ·rw[aJ h1,bJ (by omega),aW]
  rw[eE (vJ t l) (by omega) (λk hk _=>by
   have hx:l[k]? =some l[k]:=aP hk;have hb:=hln _<|cB hk
   rw[bQ hx,aA,jD (by omega),aA,xZ (by omega),aA,lk Part.Name hx (by omega)];refine(wW _ _ _ (λx:Int=>x)).trans ?_
   rw[wX];unfold vJ;rw[hx]),aA,kl]
theorem DU{l:List aF}{s:aF}(hpl:s.bB.length<=1048576)(hl:l.length<=1048576)(hul:s.Uses.length<=1048576)(hun:∀u∈s.Uses,u.Name.bL.length<=2097152):eG N l s=some (nO l s):=by
 unfold eG nO
 by_cases h1:100<s.Uses.length
 ·rw[aH h1,bR (by omega),bK]
 ·rw[aJ h1,bJ (by omega),aW]
  rw[eE (vK l s) (by omega) (λk hk _=>by
   have hx:s.Uses[k]? =some s.Uses[k]:=aP hk;have hb:=hun _<|cB hk
   rw[bQ hx,aA,jD (by omega),aA,qF hpl,aA,k9 hl,aA,lk ln.Name hx (by omega)];unfold vK;rw[hx];dsimp only
   cases isWord s.Uses[k].Name
   ·rfl
   rw[lE,aW,aJ (by simp)]
   by_cases h2:0<=nat? Part.Name s.bB s.Uses[k].Name
   ·rw[aH h2,bR (show nat? Part.Name s.bB s.Uses[k].Name>=0 from h2)];rfl
   rw[aJ h2,bJ (show ¬nat? Part.Name s.bB s.Uses[k].Name>=0 from h2),aW]
   by_cases h3:nat? aF.Name l s.Uses[k].aF<0
   ·rw[aH h3,bR h3];rfl
   rw[aJ h3,bJ h3,aW]
   cases eB ln.Name s.Uses k <;> rfl),aA,kl]
theorem z4{l:List aF}{s:aF}(hu:wZ l s){w:aN}(h:0<=nat? Part.Name s.bB w):nat? ln.Name s.Uses w<0:=by
 rcases kZ ln.Name s.Uses w with⟨h1,_⟩|⟨k,u,h1,h2,h3⟩
 ·omega
 ·have:=hu.part u<|dD h2
  rw[h3]at this;omega
theorem Fb{t:List aG}{l:List aF}{s:aF}{p:Pin}(hp:rC t s.bB)(hu:wZ l s)(hbt:bk t<=1048576)(hpl:s.bB.length<=1048576)(hl:l.length<=1048576)(hpo:∀q∈l,q.aO.length<=1048576):ia N t l s p=some (xy t l s p):=by
 have h2:=dO t;have hul:=hu.xx
 have hcore:=vI (t:=t) (l:=s.bB) (p:=p) hp.typed (qF (N:=N) hpl) (λs=>xZ (N:=N) (by omega)) (λy hy=>DI (N:=N) (by
  have h1:=ji hy;rw[m9]at h1;have h2:=dO y.aU;omega))
 rw[qF hpl,aA]at hcore;unfold ia xy;rw[qF hpl,aA]
 by_cases h:0<=nat? Part.Name s.bB p.Part
 ·rw[bR (show nat? Part.Name s.bB p.Part>=0 from h),bK]at hcore ⊢;rw[aJ (by have:=z4 hu h;omega),<-hcore]
  cases(idx s.bB<|nat? Part.Name s.bB p.Part).bind λx18=>(gz N t x18.eD).bind λx21=>(idx t x21).bind λGL=>(iE N GL p.Pin).bind λx25=>some (decide<|x25>=0) <;> rfl
 ·rw[bJ (show ¬nat? Part.Name s.bB p.Part>=0 from h),aW]at hcore ⊢;have hno:oR t s.bB p=false:=by
   rw[aA]at hcore;injection hcore with hcore
   exact hcore.symm
  rw[hno,wS (l:=s.Uses) (λu=>if u.Name.fY p.Part=true then some (decide (p.Pin∈(l[(nat? aF.Name l u.aF).toNat]?).elim [] aF.aO))else none) (by omega) (λk u hk=>by
   have hut:=hu.there u<|dD hk
   rcases kZ aF.Name l u.aF with⟨g1,_⟩|⟨j,q,g1,g2,g3⟩
   ·omega
   have:=hpo q<|dD g2
   rw[bQ hk,aA,k9 hl,aA,g1,bQ g2,aA,mo (by omega),aA,dA,g2,Option.elim_some]
   cases u.Name.fY p.Part <;> rfl),aA]
  rcases kZ ln.Name s.Uses p.Part with⟨h1,h3⟩|⟨k,u,h1,h3,h4⟩
  ·rw[h1,aJ (by omega)];have e:s.Uses.findSome? (λu=>if u.Name.fY p.Part=true then some (decide<|p.Pin∈(l[(nat? aF.Name l u.aF).toNat]?).elim [] aF.aO)else none)=none:=by
    rw[List.findSome?_eq_none_iff];intro u hu';rw[aJ];rw[ix];exact h3 u hu'
   rw[e];rfl
  ·rw[h1,aH (by omega)];have hk:=(bM.1 h3).1;have e:s.Uses.findSome? (λu=>if u.Name.fY p.Part=true then some (decide<|p.Pin∈(l[(nat? aF.Name l u.aF).toNat]?).elim [] aF.aO)else none)=some (decide<|p.Pin∈uG l s p.Part):=by
    rw[List.findSome?_eq_some_iff];refine⟨s.Uses.take k,u,s.Uses.drop<|k+1,?_,?_,λx hx=>?_⟩
    ·obtain⟨_,e⟩:=bM.1 h3;rw[<-e,List.getElem_cons_drop,List.take_append_drop]
    ·rw[aH<|ix.2 h4];unfold uG;rw[h1,dA,h3];rfl
    ·obtain⟨j,hj⟩:=gK hx;rw[eC]at hj;split at hj
     ·rw[aJ];rw[ix];intro e;have:=hu.up.inj hj h3<|e.trans h4.symm
      omega
     ·cases hj
   rw[e];rfl
theorem Cq{l:List Net}{w:aN}(hl:l.length<=1048576)(hp:∀n∈l,n.aO.length<=1048576):fP N l w=some (mn l w):=by
 unfold fP
 rw[qY (λn=>decide (w∈n.aO)) true (by omega) (λk n hn=>by
  have:=hp n<|dD hn
  rw[bQ hn,aA,mo (by omega),aA]
  cases decide (w∈n.aO) <;> rfl),aA]
 unfold mn
 cases l.any _ <;> rfl
theorem DV{t:List aG}{l:List aF}{s:aF}(hp:rC t s.bB)(hu:wZ l s)(hbt:bk t<=1048576)(hbl:bk l<=1048576)(hs:s∈l):cW N t l s=some (nR t l s):=by
 have hb:=ji hs;rw[na]at hb;have b1:=dO s.bB;have b3:=dO s.aM;have b4:=dO s.aO;have b5:=dO l;have hpo:∀q∈l,q.aO.length<=1048576:=λq hq=>by
  have:=ji hq;rw[na]at this;have:=dO q.aO;omega
 have hno:∀n∈s.aM,n.aO.length<=1048576:=λn hn=>by
  have:=ji hn;rw[ve]at this;have:=dO n.aO;omega
 unfold cW nR
 by_cases h3:1000<s.aM.length
 ·rw[aH h3,bR (by omega),bK]
 ·rw[aJ h3,bJ (by omega),aW]
  rw[eE (uH t l s) (by omega) (λi hi _=>by
   have hx:s.aM[i]? =some s.aM[i]:=aP hi;have hbn:=ji<|cB hi
   rw[ve]at hbn;have c1:=lI s.aM[i].Name;have c2:=dO s.aM[i].aU;have c3:=dO s.aM[i].aO;rw[bQ hx,aA,jD (by omega),aA,lk Net.Name hx (by omega)];unfold uH;rw[hx];dsimp only
   cases isWord s.aM[i].Name
   ·rfl
   simp only[lE,aW,Bool.true_eq_false,if_false]
   by_cases h5:500<s.aM[i].aU.length
   ·rw[aH h5,bR (by omega)];rfl
   rw[aJ h5,bJ (by omega),aW]
   rw[eE (nP t l s i s.aM[i].aU) (by omega) (λk hk _=>by
    have hy:s.aM[i].aU[k]? =some s.aM[i].aU[k]:=aP hk;rw[bQ hy,aA,Fb hp hu hbt (by omega) (by omega) hpo,aA,x4 (f:=λx522=>(gA N x522 s.aM[i].aU[k]).bind λx526=>some<|!x526) (λy=>rfl) hy (by omega),aA,ux _ i (by omega),aA,Ch (by have:=Bu s.aM i;omega),aA];unfold nP;rw[hy];dsimp only
    cases xy t l s s.aM[i].aU[k]
    ·rfl
    ·cases nM s.aM[i].aU k
     ·cases oS (s.aM.take i) s.aM[i].aU[k] <;> rfl
     ·rfl),aA,pA]
   cases jf s.aM[i].aU.length (nP t l s i s.aM[i].aU)with
   |some r=>rfl
   |none=>
    simp only[Option.elim_none,Option.none_or]
    by_cases h7:100<s.aM[i].aO.length
    ·rw[aH h7,bR (by omega)];rfl
    rw[aJ h7,bJ (by omega),aW]
    rw[eE (nQ s i s.aM[i].aO) (by omega) (λk hk _=>by
     have hy:s.aM[i].aO[k]? =some s.aM[i].aO[k]:=aP hk;rw[bQ hy,aA,mo (by omega),aA,lk (λs=>s) hy (by omega),aA,ux _ i (by omega),aA,Cq (by rw[cC];omega)<|λn hn=>hno n<|List.mem_of_mem_take hn,aA];unfold nQ;rw[hy];dsimp only
     cases decide (s.aM[i].aO[k]∈s.aO)
     ·rfl
     ·cases eB (λs=>s) s.aM[i].aO k
      ·cases mn (s.aM.take i) s.aM[i].aO[k] <;> rfl
      ·rfl),aA,pA]
    cases h8:jf s.aM[i].aO.length (nQ s i s.aM[i].aO)with
    |some r=>rfl
    |none=>
     simp only[Option.elim_none,Option.none_or]
     cases eB Net.Name s.aM i <;> rfl),aA,kl]
theorem Cr{t:List aG}{l:List aF}(hbt:bk t<=1048576)(hbl:bk l<=1048576){i:Nat}(hi:i<l.length):
  ((idx l (i:Int)).bind λx57=>(cD N x57.Name).bind λx61=>bif(!x61)then some (.rt 5)else(bif decide ((x57.aO.length:Int)>100)then some (.rt 2)else((dX N x57.aO).bind λx64=>bif x64 != 0 then some (.rt x64)else((dY N t x57.bB).bind λx66=>bif x66 != 0 then some (.rt x66)else((eG N l x57).bind λx68=>bif x68 != 0 then some (.rt x68)else((cW N t l x57).bind λx70=>bif x70 != 0 then some (.rt x70)else((bif decide ((i:Int)>0)then((idx l<|wrap .i64<|(i:Int) - 1).bind λx77=>some<|x57.Name.jc x77.Name||x57.Name.fY x77.Name)else some false).bind λs75=>bif s75 then some (.rt 8)else some (.nx ()))))))):Option (Fl Unit Int))=some (su (qG t l i) ()):=by
 have hx:l[i]? =some l[i]:=aP hi;have hm:l[i]∈l:=cB hi;have hb:=ji hm;rw[na]at hb;have b0:=lI l[i].Name;have b1:=dO l[i].bB;have b2:=dO l[i].Uses;have b4:=dO l[i].aO;have b5:=dO l;have lK:∀(e:Int)(o:Option Int),(bif e != 0 then(some (Fl.rt e):Option (Fl Unit Int))else some (su o ()))=some (su ((nz e).or o) ()):=λe o=>by
  unfold nz
  by_cases h:e=0
  ·subst h;rfl
  ·rw[aJ h,show(e != 0)=true by simpa using h];rfl
 rw[bQ hx,aA,jD (by omega),aA,Co (by omega) (λs hs=>by
  have:=ji hs;rw[lI]at this;omega),aA,Cp hbt (by omega) (λp hp=>by
  have:=ji hp;rw[yM]at this;have:=lI p.Name;omega),aA,DU (by omega) (by omega) (by omega) (λu hu=>by
   have:=ji hu;rw[AM]at this;have:=lI u.Name;omega),aA,lk aF.Name hx (by omega)]
 unfold qG;rw[hx];dsimp only
 cases isWord l[i].Name with
 |false=>rfl
 |true=>
  rw[lE,aW,aJ (by simp),<-lK];unfold rising
  by_cases e0:100<l[i].aO.length
  ·rw[aH e0,bR (by omega)];rfl
  rw[aJ e0,bJ (by omega),aW];generalize (jf l[i].aO.length<|wY l[i].aO).getD 0=e
  by_cases e1:¬e=0
  ·rw[show(e != 0)=true by simpa using e1];rfl
  replace e1:=Decidable.not_not.1 e1
  rw[e1,bne_self_eq_false,aW,aW,<-lK]
  by_cases e2:¬nN t l[i].bB=0
  ·rw[show(nN t l[i].bB != 0)=true by simpa using e2];rfl
  replace e2:=Decidable.not_not.1 e2
  obtain⟨p1,p2,p3⟩:=vm e2;rw[e2,bne_self_eq_false,aW,aW,<-lK]
  by_cases e3:¬nO l l[i]=0
  ·rw[show(nO l l[i] != 0)=true by simpa using e3];rfl
  replace e3:=Decidable.not_not.1 e3
  have hu:=vn e3;rw[e3,bne_self_eq_false,aW,aW,DV p3 hu hbt hbl hm,aA,<-lK]
  by_cases e4:¬nR t l l[i]=0
  ·rw[show(nR t l l[i] != 0)=true by simpa using e4];rfl
  replace e4:=Decidable.not_not.1 e4
  rw[e4,bne_self_eq_false,aW,aW,aA]
  cases eB aF.Name l i <;> rfl
end
end Go.Gk
namespace Go.Gk
open Go IntKind Classical
section
variable {N:Nat}{l:List aF}{i to:Nat}
structure Gd (l:List aF) (i to:Nat) (x:Option Nat) (st:List Bool×List Int):Prop where
 len:st.1.length=l.length
 J7:∀q∈st.2,∃k:Nat,q=((k:Nat):Int)/\k<l.length/\(k=i\/st.1[k]? =some true)
 J8:∀k:Nat,st.1[k]? =some true->rU l i k
 cls:∀k:Nat,(k=i\/st.1[k]? =some true)->((k:Nat):Int)∈st.2\/(∀j,rH l k j->j≠to/\st.1[j]? =some true)\/some k=x
theorem Fc(hl:l.length<=1048576)(hu:∀s∈l,s.Uses.length<=100/\∀u∈s.Uses,0<=nat? aF.Name l u.aF)(hi:i<l.length)(hN:4194304<=N):iW N l ((i:Nat):Int) ((to:Nat):Int)=some (decide<|rU l i to):=by
 refine Lr ?_;unfold iW;rw[wh false (by omega),aA];refine KA (P:=Gr (λ_=>¬rU l i to)<|λr=>r=true/\rU l i to) (LQ (λst=>Gd l i to none st/\st.2.length+st.1.count false<=l.length+1) (λst=>2*st.1.count false+st.2.length) ?_ ⟨⟨by simp,λq hq=>?_,λk hk=>?_,λk hk=>?_⟩,?_⟩ ?_)<|λo ho=>Ld ho (λs hs=>Kn (bJ hs).symm)<|λr hr=>Kn (by rw[hr.1];exact(bR hr.2).symm)
 ·rintro⟨seen,next⟩⟨⟨g1,g2,g3,g4⟩,g5⟩;dsimp only at g1 g2 g3 g4 g5 ⊢
  cases next with
  |nil=>
   rw[show decide ((([]:List Int).length:Int)>0)=false from rfl,aW];refine LD ?_;intro h;have key:∀k,rU l i k->∃j,(j=i\/seen[j]? =some true)/\rH l j k:=by
    intro k hk
    induction hk with
    |one e=>exact⟨i, .inl rfl,e⟩
    |step h e ih=>
     obtain⟨j,h1,h2⟩:=ih
     rcases g4 j h1 with h3|h3|h3
     ·cases h3
     ·exact⟨_, .inr (h3 _ h2).2,e⟩
     ·cases h3
   obtain⟨j,h1,h2⟩:=key to h
   rcases g4 j h1 with h3|h3|h3
   ·cases h3
   ·exact(h3 _ h2).1 rfl
   ·cases h3
  |cons q next=>
   obtain⟨k,rfl,hk,hks⟩:=g2 q (by simp);have hs:l[k]? =some l[k]:=aP hk;obtain⟨hul,hun⟩:=hu _<|cB hk
   have h0:idx (((k:Nat):Int)::next) 0=some ((k:Nat):Int):=by
    have:=bQ (l:=((k:Nat):Int)::next) (k:=0) (x:=((k:Nat):Int)) rfl;simpa using this
   have hsl:Ao (((k:Nat):Int)::next) 1 ((((k:Nat):Int)::next).length:Int)=some next:=by
    have:=DB (((k:Nat):Int)::next) 1 (by simp);simpa using this
   have hik:∀j,(k=i\/rU l i k)->rH l k j->rU l i j:=λj h e=>by
    rcases h with h|h
    ·subst h;exact .one e
    ·exact .step h e
   have hkr:k=i\/rU l i k:=hks.elim .inl λh=> .inr<|g3 k h
   rw[show decide (((((k:Nat):Int)::next).length:Int)>0)=true from bR (by simp only[dM];omega),bK,h0,aA,hsl,aA,bQ hs,aA];have hc0:seen.count false<=l.length:=by rw[<-g1];exact List.count_le_length
   refine KA (P:=Gr (λst=>Gd l i to none st/\2*st.1.count false+st.2.length<=2*seen.count false+next.length/\st.2.length+st.1.count false<=next.length+seen.count false)<|λr=>r=true/\rU l i to) (LF (λm st=>Gd l i to (some k) st/\2*st.1.count false+st.2.length<=2*seen.count false+next.length/\st.2.length+st.1.count false<=next.length+seen.count false/\∀(j:Nat)u,j<m->l[k].Uses[j]? =some u->∃q:Nat,nat? aF.Name l u.aF=((q:Nat):Int)/\q≠to/\st.1[q]? =some true) (by omega) ⟨⟨g1,λq hq=>g2 q (by simp[hq]),g3,λj hj=>?_⟩,bV _,bV _,λj u h=>by omega⟩ ?_ ?_)<|λo ho=>Ld ho (λst hst=>Li ⟨⟨hst.1,by dsimp only;have:=hst.2.2;simp only[dM]at g5;omega⟩,by dsimp only;simp only[dM];have:=hst.2.1;omega⟩)<|λr hr=>Ly hr
   ·rcases g4 j hj with h|h|h
    ·rcases jX.1 h with h|h
     ·have:j=k:=by omega
      subst this;exact .inr<|.inr rfl
     ·exact .inl h
    ·exact .inr<|.inl h
    ·cases h
   ·rintro m⟨sn,nx⟩hm⟨⟨a1,a2,a3,a4⟩,a5,a6,a7⟩;dsimp only at a1 a2 a3 a4 a5 a6 a7 ⊢;have hy:l[k].Uses[m]? =some l[k].Uses[m]:=aP hm;obtain⟨q,x,e,hq,hqn,hql⟩:=uI<|hun _<|cB hm
    have hedge:rH l k q:=⟨l[k],l[k].Uses[m],hs,cB hm,e⟩;rw[bQ hy,aA,k9 hl,aA,e]
    by_cases hto:q=to
    ·subst hto;rw[BEq.rfl,bK];exact Ly ⟨rfl,hik _ hkr hedge⟩
    rw[show(((q:Nat):Int)==((to:Nat):Int))=false by rw[beq_eq_false_iff_ne];omega,aW];have hx:sn[q]? =some (sn[q]'(by omega)):=aP _;generalize hv:sn[q]'(by omega)=v at hx;rw[bQ hx,aA]
    cases v with
    |true=>
     rw[lE,aW,aA];refine Li ⟨⟨a1,a2,a3,a4⟩,a5,a6,λj u hj hju=>?_⟩
     by_cases ej:j=m
     ·subst ej;rw[hy]at hju;injection hju with hju;subst hju
      exact⟨q,e,hto,hx⟩
     ·exact a7 j u (by omega) hju
    |false=>
     have jZ:∀j:Nat,(sn.set q true)[j]? =if j=q then some true else sn[j]? :=λj=>by
      rw[gH]
      by_cases e:q=j
      ·subst e;rw[aH rfl,aH rfl,aH (by omega)]
      ·rw[aJ e,aJ<|λh=>e h.symm]
     have hmono:∀j:Nat,sn[j]? =some true->(sn.set q true)[j]? =some true:=λj h=>by
      rw[jZ];split
      ·rfl
      ·exact h
     have hcnt:(sn.set q true).count false+1=sn.count false:=by
      rw[List.count_set (by omega),hv];have:0<sn.count false:=List.count_pos_iff.2<|dD hx
      simp;omega
     simp only[dM]at g5;rw[ph,bK,ig (by simp only[dM,List.length_nil];omega),aA,aA,aA,dA];refine Li ⟨⟨by rw[ij];exact a1,λp hp=>?_,λj hj=>?_,λj hj=>?_⟩,?_,?_,λj u hj hju=>?_⟩
     ·dsimp only at hp ⊢
      rcases kK.1 hp with hp|hp
      ·obtain⟨k',h1,h2,h3⟩:=a2 p hp;exact⟨k',h1,h2,h3.elim .inl λh=> .inr<|hmono _ h⟩
      ·rw[qK]at hp;subst hp;exact⟨q,rfl,hql, .inr (by rw[jZ,aH rfl])⟩
     ·dsimp only at hj;rw[jZ]at hj;split at hj
      ·rename_i ej;subst ej;exact hik _ hkr hedge
      ·exact a3 j hj
     ·dsimp only at hj ⊢;have hj':j=q\/(j=i\/sn[j]? =some true):=by
       rcases hj with h|h
       ·exact .inr<|.inl h
       ·rw[jZ]at h;split at h
        ·rename_i ej;exact .inl ej
        ·exact .inr<|.inr h
      rcases hj' with h|h
      ·subst h;exact .inl (by simp)
      ·rcases a4 j h with h1|h1|h1
       ·exact .inl (by simp[h1])
       ·exact .inr<|.inl λp hp=>⟨(h1 p hp).1,hmono _ (h1 p hp).2⟩
       ·exact .inr<|.inr h1
     ·dsimp only;rw[bY];simp only[dM,List.length_nil];omega
     ·dsimp only;rw[bY];simp only[dM,List.length_nil];omega
     ·dsimp only
      by_cases ej:j=m
      ·subst ej;rw[hy]at hju;injection hju with hju;subst hju
       exact⟨q,e,hto,by rw[jZ,aH rfl]⟩
      ·obtain⟨q',h1,h2,h3⟩:=a7 j u (by omega) hju;exact⟨q',h1,h2,hmono _ h3⟩
   ·rintro⟨sn,nx⟩⟨⟨a1,a2,a3,a4⟩,a5,a6,a7⟩;dsimp only at a1 a2 a3 a4 a5 a6 a7 ⊢;refine⟨⟨a1,a2,a3,λj hj=>?_⟩,a5,a6⟩;dsimp only at hj ⊢
    rcases a4 j hj with h|h|h
    ·exact .inl h
    ·exact .inr<|.inl h
    ·injection h with h
     subst h;refine .inr<|.inl λp hp=>?_
     obtain⟨s',u,h1,h2,h3⟩:=hp;rw[hs]at h1;injection h1 with h1;subst h1
     obtain⟨n,hn⟩:=gK h2;obtain⟨q,b1,b2,b3⟩:=a7 n u (bM.1 hn).1 hn;have:q=p:=by omega
     subst this;exact⟨b2,b3⟩
 ·rw[qK]at hq;subst hq;exact⟨i,rfl,hi, .inl rfl⟩
 ·have:=dD hk;have:=(List.mem_replicate.1 this).2
  cases this
 ·rcases hk with h|h
  ·subst h;exact .inl (by simp)
  ·have:=dD h;have:=(List.mem_replicate.1 this).2
   cases this
 ·dsimp only;have:(List.replicate l.length false).count false<=(List.replicate l.length false).length:=List.count_le_length;simp only[lW,dM,List.length_nil]at this ⊢;omega
 ·dsimp only;have:(List.replicate l.length false).count false<=(List.replicate l.length false).length:=List.count_le_length;simp only[lW,dM,List.length_nil]at this ⊢;omega
theorem oU{t:List aG}(hbt:bk t<=1048576)(hbl:bk l<=1048576)(hN:4194304<=N):dK N t l=some (eA t l):=by
 have hll:=dO l;unfold dK eA;rw[pB hbt,aA]
 by_cases h1:checkTypes t≠0
 ·have e:(checkTypes t != 0)=true:=by rw[bne_iff_ne];exact h1
  rw[e,bK,aH h1]
 replace h1:=Decidable.not_not.1 h1
 have ht:=tE h1;have e:(checkTypes t != 0)=false:=by rw[h1];rfl
 rw[e,aW,aJ<|λh=>h h1]
 by_cases h2:100<l.length
 ·rw[aH h2,bR (by omega),bK]
 rw[aJ h2,bJ (by omega),aW];rw[eE (qG t l) (by omega)<|λk hk _=>Cr hbt hbl hk,aA,pA]
 cases h3:jf l.length (qG t l)with
 |some r=>rfl
 |none=>
  have hall:=gS.1 h3;have hu:∀s∈l,s.Uses.length<=100/\∀u∈s.Uses,0<=nat? aF.Name l u.aF:=λs hs=>by
   obtain⟨k,hk⟩:=gK hs;have:=(w4 hk<|hall k (bM.1 hk).1).1.sO;exact⟨this.xx,this.there⟩
  rw[Option.elim_none,Option.getD_none,eE (λk=>if rU l k k then some (17:Int)else none) (by omega) (λk hk _=>by
   rw[Fc (by omega) hu hk hN,aA]
   by_cases h:rU l k k
   ·rw[bR h,aH h];rfl
   ·rw[bJ h,aJ h];rfl),aA,kl]
  by_cases hc:AX l
  ·rw[aH hc]
   cases h4:jf l.length (λk=>if rU l k k then some (17:Int)else none)with
   |none=>
    obtain⟨j,hj⟩:=hc;have hjl:j<l.length:=by
     cases hj with
     |one e=>exact e.lt.1
     |step _ e=>exact e.lt.2
    have:=gS.1 h4 j hjl;rw[aH hj]at this;cases this
   |some r=>
    obtain⟨j,_,hj,_⟩:=iR.1 h4;split at hj
    ·injection hj with hj;rw[<-hj];rfl
    ·cases hj
  ·rw[aJ hc,gS.2<|λk hk=>aJ λh=>hc ⟨k,h⟩];rfl
end
def cQ(l:List aF)(u:ln):Nat:=(nat? aF.Name l u.aF).toNat
def gF(l:List aF)(i:Nat):List ln:=(l[i]?).elim [] aF.Uses
def sP(l:List aF)(i:Nat):List Part:=(l[i]?).elim [] aF.bB
def fV(l:List aF)(i:Nat):List Net:=(l[i]?).elim [] aF.aM
def jE(l:List aF):Nat->Nat->Nat×Nat
 | 0,_=>(0,0)
 |d+1,i=>(1+((gF l i).map λu=>(jE l d (cQ l u)).1).sum,(sP l i).length+((gF l i).map λu=>(jE l d (cQ l u)).2).sum)
def jT(l:List aF)(i:Nat):Nat×Nat:=jE l l.length i
theorem nj{l:List aF}{i:Nat}{s:aF}(h:l[i]? =some s):gF l i=s.Uses:=by unfold gF;rw[h];rfl
theorem s9{l:List aF}{i:Nat}{s:aF}(h:l[i]? =some s):sP l i=s.bB:=by unfold sP;rw[h];rfl
theorem w5{l:List aF}{i:Nat}{s:aF}(h:l[i]? =some s):fV l i=s.aM:=by unfold fV;rw[h];rfl
section
variable {l:List aF}{ρ:Nat->Nat}(hR:pD l ρ)(hU:∀s∈l,∀u∈s.Uses,0<=nat? aF.Name l u.aF)
include hR hU
theorem oV{i:Nat}{u:ln}(h:u∈gF l i):nat? aF.Name l u.aF=((cQ l u:Nat):Int)/\cQ l u<l.length/\i<l.length/\ρ (cQ l u)<ρ i:=by
 unfold gF at h
 cases hs:l[i]? with
 |none=>rw[hs]at h;cases h
 |some s=>
  rw[hs]at h;have h':u∈s.Uses:=h;have h0:=hU s (dD hs) u h';have e:nat? aF.Name l u.aF=((cQ l u:Nat):Int):=(Int.toNat_of_nonneg h0).symm;have hE:rH l i (cQ l u):=⟨s,u,hs,h',e⟩;exact⟨e,hE.lt.2,hE.lt.1,(hR i hE.lt.1).2 _ hE⟩
theorem qH:∀(d d' i:Nat),ρ i<d->ρ i<d'->jE l d i=jE l d' i
 | 0,_,_,h,_=>by omega
 |_,0,_,_,h=>by omega
 |d+1,d'+1,i,h,h'=>by
  unfold jE;have e:∀u∈gF l i,jE l d (cQ l u)=jE l d' (cQ l u):=λu hu=>by
   have:=(oV hR hU hu).2.2.2;exact qH d d' _ (by omega) (by omega)
  rw[List.map_congr_left (λu hu=>by rw[e u hu]),List.map_congr_left (f:=λu=>(jE l d<|cQ l u).2) (λu hu=>by rw[e u hu])]
theorem BA{i:Nat}(hi:i<l.length):jT l i=(1+((gF l i).map λu=>(jT l<|cQ l u).1).sum,(sP l i).length+((gF l i).map λu=>(jT l<|cQ l u).2).sum):=by
 have h:=(hR i hi).1;unfold jT;rw[qH hR hU l.length (l.length+1) i h (by omega)];rfl
end
def Gt(l:List aF)(i:Nat):bI:=⟨((min (jT l i).1 2001:Nat):Int),((min (jT l i).2 1001:Nat):Int)⟩
def Jy(l:List aF)(m:List (Int×bI)):Prop:=∀j:Int,iP m j=true->∃i:Nat,j=((i:Nat):Int)/\cP m j ⟨0,0⟩=Gt l i
section
variable {N:Nat}{l:List aF}{ρ:Nat->Nat}
theorem BB(hR:pD l ρ)(hU:∀s∈l,∀u∈s.Uses,0<=nat? aF.Name l u.aF)(hl:l.length<=1048576)(hul:∀s∈l,s.Uses.length<=100/\s.bB.length<=1000):∀(d i:Nat)(m:List (Int×bI)),i<l.length->ρ i<d->Jy l m->
  Ok (kR N d l ((i:Nat):Int) m) (λr=>r.1=Gt l i/\Jy l r.2)
 | 0,_,_,_,h,_=>by omega
 |d+1,i,m,hi,hd,hK=>by
  show Ok (kQ N (kR N d) l ((i:Nat):Int) m) _;unfold kQ
  cases hm:iP m ((i:Nat):Int)with
  |true=>
   rw[bK];obtain⟨i',e,h⟩:=hK _ hm;have:i'=i:=by omega
   subst this;exact Kn ⟨h,hK⟩
  |false=>
   have hs:l[i]? =some l[i]:=aP hi;obtain⟨b1,b2⟩:=hul _<|cB hi
   rw[aW,bQ hs,aA,aA];have hus:=nj hs
   refine KA (KI (λk st=>Jy l st.1/\st.2=(⟨((min (1+((l[i].Uses.take k).map λu=>(jT l (cQ l u)).1).sum) 2001:Nat):Int),((min (l[i].bB.length+((l[i].Uses.take k).map λu=>(jT l (cQ l u)).2).sum) 1001:Nat):Int)⟩:bI)) (by omega) ⟨hK,by
    rw[List.take_zero];show(⟨1,_⟩:bI)=_;congr 1
    simp;omega⟩ (λk st hk⟨h1,h2⟩=>?_)) (λst⟨h1,h2⟩=>Kn ?_)
   ·obtain⟨m',n'⟩:=st;dsimp only at h1 h2 ⊢;subst h2;have hy:l[i].Uses[k]? =some l[i].Uses[k]:=aP hk;obtain⟨e,h3,h4,h5⟩:=oV hR hU (i:=i) (u:=l[i].Uses[k]) (by rw[hus];exact cB hk);rw[bQ hy,aA,k8 hl,aA,e];refine KA (BB hR hU hl hul d _ m' h3 (by omega) h1)<|λr hr=>Kn ⟨hr.2,?_⟩
    rw[hr.1];unfold Gt;dsimp only;rw[wrap_add (by omega),wrap_add (by omega),gU hk,eR,List.sum_append,eR,List.sum_append];simp only[fR,List.map_nil,List.sum_cons,List.sum_nil];congr 1
    ·split <;> omega
    ·split <;> omega
   ·obtain⟨m',n'⟩:=st;dsimp only at h1 h2 ⊢;rw[gG,<-hus,<-s9 hs]at h2;have e:n'=Gt l i:=by
     rw[h2];unfold Gt;rw[BA hR hU hi]
    refine⟨e,λj hj=>?_⟩;rw[oq];rw[s7]at hj
    by_cases ej:j=((i:Nat):Int)
    ·rw[aH ej];exact⟨i,ej,e⟩
    ·rw[aJ ej];rw[bJ ej,Bool.false_or]at hj;exact h1 j hj
end
end Go.Gk
namespace Go.Gk
open Go IntKind
section
variable {N:Nat}
structure UF (n:Nat) (up:List Int) (r:Nat->Nat):Prop where
 len:up.length=n
 rt:∀i,i<n->∃u:Nat,up[i]? =some ((u:Nat):Int)/\u<=i/\r u=r i/\(u=i↔r i=i)
theorem UF.le{n:Nat}{up:List Int}{r:Nat->Nat}(h:UF n up r):∀i,i<n->r i<=i:=by
 intro i
 induction i using Nat.strongRecOn with
 |ind i ih=>
  intro hi;obtain⟨u,_,h2,h3,h4⟩:=h.rt i hi
  grind
theorem UF.rr{n:Nat}{up:List Int}{r:Nat->Nat}(h:UF n up r):∀i,i<n->r (r i)=r i:=by
 intro i
 induction i using Nat.strongRecOn with
 |ind i ih=>
  intro hi;obtain⟨u,_,h2,h3,h4⟩:=h.rt i hi
  grind
theorem wj{l:List Int}{j:Nat}{v:Int}{i:Nat}(hj:j<l.length):(l.set j v)[i]? =if i=j then some v else l[i]? :=by
 grind
def lL(r:Nat->Nat)(a b:Nat):Nat->Nat:=λx=>if r x=max a b then min a b else r x
theorem DW(a b:Nat):(if((a:Nat):Int)<((b:Nat):Int)then((b:Nat):Int)else((a:Nat):Int))=((max a b:Nat):Int):=by
 omega
theorem DX(a b:Nat):(if((b:Nat):Int)<((a:Nat):Int)then((b:Nat):Int)else((a:Nat):Int))=((min a b:Nat):Int):=by
 omega
def nS(r:Nat->Nat)(E:List (Nat×Nat)):Prop:=∀p∈E,r p.1=r p.2
def v8(n:Nat)(r:Nat->Nat)(E:List (Nat×Nat)):Prop:=∀S:Nat->Prop,(∀p∈E,S p.1↔S p.2)->∀i j,i<n->j<n->r i=r j->S i->S j
theorem nS.join{r:Nat->Nat}{E:List (Nat×Nat)}(h:nS r E)(i k:Nat)(_h2:r (r i)=r i):nS (lL r (r i)<|r k) (E++[(i,k)]):=λp hp=>by
 rcases kK.1 hp with hp|hp
 ·unfold lL;rw[h p hp]
 ·simp at hp;subst hp;unfold lL;dsimp only;split <;> split <;> omega
theorem v8.join{n:Nat}{r:Nat->Nat}{E:List (Nat×Nat)}(h:v8 n r E){i k:Nat}(hi:i<n)(hk:k<n):v8 n (lL r (r i)<|r k) (E++[(i,k)]):=λS hS x y hx hy hr hSx=>by
 have hE:∀p∈E,S p.1↔S p.2:=λp hp=>hS p<|List.mem_append_left _ hp
 have hik:S i↔S k:=hS (i,k) (by simp);have key:=h S hE;unfold lL at hr
 by_cases h1:r x=r y
 ·exact key x y hx hy h1 hSx
 ·have:(r x=r i/\r y=r k)\/(r x=r k/\r y=r i):=by
   split at hr <;> split at hr <;> omega
  rcases this with⟨e1,e2⟩|⟨e1,e2⟩
  ·exact key k y hk hy e2.symm<|hik.1<|key x i hx hi e1 hSx
  ·exact key i y hi hy e2.symm<|hik.2<|key x k hx hk e1 hSx
theorem v8.id(n:Nat):v8 n (λi=>i) []:=λS _ i j _ _ h hs=>by
 have h:i=j:=h;subst h;exact hs
theorem nS.id:nS (λi=>i) []:=λp hp=>by simp at hp
def cls(n:Nat)(r:Nat->Nat)(k:Nat):List Nat:=(List.range n).filter<|λi=>decide<|r i=k
end
end Go.Gk
namespace Go.Gk
open Go IntKind Classical
def lB(a b:aN):aN:=⟨a.bL++b.bL⟩
theorem kn{a b:aN}(h:a.bL.length+b.bL.length<=9223372036854775807):mw a b=some (lB a b):=by unfold mw lB;rw[aH h]
theorem uJ(a b:aN):(lB a b).bL.length=a.bL.length+b.bL.length:=bY
def qI(b:aN)(u:ln):aN:=lB (lB b u.Name) ⟨[47]⟩
theorem x9(b:aN)(u:ln):(qI b u).bL.length=b.bL.length+u.Name.bL.length+1:=by
 unfold qI;rw[uJ,uJ];have:(⟨[47]⟩:aN).bL.length=1:=rfl;omega
def dV(l:List aF):Nat->Nat->aN->Nat->List (Nat×aN×Nat)
 | 0,_,_,_=>[]
 |d+1,i,b,w=>(i,b,w)::(gF l i).flatMap λu=>dV l d (cQ l u) (qI b u) (w+1)
def w6(l:List aF)(e:Nat×aN×Nat):List Part:=(sP l e.1).map λp=>⟨lB e.2.1 p.Name,p.eD⟩
def t9(l:List aF)(e:Nat×aN×Nat):List aC:=(fV l e.1).map λn=>⟨lB e.2.1 n.Name,((e.2.2+1:Nat):Int)⟩
def uK(us:List ln)(p:Pin):Bool:=decide<|nat? ln.Name us p.Part<0
def lJ(us:List ln)(b:aN)(ps:List Pin):List Pin:=(ps.filter<|uK us).map λp=>⟨lB b p.Part,p.Pin⟩
def rD(l:List aF)(e:Nat×aN×Nat):List (List Pin):=(fV l e.1).map λn=>lJ (gF l e.1) e.2.1 n.aU
def iB(ns:List Net)(p:Pin):Option Nat:=ns.findIdx? λn=>decide<|p∈n.aU
def FF(ns ms:List Net)(base:Nat)(w:aN)(bu j:Nat):List (Nat×Nat):=(ms[j]?).elim [] λn=>n.aO.filterMap λq=>(iB ns ⟨w,q⟩).map λa=>(base+a,bu+j)
def FG(ns ms:List Net)(base:Nat)(w:aN)(bu:Nat):List (Nat×Nat):=(List.range ms.length).flatMap<|FF ns ms base w bu
def uc(l:List aF):Nat->Nat->Nat
 | 0,_=>0
 |d+1,i=>(fV l i).length+((gF l i).map λu=>uc l d (cQ l u)).sum
def CQ(l:List aF):Nat->Nat->Nat->List (Nat×Nat)
 | 0,_,_=>[]
 |d+1,i,base=>((gF l i).foldl (λst u=>(st.1++(CQ l d (cQ l u) st.2++FG (fV l i) (fV l (cQ l u)) base u.Name st.2),st.2+uc l d (cQ l u))) (([]:List (Nat×Nat)),base+(fV l i).length)).1
def gY(r:Nat->Nat)(J:List (Nat×Nat)):Nat->Nat:=J.foldl (λr e=>lL r (r e.1)<|r e.2) r
theorem mR(r:Nat->Nat)(J J':List (Nat×Nat)):gY r (J++J')=gY (gY r J) J':=List.foldl_append
def xl(n:Nat)(r:Nat->Nat):Prop:=∀i,n<=i->r i=i
theorem UF.push{n:Nat}{up:List Int}{r:Nat->Nat}(h:UF n up r)(hr:xl n r):UF (n+1) (up++[((n:Nat):Int)]) r:=by
 have hl:=h.len;refine⟨by rw[bY,hl];rfl,λi hi=>?_⟩
 by_cases e:i=n
 ·subst e;exact⟨i,by rw[ja (by omega),hl];simp,bV _,rfl,by simp[hr i<|bV _]⟩
 ·obtain⟨u,h1,h2⟩:=h.rt i (by omega);exact⟨u,by rw[jW (by omega)];exact h1,h2⟩
theorem xl.up{n m:Nat}{r:Nat->Nat}(h:xl n r)(hm:n<=m):xl m r:=λi hi=>h i (by omega)
theorem xl.join{n:Nat}{up:List Int}{r:Nat->Nat}(h:xl n r)(hu:UF n up r){a b:Nat}(ha:a<n)(hb:b<n):xl n (lL r (r a)<|r b):=λi hi=>by
 have h1:=hu.le a ha;have h2:=hu.le b hb;have h3:=h i hi;unfold lL;rw[aJ (by omega),h3]
theorem vr(l:List aF):∀(d i:Nat)(b:aN)(w:Nat),((dV l d i b w).flatMap<|t9 l).length=uc l d i
 | 0,_,_,_=>rfl
 |d+1,i,b,w=>by
  unfold dV uc;rw[mW,bY,List.flatMap_assoc,lF];congr 1
  ·unfold t9;rw[eK]
  ·congr 1;exact List.map_congr_left λu _=>vr l d _ _ _
theorem w7(l:List aF):∀(d i:Nat)(b:aN)(w:Nat),((dV l d i b w).flatMap<|w6 l).length=(jE l d i).2
 | 0,_,_,_=>rfl
 |d+1,i,b,w=>by
  unfold dV jE;rw[mW,bY,List.flatMap_assoc,lF];congr 1
  ·unfold w6;rw[eK]
  ·congr 1;exact List.map_congr_left λu _=>w7 l d _ _ _
theorem vt{l:List aF}(h:∀i,(fV l i).length<=1000):∀(d i:Nat),uc l d i<=1000*(jE l d i).1
 | 0,_=>bV _
 |d+1,i=>by
  unfold uc jE;have h1:=h i;have key:∀us:List ln,(us.map λu=>uc l d<|cQ l u).sum<=1000*(us.map λu=>(jE l d<|cQ l u).1).sum:=by
   intro us
   induction us with
   |nil=>simp
   |cons u us ih=>
    simp only[fR,List.sum_cons];have:=vt h d<|cQ l u
    omega
  have:=key<|gF l i
  dsimp only;omega
theorem nr{l:List Nat}(k:Nat):(l.take k).sum<=l.sum:=by
 have h:(l.take k++l.drop k).sum=l.sum:=by rw[List.take_append_drop]
 rw[List.sum_append]at h;omega
section
variable {N:Nat}
theorem yS{n:Nat}{up:List Int}{r:Nat->Nat}(h:UF n up r){i:Nat}(hi:i<n)(hn:n<N):∃up',bZ N up ((i:Nat):Int)=some (((r i:Nat):Int),up')/\UF n up' r:=by
 unfold bZ;obtain⟨o,h1,h2⟩:=wg (R:=Empty) (body:=λ(s32:List Int×Int)=>((idx s32.1 s32.2).bind λx43=>bif x43 != s32.2 then((idx s32.1 s32.2).bind λx44=>(idx s32.1 x44).bind λx45=>(idx s32.1 s32.2).bind λx46=>(idx (s32.1.set (Int.toNat s32.2) x45) s32.2).bind λx47=>some<|.nx (s32.1.set (Int.toNat s32.2) x45,x47))else(some<|.br (s32.1,s32.2)):Option (Fl (List Int×Int) Empty)))
  (λs=>UF n s.1 r/\∃j:Nat,s.2=((j:Nat):Int)/\j<n/\r j=r i) (λs=>s.2.toNat) (λs=>s.2=((r i:Nat):Int)/\UF n s.1 r) (λ_=>True) (λs⟨hu,j,hj,hjn,hr⟩=>by
   obtain⟨l,y⟩:=s;dsimp only at hu hj ⊢;subst hj;obtain⟨u,a1,a2,a3,a4⟩:=hu.rt j hjn;rw[bQ a1,aA]
   by_cases e:u=j
   ·simp_all
   ·obtain⟨v,b1,b2,b3,b4⟩:=hu.rt u (by omega);have hl:=hu.len
    refine⟨.nx (l.set j ((v:Nat):Int),((v:Nat):Int)),by
     grind [aA,bQ,dA,wj],⟨⟨by simp[hl],λk hk=>?_⟩,v,rfl,by omega,?_⟩,?_⟩
    ·rw[wj (by omega)]
     by_cases e2:k=j
     ·grind
     ·rw[aJ e2];exact hu.rt k hk
    ·omega
    omega)
  N (up,((i:Nat):Int)) ⟨h,i,rfl,hi,rfl⟩ (by omega)
 rw[h1,aA]
 cases o with
 |go s'=>exact⟨s'.1,by rw[<-h2.1];rfl,h2.2⟩
 |rt r=>exact r.elim
theorem DY{n:Nat}{up:List Int}{r:Nat->Nat}(h:UF n up r){i k:Nat}(hi:i<n)(hk:k<n)(hn:n<N):
  ∃up',((bZ N up ((i:Nat):Int)).bind λx978=>(bZ N x978.2 ((k:Nat):Int)).bind λx980=>(idx x980.2 (if x978.1<x980.1 then x980.1 else x978.1)).bind λx982=>some<|x980.2.set (Int.toNat (if x978.1<x980.1 then x980.1 else x978.1)) (if x980.1<x978.1 then x980.1 else x978.1))=some up'/\UF n up' (lL r (r i)<|r k):=by
 obtain⟨u1,a1,a2⟩:=yS h hi hn;obtain⟨u2,b1,b2⟩:=yS a2 hk hn;have hri:=h.le i hi;have hrk:=h.le k hk;have rri:=h.rr i hi;have rrk:=h.rr k hk;rw[a1,aA,b1,aA];dsimp only;rw[DW,DX];have hm:max (r i) (r k)<n:=by omega
 have hl:=b2.len;rw[m5 _ _ (by omega),aA,dA];refine⟨_,rfl,by simp[hl],λx hx=>?_⟩;have rmax:r (max (r i)<|r k)=max (r i) (r k):=by grind
 have rmin:r (min (r i)<|r k)=min (r i) (r k):=by grind
 rw[wj (by omega)]
 by_cases e:x=max (r i) (r k)
 ·grind [Min.min,lL]
 ·rw[aJ e];obtain⟨u,c1,c2,c3,c4⟩:=b2.rt x hx
  grind [lL,Min.min,Max.max]
end
section
variable {N:Nat}{l:List aF}{ρ:Nat->Nat}
theorem uL(hR:pD l ρ)(hU:∀s∈l,∀u∈s.Uses,0<=nat? aF.Name l u.aF)(hl:l.length<=1048576)(hul:∀s∈l,s.Uses.length<=100):∀(d i:Nat),i<l.length->ρ i<d->
  fA N d l ((i:Nat):Int)=some ((min (jT l i).1 2001:Nat):Int)
 | 0,_,_,h=>by omega
 |d+1,i,hi,hd=>by
  have hs:l[i]? =some l[i]:=aP hi;have b1:=hul _<|cB hi
  have hus:=nj hs;have hc:=BA hR hU hi;refine Lr ?_;show Ok (eZ N (fA N d) l ((i:Nat):Int)) _;unfold eZ;rw[bQ hs,aA];refine KA (LF (λk st=>st=((1+((l[i].Uses.take k).map λu=>(jT l<|cQ l u).1).sum:Nat):Int)/\1+((l[i].Uses.take k).map λu=>(jT l<|cQ l u).1).sum<=2000) (Go:=λst=>st=((min (jT l i).1 2001:Nat):Int)) (Rt:=λr=>r=((min (jT l i).1 2001:Nat):Int)) (by omega) ⟨by simp,by simp⟩ ?_ ?_)<|λo ho=>Ld ho (λs hs=>Kn hs)<|λr hr=>Kn hr
  ·rintro k st hk⟨h1,h2⟩;subst h1;have hy:l[i].Uses[k]? =some l[i].Uses[k]:=aP hk;obtain⟨e,h3,h4,h5⟩:=oV hR hU (i:=i) (u:=l[i].Uses[k]) (by rw[hus];exact cB hk);have hst:((l[i].Uses.take<|k+1).map λu=>(jT l<|cQ l u).1).sum=((l[i].Uses.take k).map λu=>(jT l<|cQ l u).1).sum+(jT l<|cQ l l[i].Uses[k]).1:=by
    rw[gU hk,eR,List.sum_append];simp
   have hle:((l[i].Uses.take<|k+1).map λu=>(jT l<|cQ l u).1).sum<=(jT l i).1 - 1:=by
    rw[hc,hus];dsimp only;have:=nr (l:=l[i].Uses.map λu=>(jT l<|cQ l u).1)<|k+1
    rw[List.map_take];omega
   have hpos:1<=(jT l i).1:=by rw[hc];dsimp only;omega
   rw[bQ hy,aA,k9 hl,aA,e,uL hR hU hl hul d _ h3 (by omega),aA,wrap_add (by omega)];rw[hst]at hle ⊢;generalize ((l[i].Uses.take k).map λu=>(jT l<|cQ l u).1).sum=S at *;generalize (jT l<|cQ l l[i].Uses[k]).1=c at *;generalize (jT l i).1=T at *;have ev:(if 2001<((1+S+min c 2001:Nat):Int)then(2001:Int)else((1+S+min c 2001:Nat):Int))=((min (1+S+c) 2001:Nat):Int):=by split <;> omega
   rw[ev]
   by_cases hb:2000<1+S+c
   ·rw[bR (show((min (1+S+c) 2001:Nat):Int)>2000 by omega),bK];exact Ly (by omega)
   ·rw[bJ (show ¬((min (1+S+c) 2001:Nat):Int)>2000 by omega),aW];exact Li ⟨by omega,by omega⟩
  ·rintro st⟨h1,h2⟩;rw[h1];rw[gG]at h2 ⊢;rw[hc,hus];dsimp only;omega
theorem z5{n:Nat}{up:List Int}{r:Nat->Nat}(h:UF n up r){i:Nat}(hi:i<n)(hn:n<N):eH N up ((i:Nat):Int)=some ((r i:Nat):Int):=by
 refine Lr ?_;unfold eH;refine KA (LQ (λs=>∃j:Nat,s=((j:Nat):Int)/\j<n/\r j=r i) (λs=>s.toNat) (Go:=λs=>s=((r i:Nat):Int)) (Rt:=λ_=>False) ?_ ⟨i,rfl,hi,rfl⟩ (by simp only[dA];omega))<|λo ho=>Ld ho (λs hs=>Kn hs)<|λr h=>h.elim
 rintro s⟨j,rfl,hj,hr⟩;obtain⟨u,a1,a2,a3,a4⟩:=h.rt j hj;rw[bQ a1,aA]
 by_cases e:u=j
 ·subst e;rw[bne_self_eq_false,aW];exact LD (by rw[<-hr,a4.1 rfl])
 ·rw[show(((u:Nat):Int) != ((j:Nat):Int))=true by rw[bne_iff_ne];omega,bK,aA];exact Li ⟨⟨u,rfl,by omega,by omega⟩,by simp only[dA];omega⟩
theorem ya{n:Nat}{up:List Int}{r:Nat->Nat}(h:UF n up r){i:Nat}(hi:i<n)(hn:n<N):dJ N up ((i:Nat):Int)=some ((r i:Nat):Int):=z5 h hi hn
theorem DZ{n:Nat}{up:List Int}{r:Nat->Nat}(h:UF n up r){i k:Nat}(hi:i<n)(hk:k<n)(hn:n<N):
  ∃up',eI N up ((i:Nat):Int) ((k:Nat):Int)=some up'/\UF n up' (lL r (r i)<|r k):=by
 have hri:=h.le i hi;have hrk:=h.le k hk;have rri:=h.rr i hi;have rrk:=h.rr k hk;unfold eI;rw[ya h hi hn,aA,ya h hk hn,aA];rw[DW,DX];have hm:max (r i) (r k)<n:=by omega
 have hl:=h.len;rw[m5 _ _ (by omega),aA,dA];refine⟨_,rfl,by simp[hl],λx hx=>?_⟩;have rmax:r (max (r i)<|r k)=max (r i) (r k):=by grind
 have rmin:r (min (r i)<|r k)=min (r i) (r k):=by grind
 rw[wj (by omega)]
 by_cases e:x=max (r i) (r k)
 ·grind [Min.min,lL]
 ·rw[aJ e];obtain⟨u,c1,c2,c3,c4⟩:=h.rt x hx
  grind [lL,Min.min,Max.max]
theorem w8{n:Nat}:∀(J:List (Nat×Nat))(r:Nat->Nat)(E:List (Nat×Nat)),(∀i,i<n->r (r i)=r i)->(∀i,i<n->r i<=i)->(∀e∈J,e.1<n/\e.2<n)->nS r E->v8 n r E->
  nS (gY r J) (E++J)/\v8 n (gY r J) (E++J)/\(∀i,i<n->gY r J (gY r J i)=gY r J i)/\∀i,i<n->gY r J i<=i
 | [],r,E,h1,h2,_,h4,h5=>by rw[iH];exact⟨h4,h5,h1,h2⟩
 |e::J,r,E,h1,h2,h3,h4,h5=>by
  obtain⟨ha,hb⟩:=h3 e (by simp);have c1:nS (lL r (r e.1)<|r e.2) (E++[e]):=h4.join e.1 e.2<|h1 _ ha
  have c2:v8 n (lL r (r e.1)<|r e.2) (E++[e]):=h5.join ha hb;have r1:=h2 _ ha;have r2:=h2 _ hb;have q1:=h1 _ ha;have q2:=h1 _ hb
  have:=w8 J (lL r (r e.1) (r e.2)) (E++[e]) (λi hi=>by
   have h6:=h1 i hi;unfold lL
   grind) (λi hi=>by
   have h6:=h2 i hi;unfold lL
   split <;> omega) (λx hx=>h3 x (by simp[hx])) c1 c2
  rw[cF,List.singleton_append]at this;exact this
theorem Cs{n:Nat}{r r':Nat->Nat}{E E':List (Nat×Nat)}(hE:∀a b,(a,b)∈E'↔(b,a)∈E)(c:nS r E)(f:v8 n r E)(c':nS r' E')(f':v8 n r' E')(q:∀i,i<n->r (r i)=r i)(q':∀i,i<n->r' (r' i)=r' i)(l1:∀i,i<n->r i<=i)(l2:∀i,i<n->r' i<=i):
  ∀i,i<n->r i=r' i:=by
 have k1:∀i j,i<n->j<n->r i=r j->r' i=r' j:=λi j hi hj h=>by
  have:=f (λx=>r' x=r' i) (λp hp=>by
   have:=c' (p.2,p.1)<|(hE _ _).2 hp
   dsimp only at this ⊢
   rw[this]) i j hi hj h rfl
  exact this.symm
 have k2:∀i j,i<n->j<n->r' i=r' j->r i=r j:=λi j hi hj h=>by
  have:=f' (λx=>r x=r i) (λp hp=>by
   have:=c (p.2,p.1)<|(hE _ _).1 hp
   dsimp only at this ⊢
   rw[this]) i j hi hj h rfl
  exact this.symm
 intro i hi;have a1:=l1 i hi;have a2:=l2 i hi;have e1:r' (r i)=r' i:=k1 _ _ (by omega) hi<|q i hi
 have e2:r (r' i)=r i:=k2 _ _ (by omega) hi<|q' i hi
 have b1:=l2 (r i) (by omega);have b2:=l1 (r' i) (by omega);omega
end
theorem w9{s:aN}(h:isWord s=true):1<=s.bL.length/\s.bL.length<=40:=by
 unfold isWord at h;simp only[cJ,il]at h;exact h.2
def D0(ns:List Net)(base:Nat)(m:List (aN×Int))(j:Nat):Prop:=∀a n,a<j->ns[a]? =some n->cP m n.Name 0=((base+a:Nat):Int)
def HF(ns:List Net)(base:Nat)(m:List (Pin×Int))(j:Nat):Prop:=∀p,iP m p=(iB (ns.take j) p).isSome/\∀a,iB (ns.take j) p=some a->cP m p 0=((base+a:Nat):Int)
theorem vM{ns:List Net}{j:Nat}(hj:j<ns.length)(p:Pin):iB (ns.take<|j+1) p=(iB (ns.take j) p).or (if p∈ns[j].aU then some j else none):=by
 unfold iB;rw[gU hj,List.findIdx?_append];congr 1;rw[cC,Nat.min_eq_left (by omega)]
 by_cases h:p∈ns[j].aU
 ·simp[List.findIdx?_cons,h]
 ·simp[List.findIdx?_cons,h]
theorem nu{ns:List Net}{p:Pin}{a:Nat}(h:iB ns p=some a):∃n,ns[a]? =some n/\p∈n.aU:=by
 unfold iB at h;rw[List.findIdx?_eq_some_iff_getElem]at h;obtain⟨h1,h2,_⟩:=h;exact⟨ns[a],aP h1,by simpa using h2⟩
theorem HF.step{ns:List Net}{base:Nat}{m:List (Pin×Int)}{j:Nat}(h:HF ns base m j)(hj:j<ns.length)(once:∀(i j:Nat)(n m:Net)(p:Pin),ns[i]? =some n->ns[j]? =some m->p∈n.aU->p∈m.aU->i=j):HF ns base (kG m ns[j].aU ((base+j:Nat):Int)) (j+1):=λp=>by
 obtain⟨h1,h2⟩:=h p;rw[AP,t7,vM hj]
 by_cases hp:p∈ns[j].aU
 ·have hn:iB (ns.take j) p=none:=by
   cases ha:iB (ns.take j) p with
   |none=>rfl
   |some a=>
    obtain⟨n,g1,g2⟩:=nu ha;have hlt:=(bM.1 g1).1;rw[cC]at hlt;rw[eC,aH (by omega)]at g1;have:=once a j n ns[j] p g1 (aP hj) g2 hp;omega
  rw[hn,aH hp,aH hp,bR hp];exact⟨rfl,λa ha=>by injection ha with ha;rw[ha]⟩
 ·rw[aJ hp,aJ hp,bJ hp,Option.or_none,Bool.false_or];exact⟨h1,h2⟩
section
variable {N:Nat}{t:List aG}{l:List aF}{ρ:Nat->Nat}
theorem D1{us:List ln}{b:aN}{n:Net}{m:List (Pin×Int)}{x:Int}(hul:us.length<=1048576)(hpl:n.aU.length<=500)(hb:b.bL.length<=10000)(hp:∀p∈n.aU,p.Part.bL.length<=1048576):
  kJ n.aU.length (λ(k283:Nat)(s284:List (Pin×Int)×List Pin)=>((idx n.aU (k283:Int)).bind λx328=>(iM N us x328.Part).bind λx334=>(bif decide (x334<0)then((mw b x328.Part).bind λx342=>(app 32 s284.2 ([(⟨x342,x328.Pin⟩:Pin)]:List Pin)).bind λx345=>some x345)else some s284.2).bind λs340=>some (fM s284.1 x328 x,s340):Option (List (Pin×Int)×List Pin))) (m,([]:List Pin))=some (kG m n.aU x,lJ us b n.aU):=by
 have h:=KI (m:=n.aU.length) (s:=(m,([]:List Pin))) (body:=λ(k283:Nat)(s284:List (Pin×Int)×List Pin)=>((idx n.aU (k283:Int)).bind λx328=>(iM N us x328.Part).bind λx334=>(bif decide (x334<0)then((mw b x328.Part).bind λx342=>(app 32 s284.2 ([(⟨x342,x328.Pin⟩:Pin)]:List Pin)).bind λx345=>some x345)else some s284.2).bind λs340=>some (fM s284.1 x328 x,s340):Option (List (Pin×Int)×List Pin)))
  (λk s=>s=(kG m (n.aU.take k) x,lJ us b (n.aU.take k))) (by omega) (by simp[kG,lJ]) (λk s hk e=>by
  subst e;have hx:n.aU[k]? =some n.aU[k]:=aP hk;have hle:(lJ us b<|n.aU.take k).length<=k:=by
   unfold lJ;rw[eK];exact iG (List.length_filter_le _ _) (by rw[cC];omega)
  have h1:=hp _<|cB hk
  have e1:kG m (n.aU.take<|k+1) x=fM (kG m (n.aU.take k) x) n.aU[k] x:=by
   unfold kG;rw[gU hk,List.foldl_append];rfl
  have e2:lJ us b (n.aU.take<|k+1)=lJ us b (n.aU.take k)++if nat? ln.Name us n.aU[k].Part<0 then [⟨lB b n.aU[k].Part,n.aU[k].Pin⟩]else []:=by
   unfold lJ uK;rw[gU hk,List.filter_append,eR];congr 1
   by_cases h:nat? ln.Name us n.aU[k].Part<0
   ·simp[h]
   ·simp[h]
  rw[bQ hx,aA,zY hul,aA]
  by_cases h:nat? ln.Name us n.aU[k].Part<0
  ·rw[bR h,bK,kn (by omega),aA,ig (by simp only[dM,List.length_nil];omega),aA,aA];exact Kn (by rw[e1,e2,aH h])
  ·rw[bJ h,aW,aA]
   exact Kn (by rw[e1,e2,aJ h,iH]))
 refine Lr<|h.mono λs hs=>?_
 rw[hs,gG]
theorem AY{n:Nat}{ns ms:List Net}{base:Nat}{w:aN}{bu:Nat}{ofm:List (Pin×Int)}{num:List (aN×Int)}{up:List Int}{r:Nat->Nat}(hU:UF n up r)(hRI:xl n r)(hof:HF ns base ofm ns.length)(hnum:D0 ms bu num ms.length)
  (h1:base+ns.length<=n) (h2:bu+ms.length<=n) (hn:n<N) (hml:ms.length<=1000) (hpo:∀m∈ms,m.aO.length<=100):
  Ok (kJ ms.length (λ(k801:Nat)(s802:List Int)=>((idx ms (k801:Int)).bind λx926=>(kJ x926.aO.length (λ(k931:Nat)(s932:List Int)=>((idx x926.aO (k931:Int)).bind λx968=>(bif iP ofm (⟨w,x968⟩:Pin)then((bZ N s932<|cP ofm (⟨w,x968⟩:Pin) (0:Int)).bind λx978=>(bZ N x978.2<|cP num x926.Name (0:Int)).bind λx980=>(idx x980.2 (if x978.1<x980.1 then x980.1 else x978.1)).bind λx982=>some<|x980.2.set (Int.toNat (if x978.1<x980.1 then x980.1 else x978.1)) (if x980.1<x978.1 then x980.1 else x978.1))else some s932).bind λs976=>some s976:Option (List Int))) s802).bind λs932=>some s932:Option (List Int))) up)
   (λup'=>UF n up' (gY r<|FG ns ms base w bu)/\xl n (gY r<|FG ns ms base w bu)):=by
 refine Ok.mono (KI (λj s=>UF n s (gY r<|(List.range j).flatMap<|FF ns ms base w bu)/\xl n (gY r<|(List.range j).flatMap<|FF ns ms base w bu)) (by omega) ⟨hU,hRI⟩<|λj s hj⟨g1,g2⟩=>?_)<|λs hs=>hs
 have hx:ms[j]? =some ms[j]:=aP hj;have hp:=hpo _<|cB hj
 have hnj:=hnum j ms[j] hj hx;rw[List.range_succ,List.flatMap_append,mR];generalize gY r ((List.range j).flatMap<|FF ns ms base w bu)=r0 at g1 g2;have ej: [j].flatMap (FF ns ms base w bu)=ms[j].aO.filterMap λq=>(iB ns ⟨w,q⟩).map λa=>(base+a,bu+j):=by
  unfold FF;simp[hx]
 rw[ej,bQ hx,aA];refine KA (KI (λq s=>UF n s (gY r0<|(ms[j].aO.take q).filterMap λq=>(iB ns ⟨w,q⟩).map λa=>(base+a,bu+j))/\xl n (gY r0<|(ms[j].aO.take q).filterMap λq=>(iB ns ⟨w,q⟩).map λa=>(base+a,bu+j))) (by omega) ⟨g1,g2⟩ ?_) ?_
 ·rintro q s hq⟨g3,g4⟩;have hy:ms[j].aO[q]? =some ms[j].aO[q]:=aP hq;rw[gU hq,List.filterMap_append,mR];generalize gY r0 ((ms[j].aO.take q).filterMap λq=>(iB ns ⟨w,q⟩).map λa=>(base+a,bu+j))=r1 at g3 g4;obtain⟨o1,o2⟩:=hof ⟨w,ms[j].aO[q]⟩;rw[gG]at o1 o2;rw[bQ hy,aA,o1]
  cases hpn:iB ns ⟨w,ms[j].aO[q]⟩with
  |none=>
   rw[Option.isSome_none,aW,aA];refine Kn ?_;rw[List.filterMap_cons,hpn];exact⟨g3,g4⟩
  |some a=>
   obtain⟨m,k1,_⟩:=nu hpn;have vE:=(bM.1 k1).1;obtain⟨up',f1,f2⟩:=DY (N:=N) g3 (i:=base+a) (k:=bu+j) (by omega) (by omega) hn;rw[Option.isSome_some,bK,o2 a hpn,hnj,f1,aA];refine Kn ?_;rw[List.filterMap_cons,hpn];exact⟨f2,g4.join g3 (a:=base+a) (b:=bu+j) (by omega) (by omega)⟩
 ·intro s hs;rw[gG]at hs;exact Kn hs
end
section
variable {N:Nat}{t:List aG}{l:List aF}{ρ:Nat->Nat}
structure HR (l:List aF):Prop where
 xx:l.length<=100
 sO:∀s∈l,s.Uses.length<=100
 Ge:∀s∈l,∀u∈s.Uses,u.Name.bL.length<=40
 there:∀s∈l,∀u∈s.Uses,0<=nat? aF.Name l u.aF
 parts:∀s∈l,s.bB.length<=1000
 D2:∀s∈l,∀p∈s.bB,p.Name.bL.length<=40
 og:∀s∈l,s.aM.length<=1000
 Gf:∀s∈l,∀n∈s.aM,n.Name.bL.length<=40
 pins:∀s∈l,∀n∈s.aM,n.aU.length<=500
 Gg:∀s∈l,∀n∈s.aM,∀p∈n.aU,p.Part.bL.length<=1048576
 D3:∀s∈l,∀n∈s.aM,n.aO.length<=100
 up:∀s∈l,eF Net.Name s.aM
 once:∀s∈l,∀(i j:Nat)(n m:Net)(p:Pin),s.aM[i]? =some n->s.aM[j]? =some m->p∈n.aU->p∈m.aU->i=j
theorem fQ.Jz(h:fQ t l)(hbl:bk l<=1048576):HR l where
 xx:=h.xx
 sO s hs:=(h.ok s hs).sO.xx
 Ge s hs u hu:=(w9<|(h.ok s hs).sO.word u hu).2
 there s hs:=(h.ok s hs).sO.there
 parts s hs:=(h.ok s hs).DN
 D2 s hs p hp:=(w9<|(h.ok s hs).oT p hp).2
 og s hs:=(h.ok s hs).og.xx
 Gf s hs n hn:=(w9<|(h.ok s hs).og.word n hn).2
 pins s hs n hn:=(h.ok s hs).og.yR n hn
 Gg s hs n hn p hp:=by
  have h1:=ji hs;rw[na]at h1;have h2:=ji hn;rw[ve]at h2;have h3:=ji hp;rw[DF]at h3;have h4:=lI p.Part;omega
 D3 s hs n hn:=(h.ok s hs).og.sN n hn
 up s hs:=(h.ok s hs).og.up
 once s hs:=(h.ok s hs).og.once
def xz(l:List aF)(d:Nat)(b:aN)(w:Nat)(us:List ln):List (Nat×aN×Nat):=us.flatMap λu=>dV l d (cQ l u) (qI b u)<|w+1
def yb(l:List aF)(d i base:Nat)(us:List ln):List (Nat×Nat)×Nat:=us.foldl (λst u=>(st.1++(CQ l d (cQ l u) st.2++FG (fV l i) (fV l<|cQ l u) base u.Name st.2),st.2+uc l d (cQ l u))) (([]:List (Nat×Nat)),base+(fV l i).length)
theorem qJ{d:Nat}{b:aN}{w:Nat}{us:List ln}{k:Nat}(hk:k<us.length):xz l d b w (us.take<|k+1)=xz l d b w (us.take k)++dV l d (cQ l us[k]) (qI b us[k]) (w+1):=by
 unfold xz;rw[gU hk,List.flatMap_append];simp
theorem uM{d i base:Nat}{us:List ln}{k:Nat}(hk:k<us.length):yb l d i base (us.take<|k+1)=((yb l d i base<|us.take k).1++(CQ l d (cQ l us[k]) (yb l d i base<|us.take k).2++FG (fV l i) (fV l<|cQ l us[k]) base us[k].Name (yb l d i base<|us.take k).2),(yb l d i base<|us.take k).2+uc l d (cQ l us[k])):=by
 unfold yb;rw[gU hk,List.foldl_append];rfl
theorem D4(d:Nat)(b:aN)(w:Nat)(us:List ln):((xz l d b w us).flatMap<|t9 l).length=(us.map λu=>uc l d<|cQ l u).sum:=by
 unfold xz;rw[List.flatMap_assoc,lF];congr 1;exact List.map_congr_left λu _=>vr l d _ _ _
theorem D5(d:Nat)(b:aN)(w:Nat)(us:List ln):((xz l d b w us).flatMap<|w6 l).length=(us.map λu=>(jE l d<|cQ l u).2).sum:=by
 unfold xz;rw[List.flatMap_assoc,lF];congr 1;exact List.map_congr_left λu _=>w7 l d _ _ _
structure JA (l:List aF) (d i:Nat) (b:aN) (w:Nat) (P:List Part) (K:List aC) (Q:List (List Pin)) (r:Nat->Nat) (o:List (aN×Int)×List Part×List aC×List (List Pin)×List Int):Prop where
 pP:o.2.1=P++(dV l d i b w).flatMap (w6 l)
 pK:o.2.2.1=K++(dV l d i b w).flatMap (t9 l)
 pQ:o.2.2.2.1=Q++(dV l d i b w).flatMap (rD l)
 pU:UF o.2.2.1.length o.2.2.2.2 (gY r<|CQ l d i K.length)
 pI:xl o.2.2.1.length (gY r<|CQ l d i K.length)
 pN:D0 (fV l i) K.length o.1 (fV l i).length
theorem ta(S:HR l):∀i,(fV l i).length<=1000:=λi=>by
 unfold fV
 cases h:l[i]? with
 |none=>exact la _
 |some s=>exact S.og s (dD h)
theorem rE(f g:ln->Nat)(h:∀u,f u<=1000*g u):∀us:List ln,(us.map f).sum<=1000*(us.map g).sum
 | []=>by simp
 |u::us=>by
  simp only[fR,List.sum_cons];have:=h u;have:=rE f g h us;omega
theorem D6(S:HR l)(hR:pD l ρ)(hN:4398046511104<=N):∀(d i:Nat)(b:aN)(w:Nat)(P:List Part)(K:List aC)(Q:List (List Pin))(U:List Int)(r:Nat->Nat),i<l.length->ρ i<d->b.bL.length+41*ρ i<=5000->w+ρ i<=1000->
  K.length+1000*(jE l d i).1<=3000000->P.length+(jE l d i).2<=1000000->Q.length=K.length->UF K.length U r->xl K.length r->
  Ok (eX N d l P K Q U ((i:Nat):Int) b ((w:Nat):Int)) (JA l d i b w P K Q r)
 | 0,_,_,_,_,_,_,_,_,_,h,_,_,_,_,_,_,_=>by omega
 |d+1,i,b,w,P,K,Q,U,r,hi,hd,hb,hw,hK,hP,hQ,hU,hI=>by
  show Ok (eW N (eX N d) l P K Q U ((i:Nat):Int) b ((w:Nat):Int)) _;unfold eW;have hs:l[i]? =some l[i]:=aP hi;have hm:l[i]∈l:=cB hi;have e1:=nj hs;have e2:=s9 hs;have e3:=w5 hs;have f1:=S.sO _ hm;have f2:=S.parts _ hm;have f3:=S.og _ hm;unfold jE at hK hP;rw[e1]at hK hP;rw[e2]at hP;dsimp only at hK hP;rw[bQ hs,aA];refine KA (KI (λk st=>st=P++(l[i].bB.take k).map λp=>(⟨lB b p.Name,p.eD⟩:Part)) (by omega) (by simp)<|λk st hk e=>?_)<|λP1 eP=>?_
  ·subst e;have hx:l[i].bB[k]? =some l[i].bB[k]:=aP hk;have hpw:=S.D2 _ hm _<|cB hk
   rw[bQ hx,aA,kn (by omega),aA,ig (by simp only[bY,eK,cC,dM,List.length_nil];omega),aA];refine Kn ?_;rw[gU hk,eR,cF];rfl
  rw[gG]at eP;refine KA (KI (λk st=>st.1=K++(l[i].aM.take k).map (λn=>(⟨lB b n.Name,((w+1:Nat):Int)⟩:aC))/\st.2.1=Q++(l[i].aM.take k).map (λn=>lJ l[i].Uses b n.aU)/\UF (K.length+k) st.2.2.1 r/\D0 l[i].aM K.length st.2.2.2.1 k/\HF l[i].aM K.length st.2.2.2.2 k) (by omega) ⟨by simp,by simp,hU,λa n h=>by omega,λp=>⟨rfl,λa h=>by cases h⟩⟩ ?_) ?_
  ·rintro k⟨K',Q',U',num,of⟩hk⟨g1,g2,g3,g4,g5⟩;dsimp only at g1 g2 g3 g4 g5 ⊢;subst g1;subst g2;have hx:l[i].aM[k]? =some l[i].aM[k]:=aP hk;have hnm:=cB hk;have hnw:=S.Gf _ hm _ hnm;have hUl:=g3.len;have hlen:(K++(l[i].aM.take k).map (λn=>(⟨lB b n.Name,((w+1:Nat):Int)⟩:aC))).length=K.length+k:=by
    simp only[bY,eK,cC];omega
   rw[bQ hx,aA,kn (by omega),aA,zX (by omega),ig (by rw[hlen];simp only[dM,List.length_nil];omega),aA,ig (by simp only[dM,List.length_nil];omega),aA,hlen,D1 (by omega) (S.pins _ hm _ hnm) (by omega) (S.Gg _ hm _ hnm),aA,
    ig (by simp only[bY,eK,cC,dM,List.length_nil];omega),aA]
   refine Kn ⟨?_,?_,g3.push<|hI.up (by omega),λa n ha hn=>?_,g5.step hk<|S.once _ hm⟩
   ·dsimp only;rw[gU hk,eR,cF];rfl
   ·dsimp only;rw[gU hk,eR,cF];rfl
   ·dsimp only;rw[oq]
    by_cases ea:n.Name=l[i].aM[k].Name
    ·rw[aH ea,(S.up _ hm).inj hn hx ea]
    ·rw[aJ ea];refine g4 a n ?_ hn
     by_cases ek:a=k
     ·subst ek;rw[hx]at hn;injection hn with hn;exact absurd (by rw[hn]) ea
     ·omega
  rintro⟨K1,Q1,U1,num,of⟩⟨g1,g2,g3,g4,g5⟩;dsimp only at g1 g2 g3 g4 g5 ⊢;rw[gG]at g1 g2;have hnk:t9 l (i,b,w)=l[i].aM.map (λn=>(⟨lB b n.Name,((w+1:Nat):Int)⟩:aC)):=by unfold t9;rw[e3]
  have hpt:w6 l (i,b,w)=l[i].bB.map (λp=>(⟨lB b p.Name,p.eD⟩:Part)):=by unfold w6;rw[e2]
  have hpn:rD l (i,b,w)=l[i].aM.map (λn=>lJ l[i].Uses b n.aU):=by unfold rD;rw[e3,e1]
  rw[<-hnk]at g1;rw[<-hpn]at g2;rw[<-hpt]at eP;have hK1:K1.length=K.length+l[i].aM.length:=by rw[g1,hnk,bY,eK]
  have hP1:P1.length=P.length+l[i].bB.length:=by rw[eP,hpt,bY,eK]
  have hQ1:Q1.length=K1.length:=by rw[g2,hpn,bY,eK,hK1,hQ]
  have hI1:xl K1.length r:=hI.up (by omega);rw[<-hK1]at g3
  refine KA (KI (λk st=>st.1=P1++(xz l d b w (l[i].Uses.take k)).flatMap (w6 l)/\st.2.1=K1++(xz l d b w (l[i].Uses.take k)).flatMap (t9 l)/\st.2.2.1=Q1++(xz l d b w (l[i].Uses.take k)).flatMap (rD l)/\st.2.2.1.length=st.2.1.length/\(yb l d i K.length (l[i].Uses.take k)).2=st.2.1.length/\
   UF st.2.1.length st.2.2.2 (gY r (yb l d i K.length (l[i].Uses.take k)).1)/\xl st.2.1.length (gY r (yb l d i K.length (l[i].Uses.take k)).1)) (by omega) ⟨by simp[xz],by simp[xz],by simp[xz],hQ1,by show K.length+(fV l i).length=K1.length;rw[e3,hK1],g3,hI1⟩ ?_) ?_
  ·rintro k⟨P',K',Q',U'⟩hk⟨h1,h2,h3,h4,h5,h6,h7⟩;dsimp only at h1 h2 h3 h4 h5 h6 h7 ⊢;have hx:l[i].Uses[k]? =some l[i].Uses[k]:=aP hk;have hum:=cB hk;have huw:=S.Ge _ hm _ hum;obtain⟨q1,q2,q3,q4⟩:=oV hR S.there (i:=i) (u:=l[i].Uses[k]) (by rw[e1];exact hum);have hpl:=x9 b l[i].Uses[k];have hK'l:K'.length=K1.length+((l[i].Uses.take k).map λu=>uc l d<|cQ l u).sum:=by rw[h2,bY,D4]
   have hP'l:P'.length=P1.length+((l[i].Uses.take k).map λu=>(jE l d<|cQ l u).2).sum:=by rw[h1,bY,D5]
   have s1:=rE (λu=>uc l d<|cQ l u) (λu=>(jE l d<|cQ l u).1) (λu=>vt (ta S) d _)<|l[i].Uses.take k
   have s2:((l[i].Uses.take<|k+1).map λu=>(jE l d<|cQ l u).1).sum<=(l[i].Uses.map λu=>(jE l d<|cQ l u).1).sum:=by
    rw[List.map_take];exact nr _
   have s3:((l[i].Uses.take<|k+1).map λu=>(jE l d<|cQ l u).2).sum<=(l[i].Uses.map λu=>(jE l d<|cQ l u).2).sum:=by
    rw[List.map_take];exact nr _
   rw[gU hk,eR,List.sum_append]at s2 s3;simp only[fR,List.map_nil,List.sum_cons,List.sum_nil]at s2 s3;have ex:dT N l l[i].Uses[k].aF=some ((cQ l l[i].Uses[k]:Nat):Int):=by
    have:=S.xx;rw[k8 (by omega),q1]
   have hcl:=uJ b l[i].Uses[k].Name;have hone:(⟨[47]⟩:aN).bL.length=1:=rfl;rw[bQ hx,aA,ex,aA,kn (by omega),aA,kn (by omega),aA,zX (by omega)];refine KA (D6 S hR hN d (cQ l l[i].Uses[k]) (qI b l[i].Uses[k]) (w+1) P' K' Q' U' _ q2 (by omega) (by omega) (by omega) (by omega) (by omega) h4 h6 h7) ?_;rintro⟨inn,P2,K2,Q2,U2⟩⟨p1,p2,p3,p4,p5,p6⟩;dsimp only at p1 p2 p3 p4 p5 p6 ⊢;have hy:l[cQ l l[i].Uses[k]]? =some (l[cQ l l[i].Uses[k]]):=aP q2;have hm2:l[cQ l l[i].Uses[k]]∈l:=cB q2;have e4:=w5 hy;have hK2l:K2.length=K'.length+uc l d (cQ l l[i].Uses[k]):=by rw[p2,bY,vr]
   have hnn:(fV l<|cQ l l[i].Uses[k]).length<=uc l d (cQ l l[i].Uses[k]):=by
    cases d with
    |zero=>omega
    |succ d=>unfold uc;omega
   have hnd:=vt (ta S) d<|cQ l l[i].Uses[k]
   rw[bQ hy,aA];rw[<-e4];rw[e3.symm]at g4 g5;refine KA (AY (n:=K2.length) (ns:=fV l i) (ms:=fV l<|cQ l l[i].Uses[k]) (base:=K.length) (w:=l[i].Uses[k].Name) (bu:=K'.length) p4 p5 (by rw[e3]at g5 ⊢;exact g5) p6 (by rw[e3];omega) (by omega) (by omega) (ta S _)<|λm hm'=>S.D3 _ hm2 m (by rw[<-e4];exact hm'))<|λup' hup=>Kn ⟨?_,?_,?_,?_,?_,?_⟩
   ·dsimp only;rw[qJ hk,List.flatMap_append,<-cF,<-h1];exact p1
   ·dsimp only;rw[qJ hk,List.flatMap_append,<-cF,<-h2];exact p2
   ·dsimp only;rw[qJ hk,List.flatMap_append,<-cF,<-h3];exact p3
   ·dsimp only;have hqn:((dV l d (cQ l l[i].Uses[k]) (qI b l[i].Uses[k])<|w+1).flatMap<|rD l).length=((dV l d (cQ l l[i].Uses[k]) (qI b l[i].Uses[k])<|w+1).flatMap<|t9 l).length:=by
     rw[lF,lF];congr 1;exact List.map_congr_left λe _=>by unfold rD t9;rw[eK,eK]
    rw[p3,p2,bY,bY,hqn,h4]
   ·dsimp only;rw[uM hk];dsimp only;rw[h5,hK2l]
   ·dsimp only;rw[uM hk];dsimp only;rw[mR,mR,h5];exact hup
  ·rintro⟨P',K',Q',U'⟩⟨h1,h2,h3,h4,h5,h6,h7⟩;dsimp only at h1 h2 h3 h4 h5 h6 h7 ⊢;rw[gG]at h1 h2 h3 h5 h6 h7;have hin:dV l (d+1) i b w=(i,b,w)::xz l d b w l[i].Uses:=by
    show(i,b,w)::_=_;rw[e1];rfl
   have hjn:CQ l (d+1) i K.length=(yb l d i K.length l[i].Uses).1:=by
    show(yb l d i K.length<|gF l i).1=_;rw[e1]
   refine Kn ⟨?_,?_,?_,?_,?_,?_⟩
   ·dsimp only;rw[hin,mW,<-cF,<-eP];exact h1
   ·dsimp only;rw[hin,mW,<-cF,<-g1];exact h2
   ·dsimp only;rw[hin,mW,<-cF,<-g2];exact h3
   ·dsimp only;rw[hjn];exact h6
   ·dsimp only;rw[hjn];exact h7
   ·dsimp only;rw[e3];exact g4
end
theorem rF{s:aN}(h:isWord s=true):(47:UInt8)∉s.bL:=λhm=>by
 unfold isWord at h;simp only[cJ,Bool.not_eq_true']at h;have:=h.1;rw[List.any_eq_false]at this;exact this 47 hm (by decide)
inductive xa:aN->Prop
 |nil:xa ⟨[]⟩
 |use {b:aN} {u:ln} (h:xa b) (hu:isWord u.Name=true):xa (qI b u)
theorem ot(b:aN)(u:ln):(qI b u).bL=b.bL++(u.Name.bL++[47]):=by
 show(b.bL++u.Name.bL)++[47]=_;rw[cF]
theorem xa.cut{b:aN}(h:xa b):∃ws:List (List UInt8),(∀w∈ws,isWord ⟨w⟩=true)/\∀x,cutAt 47 (b.bL++x)=ws++cutAt 47 x:=by
 induction h with
 |nil=>exact⟨[],by simp,λx=>rfl⟩
 |use h hu ih=>
  rename_i b u;obtain⟨ws,h1,h2⟩:=ih;refine⟨ws++[u.Name.bL],λw hw=>?_,λx=>?_⟩
  ·rcases kK.1 hw with hw|hw
   ·exact h1 w hw
   ·rw[qK]at hw;subst hw;exact hu
  ·rw[ot,cF,cF,h2];have:=uF (c:=47) (a:=u.Name.bL) (b:=x)<|rF hu
   rw[List.singleton_append,this,cF];rfl
theorem oW{b b' x y:aN}(hb:xa b)(hb':xa b')(hx:isWord x=true)(hy:isWord y=true)(h:lB b x=lB b' y):b=b'/\x=y:=by
 obtain⟨ws,_,h1⟩:=hb.cut;obtain⟨ws',_,h2⟩:=hb'.cut;have e:b.bL++x.bL=b'.bL++y.bL:=congrArg aN.bL h;have c1:=h1 x.bL;have c2:=h2 y.bL;rw[rq<|rF hx]at c1;rw[rq<|rF hy]at c2;rw[e,c2]at c1;obtain⟨_,e2⟩:=List.append_inj' c1 rfl;have e3:y.bL=x.bL:=by injection e2
 rw[<-e3]at e;have e4:=List.append_cancel_right e;exact⟨by cases b;cases b';exact congrArg aN.mk e4,by cases x;cases y;exact congrArg aN.mk e3.symm⟩
theorem yc{b x:aN}(hb:xa b)(hx:isWord x=true)(hl:(lB b x).bL.length<=200):t6 (lB b x)=true:=by
 obtain⟨ws,h0,h1⟩:=hb.cut;have c1:=h1 x.bL;rw[rq<|rF hx]at c1;unfold t6 DG;rw[bR hl,Bool.true_and,jY];intro w hw;obtain⟨q,hq,rfl⟩:=fH.1 hw;have hq':q∈ws++[x.bL]:=by rw[<-c1];exact hq
 rcases kK.1 hq' with h|h
 ·exact h0 q h
 ·rw[qK]at h;subst h;exact hx
section
variable {t:List aG}{l:List aF}{ρ:Nat->Nat}
theorem tb{i:Nat}{u:ln}(h:u∈gF l i):∃s,l[i]? =some s/\s∈l/\u∈s.Uses:=by
 unfold gF at h
 cases hs:l[i]? with
 |none=>rw[hs]at h;cases h
 |some s=>rw[hs]at h;exact⟨s,rfl,dD hs,h⟩
theorem z6(hW:∀s∈l,∀u∈s.Uses,isWord u.Name=true):∀(d i:Nat)(b:aN)(w:Nat),xa b->∀e∈dV l d i b w,xa e.2.1
 | 0,_,_,_,_,e,he=>by cases he
 |d+1,i,b,w,hb,e,he=>by
  unfold dV at he
  rcases jX.1 he with rfl|he
  ·exact hb
  ·obtain⟨u,hu,he⟩:=List.mem_flatMap.1 he;obtain⟨s,_,hs,hu'⟩:=tb hu;exact z6 hW d _ _ _ (.use hb<|hW s hs u hu') e he
theorem uN:∀(d i:Nat)(b:aN)(w:Nat),∀e∈dV l d i b w,∃q,e.2.1.bL=b.bL++q
 | 0,_,_,_,e,he=>by cases he
 |d+1,i,b,w,e,he=>by
  unfold dV at he
  rcases jX.1 he with rfl|he
  ·exact⟨[],by simp⟩
  ·obtain⟨u,hu,he⟩:=List.mem_flatMap.1 he;obtain⟨q,hq⟩:=uN d _ _ _ e he;exact⟨(u.Name.bL++[47])++q,by rw[hq,ot,cF]⟩
theorem BC(hW:∀s∈l,∀u∈s.Uses,isWord u.Name=true)(hU:∀s∈l,eF ln.Name s.Uses):∀(d i:Nat)(b:aN)(w:Nat),(dV l d i b w).Pairwise λe e'=>e.2.1≠e'.2.1
 | 0,_,_,_=>mV
 |d+1,i,b,w=>by
  unfold dV;rw[List.pairwise_cons,List.pairwise_flatMap];refine⟨λe he h=>?_,λu hu=>BC hW hU d _ _ _,?_⟩
  ·obtain⟨u,hu,he⟩:=List.mem_flatMap.1 he;obtain⟨q,hq⟩:=uN d _ _ _ e he;have h':b=e.2.1:=h;rw[<-h',ot]at hq;have:=congrArg List.length hq;simp only[bY,dM,List.length_nil]at this;omega
  ·have hs:(gF l i).Pairwise λu v=>u.Name≠v.Name:=by
    unfold gF
    cases hi:l[i]? with
    |none=>exact mV
    |some s=>
     have:=hU s<|dD hi
     show s.Uses.Pairwise _;rw[gV];intro a c ha hc hac e;exact aN.sw (this a c _ _ hac (aP ha)<|aP hc) e
   refine List.Pairwise.imp_of_mem (λ{u v}hu hv hne=>?_) hs;intro e he e' he' h;obtain⟨q,hq⟩:=uN d _ _ _ e he;obtain⟨q',hq'⟩:=uN d _ _ _ e' he';rw[h,hq',ot,ot,cF,cF,cF,cF]at hq;have e1:=List.append_cancel_left hq;obtain⟨s,_,hs1,hu1⟩:=tb hu;obtain⟨s',_,hs2,hv1⟩:=tb hv;have c1:=uF (c:=47) (a:=u.Name.bL) (b:=q)<|rF<|hW s hs1 u hu1
   have c2:=uF (c:=47) (a:=v.Name.bL) (b:=q')<|rF<|hW s' hs2 v hv1
   rw[List.singleton_append,List.singleton_append]at e1;rw[e1,c1]at c2;injection c2 with c2 _
   refine hne ?_
   cases hun:u.Name
   cases hvn:v.Name
   rw[hun,hvn]at c2;exact congrArg aN.mk c2
end
section
variable {t:List aG}{l:List aF}{ρ:Nat->Nat}
structure z7 (l:List aF) (I:List (Nat×aN×Nat)):Prop where
 pre:∀e∈I,xa e.2.1
 nd:I.Pairwise λe e'=>e.2.1≠e'.2.1
theorem fQ.inst(h:fQ t l)(d k:Nat):z7 l (dV l d k ⟨[]⟩ 0):=
 ⟨z6 (λs hs=>(h.ok s hs).sO.word) d k _ 0 .nil,BC (λs hs=>(h.ok s hs).sO.word) (λs hs=>(h.ok s hs).sO.up) d k _ 0⟩
theorem xA{α:Type}{f:aF->List α}{i:Nat}{x:α}(h:x∈(l[i]?).elim [] f):∃s,l[i]? =some s/\s∈l/\x∈f s:=by
 cases hs:l[i]? with
 |none=>rw[hs]at h;cases h
 |some s=>rw[hs]at h;exact⟨s,rfl,dD hs,h⟩
theorem D7{I:List (Nat×aN×Nat)}{p:Part}(h:p∈I.flatMap (w6 l)):∃e∈I,∃s,l[e.1]? =some s/\s∈l/\∃x∈s.bB,p= ⟨lB e.2.1 x.Name,x.eD⟩:=by
 obtain⟨e,he,hp⟩:=List.mem_flatMap.1 h;unfold w6 at hp;obtain⟨x,hx,rfl⟩:=fH.1 hp;obtain⟨s,h1,h2,h3⟩:=xA hx;exact⟨e,he,s,h1,h2,x,h3,rfl⟩
theorem D8(h:fQ t l){I:List (Nat×aN×Nat)}(hI:z7 l I):(I.flatMap<|w6 l).Pairwise λp q=>p.Name≠q.Name:=by
 rw[List.pairwise_flatMap];refine⟨λe he=>?_,List.Pairwise.imp_of_mem (λ{e e'}he he' hne p hp q hq hpq=>?_) hI.nd⟩
 ·unfold w6 sP;rw[List.pairwise_map]
  cases hs:l[e.1]? with
  |none=>exact mV
  |some s=>
   have hm:=dD hs;have hso:=(h.ok s hm).parts.sorted;show s.bB.Pairwise _;rw[gV];intro a c ha hc hac hEq;have h1:=(h.ok s hm).oT _<|cB ha
   have h2:=(h.ok s hm).oT _<|cB hc
   have:=(oW (hI.pre e he) (hI.pre e he) h1 h2 hEq).2;exact aN.sw (hso a c _ _ hac (aP ha)<|aP hc) this
 ·unfold w6 at hp hq;obtain⟨x,hx,rfl⟩:=fH.1 hp;obtain⟨y,hy,rfl⟩:=fH.1 hq;obtain⟨s,_,h2,h3⟩:=xA hx;obtain⟨s',_,h2',h3'⟩:=xA hy;exact hne (oW (hI.pre e he) (hI.pre e' he') ((h.ok s h2).oT x h3) ((h.ok s' h2').oT y h3') hpq).1
theorem D9{I:List (Nat×aN×Nat)}{q:aC}(h:q∈I.flatMap (t9 l)):∃e∈I,∃s,l[e.1]? =some s/\s∈l/\∃n∈s.aM,q= ⟨lB e.2.1 n.Name,((e.2.2+1:Nat):Int)⟩:=by
 obtain⟨e,he,hp⟩:=List.mem_flatMap.1 h;unfold t9 at hp;obtain⟨x,hx,rfl⟩:=fH.1 hp;obtain⟨s,h1,h2,h3⟩:=xA hx;exact⟨e,he,s,h1,h2,x,h3,rfl⟩
theorem HG(h:fQ t l){I:List (Nat×aN×Nat)}(hI:z7 l I):(I.flatMap<|t9 l).Pairwise λp q=>p.path≠q.path:=by
 rw[List.pairwise_flatMap];refine⟨λe he=>?_,List.Pairwise.imp_of_mem (λ{e e'}he he' hne p hp q hq hpq=>?_) hI.nd⟩
 ·unfold t9 fV;rw[List.pairwise_map]
  cases hs:l[e.1]? with
  |none=>exact mV
  |some s=>
   have hm:=dD hs;have hso:=(h.ok s hm).og.up;show s.aM.Pairwise _;rw[gV];intro a c ha hc hac hEq;have h1:=(h.ok s hm).og.word _<|cB ha
   have h2:=(h.ok s hm).og.word _<|cB hc
   have:=(oW (hI.pre e he) (hI.pre e he) h1 h2 hEq).2;exact aN.sw (hso a c _ _ hac (aP ha)<|aP hc) this
 ·unfold t9 at hp hq;obtain⟨x,hx,rfl⟩:=fH.1 hp;obtain⟨y,hy,rfl⟩:=fH.1 hq;obtain⟨s,_,h2,h3⟩:=xA hx;obtain⟨s',_,h2',h3'⟩:=xA hy;exact hne (oW (hI.pre e he) (hI.pre e' he') ((h.ok s h2).og.word x h3) ((h.ok s' h2').og.word y h3') hpq).1
theorem xd(h:fQ t l){s:aF}(hs:s∈l){n:Net}(hn:n∈s.aM){p:Pin}(hp:p∈n.aU)(ho:uK s.Uses p=true):oR t s.bB p=true/\∃x∈s.bB,x.Name=p.Part:=by
 have h1:=(h.ok s hs).og.JS n hn p hp;unfold uK at ho;rw[il]at ho;unfold xy at h1;rw[aJ (by omega)]at h1;refine⟨h1,?_⟩;unfold oR at h1
 cases hf:s.bB.find? (λx=>x.Name.fY p.Part)with
 |none=>rw[hf]at h1;cases h1
 |some x=>
  have h2:x.Name.fY p.Part=true:=by simpa using List.find?_some hf
  exact⟨x,List.mem_of_find?_eq_some hf,ix.1 h2⟩
theorem yT{I:List (Nat×aN×Nat)}{q:List Pin}(h:q∈I.flatMap (rD l)):∃e∈I,∃s,l[e.1]? =some s/\s∈l/\∃n∈s.aM,q=lJ s.Uses e.2.1 n.aU:=by
 obtain⟨e,he,hp⟩:=List.mem_flatMap.1 h;unfold rD at hp;obtain⟨x,hx,rfl⟩:=fH.1 hp;obtain⟨s,h1,h2,h3⟩:=xA hx;exact⟨e,he,s,h1,h2,x,h3,by rw[nj h1]⟩
theorem uO{us:List ln}{b:aN}{ps:List Pin}{q:Pin}(h:q∈lJ us b ps):∃p∈ps,uK us p=true/\q= ⟨lB b p.Part,p.Pin⟩:=by
 unfold lJ at h;obtain⟨p,hp,rfl⟩:=fH.1 h;obtain⟨h1,h2⟩:=ky.1 hp;exact⟨p,h1,h2,rfl⟩
theorem oX(h:fQ t l){s:aF}(hs:s∈l){n:Net}(hn:n∈s.aM){p:Pin}(hp:p∈n.aU)(ho:uK s.Uses p=true):isWord p.Part=true:=by
 obtain⟨_,x,hx,e⟩:=xd h hs hn hp ho;rw[<-e];exact(h.ok s hs).oT x hx
theorem HH(h:fQ t l){I:List (Nat×aN×Nat)}(hI:z7 l I):(I.flatMap<|rD l).flatten.Nodup:=by
 unfold List.Nodup;rw[List.pairwise_flatten];refine⟨λq hq=>?_,?_⟩
 ·obtain⟨e,he,s,h1,h2,n,hn,rfl⟩:=yT hq;unfold lJ;rw[List.pairwise_map];have hnd:n.aU.Pairwise λp q=>p≠q:=by
   rw[gV];intro a c ha hc hac hEq;have:=(h.ok s h2).og.DK n hn a c _ _ hac (aP ha)<|aP hc
   rw[hEq,oh]at this
   cases this
  refine List.Pairwise.imp_of_mem (λ{p q}hp hq hne hEq=>?_)<|hnd.filter _
  obtain⟨p1,p2⟩:=ky.1 hp;obtain⟨q1,q2⟩:=ky.1 hq;injection hEq with e1 e2
  have e3:=(oW (hI.pre e he) (hI.pre e he) (oX h h2 hn p1 p2) (oX h h2 hn q1 q2) e1).2;refine hne ?_
  cases p;cases q
  dsimp only at e2 e3;rw[e2,e3]
 ·rw[List.pairwise_flatMap];refine⟨λe he=>?_,List.Pairwise.imp_of_mem (λ{e e'}he he' hne a ha c hc x hx y hy hxy=>?_) hI.nd⟩
  ·unfold rD fV;rw[List.pairwise_map]
   cases hs:l[e.1]? with
   |none=>exact mV
   |some s=>
    have hm:=dD hs;show s.aM.Pairwise _;rw[nj hs,gV];intro a c ha hc hac x hx y hy hxy;obtain⟨p,p1,p2,rfl⟩:=uO hx;obtain⟨q,q1,q2,rfl⟩:=uO hy;injection hxy with e1 e2
    have e3:=(oW (hI.pre e he) (hI.pre e he) (oX h hm (cB ha) p1 p2) (oX h hm (cB hc) q1 q2) e1).2;have epq:p=q:=by
     cases p;cases q
     dsimp only at e2 e3;rw[e2,e3]
    subst epq;have:=(h.ok s hm).og.once a c _ _ p (aP ha) (aP hc) p1 q1;omega
  ·unfold rD at ha hc;obtain⟨n,hn,rfl⟩:=fH.1 ha;obtain⟨m,hm,rfl⟩:=fH.1 hc;obtain⟨s,g1,g2,g3⟩:=xA hn;obtain⟨s',g1',g2',g3'⟩:=xA hm;rw[nj g1]at hx;rw[nj g1']at hy;obtain⟨p,p1,p2,rfl⟩:=uO hx;obtain⟨q,q1,q2,rfl⟩:=uO hy;injection hxy with e1 e2
   exact hne (oW (hI.pre e he) (hI.pre e' he') (oX h g2 g3 p1 p2) (oX h g2' g3' q1 q2) e1).1
theorem Gh(h:fQ t l){I:List (Nat×aN×Nat)}(hI:z7 l I){P:List Part}(hP:P.Perm (I.flatMap<|w6 l)){q:List Pin}(hq:q∈I.flatMap (rD l)){y:Pin}(hy:y∈q):oR t P y=true:=by
 obtain⟨e,he,s,h1,h2,n,hn,rfl⟩:=yT hq;obtain⟨p,p1,p2,rfl⟩:=uO hy;have hh:=(xd h h2 hn p1 p2).1;have hw:=oX h h2 hn p1 p2;unfold oR at hh ⊢
 cases hf:s.bB.find? (λx=>x.Name.fY p.Part)with
 |none=>rw[hf]at hh;cases hh
 |some x=>
  rw[hf]at hh;have hx:=List.mem_of_find?_eq_some hf;have hxb:x.Name.fY p.Part=true:=by simpa using List.find?_some hf
  have hxn:=ix.1 hxb;have hin:(⟨lB e.2.1 x.Name,x.eD⟩:Part)∈P:=by
   rw[hP.mem_iff];refine List.mem_flatMap.2 ⟨e,he,?_⟩;unfold w6;rw[s9 h1];exact fH.2 ⟨x,hx,rfl⟩
  have hnd:P.Pairwise λa c=>a.Name≠c.Name:=hP.symm.pairwise (D8 h hI)<|λ{a c}h h'=>h h'.symm
  cases hg:P.find? (λz=>z.Name.fY<|lB e.2.1 p.Part)with
  |none=>
   rw[List.find?_eq_none]at hg;exact absurd (ix.2 (by rw[<-hxn]))<|hg _ hin
  |some z=>
   have hz:=List.mem_of_find?_eq_some hg;have hzb:z.Name.fY (lB e.2.1 p.Part)=true:=by simpa using List.find?_some hg
   have hzn:=ix.1 hzb;have hez:z=(⟨lB e.2.1 x.Name,x.eD⟩:Part):=by
    obtain⟨i,hi,rfl⟩:=List.mem_iff_getElem.1 hz;obtain⟨j,hj,e2⟩:=List.mem_iff_getElem.1 hin;rw[<-e2];have hnn:P[i].Name=P[j].Name:=by rw[hzn,e2,hxn]
    rcases Nat.lt_trichotomy i j with h4|h4|h4
    ·exact absurd hnn<|gV.1 hnd i j hi hj h4
    ·subst h4;rfl
    ·exact absurd hnn.symm<|gV.1 hnd j i hj hi h4
   subst hez;exact hh
end
def mS(l:List aF)(i:Nat):List aN:=(l[i]?).elim [] aF.aO
theorem tc{l:List aF}{i:Nat}{s:aF}(h:l[i]? =some s):mS l i=s.aO:=by unfold mS;rw[h];rfl
def vu(ws:List aN)(ps:List Int)(q:aN):Option Nat:=if 0<=(ps[(zS ws<|λw=>q.fY w).toNat]?).getD (-1)then some ((ps[(zS ws<|λw=>q.fY w).toNat]?).getD<|-1).toNat else none
def uP(ns:List Net)(ws:List aN)(first:Nat)(ps:List Int)(j:Nat):List (Nat×Nat):=(ns[j]?).elim [] λn=>n.aO.filterMap λq=>(vu ws ps q).map λo=>(first+j,o)
def yU(ns:List Net)(ws:List aN)(first:Nat)(ps:List Int):List (Nat×Nat):=(List.range ns.length).flatMap<|uP ns ws first ps
def Fe(base:Nat)(o:Option Nat):Int:=o.elim (-1) λa=>((base+a:Nat):Int)
def ll(ns:List Net)(base:Nat)(w:aN)(ws:List aN):List Int:=ws.map λq=>Fe base<|iB ns ⟨w,q⟩
def Es(l:List aF):Nat->Nat->Nat->List Int->List (Nat×Nat)
 | 0,_,_,_=>[]
 |d+1,i,base,ps=>((gF l i).foldl (λst u=>(st.1++Es l d (cQ l u) st.2 (ll (fV l i) base u.Name (mS l (cQ l u))),st.2+uc l d (cQ l u))) (yU (fV l i) (mS l i) base ps,base+(fV l i).length)).1
def Ct(l:List aF)(d i base:Nat)(ps:List Int)(us:List ln):List (Nat×Nat)×Nat:=us.foldl (λst u=>(st.1++Es l d (cQ l u) st.2 (ll (fV l i) base u.Name<|mS l<|cQ l u),st.2+uc l d (cQ l u))) (yU (fV l i) (mS l i) base ps,base+(fV l i).length)
theorem xe{l:List aF}{d i base:Nat}{ps:List Int}{us:List ln}{k:Nat}(hk:k<us.length):Ct l d i base ps (us.take<|k+1)=((Ct l d i base ps<|us.take k).1++Es l d (cQ l us[k]) (Ct l d i base ps<|us.take k).2 (ll (fV l i) base us[k].Name<|mS l<|cQ l us[k]),(Ct l d i base ps<|us.take k).2+uc l d (cQ l us[k])):=by
 unfold Ct;rw[gU hk,List.foldl_append];rfl
theorem Ea{l:List aF}(h:∀i,(sP l i).length<=1000):∀(d i:Nat),(jE l d i).2<=1000*(jE l d i).1
 | 0,_=>bV _
 |d+1,i=>by
  unfold jE;have h1:=h i;have h2:=rE (λu=>(jE l d<|cQ l u).2) (λu=>(jE l d<|cQ l u).1) (λu=>Ea h d _)<|gF l i
  dsimp only;omega
section
variable {N:Nat}{t:List aG}{l:List aF}{ρ:Nat->Nat}
theorem Ff(h:fQ t l){s:aF}(hs:s∈l){n:Net}(hn:n∈s.aM){p:Pin}(hp:p∈n.aU):decide (nat? Part.Name s.bB p.Part>=0)=uK s.Uses p:=by
 have h2:=z4 (h.ok s hs).sO (w:=p.Part)
 by_cases ho:uK s.Uses p=true
 ·obtain⟨_,x,hx,e⟩:=xd h hs hn hp ho;rw[ho,Bw,mX];exact⟨x,hx,ix.2 e⟩
 ·have ho':uK s.Uses p=false:=by simpa using ho
  rw[ho',decide_eq_false_iff_not];intro h3;have:=h2 h3;unfold uK at ho;exact ho<|bR this
theorem Eb{ws:List aN}{q:aN}(hl:ws.length<=1048576):gQ N ws q=some (zS ws λw=>q.fY w):=by
 have h:=km (l:=ws) (φ:=λx=>some<|q.fY x) (λx=>q.fY x) (by omega)<|λ_ _=>rfl
 exact h
theorem z8{n:Nat}{ws:List aN}{ps:List Int}{m:Net}{g:Nat}{up:List Int}{r:Nat->Nat}(hU:UF n up r)(hRI:xl n r)(hg:g<n)(hps:ps.length=ws.length)(hpv:∀v∈ps,v = -1\/∃o:Nat,v=((o:Nat):Int)/\o<n)(hw:∀q∈m.aO,q∈ws)(hwl:ws.length<=1048576)(hml:m.aO.length<=100)(hn:n<N):
  Ok (kJ m.aO.length (λ(k627:Nat)(s628:List Int)=>((idx m.aO (k627:Int)).bind λx658=>(gQ N ws x658).bind λx661=>(idx ps x661).bind λx662=>(bif decide (x662>=0)then((eI N s628 ((g:Nat):Int) x662).bind λx668=>some x668)else some s628).bind λs666=>some s666:Option (List Int))) up)
   (λup'=>UF n up' (gY r<|m.aO.filterMap λq=>(vu ws ps q).map λo=>(g,o))/\xl n (gY r<|m.aO.filterMap λq=>(vu ws ps q).map λo=>(g,o))):=by
 refine Ok.mono (KI (λk s=>UF n s (gY r<|(m.aO.take k).filterMap λq=>(vu ws ps q).map λo=>(g,o))/\xl n (gY r<|(m.aO.take k).filterMap λq=>(vu ws ps q).map λo=>(g,o))) (by omega) ⟨hU,hRI⟩ ?_) (λs hs=>by rw[gG]at hs;exact hs);rintro k s hk⟨g1,g2⟩;have hx:m.aO[k]? =some m.aO[k]:=aP hk;have hin:=hw _<|cB hk
 rw[gU hk,List.filterMap_append,mR];generalize gY r ((m.aO.take k).filterMap λq=>(vu ws ps q).map λo=>(g,o))=r0 at g1 g2;generalize m.aO[k]=q at hx hin;rw[bQ hx,aA,Eb hwl,aA]
 rcases mM ws (λw=>q.fY w)with⟨_,h2⟩|⟨a,x,h1,h2,h3,_⟩
 ·have:=h2 q hin;rw[uy]at this;cases this
 have ha:=(bM.1 h2).1;have hy:ps[a]? =some (ps[a]'(by omega)):=aP _;have hv:=hpv _<|cB (show a<ps.length by omega)
 generalize ps[a]'(by omega)=v at hy hv;have ho:vu ws ps q=if 0<=v then some v.toNat else none:=by
  unfold vu;rw[h1,dA,hy,Option.getD_some]
 rw[h1,bQ hy,aA]
 rcases hv with rfl|⟨o,rfl,hon⟩
 ·rw[bJ (by omega),aW,aA];refine Kn ?_;rw[List.filterMap_cons,ho,aJ (by omega)];exact⟨g1,g2⟩
 ·obtain⟨up',f1,f2⟩:=DZ (N:=N) g1 hg hon hn;rw[bR (show((o:Nat):Int)>=0 by omega),bK,f1,aA,aA];refine Kn ?_;rw[List.filterMap_cons,ho,aH (by omega)];exact⟨f2,g2.join g1 (a:=g) (b:=o) hg hon⟩
theorem Cu{s:aF}{b:aN}{n:Net}{Q:List (List Pin)}(hQ:Q.length<=100000000)(hpl:n.aU.length<=500)(hsp:s.bB.length<=1048576)(hb:b.bL.length<=10000)(hp:∀p∈n.aU,p.Part.bL.length<=1048576)(ho:∀p∈n.aU,decide (nat? Part.Name s.bB p.Part>=0)=uK s.Uses p):
  kJ n.aU.length (λ(k672:Nat)(s673:List (List Pin))=>((idx n.aU (k672:Int)).bind λx799=>(eO N s.bB x799.Part).bind λx804=>(bif decide (x804>=0)then((idx s673 ((Q.length:Nat):Int)).bind λx833=>(mw b x799.Part).bind λx838=>(app 32 x833 ([(⟨x838,x799.Pin⟩:Pin)]:List Pin)).bind λx841=>(idx s673 ((Q.length:Nat):Int)).bind λx843=>some<|s673.set (Int.toNat ((Q.length:Nat):Int)) x841)else some s673).bind λs831=>some s831:Option (List<|List Pin))) (Q++[([]:List Pin)])=some (Q++[lJ s.Uses b n.aU]):=by
 refine Lr<|Ok.mono (KI (λk st=>st=Q++[lJ s.Uses b<|n.aU.take k]) (by omega) (by simp[lJ]) ?_) (λst hst=>by rw[gG]at hst;exact hst)
 rintro k st hk e;subst e;have hx:n.aU[k]? =some n.aU[k]:=aP hk;have hle:(lJ s.Uses b<|n.aU.take k).length<=k:=by
  unfold lJ;rw[eK];exact iG (List.length_filter_le _ _) (by rw[cC];omega)
 have h1:=hp _<|cB hk
 have h2:=ho _<|cB hk
 have e2:lJ s.Uses b (n.aU.take<|k+1)=lJ s.Uses b (n.aU.take k)++if uK s.Uses n.aU[k]=true then [⟨lB b n.aU[k].Part,n.aU[k].Pin⟩]else []:=by
  unfold lJ;rw[gU hk,List.filter_append,eR];congr 1
  by_cases h:uK s.Uses n.aU[k]=true
  ·simp[h]
  ·simp[h]
 have hlast:(Q++[lJ s.Uses b<|n.aU.take k])[Q.length]? =some (lJ s.Uses b<|n.aU.take k):=by
  rw[ja<|bV _];simp
 rw[bQ hx,aA,qF hsp,aA,h2,e2]
 cases hc:uK s.Uses n.aU[k]with
 |true=>
  rw[bK,bQ hlast,aA,kn (by omega),aA,ig (by simp only[dM,List.length_nil];omega),aA,aA,aA,dA];refine Kn ?_;rw[aH rfl,List.set_append_right _ _<|bV _];simp
 |false=>
  rw[aW,aA];exact Kn (by rw[aJ (by simp),iH])
theorem Cv{ns:List Net}{ws:List aN}{base:Nat}{w:aN}(hnl:ns.length<=1000)(hwl:ws.length<=1048576)(hb:base<=100000000)(hpl:∀n∈ns,n.aU.length<=500)(once:∀(i j:Nat)(n m:Net)(p:Pin),ns[i]? =some n->ns[j]? =some m->p∈n.aU->p∈m.aU->i=j):
  kJ ws.length (λ(k1179:Nat)(s1180:List Int)=>((idx ws (k1179:Int)).bind λx1252=>(kJ ns.length (λ(k1255:Nat)(s1256:Int)=>((idx ns (k1255:Int)).bind λx1273=>(fE N x1273.aU (⟨w,x1252⟩:Pin)).bind λx1279=>(bif x1279 then some (wrap .i64<|(base:Int)+(k1255:Int))else some s1256).bind λs1280=>some s1280:Option Int))<|-1).bind λs1256=>(app 8 s1180 ([s1256]:List Int)).bind λx1282=>some x1282:Option (List Int))) ([]:List Int)=some (ll ns base w ws):=by
 refine Lr<|Ok.mono (KI (λk st=>st=ll ns base w (ws.take k)) (by omega) (by simp[ll]) ?_) (λst hst=>by rw[gG]at hst;exact hst)
 rintro k st hk e;subst e;have hx:ws[k]? =some ws[k]:=aP hk;rw[bQ hx,aA];refine KA (KI (λj v=>v=Fe base (iB (ns.take j) ⟨w,ws[k]⟩)) (by omega) rfl ?_) ?_
 ·rintro j v hj e;subst e;have hy:ns[j]? =some ns[j]:=aP hj;have hp:=hpl _<|cB hj
  have ec:fE N ns[j].aU (⟨w,ws[k]⟩:Pin)=s6 ns[j].aU ⟨w,ws[k]⟩:=rfl;rw[bQ hy,aA,ec,uA (by omega),aA,vM hj]
  by_cases h:(⟨w,ws[k]⟩:Pin)∈ns[j].aU
  ·rw[bR h,bK,aA,aH h,wrap_add (by omega)];have hn:iB (ns.take j) ⟨w,ws[k]⟩=none:=by
    cases ha:iB (ns.take j) ⟨w,ws[k]⟩with
    |none=>rfl
    |some a=>
     obtain⟨n,g1,g2⟩:=nu ha;have hlt:=(bM.1 g1).1;rw[cC]at hlt;rw[eC,aH (by omega)]at g1;have:=once a j n ns[j] _ g1 hy g2 h;omega
   exact Kn (by rw[hn];rfl)
  ·rw[bJ h,aW,aA,aJ h,Option.or_none];exact Kn rfl
 ·rintro v rfl;rw[gG,ig (by unfold ll;simp only[eK,cC,dM,List.length_nil];omega),aA];refine Kn ?_;unfold ll;rw[gU hk,eR];rfl
end
def BD(l:List aF)(e:Nat×aN×Nat):List aN:=(fV l e.1).map λn=>lB e.2.1 n.Name
theorem Ec(l:List aF)(I:List (Nat×aN×Nat)):I.flatMap (BD l)=(I.flatMap<|t9 l).map aC.path:=by
 rw[List.map_flatMap];congr 1;funext e;unfold BD t9;rw[List.map_map];rfl
theorem yV(l:List aF)(I:List (Nat×aN×Nat)):(I.flatMap<|BD l).length=(I.flatMap<|t9 l).length:=by rw[Ec,eK]
section
variable {N:Nat}{t:List aG}{l:List aF}{ρ:Nat->Nat}
structure HI (l:List aF) (d i:Nat) (b:aN) (w:Nat) (P:List Part) (K:List aN) (Q:List (List Pin)) (r:Nat->Nat) (ps:List Int) (o:List Part×List aN×List (List Pin)×List Int):Prop where
 pP:o.1=P++(dV l d i b w).flatMap (w6 l)
 pK:o.2.1=K++(dV l d i b w).flatMap (BD l)
 pQ:o.2.2.1=Q++(dV l d i b w).flatMap (rD l)
 pU:UF o.2.1.length o.2.2.2 (gY r<|Es l d i K.length ps)
 pI:xl o.2.1.length (gY r<|Es l d i K.length ps)
theorem BE(H:fQ t l)(S:HR l)(hR:pD l ρ)(hN:4398046511104<=N):∀(d i:Nat)(b:aN)(w:Nat)(P:List Part)(K:List aN)(Q:List (List Pin))(U:List Int)(r:Nat->Nat)(ps:List Int),i<l.length->ρ i<d->b.bL.length+41*ρ i<=5000->
  K.length+1000*(jE l d i).1<=3000000->P.length+(jE l d i).2<=4000000->Q.length=K.length->UF K.length U r->xl K.length r->ps.length=(mS l i).length->(∀v∈ps,v = -1\/∃o:Nat,v=((o:Nat):Int)/\o<K.length)->
  Ok (dF N d l P K Q U ((i:Nat):Int) b ps) (HI l d i b w P K Q r ps)
 | 0,_,_,_,_,_,_,_,_,_,_,h,_,_,_,_,_,_,_,_=>by omega
 |d+1,i,b,w,P,K,Q,U,r,ps,hi,hd,hb,hK,hP,hQ,hU,hI,hps,hpv=>by
  show Ok (dE N (dF N d) l P K Q U ((i:Nat):Int) b ps) _;unfold dE;have hs:l[i]? =some l[i]:=aP hi;have hm:l[i]∈l:=cB hi;have e1:=nj hs;have e2:=s9 hs;have e3:=w5 hs;have e5:=tc hs;have f1:=S.sO _ hm;have f2:=S.parts _ hm;have f3:=S.og _ hm;have f4:=(H.ok _ hm).sN;unfold jE at hK hP;rw[e1]at hK hP;rw[e2]at hP;dsimp only at hK hP;rw[e5]at hps;rw[bQ hs,aA];refine KA (KI (λk st=>st=P++(l[i].bB.take k).map λp=>(⟨lB b p.Name,p.eD⟩:Part)) (by omega) (by simp)<|λk st hk e=>?_)<|λP1 eP=>?_
  ·subst e;have hx:l[i].bB[k]? =some l[i].bB[k]:=aP hk;have hpw:=S.D2 _ hm _<|cB hk
   rw[bQ hx,aA,kn (by omega),aA,ig (by simp only[bY,eK,cC,dM,List.length_nil];omega),aA];refine Kn ?_;rw[gU hk,eR,cF];rfl
  rw[gG]at eP;refine KA (KI (λk st=>st.1=K++(l[i].aM.take k).map (λn=>lB b n.Name)/\st.2.1=Q++(l[i].aM.take k).map (λn=>lJ l[i].Uses b n.aU)/\UF (K.length+k) st.2.2 (gY r<|(List.range k).flatMap<|uP l[i].aM l[i].aO K.length ps)/\xl (K.length+k) (gY r<|(List.range k).flatMap<|uP l[i].aM l[i].aO K.length ps)) (by omega) ⟨by simp,by simp,hU,hI⟩ ?_) ?_
  ·rintro k⟨K',Q',U'⟩hk⟨g1,g2,g3,g4⟩;dsimp only at g1 g2 g3 g4 ⊢;subst g1;subst g2;have hx:l[i].aM[k]? =some l[i].aM[k]:=aP hk;have hnm:=cB hk;have hnw:=S.Gf _ hm _ hnm;have hUl:=g3.len;have hlen:(Q++(l[i].aM.take k).map (λn=>lJ l[i].Uses b n.aU)).length=K.length+k:=by
    simp only[bY,eK,cC];omega
   have hown:=Cu (N:=N) (s:=l[i]) (b:=b) (n:=l[i].aM[k]) (Q:=Q++(l[i].aM.take k).map (λn=>lJ l[i].Uses b n.aU)) (by omega) (S.pins _ hm _ hnm) (by omega) (by omega) (S.Gg _ hm _ hnm)<|λp hp=>Ff H hm hnm hp
   rw[hlen]at hown;rw[List.range_succ,List.flatMap_append,mR];generalize gY r ((List.range k).flatMap<|uP l[i].aM l[i].aO K.length ps)=r0 at g3 g4;have ej: [k].flatMap (uP l[i].aM l[i].aO K.length ps)=l[i].aM[k].aO.filterMap λq=>(vu l[i].aO ps q).map λo=>(K.length+k,o):=by
    unfold uP;simp[hx]
   rw[ej,bQ hx,aA,kn (by omega),aA,ig (by simp only[bY,eK,cC,dM,List.length_nil];omega),aA,ig (by rw[hlen];simp only[dM,List.length_nil];omega),aA,wrap_add (by omega),ig (by simp only[dM,List.length_nil];omega),aA];refine KA (z8 (n:=K.length+k+1) (g3.push g4) (g4.up (by omega)) (by omega) hps (λv hv=>(hpv v hv).elim .inl λ⟨o,h1,h2⟩=> .inr ⟨o,h1,by omega⟩) (λq hq=>(H.ok _ hm).og.port _ hnm q hq) (by omega) (S.D3 _ hm _ hnm) (by omega))<|λup' hup=>?_
   rw[hown,aA];refine Kn ⟨?_,?_,hup.1,hup.2⟩
   ·dsimp only;rw[gU hk,eR,cF];rfl
   ·dsimp only;rw[gU hk,eR,cF];rfl
  rintro⟨K1,Q1,U1⟩⟨g1,g2,g3,g4⟩;dsimp only at g1 g2 g3 g4 ⊢;rw[gG]at g1 g2;have hnk:BD l (i,b,w)=l[i].aM.map (λn=>lB b n.Name):=by unfold BD;rw[e3]
  have hpt:w6 l (i,b,w)=l[i].bB.map (λp=>(⟨lB b p.Name,p.eD⟩:Part)):=by unfold w6;rw[e2]
  have hpn:rD l (i,b,w)=l[i].aM.map (λn=>lJ l[i].Uses b n.aU):=by unfold rD;rw[e3,e1]
  rw[<-hnk]at g1;rw[<-hpn]at g2;rw[<-hpt]at eP;have hK1:K1.length=K.length+l[i].aM.length:=by rw[g1,hnk,bY,eK]
  have hP1:P1.length=P.length+l[i].bB.length:=by rw[eP,hpt,bY,eK]
  have hQ1:Q1.length=K1.length:=by rw[g2,hpn,bY,eK,hK1,hQ]
  rw[<-hK1]at g3 g4;have hown:(List.range l[i].aM.length).flatMap (uP l[i].aM l[i].aO K.length ps)=yU (fV l i) (mS l i) K.length ps:=by rw[e3,e5];rfl
  rw[hown]at g3 g4
  refine KA (KI (λk st=>st.1=P1++(xz l d b w (l[i].Uses.take k)).flatMap (w6 l)/\st.2.1=K1++(xz l d b w (l[i].Uses.take k)).flatMap (BD l)/\st.2.2.1=Q1++(xz l d b w (l[i].Uses.take k)).flatMap (rD l)/\st.2.2.1.length=st.2.1.length/\(Ct l d i K.length ps (l[i].Uses.take k)).2=st.2.1.length/\
   UF st.2.1.length st.2.2.2 (gY r (Ct l d i K.length ps (l[i].Uses.take k)).1)/\xl st.2.1.length (gY r (Ct l d i K.length ps (l[i].Uses.take k)).1)) (by omega) ⟨by simp[xz],by simp[xz],by simp[xz],hQ1,by show K.length+(fV l i).length=K1.length;rw[e3,hK1],g3,g4⟩ ?_) ?_
  ·rintro k⟨P',K',Q',U'⟩hk⟨h1,h2,h3,h4,h5,h6,h7⟩;dsimp only at h1 h2 h3 h4 h5 h6 h7 ⊢;have hx:l[i].Uses[k]? =some l[i].Uses[k]:=aP hk;have hum:=cB hk;have huw:=S.Ge _ hm _ hum;obtain⟨q1,q2,q3,q4⟩:=oV hR S.there (i:=i) (u:=l[i].Uses[k]) (by rw[e1];exact hum);have hpl:=x9 b l[i].Uses[k];have hK'l:K'.length=K1.length+((l[i].Uses.take k).map λu=>uc l d<|cQ l u).sum:=by rw[h2,bY,yV,D4]
   have hP'l:P'.length=P1.length+((l[i].Uses.take k).map λu=>(jE l d<|cQ l u).2).sum:=by rw[h1,bY,D5]
   have s1:=rE (λu=>uc l d<|cQ l u) (λu=>(jE l d<|cQ l u).1) (λu=>vt (ta S) d _)<|l[i].Uses.take k
   have s2:((l[i].Uses.take<|k+1).map λu=>(jE l d<|cQ l u).1).sum<=(l[i].Uses.map λu=>(jE l d<|cQ l u).1).sum:=by
    rw[List.map_take];exact nr _
   have s3:((l[i].Uses.take<|k+1).map λu=>(jE l d<|cQ l u).2).sum<=(l[i].Uses.map λu=>(jE l d<|cQ l u).2).sum:=by
    rw[List.map_take];exact nr _
   rw[gU hk,eR,List.sum_append]at s2 s3;simp only[fR,List.map_nil,List.sum_cons,List.sum_nil]at s2 s3;have hfew:=S.xx;have ex:cE N l l[i].Uses[k].aF=some ((cQ l l[i].Uses[k]:Nat):Int):=by rw[k9 (by omega),q1]
   have hcl:=uJ b l[i].Uses[k].Name;have hone:(⟨[47]⟩:aN).bL.length=1:=rfl;have hy:l[cQ l l[i].Uses[k]]? =some (l[cQ l l[i].Uses[k]]):=aP q2;have hm2:l[cQ l l[i].Uses[k]]∈l:=cB q2;have e6:=tc hy;have f6:=(H.ok _ hm2).sN;rw[bQ hx,aA,ex,aA,bQ hy,aA,Cv (base:=K.length) (by omega) (by omega) (by omega) (S.pins _ hm)<|S.once _ hm,aA,aA,kn (by omega),aA,kn (by omega),aA];have hu:ll l[i].aM K.length l[i].Uses[k].Name l[cQ l l[i].Uses[k]].aO=ll (fV l i) K.length l[i].Uses[k].Name (mS l<|cQ l l[i].Uses[k]):=by rw[e3,e6]
   rw[hu];refine KA (BE H S hR hN d (cQ l l[i].Uses[k]) (qI b l[i].Uses[k]) (w+1) P' K' Q' U' _ _ q2 (by omega) (by omega) (by omega) (by omega) h4 h6 h7 (by unfold ll;rw[eK])<|λv hv=>?_) ?_
   ·unfold ll at hv;obtain⟨q,_,rfl⟩:=fH.1 hv;unfold Fe
    cases hpn':iB (fV l i) ⟨l[i].Uses[k].Name,q⟩with
    |none=>exact .inl rfl
    |some a=>
     obtain⟨n,k1,_⟩:=nu hpn';have:=(bM.1 k1).1;rw[e3]at this;exact .inr ⟨_,rfl,by omega⟩
   rintro⟨P2,K2,Q2,U2⟩⟨p1,p2,p3,p4,p5⟩;dsimp only at p1 p2 p3 p4 p5 ⊢;have hK2l:K2.length=K'.length+uc l d (cQ l l[i].Uses[k]):=by rw[p2,bY,yV,vr]
   refine Kn ⟨?_,?_,?_,?_,?_,?_⟩
   ·dsimp only;rw[qJ hk,List.flatMap_append,<-cF,<-h1];exact p1
   ·dsimp only;rw[qJ hk,List.flatMap_append,<-cF,<-h2];exact p2
   ·dsimp only;rw[qJ hk,List.flatMap_append,<-cF,<-h3];exact p3
   ·dsimp only;have hqn:((dV l d (cQ l l[i].Uses[k]) (qI b l[i].Uses[k])<|w+1).flatMap<|rD l).length=((dV l d (cQ l l[i].Uses[k]) (qI b l[i].Uses[k])<|w+1).flatMap<|BD l).length:=by
     rw[lF,lF];congr 1;exact List.map_congr_left λe _=>by unfold rD BD;rw[eK,eK]
    rw[p3,p2,bY,bY,hqn,h4]
   ·dsimp only;rw[xe hk];dsimp only;rw[h5,hK2l]
   ·dsimp only;rw[xe hk];dsimp only;rw[mR,h5];exact⟨p4,p5⟩
  ·rintro⟨P',K',Q',U'⟩⟨h1,h2,h3,h4,h5,h6,h7⟩;dsimp only at h1 h2 h3 h4 h5 h6 h7 ⊢;rw[gG]at h1 h2 h3 h5 h6 h7;have hin:dV l (d+1) i b w=(i,b,w)::xz l d b w l[i].Uses:=by
    show(i,b,w)::_=_;rw[e1];rfl
   have hjn:Es l (d+1) i K.length ps=(Ct l d i K.length ps l[i].Uses).1:=by
    show(Ct l d i K.length ps<|gF l i).1=_;rw[e1]
   refine Kn ⟨?_,?_,?_,?_,?_⟩
   ·dsimp only;rw[hin,mW,<-cF,<-eP];exact h1
   ·dsimp only;rw[hin,mW,<-cF,<-g1];exact h2
   ·dsimp only;rw[hin,mW,<-cF,<-g2];exact h3
   ·dsimp only;rw[hjn];exact h6
   ·dsimp only;rw[hjn];exact h7
end
theorem Ed{ns:List Net}{base:Nat}{w:aN}{ws:List aN}{q:aN}(h:q∈ws):vu ws (ll ns base w ws) q=(iB ns ⟨w,q⟩).map λa=>base+a:=by
 rcases mM ws (λx=>q.fY x)with⟨_,h2⟩|⟨a,x,h1,h2,h3,_⟩
 ·have:=h2 q h;rw[uy]at this;cases this
 have hx:q=x:=ix.1 h3;subst hx;unfold vu;rw[h1,dA];have:(ll ns base w ws)[a]? =some (Fe base<|iB ns ⟨w,q⟩):=by
  unfold ll;rw[lC,h2];rfl
 rw[this,Option.getD_some]
 cases iB ns ⟨w,q⟩with
 |none=>rfl
 |some c=>
  show(if 0<=(((base+c:Nat)):Int)then some (((base+c:Nat):Int)).toNat else none)=some (base+c);rw[aH (by omega),dA]
theorem Ee{ns ms:List Net}{base:Nat}{w:aN}{ws:List aN}{bu:Nat}(hw:∀m∈ms,∀q∈m.aO,q∈ws)(a b:Nat):(a,b)∈yU ms ws bu (ll ns base w ws)↔(b,a)∈FG ns ms base w bu:=by
 unfold yU FG;rw[List.mem_flatMap,List.mem_flatMap];refine exists_congr λj=>and_congr_right λhj=>?_;unfold uP FF;have hjl:=lD.1 hj;rw[aP hjl];show(a,b)∈List.filterMap _ _↔(b,a)∈List.filterMap _ _;rw[List.mem_filterMap,List.mem_filterMap];refine exists_congr λq=>and_congr_right λhq=>?_;rw[Ed<|hw _ (cB hjl) q hq]
 cases iB ns ⟨w,q⟩with
 |none=>simp
 |some c=>
  simp only[Option.map_some,Option.some.injEq,Prod.mk.injEq];exact⟨λh=>⟨h.2,h.1⟩,λh=>⟨h.2,h.1⟩⟩
section
variable {t:List aG}{l:List aF}{ρ:Nat->Nat}
theorem Ef(H:fQ t l)(i:Nat):∀m∈fV l i,∀q∈m.aO,q∈mS l i:=by
 intro m hm q hq;obtain⟨s,h1,h2,h3⟩:=xA hm;rw[tc h1];exact(H.ok s h2).og.port m h3 q hq
theorem FH(H:fQ t l)(hR:pD l ρ)(hU:∀s∈l,∀u∈s.Uses,0<=nat? aF.Name l u.aF):∀(d i base:Nat)(ps:List Int),ρ i<d->∀a b:Nat,(a,b)∈Es l d i base ps↔(a,b)∈yU (fV l i) (mS l i) base ps\/(b,a)∈CQ l d i base
 | 0,_,_,_,h=>by omega
 |d+1,i,base,ps,hd=>by
  have key:∀k,k<=(gF l i).length->(Ct l d i base ps<|(gF l i).take k).2=(yb l d i base<|(gF l i).take k).2/\∀a b,(a,b)∈(Ct l d i base ps<|(gF l i).take k).1↔(a,b)∈yU (fV l i) (mS l i) base ps\/(b,a)∈(yb l d i base<|(gF l i).take k).1:=by
   intro k
   induction k with
   |zero=>intro _;exact⟨rfl,λa b=>by simp[Ct,yb]⟩
   |succ k ih=>
    intro hk;have hk':k<(gF l i).length:=hk;obtain⟨i1,i2⟩:=ih (by omega);obtain⟨_,_,_,h5⟩:=oV hR hU (i:=i) (u:=(gF l i)[k])<|cB hk'
    rw[xe hk',uM hk'];refine⟨by dsimp only;rw[i1],λa b=>?_⟩;dsimp only;rw[kK,kK,kK,i2,FH H hR hU d _ _ _ (by omega),i1,Ee<|Ef H _];constructor
    ·rintro((h|h)|(h|h))
     ·exact .inl h
     ·exact .inr<|.inl h
     ·exact .inr<|.inr<|.inr h
     ·exact .inr<|.inr<|.inl h
    ·rintro(h|h|h|h)
     ·exact .inl<|.inl h
     ·exact .inl<|.inr h
     ·exact .inr<|.inr h
     ·exact .inr<|.inl h
  intro a b;have:=(key (gF l i).length<|bV _).2 a b;rw[gG]at this;exact this
theorem Eg{ns:List Net}{ws:List aN}{base:Nat}{ps:List Int}(h:∀v∈ps,v = -1):yU ns ws base ps= []:=by
 unfold yU;rw[List.flatMap_eq_nil_iff];intro j hj;unfold uP;rw[aP<|lD.1 hj];show List.filterMap _ _= [];rw[List.filterMap_eq_nil_iff];intro q hq;have:vu ws ps q=none:=by
  unfold vu;rw[aJ]
  cases hv:ps[(zS ws λw=>q.fY w).toNat]? with
  |none=>simp
  |some v=>rw[Option.getD_some,h v (dD hv)];omega
 rw[this];rfl
theorem Fg{d i:Nat}(h:d≠0):(fV l i).length<=uc l d i:=by
 cases d with
 |zero=>exact absurd rfl h
 |succ d=>unfold uc;omega
theorem FI(hR:pD l ρ)(hU:∀s∈l,∀u∈s.Uses,0<=nat? aF.Name l u.aF):∀(d i base:Nat),ρ i<d->∀e∈CQ l d i base,e.1<base+uc l d i/\e.2<base+uc l d i
 | 0,_,_,h=>by omega
 |d+1,i,base,hd=>by
  have key:∀k,k<=(gF l i).length->(yb l d i base<|(gF l i).take k).2=base+((fV l i).length+(((gF l i).take k).map λu=>uc l d<|cQ l u).sum)/\∀e∈(yb l d i base<|(gF l i).take k).1,e.1<(yb l d i base<|(gF l i).take k).2/\e.2<(yb l d i base<|(gF l i).take k).2:=by
   intro k
   induction k with
   |zero=>intro _;exact⟨by simp[yb],λe he=>by simp[yb]at he⟩
   |succ k ih=>
    intro hk;have hk':k<(gF l i).length:=hk;obtain⟨i1,i2⟩:=ih (by omega);obtain⟨_,_,_,h5⟩:=oV hR hU (i:=i) (u:=(gF l i)[k])<|cB hk'
    have hn:=Fg (l:=l) (d:=d) (i:=cQ l (gF l i)[k]) (by omega);rw[uM hk'];dsimp only;refine⟨?_,λe he=>?_⟩
    ·rw[i1,gU hk',eR,List.sum_append];simp only[fR,List.map_nil,List.sum_cons,List.sum_nil];omega
    ·rcases kK.1 he with he|he
     ·have:=i2 e he;omega
     ·rcases kK.1 he with he|he
      ·exact FI hR hU d _ _ (by omega) e he
      ·unfold FG at he;obtain⟨j,hj,he⟩:=List.mem_flatMap.1 he;have hjl:=lD.1 hj;unfold FF at he;rw[aP hjl]at he;obtain⟨q,_,he⟩:=List.mem_filterMap.1 he
       cases hp:iB (fV l i) ⟨(gF l i)[k].Name,q⟩with
       |none=>rw[hp]at he;cases he
       |some c=>
        rw[hp]at he;injection he with he
        subst he;obtain⟨n,g1,_⟩:=nu hp;have:=(bM.1 g1).1;dsimp only;omega
  intro e he;have:=key (gF l i).length<|bV _
  rw[gG]at this;have h2:=this.2 e he;rw[this.1]at h2;exact h2
end
end Go.Gk
namespace Go.Gk
open Go IntKind Go.Sort
section
variable {α:Type}
theorem vN{β:Type}(a:Array β){n:Nat}(h:a.size=n):a.extract 0 n=a:=by grind
theorem Gi{φ:α->α->Option Int}{l:List α}(cf:α->α->Int)(hφ:∀x∈l,∀y∈l,φ x y=some (cf x y))(h1:∀x∈l,¬cf x x<0)
  (h2:∀x∈l,∀y∈l,∀z∈l,cf x y<0->cf y z<0->cf x z<0) (h3:∀x∈l,∀y∈l,∀z∈l,¬cf x y<0->¬cf y z<0->¬cf x z<0):SWO (Fu<|Ah φ l):=by
 have hm:∀i:Fin l.length,l[i]∈l:=λi=>cB i.isLt;have e:∀i j:Fin l.length,Ah φ l i j=cf l[i] l[j]:=λi j=>by grind [Ah]
 refine⟨λx=>?_,λx y z=>?_,λx y z=>?_⟩
 all_goals grind [Fu,decide_eq_false_iff_not]
theorem z9{φ:α->α->Option Int}{l:List α}(cf:α->α->Int)(hφ:∀x∈l,∀y∈l,φ x y=some (cf x y))(h1:∀x∈l,¬cf x x<0)
  (h2:∀x∈l,∀y∈l,∀z∈l,cf x y<0->cf y z<0->cf x z<0) (h3:∀x∈l,∀y∈l,∀z∈l,¬cf x y<0->¬cf y z<0->¬cf x z<0) (hl:l.length<4611686018427387904):
  ∃m,qg φ l=some m/\m.Perm l/\m.Pairwise (λx y=>¬cf y x<0):=by
 have hO:=Gi cf hφ h1 h2 h3;have hm:∀i:Fin l.length,l[i]∈l:=λi=>cB i.isLt;have hc:(∀i j:Fin l.length,∃c,φ l[i] l[j]=some c):=λi j=>⟨_,hφ _ (hm i) _<|hm j⟩;refine⟨Bl φ l,by simp_all[qg,aH],?_⟩;unfold Bl
 by_cases hn:0<l.length
 ·rw[dif_pos hn]
  letI inh:Inhabited (Fin l.length):=⟨⟨0,hn⟩⟩
  have hds:(Array.ofFn λi:Fin l.length=>i).size=l.length:=by simp
  obtain⟨hp,hs⟩:=pdq_sorts (Fu<|Ah φ l) hO (Array.ofFn λi:Fin l.length=>i) 0 l.length (Lib.bitLen l.length) true true (la _) (by omega)<|Or.inl rfl
  show(List.map (λi=>l[i]) (pdq (Fu<|Ah φ l) (Array.ofFn λi:Fin l.length=>i) 0 l.length (Lib.bitLen l.length) true true).toList).Perm l/\_;generalize pdq (Fu<|Ah φ l) (Array.ofFn λi:Fin l.length=>i) 0 l.length (Lib.bitLen l.length) true true=d' at hp hs;obtain⟨hz,_,hpm⟩:=hp;have hz':d'.size=l.length:=hz.trans hds;rw[vN d' hz',vN _ hds]at hpm;have hof:(Array.ofFn λi:Fin l.length=>i).toList.map (λi=>l[i])=l:=by
   rw[Array.toList_ofFn,List.map_ofFn];exact List.ofFn_getElem
  refine⟨(hpm.map<|λi=>l[i]).trans<|List.Perm.of_eq hof,?_⟩;rw[List.pairwise_map,gV];intro i j hi hj hij;rw[Array.length_toList]at hi hj;have:=hs i j (la _) hij (by omega)
  grind [Ah,Fu,decide_eq_false_iff_not]
 ·rw[dif_neg hn];have:l= []:=List.length_eq_zero_iff.1 (by omega);subst this;exact⟨List.Perm.refl _,mV⟩
end
end Go.Gk
namespace Go.Gk
open Go IntKind
section
variable {N:Nat}
theorem Cw{l m:List aN}(hl:l.length<=4611686018427387904):fF N l m=some (decide<|l=m):=by
 have h:=vd (l:=l) (m:=m) hl;have e:fF N l m=yK l m:=by
  unfold fF yK;simp only[E3]
 rw[e,h]
theorem Cx{x:bG}(h1:x.bB.length<=1048576)(h2:x.aM.length<=1048576)(h3:∀n∈x.aM,n.aU.length<=1048576/\n.aO.length<=1048576):iX N x x=some true:=by
 unfold iX;have e1:kD N x.bB x.bB=some true:=by
  have:=vd (l:=x.bB) (m:=x.bB) (by omega);rw[bR rfl]at this;exact this
 rw[e1,aA];simp only[lE,aW,bne_self_eq_false,aA]
 rw[eE (λ_=>none) (by omega) (λk hk _=>by
  have hx:x.aM[k]? =some x.aM[k]:=aP hk;obtain⟨h4,h5⟩:=h3 _<|cB hk
  have e2:ld N x.aM[k].aU x.aM[k].aU=some true:=by
   have:=vd (l:=x.aM[k].aU) (m:=x.aM[k].aU) (by omega);rw[bR rfl]at this;exact this
  have e3:fF N x.aM[k].aO x.aM[k].aO=some true:=by
   rw[Cw (by omega),bR rfl]
  simp only[bQ hx,aA,uy,e2,e3,lE,aW]
  rfl),aA,gS.2 (λ_ _=>rfl)]
 rfl
section
variable {α:Type}
def yW(l:List Pin):Prop:=l.Pairwise<|λa b=>g8 a b=true
theorem AZ{l:List Pin}:(∀(i j:Nat)(p q:Pin),i<j->l[i]? =some p->l[j]? =some q->g8 p q=true)↔yW l:=by
 unfold yW;rw[gV];constructor
 ·intro h i j hi hj hij;exact h i j _ _ hij (aP hi)<|aP hj
 ·intro h i j x y hij hx hy;obtain⟨hi,rfl⟩:=bM.1 hx;obtain⟨hj,rfl⟩:=bM.1 hy;exact h i j hi hj hij
theorem eF.eB{key:α->aN}{l:List α}(h:eF key l){k:Nat}(hk:k<l.length):Gk.eB key l k=false:=by
 unfold Gk.eB;rw[aP hk,aP (by omega:k - 1<l.length)];dsimp only
 by_cases h0:0<k
 ·rw[Bt.2<|h (k - 1) k _ _ (by omega) (aP (by omega))<|aP hk];simp
 ·rw[bJ h0];simp
end
section
variable {α:Type}
end
end
section
variable {N:Nat}
theorem pE{a b:Pin}(h:g8 a b=true):g8 b a=false:=by
 cases h2:g8 b a with
 |false=>rfl
 |true=>have:=pC h h2;rw[oh]at this;cases this
theorem sQ{a b:Pin}:rB a b=0↔a=b:=by
 unfold rB;constructor
 ·intro h;split at h
  ·rename_i h1;have e1:=aN.ext'<|(jA _ _).1 h1
   have e2:=aN.ext'<|(jA _ _).1 h
   obtain⟨a1,a2⟩:=a;obtain⟨b1,b2⟩:=b;simp only at e1 e2;rw[e1,e2]
  ·rename_i h1;exact absurd h h1
 ·intro h;subst h;rw[aH<|(jA _ _).2 rfl];exact(jA _ _).2 rfl
theorem ud{a b:Pin}:rB a b<0↔g8 a b=true:=by
 have h:=x0 a b;constructor
 ·intro h1;rw[bR (by omega)]at h
  rcases ni a b with h2|h2|h2
  ·exact h2
  ·rw[sQ.2 h2]at h1;omega
  ·rw[h2]at h;cases h
 ·intro h1;have h2:=pE h1;rw[h2,ph,il]at h;have:rB a b≠0:=λe=>by rw[sQ]at e;subst e;rw[oh]at h1;cases h1
  omega
def yX(l:List Pin):Prop:=l.Pairwise<|λa b=>g8 b a=false
theorem Cy{l m:List Pin}(hl:yX l)(hm:yX m)(hp:l.Perm m):l=m:=
 List.Perm.eq_of_pairwise (le:=λa b=>g8 b a=false) (λa b _ _ h h'=>by
  rcases ni a b with h2|h2|h2
  ·rw[h2]at h';cases h'
  ·exact h2
  ·rw[h2]at h;cases h) hl hm hp
theorem nT{a b c:Pin}(h1:g8 b a=false)(h2:g8 c b=false):g8 c a=false:=by
 cases h:g8 c a with
 |false=>rfl
 |true=>
  rcases ni a b with h3|h3|h3
  ·rw[pC h h3]at h2;cases h2
  ·subst h3;rw[h]at h2;cases h2
  ·rw[h3]at h1;cases h1
def lS(l:List Pin):List Pin:=l.mergeSort<|λa b=> !g8 b a
theorem mT(l:List Pin):(lS l).Perm l:=List.mergeSort_perm _ _
theorem Aa(l:List Pin):yX (lS l):=by
 have:=List.pairwise_mergeSort (le:=λa b:Pin=> !g8 b a) (λa b c h1 h2=>by
  simp only[Bool.not_eq_true']at h1 h2 ⊢;exact nT h1 h2) (λa b=>by
  rcases ni a b with h|h|h
  ·rw[pE h];rfl
  ·subst h;rw[oh];rfl
  ·rw[pE h];simp) l
 exact this.imp λh=>by simpa using h
theorem Ab{l m:List Pin}(hp:m.Perm l)(hm:yX m):m=lS l:=Cy hm (Aa l)<|hp.trans (mT l).symm
theorem Eh{l:List Pin}(h:l.Nodup):yW (lS l):=by
 have h1:(lS l).Nodup:=(mT l).symm.nodup h;have h2:=List.Pairwise.and (Aa l) h1;exact h2.imp λ{a b}h=>by
  rcases ni a b with h3|h3|h3
  ·exact h3
  ·exact absurd h3 h.2
  ·rw[h3]at h;cases h.1
theorem A0{l:List Pin}(hl:l.length<4611686018427387904):qg (dZ N) l=some (lS l):=by
 obtain⟨m,h1,h2,h3⟩:=z9 (φ:=dZ N) (l:=l) rB (λa _ b _=>sM a b) (λa _=>by rw[sQ.2 rfl];decide)
  (λa _ b _ c _ h1 h2=>by rw[ud]at *;exact pC h1 h2) (λa _ b _ c _ h1 h2=>by
   rw[ud,lX]at *;exact nT h2 h1) hl
 rw[h1,Ab h2 (h3.imp λh=>by rw[ud,lX]at h;exact h)]
end
end Go.Gk
namespace Go.Gk
open Go IntKind Classical
theorem xf{α:Type}{key:α->aN}{φ:α->α->Option Int}(hφ:∀x y,φ x y=some (Lib.compareBytes (key x).bL (key y).bL)){l:List α}(hl:l.length<4611686018427387904)(hnd:l.Pairwise λx y=>key x≠key y):
  ∃m,qg φ l=some m/\m.Perm l/\eF key m:=by
 have hlt:∀x y:α,Lib.compareBytes (key x).bL (key y).bL<0↔aN.lt (key x) (key y):=λx y=>mL _ _;have ht:∀x,x∈l->∀y,y∈l->∀z,z∈l->¬Lib.compareBytes (key x).bL (key y).bL<0->¬Lib.compareBytes (key y).bL (key z).bL<0->¬Lib.compareBytes (key x).bL (key z).bL<0:=by
  intro x _ y _ z _ h1 h2 h3;rw[hlt]at h1 h2 h3
  rcases aN.kW (key x) (key y)with h|h|h
  ·exact h1 h
  ·rw[h]at h3;exact h2 h3
  ·exact h2<|aN.lt_trans h h3
 obtain⟨m,h1,h2,h3⟩:=z9 (φ:=φ) (l:=l) (λx y=>Lib.compareBytes (key x).bL (key y).bL) (λx _ y _=>hφ x y) (λx _ h=>aN.lt_irrefl _<|(hlt x x).1 h) (λx _ y _ z _ h1 h2=>(hlt x z).2<|aN.lt_trans ((hlt x y).1 h1)<|(hlt y z).1 h2) ht hl;refine⟨m,h1,h2,?_⟩;have h4:m.Pairwise λx y=>key x≠key y:=h2.symm.pairwise hnd<|λ{a c}h h'=>h h'.symm
 intro i j x y hij hx hy;obtain⟨hi,rfl⟩:=bM.1 hx;obtain⟨hj,rfl⟩:=bM.1 hy;have a1:=gV.1 h3 i j hi hj hij;have a2:=gV.1 h4 i j hi hj hij
 rcases aN.kW (key m[i]) (key m[j])with h|h|h
 ·exact h
 ·exact absurd h a2
 ·exact absurd ((hlt _ _).2 h) a1
theorem sR{α:Type}{key:α->aN}{l m:List α}(hl:eF key l)(hm:eF key m)(hp:l.Perm m):l=m:=by
 have hw:∀{l:List α},eF key l->l.Pairwise λx y=>aN.lt (key x) (key y):=λ{l}h=>by
  rw[gV];intro i j hi hj hij;exact h i j _ _ hij (aP hi)<|aP hj
 exact List.Perm.eq_of_pairwise (le:=λx y=>aN.lt (key x)<|key y) (λa b _ _ h h'=>absurd h'<|aN.lt_asymm h) (hw hl) (hw hm) hp
theorem vv{κ ν:Type}[DecidableEq κ](k:κ)(x:ν):∀m:List (κ×ν),(fM m k x).map Prod.fst=if k∈m.map Prod.fst then m.map Prod.fst else m.map Prod.fst++[k]
 | []=>by simp[fM]
 |p::m=>by
  unfold fM
  by_cases h:k=p.1
  ·simp[h]
  ·rw[aJ h,fR,vv k x m];simp only[fR,jX,h,false_or];split <;> simp
theorem Ac{κ ν:Type}[DecidableEq κ]{m:List (κ×ν)}(h:(m.map Prod.fst).Nodup)(k:κ)(x:ν):((fM m k x).map Prod.fst).Nodup:=by
 rw[vv];split
 ·exact h
 ·rename_i hk;rw[List.nodup_append];exact⟨h,by simp,λa ha b hb e=>by rw[qK]at hb;subst hb;subst e;exact hk ha⟩
def A1(a b:aC):Prop:=a.words<b.words\/a.words=b.words/\aN.lt a.path b.path
theorem A1.trans{a b c:aC}(h1:A1 a b)(h2:A1 b c):A1 a c:=by
 unfold A1 at *
 rcases h1 with h1|⟨h1,h3⟩ <;> rcases h2 with h2|⟨h2,h4⟩
 ·exact .inl (by omega)
 ·exact .inl (by omega)
 ·exact .inl (by omega)
 ·exact .inr ⟨by omega,aN.lt_trans h3 h4⟩
theorem A1.J4(a:aC):¬A1 a a:=λh=>by
 rcases h with h|⟨_,h⟩
 ·omega
 ·exact aN.lt_irrefl _ h
noncomputable def pf(Q:List (List Pin))(r:Nat->Nat)(k:Nat)(h:Int):List Pin:=((List.range k).filter λi=>decide<|((r i:Nat):Int)=h).flatMap λi=>Q.getD i []
theorem vx(Q:List (List Pin))(r:Nat->Nat)(k:Nat)(h:Int):pf Q r (k+1) h=pf Q r k h++if((r k:Nat):Int)=h then Q.getD k []else []:=by
 unfold pf;rw[List.range_succ,List.filter_append,List.flatMap_append];congr 1
 by_cases e:((r k:Nat):Int)=h
 ·simp[e]
 ·simp[e]
theorem sS{Q:List (List Pin)}(hQ:∀q∈Q,q.length<=500)(r:Nat->Nat)(h:Int):∀k,(pf Q r k h).length<=500*k
 | 0=>by simp[pf]
 |k+1=>by
  rw[vx,bY];have h1:=sS hQ r h k;have h2:(Q.getD k []).length<=500:=by
   rw[List.getD_eq_getElem?_getD]
   cases hq:Q[k]? with
   |none=>exact la _
   |some q=>exact hQ q (dD hq)
  split
  ·omega
  ·simp;omega
structure Ei (K:List aC) (Q:List (List Pin)) (r:Nat->Nat) (k:Nat) (st:List Int×List (Int×aC)×List (Int×List Pin)):Prop where
 U:UF K.length st.1 r
 nk:∀h,iP st.2.1 h=true↔∃i,i<k/\((r i:Nat):Int)=h
 nv:∀h,iP st.2.1 h=true->(∃i,i<k/\((r i:Nat):Int)=h/\K[i]? =some (cP st.2.1 h ⟨⟨[]⟩,0⟩))/\∀i q,i<k->((r i:Nat):Int)=h->K[i]? =some q->¬A1 q (cP st.2.1 h ⟨⟨[]⟩,0⟩)
 pk:(st.2.2.map Prod.fst).Nodup
 pm:∀h,h∈st.2.2.map Prod.fst↔∃i,i<k/\((r i:Nat):Int)=h
 pv:∀h,cP st.2.2 h []=pf Q r k h
section
variable {N:Nat}
theorem Gj(a b:Int):ox N [a,b]=some (if a≠0 then a else b):=by
 unfold ox
 rw[wS (l:=[a,b]) (λx=>if x≠0 then some x else none) (by simp) (λk x hk=>by
  rw[bQ hk,aA]
  by_cases h:x=0
  ·subst h;rfl
  ·rw[show(x != 0)=true by simpa using h,aH h];rfl),aA]
 by_cases ha:a=0
 ·subst ha
  by_cases hb:b=0
  ·subst hb;rfl
  ·simp[xv,Fo.cs,hb]
 ·simp[xv,Fo.cs,ha]
theorem Fh(a b:aC):∃c,dN N a b=some c/\(c<0↔A1 a b):=by
 unfold dN;have h1:kf N a.words b.words=some (if a.words<b.words then -1 else if a.words>b.words then 1 else 0):=by
  unfold kf lu;simp only[bne_self_eq_false,aA,aW]
  by_cases h:a.words<b.words
  ·simp[h]
  ·by_cases h2:a.words>b.words
   ·simp[h,h2]
   ·simp[h,h2]
 have h2:dS N a.path b.path=some (Lib.compareBytes a.path.bL b.path.bL):=rfl;rw[h1,aA,h2,aA,Gj,aA];refine⟨_,rfl,?_⟩;have h3:=mL a.path.bL b.path.bL;have h4:Lib.compareBytes a.path.bL b.path.bL<0↔aN.lt a.path b.path:=h3;unfold A1;rw[<-h4]
 by_cases e:a.words<b.words
 ·simp[e]
 ·by_cases e2:a.words>b.words
  ·rw[aJ e,aH e2];simp;omega
  ·have:a.words=b.words:=by omega
   rw[aJ e,aJ e2];simp[this]
theorem Ej{K:List aC}{Q:List (List Pin)}{U:List Int}{r:Nat->Nat}(hK:K.length<=3000000)(hQ:Q.length=K.length)(hq:∀q∈Q,q.length<=500)(hU:UF K.length U r)(hN:4398046511104<=N):
  Ok (kJ K.length (λ(k34:Nat)(s35:List Int×List (Int×aC)×List (Int×List Pin))=>((idx K (k34:Int)).bind λx96=>(bZ N s35.1 (k34:Int)).bind λx100=>(bif(!(iP s35.2.1 x100.1))then some true else((dN N x96<|cP s35.2.1 x100.1 (⟨⟨[]⟩,0⟩:aC)).bind λx112=>some<|decide<|x112<0)).bind λs108=>(bif s108 then some (fM s35.2.1 x100.1 x96)else some s35.2.1).bind λs114=>(idx Q (k34:Int)).bind λx116=>(app 32 (cP s35.2.2 x100.1 ([]:List Pin)) x116).bind λBR=>some (x100.2,s114,fM s35.2.2 x100.1 BR):Option (List Int×List (Int×aC)×List (Int×List Pin)))) (U,([]:List (Int×aC)),([]:List (Int×List Pin))))
   (Ei K Q r K.length):=by
 refine KI (λk st=>Ei K Q r k st) (by omega) ⟨hU,λh=>⟨λh=>(by cases h),λ⟨i,h,_⟩=>(by omega)⟩,λh hh=>(by cases hh),List.nodup_nil,λh=>⟨λh=>(by cases h),λ⟨i,h,_⟩=>(by omega)⟩,λh=>rfl⟩ ?_;rintro k⟨up,nm,pm⟩hk⟨g1,g2,g3,g4,g5,g6⟩;dsimp only at g1 g2 g3 g4 g5 g6 ⊢;have hx:K[k]? =some K[k]:=aP hk;have hy:Q[k]? =some (Q[k]'(by omega)):=aP _;have hyl:=hq _<|cB (show k<Q.length by omega)
 have hyd:Q.getD k []=Q[k]'(by omega):=by rw[List.getD_eq_getElem?_getD,hy];rfl
 obtain⟨up',u1,u2⟩:=yS (N:=N) g1 hk (by omega);rw[bQ hx,aA,u1,aA];dsimp only;have hcl:=sS hq r ((r k:Nat):Int) k;have hname:∃c:Bool,(bif(!(iP nm ((r k:Nat):Int)))then some true else((dN N K[k]<|cP nm ((r k:Nat):Int) (⟨⟨[]⟩,0⟩:aC)).bind λx112=>some<|decide<|x112<0))=some c/\
   (c=true->iP nm ((r k:Nat):Int)=true->A1 K[k] (cP nm ((r k:Nat):Int) ⟨⟨[]⟩,0⟩))/\(c=false->iP nm ((r k:Nat):Int)=true/\¬A1 K[k] (cP nm ((r k:Nat):Int) ⟨⟨[]⟩,0⟩)):=by
  cases hm:iP nm ((r k:Nat):Int)with
  |false=>exact⟨true,rfl,λ_ h=>by(first|cases h|(rw[hm]at h;cases h)),λh=>by cases h⟩
  |true=>
   obtain⟨c,c1,c2⟩:=Fh (N:=N) K[k]<|cP nm ((r k:Nat):Int) ⟨⟨[]⟩,0⟩
   refine⟨decide<|c<0,by rw[lE,aW,c1,aA],λh _=>c2.1<|of_decide_eq_true h,λh=>⟨rfl,λh'=>of_decide_eq_false h<|c2.2 h'⟩⟩
 obtain⟨c,hc,hc1,hc2⟩:=hname;rw[hc,aA];have hput:(bif c then some (fM nm ((r k:Nat):Int) K[k])else some nm)=some (if c=true then fM nm ((r k:Nat):Int) K[k]else nm):=by cases c <;> rfl
 rw[hput,aA,bQ hy,aA,g6,ig (by omega),aA];refine Kn ⟨u2,λh=>?_,λh hh=>?_,Ac g4 _ _,λh=>?_,λh=>?_⟩
 ·dsimp only;have e:iP (if c=true then fM nm ((r k:Nat):Int) K[k]else nm) h=(decide (h=((r k:Nat):Int))||iP nm h):=by
   cases c with
   |true=>rw[aH rfl,s7]
   |false=>
    rw[aJ (by simp)]
    by_cases e:h=((r k:Nat):Int)
    ·subst e;rw[(hc2 rfl).1];simp
    ·simp[e]
  rw[e,fK,il,g2];constructor
  ·rintro(rfl|⟨i,h1,h2⟩)
   ·exact⟨k,by omega,rfl⟩
   ·exact⟨i,by omega,h2⟩
  ·rintro⟨i,h1,h2⟩
   by_cases e:i=k
   ·subst e;exact .inl h2.symm
   ·exact .inr ⟨i,by omega,h2⟩
 ·dsimp only at hh ⊢
  by_cases e:h=((r k:Nat):Int)
  ·subst e
   cases c with
   |true=>
    rw[aH rfl,oq,aH rfl];refine⟨⟨k,by omega,rfl,hx⟩,λi q hi hr hkq hlt=>?_⟩
    by_cases ek:i=k
    ·subst ek;rw[hx]at hkq;injection hkq with hkq;rw[hkq]at hlt;exact A1.J4 _ hlt
    ·have hm:=(g2 ((r k:Nat):Int)).2 ⟨i,by omega,hr⟩;exact(g3 _ hm).2 i q (by omega) hr hkq<|hlt.trans<|hc1 rfl hm
   |false=>
    rw[aJ (by simp)];obtain⟨hm,hn⟩:=hc2 rfl;obtain⟨⟨i,i1,i2,i3⟩,h4⟩:=g3 _ hm;refine⟨⟨i,by omega,i2,i3⟩,λj q hj hr hkq=>?_⟩
    by_cases ek:j=k
    ·subst ek;rw[hx]at hkq;injection hkq with hkq;rw[<-hkq];exact hn
    ·exact h4 j q (by omega) hr hkq
  ·have e2:cP (if c=true then fM nm ((r k:Nat):Int) K[k]else nm) h ⟨⟨[]⟩,0⟩=cP nm h ⟨⟨[]⟩,0⟩:=by
    cases c with
    |true=>rw[aH rfl,oq,aJ e]
    |false=>rw[aJ (by simp)]
   have hm:iP nm h=true:=by
    cases c with
    |true=>rw[aH rfl,s7,bJ e,Bool.false_or]at hh;exact hh
    |false=>rw[aJ (by simp)]at hh;exact hh
   rw[e2];obtain⟨⟨i,i1,i2,i3⟩,h4⟩:=g3 _ hm;refine⟨⟨i,by omega,i2,i3⟩,λj q hj hr hkq=>?_⟩
   by_cases ek:j=k
   ·subst ek;exact absurd hr.symm e
   ·exact h4 j q (by omega) hr hkq
 ·dsimp only;rw[vv];have e:h∈(if((r k:Nat):Int)∈pm.map Prod.fst then pm.map Prod.fst else pm.map Prod.fst++[((r k:Nat):Int)])↔h∈pm.map Prod.fst\/h=((r k:Nat):Int):=by
   split
   ·rename_i hh;exact⟨.inl,λh'=>h'.elim id λe=>e▸hh⟩
   ·simp
  rw[e,g5];constructor
  ·rintro(⟨i,h1,h2⟩|rfl)
   ·exact⟨i,by omega,h2⟩
   ·exact⟨k,by omega,rfl⟩
  ·rintro⟨i,h1,h2⟩
   by_cases e:i=k
   ·subst e;exact .inr h2.symm
   ·exact .inl ⟨i,by omega,h2⟩
 ·dsimp only;rw[oq,vx,hyd]
  by_cases e:h=((r k:Nat):Int)
  ·rw[aH e,aH e.symm,<-e]
  ·rw[aJ e,aJ<|λe'=>e e'.symm,iH,g6]
end
section
variable {t:List aG}{l:List aF}{ρ:Nat->Nat}
theorem Cz(H:fQ t l)(hR:pD l ρ)(hU:∀s∈l,∀u∈s.Uses,0<=nat? aF.Name l u.aF){d k:Nat}(hd:ρ k<d){ps:List Int}(hps:∀v∈ps,v = -1):∀i,i<uc l d k->gY (λi=>i) (CQ l d k 0) i=gY (λi=>i) (Es l d k 0 ps) i:=by
 have hj:=FH H hR hU d k 0 ps hd;rw[Eg hps]at hj;have hlt:=FI hR hU d k 0 hd;rw[ik]at hlt;have hlt2:∀e∈Es l d k 0 ps,e.1<uc l d k/\e.2<uc l d k:=λe he=>by
  have:=(hj e.1 e.2).1 he;simp only[List.not_mem_nil,false_or]at this;exact⟨(hlt _ this).2,(hlt _ this).1⟩
 obtain⟨c1,f1,q1,l1⟩:=w8 (n:=uc l d k) (CQ l d k 0) (λi=>i) [] (λ_ _=>rfl) (λ_ _=>bV _) hlt nS.id<|v8.id _
 obtain⟨c2,f2,q2,l2⟩:=w8 (n:=uc l d k) (Es l d k 0 ps) (λi=>i) [] (λ_ _=>rfl) (λ_ _=>bV _) hlt2 nS.id<|v8.id _
 rw[List.nil_append]at c1 f1 c2 f2;exact Cs (λa b=>by rw[hj];simp) c1 f1 c2 f2 q1 q2 l1 l2
theorem Ad{s:aN}(h:isWord s=true):s.bL.count 47=0:=List.count_eq_zero.2<|rF h
theorem Ae(hW:∀s∈l,∀u∈s.Uses,isWord u.Name=true):∀(d i:Nat)(b:aN)(w:Nat),b.bL.count 47=w->∀e∈dV l d i b w,e.2.1.bL.count 47=e.2.2
 | 0,_,_,_,_,e,he=>by cases he
 |d+1,i,b,w,hb,e,he=>by
  unfold dV at he
  rcases jX.1 he with rfl|he
  ·exact hb
  ·obtain⟨u,hu,he⟩:=List.mem_flatMap.1 he;obtain⟨s,_,hs,hu'⟩:=tb hu;refine Ae hW d _ _ _ ?_ e he;rw[ot,List.count_append,List.count_append,hb,Ad<|hW s hs u hu'];simp
theorem Fi(H:fQ t l)(d k:Nat){q:aC}(h:q∈(dV l d k ⟨[]⟩ 0).flatMap (t9 l)):q.words=((q.path.bL.count 47+1:Nat):Int):=by
 obtain⟨e,he,s,_,hs,n,hn,rfl⟩:=D9 h;have h1:=Ae (λs hs=>(H.ok s hs).sO.word) d k ⟨[]⟩ 0 rfl e he;have h2:=Ad<|(H.ok s hs).og.word n hn
 show((e.2.2+1:Nat):Int)=(((e.2.1.bL++n.Name.bL).count 47+1:Nat):Int);rw[List.count_append,h1,h2,Nat.add_zero]
theorem Ek{a b:aC}(ha:a.words=((a.path.bL.count 47+1:Nat):Int))(hb:b.words=((b.path.bL.count 47+1:Nat):Int)):A1 a b↔a.path.bL.count 47<b.path.bL.count 47\/(a.path.bL.count 47=b.path.bL.count 47/\aN.lt a.path b.path):=by
 unfold A1;rw[ha,hb];constructor
 ·rintro(h|⟨h1,h2⟩)
  ·exact .inl (by omega)
  ·exact .inr ⟨by omega,h2⟩
 ·rintro(h|⟨h1,h2⟩)
  ·exact .inl (by omega)
  ·exact .inr ⟨by omega,h2⟩
end
section
variable {N:Nat}
def pF(a b:aN):Bool:=decide (a.bL.count 47<b.bL.count 47)||(decide (a.bL.count 47=b.bL.count 47)&&a.jc b)
theorem CA(a b:aN):gB N a b=some (pF a b):=by
 unfold gB pF;rw[zW,aA,zW,aA];congr 1;congr 1
 ·rw[decide_eq_decide];omega
 ·congr 1;rw[lY,beq_iff_eq,il];omega
end
theorem vz{a b:aN}:pF a b=true↔a.bL.count 47<b.bL.count 47\/(a.bL.count 47=b.bL.count 47/\aN.lt a b):=by
 unfold pF;rw[fK,cJ,il,il];rfl
theorem Af{a b c:aN}(h1:pF a b=true)(h2:pF b c=true):pF a c=true:=by
 rw[vz]at *
 rcases h1 with h1|⟨h1,h3⟩ <;> rcases h2 with h2|⟨h2,h4⟩
 ·exact .inl (by omega)
 ·exact .inl (by omega)
 ·exact .inl (by omega)
 ·exact .inr ⟨by omega,aN.lt_trans h3 h4⟩
theorem CB(a:aN):pF a a=false:=by
 rw[<-lX,vz];rintro(h|⟨_,h⟩)
 ·omega
 ·exact aN.lt_irrefl _ h
structure CC (K:List aN) (Q:List (List Pin)) (r:Nat->Nat) (k:Nat) (st:List aN×List (List Pin)):Prop where
 n1:st.1.length=K.length
 n2:st.2.length=K.length
 nv:∀h,h<K.length->∃s,st.1[h]? =some s/\(K[h]? =some s\/∃j,j<k/\r j=h/\K[j]? =some s)/\∀j x,j<k->r j=h->K[j]? =some x->pF x s=false
 pv:∀h,h<K.length->st.2[h]? =some (pf Q r k ((h:Nat):Int))
section
variable {N:Nat}
theorem CD{K:List aN}{Q:List (List Pin)}{U:List Int}{r:Nat->Nat}(hK:K.length<=3000000)(hQ:Q.length=K.length)(hq:∀q∈Q,q.length<=500)(hU:UF K.length U r)(hN:4398046511104<=N):
  Ok (kJ K.length (λ(k40:Nat)(s41:List aN×List (List Pin))=>((eH N U (k40:Int)).bind λx105=>(idx K (k40:Int)).bind λx106=>(idx s41.1 x105).bind λx108=>(gB N x106 x108).bind λx109=>(bif x109 then((idx K (k40:Int)).bind λx114=>(idx s41.1 x105).bind λx116=>some<|s41.1.set (Int.toNat x105) x114)else some s41.1).bind λs113=>(idx s41.2 x105).bind λx117=>(idx Q (k40:Int)).bind λx123=>(app 32 x117 x123).bind λx126=>(idx s41.2 x105).bind λx128=>some (s113,s41.2.set (Int.toNat x105) x126):Option (List aN×List (List Pin)))) (K,List.replicate K.length []))
   (CC K Q r K.length):=by
 refine KI (λk st=>CC K Q r k st) (by omega) ⟨rfl,by simp,λh hh=>⟨K[h],aP hh, .inl<|aP hh,λj x hj=>by omega⟩,λh hh=>by rw[List.getElem?_replicate,aH hh];rfl⟩ ?_;rintro k⟨nm,pn⟩hk⟨g1,g2,g3,g4⟩;dsimp only at g1 g2 g3 g4 ⊢;have hx:K[k]? =some K[k]:=aP hk;have hy:Q[k]? =some (Q[k]'(by omega)):=aP _;have hyl:=hq _<|cB (show k<Q.length by omega)
 have hyd:Q.getD k []=Q[k]'(by omega):=by rw[List.getD_eq_getElem?_getD,hy];rfl
 have hr:=hU.le k hk;obtain⟨s,s1,s2,s3⟩:=g3 (r k) (by omega);have p1:=g4 (r k) (by omega);have hcl:=sS hq r ((r k:Nat):Int) k;rw[z5 hU hk (by omega),aA,bQ hx,aA,bQ s1,aA,CA,aA];have hput:(bif pF K[k] s then((some K[k]).bind λx114=>(some s).bind λx116=>some<|nm.set (Int.toNat ((r k:Nat):Int)) x114)else some nm)=some (if pF K[k] s=true then nm.set (r k) K[k]else nm):=by
  cases pF K[k] s <;> rfl
 rw[hput,aA,bQ p1,aA,bQ hy,aA,ig (by omega),aA,aA,dA];refine Kn ⟨by dsimp only;split <;> simp[g1],by dsimp only;rw[ij];exact g2,λh hh=>?_,λh hh=>?_⟩
 ·dsimp only
  by_cases e:h=r k
  ·subst e
   by_cases hl:pF K[k] s=true
   ·rw[aH hl];refine⟨K[k],by rw[gH,aH rfl,aH (by omega)], .inr ⟨k,by omega,rfl,hx⟩,λj x hj hrj hjx=>?_⟩
    by_cases ej:j=k
    ·subst ej;rw[hx]at hjx;injection hjx with hjx;rw[<-hjx];exact CB _
    ·have:=s3 j x (by omega) hrj hjx
     cases hc:pF x K[k]with
     |false=>rfl
     |true=>rw[Af hc hl]at this;cases this
   ·rw[aJ hl];refine⟨s,s1,s2.elim .inl<|λ⟨j,j1,j2,j3⟩=> .inr ⟨j,by omega,j2,j3⟩,λj x hj hrj hjx=>?_⟩
    by_cases ej:j=k
    ·subst ej;rw[hx]at hjx;injection hjx with hjx;rw[<-hjx];simpa using hl
    ·exact s3 j x (by omega) hrj hjx
  ·obtain⟨s',q1,q2,q3⟩:=g3 h hh;refine⟨s',?_,q2.elim .inl<|λ⟨j,j1,j2,j3⟩=> .inr ⟨j,by omega,j2,j3⟩,λj x hj hrj hjx=>?_⟩
   ·split
    ·rw[gH,aJ<|λh'=>e h'.symm];exact q1
    ·exact q1
   ·by_cases ej:j=k
    ·subst ej;exact absurd hrj.symm e
    ·exact q3 j x (by omega) hrj hjx
 ·dsimp only;rw[vx,hyd,gH]
  by_cases e:r k=h
  ·subst e;rw[aH rfl,aH (by omega),aH rfl]
  ·rw[aJ e,aJ (by omega),iH];exact g4 h hh
end
theorem xg{α:Type}(l:List α)(c:Nat)(t:α):(l.take c++[t]++l.drop c).Perm (l++[t]):=by
 have h:l.take c++l.drop c=l:=List.take_append_drop c l;have h2:(l.take c++([t]++l.drop c)).Perm (l.take c++(l.drop c++[t])):=List.Perm.append_left _ List.perm_append_comm;rw[<-cF,<-cF,h]at h2;exact h2
theorem CE{α:Type}{l:List α}{c:Nat}{y:α}(h:y∈l.take c):∃j,j<c/\l[j]? =some y:=by
 obtain⟨j,hj⟩:=gK h;rw[eC]at hj;split at hj
 ·exact⟨j,by assumption,hj⟩
 ·cases hj
theorem CF{α:Type}{l:List α}{c:Nat}{y:α}(h:y∈l.drop c):∃j,c<=j/\l[j]? =some y:=by
 obtain⟨j,hj⟩:=gK h;rw[g9]at hj;exact⟨c+j,by omega,hj⟩
theorem A2{α:Type}{R:α->α->Prop}{l:List α}{c:Nat}{t:α}(hc:c<=l.length)(tr:∀x y z,R x y->R y z->R x z)(h:l.Pairwise R)(h1:∀y,0<c->l[c - 1]? =some y->R y t)(h2:∀(j:Nat)y,c<=j->l[j]? =some y->R t y):(l.take c++[t]++l.drop c).Pairwise R:=by
 have h3:=h;rw[<-List.take_append_drop c l,List.pairwise_append]at h3;rw[List.pairwise_append,List.pairwise_append];have hb:∀y∈l.take c,R y t:=λy hy=>by
  obtain⟨j,hj,hjy⟩:=CE hy;obtain⟨hjl,rfl⟩:=bM.1 hjy;have hcl:c - 1<l.length:=by omega
  have hz:l[c - 1]? =some l[c - 1]:=aP hcl;have h4:=h1 _ (by omega) hz
  by_cases e:j=c - 1
  ·subst e;exact h4
  ·exact tr _ _ _ (gV.1 h j (c - 1) hjl hcl (by omega)) h4
 refine⟨⟨h3.1,by simp,λa ha b hb'=>?_⟩,h3.2.1,λa ha b hb'=>?_⟩
 ·rw[qK]at hb';subst hb';exact hb a ha
 ·rcases kK.1 ha with ha|ha
  ·exact h3.2.2 a ha b hb'
  ·rw[qK]at ha;subst ha;obtain⟨j,hj,hjy⟩:=CF hb';exact h2 j b hj hjy
section
variable {N:Nat}
theorem xh{α:Type}{l:List α}{f:α->Bool}{body:Int->Option (Fl Int Empty)}(hl:l.length<N)(h0:body 0=some (.br 0))(h:∀(c:Nat)y,l[c]? =some y->body (((c+1:Nat)):Int)=some (if f y=true then .nx ((c:Nat):Int)else .br ((c+1:Nat):Int))):
  Ok (tI body N ((l.length:Nat):Int)) (Gr (λs=>∃c:Nat,s=((c:Nat):Int)/\c<=l.length/\(∀(j:Nat)y,c<=j->l[j]? =some y->f y=true)/\(∀y,0<c->l[c - 1]? =some y->f y=false))<|λ_=>False):=by
 refine LQ (λs=>∃c:Nat,s=((c:Nat):Int)/\c<=l.length/\∀(j:Nat)y,c<=j->l[j]? =some y->f y=true) (λs=>s.toNat) (λs hs=>?_) ⟨l.length,rfl,bV _,λj y hj hy=>by
  have:=(bM.1 hy).1;omega⟩ (by simp only[dA];omega)
 obtain⟨c,rfl,hc,hI⟩:=hs
 match c,hc,hI with
 | 0,hc,hI=>
  rw[show((0:Nat):Int)=0 from rfl,h0];exact LD ⟨0,rfl,hc,hI,λy h=>by omega⟩
 |c+1,hc,hI=>
  have hy:l[c]? =some l[c]:=aP hc;rw[h c _ hy]
  by_cases hf:f l[c]=true
  ·rw[aH hf];refine Li ⟨⟨c,rfl,by omega,λj y hj hjy=>?_⟩,by simp only[dA];omega⟩
   by_cases e:j=c
   ·subst e;rw[hy]at hjy;injection hjy with hjy;rw[<-hjy];exact hf
   ·exact hI j y (by omega) hjy
  ·rw[aJ hf];refine LD ⟨c+1,rfl,hc,hI,λy _ hy'=>?_⟩;rw[sU,hy]at hy';injection hy' with hy'
   rw[<-hy'];simpa using hf
theorem xi{α:Type}{b:Nat}{l:List α}{s:α}{k:Nat}(hk:k<=l.length)(hl:(l.length+1)*b<=140737488355328):vQ b l ((k:Nat):Int) [s]=some (l.take k++[s]++l.drop k):=by
 unfold vQ;rw[aH ⟨by omega,by omega,rfl,by simp only[List.length_singleton];exact hl⟩,dA]
theorem A3{l:List Part}(hl:l.length<=100000000)(hnd:l.Pairwise λx y=>x.Name≠y.Name)(hN:4398046511104<=N):∃m,dL N l=some m/\m.Perm l/\eF Part.Name m:=by
 have key:Ok (dL N l) (λm=>m.Perm l/\m.Pairwise λx y=>¬aN.lt y.Name x.Name):=by
  unfold dL;refine KA (KI (λk m=>m.Perm (l.take k)/\m.Pairwise λx y=>¬aN.lt y.Name x.Name) (by omega) ⟨by simp,mV⟩ ?_)<|λm hm=>Kn (by rw[gG]at hm;exact hm)
  rintro k m hk⟨i1,i2⟩;have hx:l[k]? =some l[k]:=aP hk;have hml:m.length=k:=by rw[i1.length_eq,cC];omega
  rw[bQ hx,aA];refine KA (xh (l:=m) (f:=λy=> !(y.Name.jc l[k].Name||y.Name.fY l[k].Name)) (by omega) rfl<|λc y hy=>?_)<|λo ho=>Ld ho ?_<|λr h=>h.elim
  ·have hc:=(bM.1 hy).1;rw[bR (show((c+1:Nat):Int)>0 by omega),bK,qo (by omega) (by omega),sU,bQ hy,aA,aA]
   cases(!(y.Name.jc l[k].Name||y.Name.fY l[k].Name)) <;> rfl
  ·rintro s⟨c,rfl,hc,h1,h2⟩;rw[xi hc (by omega),aA];refine Kn ⟨?_,A2 hc (λx y z hxy hyz h=>?_) i2 (λy h0 hy=>?_)<|λj y hj hy=>?_⟩
   ·rw[gU hk];exact(xg _ _ _).trans<|i1.append_right _
   ·rcases aN.kW x.Name y.Name with h'|h'|h'
    ·exact hyz<|aN.lt_trans h h'
    ·rw[h']at h;exact hyz h
    ·exact hxy h'
   ·have:=h2 y h0 hy;rw[Bool.not_eq_false',fK,ix]at this
    rcases this with h|h
    ·exact aN.lt_asymm h
    ·rw[h];exact aN.lt_irrefl _
   ·have:=h1 j y hj hy;rw[Bool.not_eq_true',Bool.or_eq_false_iff]at this;intro h;rw[show y.Name.jc l[k].Name=true from h]at this
    cases this.1
 obtain⟨m,h1,h2,h3⟩:=key;refine⟨m,h1,h2,?_⟩;have h4:m.Pairwise λx y=>x.Name≠y.Name:=h2.symm.pairwise hnd<|λ{a c}h h'=>h h'.symm
 intro i j x y hij hx hy;obtain⟨hi,rfl⟩:=bM.1 hx;obtain⟨hj,rfl⟩:=bM.1 hy;have a1:=gV.1 h3 i j hi hj hij;have a2:=gV.1 h4 i j hi hj hij
 rcases aN.kW m[i].Name m[j].Name with h|h|h
 ·exact h
 ·exact absurd h a2
 ·exact absurd h a1
end
section
variable {N:Nat}
theorem A4{l:List Pin}(hl:l.length<=2000000000)(hN:4398046511104<=N):cY N l=some (lS l):=by
 have key:Ok (cY N l) (λm=>m.Perm l/\m.Pairwise λx y=>g8 y x=false):=by
  unfold cY;refine KA (KI (λk m=>m.Perm (l.take k)/\m.Pairwise λx y=>g8 y x=false) (by omega) ⟨by simp,mV⟩ ?_)<|λm hm=>Kn (by rw[gG]at hm;exact hm)
  rintro k m hk⟨i1,i2⟩;have hx:l[k]? =some l[k]:=aP hk;have hml:m.length=k:=by rw[i1.length_eq,cC];omega
  rw[bQ hx,aA];refine KA (xh (l:=m) (f:=λy=>g8 l[k] y) (by omega) rfl<|λc y hy=>?_)<|λo ho=>Ld ho ?_<|λr h=>h.elim
  ·have hc:=(bM.1 hy).1;have hbf:gA N l[k] y=some (g8 l[k] y):=rfl;rw[bR (show((c+1:Nat):Int)>0 by omega),bK,qo (by omega) (by omega),sU,bQ hy,aA,hbf,aA,aA]
   cases g8 l[k] y <;> rfl
  ·rintro s⟨c,rfl,hc,h1,h2⟩;rw[xi hc (by omega),aA];refine Kn ⟨?_,A2 hc (λx y z hxy hyz=>nT hxy hyz) i2 (λy h0 hy=>h2 y h0 hy)<|λj y hj hy=>pE<|h1 j y hj hy⟩;rw[gU hk];exact(xg _ _ _).trans<|i1.append_right _
 obtain⟨m,h1,h2,h3⟩:=key;rw[h1,Ab h2 h3]
def xj(x:bG):Bool:= !(x.bB.any λp=>decide<|200<p.Name.bL.length)&& !(x.aM.any λn=>decide (200<n.Name.bL.length)||decide (500<n.aU.length))&&(decide (x.bB.length<=1000)&&decide (x.aM.length<=1000))
theorem Fj{x:bG}(hp:x.bB.length<=100000000)(hn:x.aM.length<=100000000):ie N x=some (xj x):=by
 unfold ie xj
 rw[qY (λp:Part=>decide (200<p.Name.bL.length)) false (by omega) (λk p hk=>by
  rw[bQ hk,aA]
  by_cases h:200<p.Name.bL.length
  ·rw[bR (show((p.Name.bL.length:Nat):Int)>200 by omega),bK,aH<|bR h]
  ·rw[bJ (show ¬((p.Name.bL.length:Nat):Int)>200 by omega),aW,aJ (by simpa using h)]),aA]
 cases x.bB.any λp=>decide (200<p.Name.bL.length)with
 |true=>rfl
 |false=>
  rw[aJ (by simp)];show(Gk.kb _ _ _).bind _=_
  rw[qY (λn:Net=>decide (200<n.Name.bL.length)||decide (500<n.aU.length)) false (by omega) (λk n hk=>by
   rw[bQ hk,aA]
   by_cases h:200<n.Name.bL.length
   ·rw[bR (show((n.Name.bL.length:Nat):Int)>200 by omega),bK,aA,bK,bR h];rfl
   ·rw[bJ (show ¬((n.Name.bL.length:Nat):Int)>200 by omega),aW,aA,bJ h,Bool.false_or]
    by_cases h2:500<n.aU.length
    ·rw[bR h2,bR (show((n.aU.length:Nat):Int)>500 by omega)];rfl
    ·rw[bJ h2,bJ (show ¬((n.aU.length:Nat):Int)>500 by omega)];rfl),aA]
  cases x.aM.any λn=>decide (200<n.Name.bL.length)||decide (500<n.aU.length)with
  |true=>rfl
  |false=>
   rw[aJ (by simp)];show(Option.bind _ _)=_
   by_cases h1:x.bB.length<=1000
   ·rw[bR h1,bR (show((x.bB.length:Nat):Int)<=1000 by omega),bK,aA];congr 1;simp only[ph,Bool.true_and];rw[decide_eq_decide];omega
   ·rw[bJ h1,bJ (show ¬((x.bB.length:Nat):Int)<=1000 by omega)];rfl
end
def v9(nm:List aN)(pn:List (List Pin))(h:Nat):Option Net:=if(pn.getD h []).length=0 then none else some ⟨nm.getD h ⟨[]⟩,lS<|pn.getD h [],[]⟩
section
variable {N:Nat}
theorem A5{nm:List aN}{pn:List (List Pin)}(hl:nm.length<=3000000)(hp:pn.length=nm.length)(hq:∀q∈pn,q.length<=2000000000)(hN:4398046511104<=N):
  Ok (kJ nm.length (λ(k138:Nat)(s139:List Net)=>((idx pn (k138:Int)).bind λx223=>bif(x223.length:Int)==0 then some s139 else((idx nm (k138:Int)).bind λx225=>(idx pn (k138:Int)).bind λx226=>(cY N x226).bind λx228=>(tI (λ(s235:Int)=>((bif decide (s235>0)then((idx s139<|wrap .i64<|s235 - 1).bind λx250=>some<|!(x250.Name.jc ((⟨x225,x228,([]:List aN)⟩:Net).Name)||x250.Name.fY ((⟨x225,x228,([]:List aN)⟩:Net).Name)))else some false).bind λs248=>bif s248 then some (.nx<|wrap .i64<|s235 - 1)else(some<|.br s235):Option (Fl Int Empty))) N (s139.length:Int)).bind λo255=>o255.cs (λ(s235:Int)=>(vQ 64 s139 s235 ([(⟨x225,x228,([]:List aN)⟩:Net)]:List Net)).bind λx253=>some x253)<|λr=>r.elim):Option (List Net))) ([]:List Net))
   (λm:List Net=>m.Perm ((List.range nm.length).filterMap<|v9 nm pn)/\m.Pairwise λx y=>¬aN.lt y.Name x.Name):=by
 refine KI (m:=nm.length) (λk(m:List Net)=>m.Perm ((List.range k).filterMap<|v9 nm pn)/\m.Pairwise λx y=>¬aN.lt y.Name x.Name) (by omega) ⟨by simp,mV⟩ ?_;rintro k m hk⟨i1,i2⟩;have hx:nm[k]? =some nm[k]:=aP hk;have hy:pn[k]? =some (pn[k]'(by omega)):=aP _;have hyl:=hq _<|cB (show k<pn.length by omega)
 have hml:m.length<=k:=by
  rw[i1.length_eq];exact iG (List.length_filterMap_le _ _) (by simp)
 have hnx:nm.getD k ⟨[]⟩=nm[k]:=by rw[List.getD_eq_getElem?_getD,hx];rfl
 have hpy:pn.getD k []=pn[k]'(by omega):=by rw[List.getD_eq_getElem?_getD,hy];rfl
 have hnr:v9 nm pn k=if(pn[k]'(by omega)).length=0 then none else some ⟨nm[k],lS<|pn[k]'(by omega),[]⟩:=by unfold v9;rw[hnx,hpy]
 generalize pn[k]'(by omega)=q at hy hyl hnr;rw[List.range_succ,List.filterMap_append,bQ hy,aA]
 by_cases h0:q.length=0
 ·rw[show((q.length:Int)==0)=true by rw[beq_iff_eq];omega,bK];rw[aH h0]at hnr;refine Kn ⟨?_,i2⟩;rw[List.filterMap_cons,hnr];simpa using i1
 ·rw[aJ h0]at hnr;rw[show((q.length:Int)==0)=false by rw[beq_eq_false_iff_ne];omega,aW,bQ hx,aA,aA,A4 hyl hN,aA];refine KA (xh (l:=m) (f:=λy=> !(y.Name.jc nm[k]||y.Name.fY nm[k])) (by omega) rfl<|λc y hy'=>?_)<|λo ho=>Ld ho ?_<|λr h=>h.elim
  ·have hc:=(bM.1 hy').1;rw[bR (show((c+1:Nat):Int)>0 by omega),bK,qo (by omega) (by omega),sU,bQ hy',aA,aA];dsimp only
   cases(!(y.Name.jc nm[k]||y.Name.fY nm[k])) <;> rfl
  ·rintro s⟨c,rfl,hc,h1,h2⟩;rw[xi hc (by omega),aA];refine Kn ⟨?_,A2 hc (λx y z hxy hyz h=>?_) i2 (λy h3 hy'=>?_)<|λj y hj hy'=>?_⟩
   ·rw[List.filterMap_cons,hnr];exact(xg _ _ _).trans<|i1.append_right _
   ·rcases aN.kW x.Name y.Name with h'|h'|h'
    ·exact hyz<|aN.lt_trans h h'
    ·rw[h']at h;exact hyz h
    ·exact hxy h'
   ·have:=h2 y h3 hy';rw[Bool.not_eq_false',fK,ix]at this;show ¬aN.lt nm[k] y.Name
    rcases this with h|h
    ·exact aN.lt_asymm h
    ·rw[h];exact aN.lt_irrefl _
   ·have:=h1 j y hj hy';rw[Bool.not_eq_true',Bool.or_eq_false_iff]at this;intro h;rw[show y.Name.jc nm[k]=true from h]at this
    cases this.1
end
section
variable {N:Nat}
theorem CG{l:List aN}(h:l.length<=100000000):iF N l=some l:=by
 unfold iF;rw[ig (by simp only[List.length_nil];omega),aA,List.nil_append]
theorem El{P:List Part}{K:List aN}{Q:List (List Pin)}{U:List Int}{r:Nat->Nat}(hP:P.length<=4000000)(hPn:P.Pairwise λx y=>x.Name≠y.Name)(hK:K.length<=3000000)(hQ:Q.length=K.length)(hq:∀q∈Q,q.length<=500)(hU:UF K.length U r)(hN:4398046511104<=N):
  ∃st Ps Ns,gC N P K Q U=some ⟨Ps,Ns⟩/\CC K Q r K.length st/\Ps.Perm P/\eF Part.Name Ps/\Ns.Perm ((List.range K.length).filterMap<|v9 st.1 st.2)/\Ns.Pairwise λx y=>¬aN.lt y.Name x.Name:=by
 obtain⟨st,l1,L⟩:=CD hK hQ hq hU hN;obtain⟨Ps,p1,p2,p3⟩:=A3 (N:=N) (l:=P) (by omega) hPn hN;have hn1:=L.n1;have hn2:=L.n2;have hql:∀q∈st.2,q.length<=2000000000:=λq hqm=>by
  obtain⟨h,hh⟩:=gK hqm;have hlt:=(bM.1 hh).1;have:=L.pv h (by omega);rw[hh]at this;injection this with this
  have h2:=sS hq r ((h:Nat):Int) K.length;rw[<-this]at h2;omega
 obtain⟨Ns,n1,n2,n3⟩:=A5 (N:=N) (nm:=st.1) (pn:=st.2) (by omega) (by omega) hql hN;refine⟨st,Ps,Ns,?_,L,p2,p3,by rw[hn1]at n2;exact n2,n3⟩;unfold gC;rw[CG (by omega),aA,wh [] (by omega),aA,l1,aA,p1,aA,n1,aA]
end
def mF(nm:List (Int×aC))(h:Int):aN:=(cP nm h ⟨⟨[]⟩,0⟩).path
def mq(nm:List (Int×aC))(e:Int×List Pin):Option Net:=if e.2.length=0 then none else some ⟨mF nm e.1,lS e.2,[]⟩
def BF(nm:List (Int×aC))(e:Int×List Pin):Bool:=decide (e.2.length=0)||(decide ((mF nm e.1).bL.length<=200)&&decide (e.2.length<=500))
theorem uQ{κ ν:Type}[DecidableEq κ]{z:ν}:∀{m:List (κ×ν)}{e:κ×ν},(m.map Prod.fst).Nodup->e∈m->cP m e.1 z=e.2
 |p::m,e,h,he=>by
  rw[fR,List.nodup_cons]at h;unfold cP;rw[List.find?_cons]
  rcases jX.1 he with rfl|he
  ·simp
  ·have hne:e.1≠p.1:=λh'=>h.1<|h'▸fH.2 ⟨e,he,rfl⟩
   rw[bJ hne];exact uQ h.2 he
section
variable {N:Nat}
theorem yd(nm:List (Int×aC)):∀(p:List (Int×List Pin))(out:List Net)(ok:Bool),(∀e∈p,e.2.length<=2000000000)->out.length+p.length<=1000000000->
  r9 (λ(x127:Int×List Pin)(s130:List Net×Bool)=>(bif(x127.2.length:Int)==0 then some (.nx (s130.1,s130.2))else((qg (dZ N) x127.2).bind λx173=>(app 64 s130.1 ([(⟨(cP nm x127.1 (⟨⟨[]⟩,0⟩:aC)).path,x173,[]⟩:Net)]:List Net)).bind λx177=>(bif s130.2 then(bif decide (((((cP nm x127.1 (⟨⟨[]⟩,0⟩:aC)).path).bL.length:Nat):Int)<=200)then some (decide<|(x173.length:Int)<=500)else some false)else some false).bind λs184=>some<|.nx (x177,s184)):Option (Fl (List Net×Bool) Empty))) p (out,ok)=some (.go (out++p.filterMap (mq nm),ok&&p.all (BF nm)))
 | [],out,ok,_,_=>by simp[r9]
 |e::p,out,ok,hp,hl=>by
  have he:=hp e (by simp);have ih:=λo k h=>yd nm p o k (λe he=>hp e (by simp[he])) h;simp only[dM]at hl;unfold r9
  by_cases h0:e.2.length=0
  ·rw[show((e.2.length:Int)==0)=true by rw[beq_iff_eq];omega,bK,aA];dsimp only;rw[ih out ok (by omega)];have e1:mq nm e=none:=aH h0;have e2:BF nm e=true:=by unfold BF;simp[h0]
   rw[List.filterMap_cons,e1,List.all_cons,e2,Bool.true_and]
  ·have e1:mq nm e=some ⟨mF nm e.1,lS e.2,[]⟩:=aJ h0;have hsl:(lS e.2).length=e.2.length:=(mT e.2).length_eq;have e2:(bif ok then(bif decide (((((cP nm e.1 (⟨⟨[]⟩,0⟩:aC)).path).bL.length:Nat):Int)<=200)then some (decide<|((lS e.2).length:Int)<=500)else some false)else some false)=some (ok&&BF nm e):=by
    unfold BF mF;rw[bJ h0,Bool.false_or]
    cases ok with
    |false=>rfl
    |true=>
     rw[bK,Bool.true_and]
     by_cases h1:((cP nm e.1 (⟨⟨[]⟩,0⟩:aC)).path).bL.length<=200
     ·rw[bR h1,bR (show((((cP nm e.1 (⟨⟨[]⟩,0⟩:aC)).path).bL.length:Nat):Int)<=200 by omega),bK,Bool.true_and,hsl];congr 1;rw[decide_eq_decide];omega
     ·rw[bJ h1,bJ (show ¬((((cP nm e.1 (⟨⟨[]⟩,0⟩:aC)).path).bL.length:Nat):Int)<=200 by omega)];rfl
   rw[show((e.2.length:Int)==0)=false by rw[beq_eq_false_iff_ne];omega,aW,A0 (by omega),aA,ig (by simp only[dM,List.length_nil];omega),aA];dsimp only;rw[e2,aA,aA];dsimp only;rw[ih _ _ (by simp only[bY,dM,List.length_nil];omega),List.filterMap_cons,e1,List.all_cons,cF,Bool.and_assoc];rfl
theorem CH{l:List Part}(hl:l.length<4611686018427387904)(hnd:l.Pairwise λx y=>x.Name≠y.Name):∃m,qg (gW N) l=some m/\m.Perm l/\eF Part.Name m:=
 xf (key:=Part.Name) (λ_ _=>rfl) hl hnd
theorem ye{l:List Net}(hl:l.length<4611686018427387904)(hnd:l.Pairwise λx y=>x.Name≠y.Name):∃m,qg (eY N) l=some m/\m.Perm l/\eF Net.Name m:=
 xf (key:=Net.Name) (λ_ _=>rfl) hl hnd
structure FJ (P:List Part) (K:List aC) (Q:List (List Pin)) (r:Nat->Nat) (st:List Int×List (Int×aC)×List (Int×List Pin)) (Ps:List Part) (Ns:List Net) (ok:Bool):Prop where
 Et:Ei K Q r K.length st
 pp:Ps.Perm P
 ps:eF Part.Name Ps
 np:Ns.Perm (st.2.2.filterMap<|mq st.2.1)
 ns:eF Net.Name Ns
 ok:ok=(!(P.any λp=>decide<|200<p.Name.bL.length)&&st.2.2.all (BF st.2.1)&&decide (Ns.length<=1000))
theorem A6{κ ν:Type}{m:List (κ×ν)}{n:Nat}{f:Nat->κ}(hnd:(m.map Prod.fst).Nodup)(h:∀k∈m.map Prod.fst,∃i,i<n/\f i=k):m.length<=n:=by
 have h1:=List.Nodup.length_le_of_subset (l₂:=(List.range n).map f) hnd (λk hk=>by
  obtain⟨i,hi,rfl⟩:=h k hk
  exact fH.2 ⟨i,lD.2 hi,rfl⟩)
 simpa using h1
theorem Fk{P:List Part}{K:List aC}{Q:List (List Pin)}{U:List Int}{r:Nat->Nat}(hP:P.length<=1000000)(hPn:P.Pairwise λx y=>x.Name≠y.Name)(hK:K.length<=3000000)(hKn:K.Pairwise λx y=>x.path≠y.path)(hQ:Q.length=K.length)(hq:∀q∈Q,q.length<=500)(hU:UF K.length U r)(hN:4398046511104<=N):
  ∃st Ps Ns ok,gM N P K Q U=some (⟨Ps,Ns⟩,ok,Ps,st.1)/\FJ P K Q r st Ps Ns ok:=by
 obtain⟨st,l1,L⟩:=Ej hK hQ hq hU hN;obtain⟨Ps,p1,p2,p3⟩:=CH (N:=N) (l:=P) (by omega) hPn;have hpl:=A6 (f:=λi=>((r i:Nat):Int)) L.pk<|λk hk=>(L.pm k).1 hk
 have hel:∀e∈st.2.2,e.2.length<=2000000000:=λe he=>by
  have h1:=uQ (z:=[]) L.pk he;rw[L.pv]at h1;have h2:=sS hq r e.1 K.length;rw[h1]at h2;omega
 have hnn:(st.2.2.filterMap<|mq st.2.1).Pairwise λx y=>x.Name≠y.Name:=by
  rw[List.pairwise_filterMap];have hnd:=L.pk;unfold List.Nodup at hnd;rw[List.pairwise_map]at hnd;refine List.Pairwise.imp_of_mem (λ{e e'}he he' hne u hu v hv huv=>?_) hnd;unfold mq at hu hv;split at hu
  ·cases hu
  split at hv
  ·cases hv
  injection hu with hu
  injection hv with hv
  subst hu;subst hv;have k1:=(L.nk e.1).2<|(L.pm e.1).1<|fH.2 ⟨e,he,rfl⟩
  have k2:=(L.nk e'.1).2<|(L.pm e'.1).1<|fH.2 ⟨e',he',rfl⟩
  obtain⟨⟨i,i1,i2,i3⟩,_⟩:=L.nv _ k1;obtain⟨⟨j,j1,j2,j3⟩,_⟩:=L.nv _ k2;obtain⟨hi,ei⟩:=bM.1 i3;obtain⟨hj,ej⟩:=bM.1 j3;have huv':mF st.2.1 e.1=mF st.2.1 e'.1:=huv;unfold mF at huv';rw[<-ei,<-ej]at huv'
  rcases Nat.lt_trichotomy i j with h|h|h
  ·exact gV.1 hKn i j hi hj h huv'
  ·subst h;exact hne (by rw[<-i2,<-j2])
  ·exact gV.1 hKn j i hj hi h huv'.symm
 have hfl:(st.2.2.filterMap<|mq st.2.1).length<=st.2.2.length:=List.length_filterMap_le _ _;obtain⟨Ns,n1,n2,n3⟩:=ye (N:=N) (l:=st.2.2.filterMap<|mq st.2.1) (by omega) hnn;refine⟨st,Ps,Ns,_,?_,L,p2,p3,n2,n3,rfl⟩;unfold gM;rw[l1,aA,p1,aA];have hc:fO N Ps (cU N)=some (P.any λp=>decide<|200<p.Name.bL.length):=by
  have h:=mN (l:=Ps) (φ:=cU N) (λp=>decide<|(p.Name.bL.length:Int)>200) (by rw[p2.length_eq];omega)<|λ_ _=>rfl
  have e:fO N Ps (cU N)=lz Ps (cU N):=rfl;rw[e,h];congr 1;rw[p2.any_eq];congr 1;funext p;rw[decide_eq_decide];omega
 rw[hc,aA];refine EK λp hp=>?_;have hml:=hp.length_eq;rw[yd st.2.1 p [] _ (λe he=>hel e<|hp.mem_iff.1 he) (by simp only[List.length_nil];omega),aA];show(qg (eY N)<|[]++p.filterMap (mq st.2.1)).bind _=_;rw[List.nil_append];have hpf:=hp.filterMap<|mq st.2.1
 obtain⟨Ns',m1,m2,m3⟩:=ye (N:=N) (l:=p.filterMap<|mq st.2.1) (by rw[hpf.length_eq];omega)<|hpf.symm.pairwise hnn<|λ{a c}h h'=>h h'.symm
 have e:Ns'=Ns:=sR m3 n3<|(m2.trans hpf).trans n2.symm
 subst e;rw[m1,aA,hp.all_eq];dsimp only;have e2:(bif(!(P.any λp=>decide<|200<p.Name.bL.length)&&st.2.2.all (BF st.2.1))then some (decide<|(Ns'.length:Int)<=1000)else some false)=some (!(P.any λp=>decide<|200<p.Name.bL.length)&&st.2.2.all (BF st.2.1)&&decide (Ns'.length<=1000)):=by
  cases(!(P.any λp=>decide<|200<p.Name.bL.length)&&st.2.2.all (BF st.2.1))with
  |false=>rfl
  |true=>
   rw[bK,Bool.true_and];congr 1;rw[decide_eq_decide];omega
 rw[e2,aA]
end
end Go.Gk
