/-
  Helping texts: plain functions and plain laws. No statement of the seed is proved here.
-/
import Derived.Test.YtjocleflknekmabGreatDoorA1
import Derived.ChangeShapes
import Derived.ChangeSame
import Derived.Carry
import Derived.RowKit
import Derived.Test.YtjocleflknekmabGreatDoorA2
set_option linter.unusedVariables false
set_option linter.unusedSimpArgs false
set_option linter.unusedSectionVars false
namespace Go.Gk
open Go
noncomputable section
structure cM where
 Name:bR
 Kind:Int
 bJ:Int
 deriving DecidableEq,Inhabited
structure aL where
 Name:bR
 aS: (List cM)
 deriving DecidableEq,Inhabited
structure Part where
 Name:bR
 ju:bR
 deriving DecidableEq,Inhabited
structure aX where
 Part:bR
 aX:bR
 deriving DecidableEq,Inhabited
structure Net where
 Name:bR
 aS: (List aX)
 ru: (List bR)
 deriving DecidableEq,Inhabited
structure bK where
 cJ: (List Part)
 bE: (List Net)
 deriving DecidableEq,Inhabited
structure aJ where
 X0:Int
 Y0:Int
 X1:Int
 Y1:Int
 deriving DecidableEq,Inhabited
structure ka where
 X:Int
 Y:Int
 deriving DecidableEq,Inhabited
structure cN where
 At:ka
 eR:Int
 dD:Int
 To:Int
 jJ:Bool
 deriving DecidableEq,Inhabited
structure eQ where
 Part:bR
 aX:bR
 eU:Int
 At:ka
 deriving DecidableEq,Inhabited
structure kr where
 aO: (List (List aJ))
 eC: (List aJ)
 bL: (List cN)
 bM: (List eQ)
 deriving DecidableEq,Inhabited
structure aA where
 Y0:Int
 Y1:Int
 Xs: (List Int)
 deriving DecidableEq,Inhabited
structure aI where
 eU:Int
 Set: (List aA)
 nT: (List aJ)
 deriving DecidableEq,Inhabited
structure bJ where
 mA: (List Int)
 bL: (List Int)
 aS: (List aX)
 deriving DecidableEq,Inhabited
structure kb where
 cN:Bool
 Number:Int
 deriving DecidableEq,Inhabited
structure dC where
 Kind:Int
 bE: (List bR)
 aS: (List aX)
 deriving DecidableEq,Inhabited
def gJ (N:Nat) (p0:bR) (p1:Int):Option (Int):=
 some (Lib.indexByte p0.cB (Int.toNat p1).toUInt8)
def ij (N:Nat) (p0:bR) (p1:Int):Option (Int):=
 (gJ N p0 p1).bind fun j=>some j
def fM (N:Nat) (p0:bR):Option (Bool):=
 (qE p0.cB.length (fun(o:Nat) (aa:Unit)=>((E0 p0 (o:Int)).bind fun j=>(bif ((((decide ((j.toNat:Int)<65))||(decide ((j.toNat:Int)>90)))&&((decide ((j.toNat:Int)<97))||(decide ((j.toNat:Int)>122))))&&((decide ((j.toNat:Int)<48))||(decide ((j.toNat:Int)>57)))) then ((ij N (⟨[95,43,45,35]⟩) (j.toNat:Int)).bind fun ab=>some (decide (ab<0))) else (some false)).bind fun ad=>bif ad then (some (.rt false)) else (some (.nx ())):Option (Fl (Unit) Bool))) ()).bind fun ae=>ae.cs (fun(aa:Unit)=>some ((decide ((p0.cB.length:Int)>=1))&&(decide ((p0.cB.length:Int)<=40)))) (fun r=>some r)
def eV (N:Nat) (p0 p1:cM):Option (Bool):=
 (bif (decide (p1.bJ>0)) then (bif (p0.bJ==p1.bJ) then (some (p0.Kind != p1.Kind)) else (some false)) else (some false)).bind fun j=>some j
def jK (N:Nat) (p0: (List cM)) (p1:cM->Option Bool):Option (Int):=
 (qE p0.length (fun(j:Nat) (o:Unit)=>((idx p0 (j:Int)).bind fun aa=>(p1 aa).bind fun ab=>bif ab then (some (.rt (j:Int))) else (some (.nx ())):Option (Fl (Unit) Int))) ()).bind fun ad=>ad.cs (fun(o:Unit)=>some (-1)) (fun r=>some r)
def gm (N:Nat) (p0: (List cM)) (p1:cM->Option Bool):Option (Bool):=
 (jK N p0 p1).bind fun j=>some (decide (j>=0))
def jv (N:Nat) (p0: (List cM)):Option (Int):=
 bif ((p0.length:Int)==0) then (some 9) else (bif (decide ((p0.length:Int)>200)) then (some 2) else ((qE p0.length (fun(j:Nat) (ab:Unit)=>((idx p0 (j:Int)).bind fun gK=>(fM N gK.Name).bind fun ad=>bif (!ad) then (some (.rt 5)) else (bif ((decide (gK.Kind<1))||(decide (gK.Kind>7))) then (some (.rt 4)) else (bif ((decide (gK.bJ<0))||(decide (gK.bJ>200))) then (some (.rt 1)) else ((bif (decide ((j:Int)>0)) then ((idx p0 (IntKind.wrap .i64 ((j:Int) - 1))).bind fun o=>some (gK.Name.xF o.Name||gK.Name.oW o.Name)) else (some false)).bind fun ae=>bif ae then (some (.rt 8)) else (some (.nx ()))))):Option (Fl (Unit) Int))) ()).bind fun af=>af.cs (fun(ab:Unit)=>(qE p0.length (fun(aa:Nat) (ag:Unit)=>((idx p0 (aa:Int)).bind fun ah=>(uE p0 0 (aa:Int)).bind fun ai=>(gm N ai (fun y0=>eV N y0 ah)).bind fun aj=>bif aj then (some (.rt 12)) else (some (.nx ())):Option (Fl (Unit) Int))) ()).bind fun ak=>ak.cs (fun(ag:Unit)=>some 0) (fun r=>some r)) (fun r=>some r)))
def iY (N:Nat) (p0: (List aL)):Option (Int):=
 bif (decide ((p0.length:Int)>200)) then (some 2) else ((qE p0.length (fun(o:Nat) (ad:Unit)=>((idx p0 (o:Int)).bind fun j=>(fM N j.Name).bind fun ae=>bif (!ae) then (some (.rt 5)) else ((jv N j.aS).bind fun aa=>bif (aa != 0) then (some (.rt aa)) else ((bif (decide ((o:Int)>0)) then ((idx p0 (IntKind.wrap .i64 ((o:Int) - 1))).bind fun ab=>some (j.Name.xF ab.Name||j.Name.oW ab.Name)) else (some false)).bind fun af=>bif af then (some (.rt 8)) else (some (.nx ())))):Option (Fl (Unit) Int))) ()).bind fun ag=>ag.cs (fun(ad:Unit)=>some 0) (fun r=>some r))
def dN (N:Nat) (p0: (List aL)) (p1:bR) (p2:aL->bR->Option Int):Option (Int×Bool):=
 (nL (fun(j:Int×Int)=>(bif (decide (j.1<j.2)) then ((idx p0 (IntKind.wrap .i64 (Int.fdiv (IntKind.wrap .u64 (IntKind.wrap .i64 (j.1+j.2))) 2))).bind fun aa=>(p2 aa p1).bind fun ab=>(bif (decide (ab<0)) then (some ((IntKind.wrap .i64 ((IntKind.wrap .i64 (Int.fdiv (IntKind.wrap .u64 (IntKind.wrap .i64 (j.1+j.2))) 2))+1)),j.2)) else (some (j.1,(IntKind.wrap .i64 (Int.fdiv (IntKind.wrap .u64 (IntKind.wrap .i64 (j.1+j.2))) 2))))).bind fun o=>some (.nx (o.1,o.2))) else (some (.br (j.1,j.2))):Option (Fl (Int×Int) Empty))) N (0,(p0.length:Int))).bind fun ad=>ad.cs (fun(j:Int×Int)=>(bif (decide (j.1< (p0.length:Int))) then ((idx p0 j.1).bind fun ae=>(p2 ae p1).bind fun af=>some (af==0)) else (some false)).bind fun ag=>some (j.1,ag)) (fun r=>r.elim)
def kJ (N:Nat) (p0 p1:bR):Option (Int):=
 some (Lib.compareBytes p0.cB p1.cB)
def iB (N:Nat) (p0 p1:bR):Option (Int):=
 (kJ N p0 p1).bind fun j=>some j
def ik (N:Nat) (p0:aL) (p1:bR):Option (Int):=
 (iB N p0.Name p1).bind fun j=>some j
def iZ (N:Nat) (p0: (List aL)) (p1:bR):Option (Int):=
 (dN N p0 p1 (ik N)).bind fun j=>bif (!j.2) then (some (-1)) else (some j.1)
def i5 (N:Nat) (p0: (List aL)) (p1: (List Part)) (p2:bR->Option Bool):Option (Int):=
 bif (decide ((p1.length:Int)>1000)) then (some 2) else ((qE p1.length (fun(o:Nat) (ab:Unit)=>((idx p1 (o:Int)).bind fun j=>(p2 j.Name).bind fun ad=>bif (!ad) then (some (.rt 5)) else ((iZ N p0 j.ju).bind fun ae=>bif (decide (ae<0)) then (some (.rt 9)) else ((bif (decide ((o:Int)>0)) then ((idx p1 (IntKind.wrap .i64 ((o:Int) - 1))).bind fun aa=>some (j.Name.xF aa.Name||j.Name.oW aa.Name)) else (some false)).bind fun af=>bif af then (some (.rt 8)) else (some (.nx ())))):Option (Fl (Unit) Int))) ()).bind fun ag=>ag.cs (fun(ab:Unit)=>some 0) (fun r=>some r))
def jw (N:Nat) (p0 p1:bR):Option (Int):=
 bif (((p1.cB.length:Int)==0)||(p1.oW p0)) then (some 0) else (bif ((p1.cB.length:Int)==1) then ((E0 p1 0).bind fun j=>(gJ N p0 (j.toNat:Int)).bind fun o=>some o) else (bif (decide ((p1.cB.length:Int)>=(p0.cB.length:Int))) then (some (-1)) else (none)))
def kE (N:Nat) (p0 p1:bR):Option (Int):=
 (jw N p0 p1).bind fun j=>some j
def lT (N:Nat) (p0 p1:bR):Option (Int):=
 bif ((p1.cB.length:Int)==0) then (none) else (bif ((p1.cB.length:Int)==1) then ((E0 p1 0).bind fun aa=>some ((Lib.countByte p0.cB (Int.toNat (aa.toNat:Int)).toUInt8:Nat):Int)) else ((nL (fun(j:bR×Int)=>((kE N j.1 p1).bind fun o=>bif (o==(-1)) then (some (.rt j.2)) else ((uF j.1 (IntKind.wrap .i64 (o+ (p1.cB.length:Int))) (j.1.cB.length:Int)).bind fun ab=>some (.nx (ab,(IntKind.wrap .i64 (j.2+1))))):Option (Fl (bR×Int) Int))) N (p0,0)).bind fun ad=>ad.cs (fun(j:bR×Int)=>some 0) (fun r=>some r)))
def lD (N:Nat) (p0 p1:bR) (p2 p3:Int):Option ((List bR)):=
 bif (p3==0) then (some ([]: (List bR))) else (bif (p1.oW (⟨[]⟩)) then (none) else ((bif (decide (p3<0)) then ((lT N p0 p1).bind fun ab=>some (IntKind.wrap .i64 (ab+1))) else (some p3)).bind fun o=>(mk 16 (⟨[]⟩:bR) (if (IntKind.wrap .i64 ((p0.cB.length:Int)+1))<o then (IntKind.wrap .i64 ((p0.cB.length:Int)+1)) else o)).bind fun ad=>(nL (fun(j:bR×(List bR)×Int)=>(bif (decide (j.2.2< (IntKind.wrap .i64 ((if (IntKind.wrap .i64 ((p0.cB.length:Int)+1))<o then (IntKind.wrap .i64 ((p0.cB.length:Int)+1)) else o) - 1)))) then ((kE N j.1 p1).bind fun aa=>bif (decide (aa<0)) then (some (.br (j.1,j.2.1,j.2.2))) else ((uF j.1 0 (IntKind.wrap .i64 (aa+p2))).bind fun ae=>(idx j.2.1 j.2.2).bind fun ai=>(uF j.1 (IntKind.wrap .i64 (aa+ (p1.cB.length:Int))) (j.1.cB.length:Int)).bind fun af=>some (.nx (af,(j.2.1.set (Int.toNat j.2.2) ae),(IntKind.wrap .i64 (j.2.2+1)))))) else (some (.br (j.1,j.2.1,j.2.2))):Option (Fl (bR×(List bR)×Int) Empty))) N (p0,ad,0)).bind fun ag=>ag.cs (fun(j:bR×(List bR)×Int)=>(idx j.2.1 j.2.2).bind fun aj=>(uE (j.2.1.set (Int.toNat j.2.2) j.1) 0 (IntKind.wrap .i64 (j.2.2+1))).bind fun ah=>some ah) (fun r=>r.elim)))
def lU (N:Nat) (p0 p1:bR):Option ((List bR)):=
 (lD N p0 p1 0 (-1)).bind fun j=>some j
def jT (N:Nat) (p0: (List bR)) (p1:bR->Option Bool):Option (Int):=
 (qE p0.length (fun(j:Nat) (o:Unit)=>((idx p0 (j:Int)).bind fun aa=>(p1 aa).bind fun ab=>bif ab then (some (.rt (j:Int))) else (some (.nx ())):Option (Fl (Unit) Int))) ()).bind fun ad=>ad.cs (fun(o:Unit)=>some (-1)) (fun r=>some r)
def gx (N:Nat) (p0: (List bR)) (p1:bR->Option Bool):Option (Bool):=
 (jT N p0 p1).bind fun j=>some (decide (j>=0))
def gz (N:Nat) (p0:bR):Option (Bool):=
 (fM N p0).bind fun j=>some (!j)
def gW (N:Nat) (p0:bR):Option (Bool):=
 (bif (decide ((p0.cB.length:Int)<=200)) then ((lU N p0 (⟨[47]⟩)).bind fun j=>(gx N j (gz N)).bind fun o=>some (!o)) else (some false)).bind fun aa=>some aa
def eD (N:Nat) (p0: (List Part)) (p1:bR) (p2:Part->bR->Option Int):Option (Int×Bool):=
 (nL (fun(j:Int×Int)=>(bif (decide (j.1<j.2)) then ((idx p0 (IntKind.wrap .i64 (Int.fdiv (IntKind.wrap .u64 (IntKind.wrap .i64 (j.1+j.2))) 2))).bind fun aa=>(p2 aa p1).bind fun ab=>(bif (decide (ab<0)) then (some ((IntKind.wrap .i64 ((IntKind.wrap .i64 (Int.fdiv (IntKind.wrap .u64 (IntKind.wrap .i64 (j.1+j.2))) 2))+1)),j.2)) else (some (j.1,(IntKind.wrap .i64 (Int.fdiv (IntKind.wrap .u64 (IntKind.wrap .i64 (j.1+j.2))) 2))))).bind fun o=>some (.nx (o.1,o.2))) else (some (.br (j.1,j.2))):Option (Fl (Int×Int) Empty))) N (0,(p0.length:Int))).bind fun ad=>ad.cs (fun(j:Int×Int)=>(bif (decide (j.1< (p0.length:Int))) then ((idx p0 j.1).bind fun ae=>(p2 ae p1).bind fun af=>some (af==0)) else (some false)).bind fun ag=>some (j.1,ag)) (fun r=>r.elim)
def il (N:Nat) (p0:Part) (p1:bR):Option (Int):=
 (iB N p0.Name p1).bind fun j=>some j
def kY (N:Nat) (p0: (List Part)) (p1:bR):Option (Int):=
 (eD N p0 p1 (il N)).bind fun j=>bif (!j.2) then (some (-1)) else (some j.1)
def dR (N:Nat) (p0: (List cM)) (p1:bR) (p2:cM->bR->Option Int):Option (Int×Bool):=
 (nL (fun(j:Int×Int)=>(bif (decide (j.1<j.2)) then ((idx p0 (IntKind.wrap .i64 (Int.fdiv (IntKind.wrap .u64 (IntKind.wrap .i64 (j.1+j.2))) 2))).bind fun aa=>(p2 aa p1).bind fun ab=>(bif (decide (ab<0)) then (some ((IntKind.wrap .i64 ((IntKind.wrap .i64 (Int.fdiv (IntKind.wrap .u64 (IntKind.wrap .i64 (j.1+j.2))) 2))+1)),j.2)) else (some (j.1,(IntKind.wrap .i64 (Int.fdiv (IntKind.wrap .u64 (IntKind.wrap .i64 (j.1+j.2))) 2))))).bind fun o=>some (.nx (o.1,o.2))) else (some (.br (j.1,j.2))):Option (Fl (Int×Int) Empty))) N (0,(p0.length:Int))).bind fun ad=>ad.cs (fun(j:Int×Int)=>(bif (decide (j.1< (p0.length:Int))) then ((idx p0 j.1).bind fun ae=>(p2 ae p1).bind fun af=>some (af==0)) else (some false)).bind fun ag=>some (j.1,ag)) (fun r=>r.elim)
def iU (N:Nat) (p0:cM) (p1:bR):Option (Int):=
 (iB N p0.Name p1).bind fun j=>some j
def lV (N:Nat) (p0:aL) (p1:bR):Option (Int):=
 (dR N p0.aS p1 (iU N)).bind fun j=>bif (!j.2) then (some (-1)) else (some j.1)
def kZ (N:Nat) (p0: (List aL)) (p1: (List Part)) (p2:aX):Option (Bool):=
 (kY N p1 p2.Part).bind fun j=>(bif (decide (j>=0)) then ((idx p1 j).bind fun o=>(iZ N p0 o.ju).bind fun aa=>(idx p0 aa).bind fun ab=>(lV N ab p2.aX).bind fun ad=>some (decide (ad>=0))) else (some false)).bind fun ae=>some ae
def jy (N:Nat) (p0:aX) (p1: (List aL)) (p2:bK):Option (Bool):=
 (kZ N p1 p2.cJ p0).bind fun j=>some j
def dB (N:Nat) (p0 p1:aX):Option (Int):=
 (iB N p0.Part p1.Part).bind fun j=>bif (j != 0) then (some j) else ((iB N p0.aX p1.aX).bind fun o=>some o)
def gX (N:Nat) (p0: (List aX)) (p1:aX->Option Bool) (p2: (List (aX×Bool))):Option (Int×(List (aX×Bool))):=
 bif (decide ((p0.length:Int)>500)) then (some (2,p2)) else ((qE p0.length (fun(j:Nat) (ab:Unit)=>((idx p0 (j:Int)).bind fun o=>(p1 o).bind fun ad=>bif (!ad) then (some (.rt (9,p2))) else ((bif (decide ((j:Int)>0)) then ((idx p0 (IntKind.wrap .i64 ((j:Int) - 1))).bind fun ae=>(dB N o ae).bind fun af=>some (decide (af<=0))) else (some false)).bind fun ag=>bif ag then (some (.rt (8,p2))) else (bif (dH p2 o (false:Bool)) then (some (.rt (7,p2))) else (some (.nx ())))):Option (Fl (Unit) (Int×(List (aX×Bool)))))) ()).bind fun ah=>ah.cs (fun(ab:Unit)=>(jI p0.length (fun(ai:Nat) (aa: (List (aX×Bool)))=>((idx p0 (ai:Int)).bind fun aj=>some (kT aa aj true):Option ((List (aX×Bool))))) p2).bind fun aa=>some (0,aa)) (fun r=>some r))
def ir (N:Nat) (p0: (List aL)) (p1:bK):Option (Int):=
 (iY N p0).bind fun ab=>bif (ab != 0) then (some ab) else ((i5 N p0 p1.cJ (gW N)).bind fun ad=>bif (ad != 0) then (some ad) else (bif (decide ((p1.bE.length:Int)>1000)) then (some 2) else ((qE p1.bE.length (fun(o:Nat) (ae: (List (aX×Bool)))=>((idx p1.bE (o:Int)).bind fun j=>(gW N j.Name).bind fun ag=>bif (!ag) then (some (.rt 5)) else (bif ((j.aS.length:Int)==0) then (some (.rt 9)) else ((gX N j.aS (fun y0=>jy N y0 p0 p1) ae).bind fun aa=>bif (aa.1 != 0) then (some (.rt aa.1)) else (bif (decide ((j.ru.length:Int)>0)) then (some (.rt 3)) else ((bif (decide ((o:Int)>0)) then ((idx p1.bE (IntKind.wrap .i64 ((o:Int) - 1))).bind fun af=>some (j.Name.xF af.Name||j.Name.oW af.Name)) else (some false)).bind fun ah=>bif ah then (some (.rt 8)) else (some (.nx aa.2)))))):Option (Fl ((List (aX×Bool))) Int))) ([]: (List (aX×Bool)))).bind fun ai=>ai.cs (fun(ae: (List (aX×Bool)))=>some 0) (fun r=>some r))))
def qK (N:Nat) (p0 p1 p2:Int):Option (Bool):=
 some ((decide (p0>=p1))&&(decide (p0<=p2)))
def kj (N:Nat) (p0:Int):Option (Bool):=
 (qK N p0 (-1000000) 1000000).bind fun j=>some j
def lE (N:Nat) (p0:aJ):Option (Bool):=
 ((kj N p0.X0).bind fun j=>bif j then ((kj N p0.Y0).bind fun o=>bif o then ((kj N p0.X1).bind fun aa=>bif aa then ((kj N p0.Y1).bind fun ab=>some ab) else (some false)) else (some false)) else (some false)).bind fun ad=>some ad
def jU (N:Nat) (p0: (List aJ)):Option (Int):=
 bif (decide ((p0.length:Int)>2000)) then (some 2) else ((qE p0.length (fun(o:Nat) (aa:Unit)=>((idx p0 (o:Int)).bind fun j=>(lE N j).bind fun ab=>bif (!ab) then (some (.rt 1)) else (bif ((decide (j.X1<=j.X0))||(decide (j.Y1<=j.Y0))) then (some (.rt 13)) else (some (.nx ()))):Option (Fl (Unit) Int))) ()).bind fun ad=>ad.cs (fun(aa:Unit)=>some 0) (fun r=>some r))
def iu (N:Nat) (p0: (List aJ)):Option ((List aJ)):=
 (app 32 ([]: (List aJ)) p0).bind fun j=>some j
def i6 (N:Nat) (p0 p1:aJ):Option (Int):=
 some (IntKind.wrap .i64 (p0.Y0 - p1.Y0))
def fX (N:Nat) (p0: (List Int)):Option ((List Int)):=
 bif (decide ((p0.length:Int)<2)) then (some p0) else ((nL (fun(o:Int)=>(bif (decide (o< (p0.length:Int))) then ((idx p0 o).bind fun ab=>(idx p0 (IntKind.wrap .i64 (o - 1))).bind fun ad=>bif (ab==ad) then ((uE p0 o (p0.length:Int)).bind fun ak=>(nL (fun(j: (List Int)×Int×Int)=>(bif (decide (j.2.2< (((j.1.length - Int.toNat o):Nat):Int))) then ((Dd j.1 o j.2.2).bind fun ae=>(Dd j.1 o (IntKind.wrap .i64 (j.2.2 - 1))).bind fun af=>(bif (ae != af) then ((Dd j.1 o j.2.2).bind fun ag=>(idx j.1 j.2.1).bind fun al=>some ((j.1.set (Int.toNat j.2.1) ag),(IntKind.wrap .i64 (j.2.1+1)))) else (some (j.1,j.2.1))).bind fun aa=>some (.nx (aa.1,aa.2,(IntKind.wrap .i64 (j.2.2+1))))) else (some (.br (j.1,j.2.1,j.2.2))):Option (Fl ((List Int)×Int×Int) Empty))) N (p0,o,1)).bind fun ah=>ah.cs (fun(j: (List Int)×Int×Int)=>(uE j.1 j.2.1 (j.1.length:Int)).bind fun an=>(uE (j.1.take (Int.toNat j.2.1)++List.replicate (j.1.length - Int.toNat j.2.1) (0:Int)) 0 j.2.1).bind fun ai=>some (.rt ai)) (fun r=>r.elim)) else (some (.nx (IntKind.wrap .i64 (o+1))))) else (some (.br o)):Option (Fl (Int) (List Int)))) N 1).bind fun aj=>aj.cs (fun(o:Int)=>some p0) (fun r=>some r))
def mB (N:Nat) (p0:aJ) (p1: (List Int)) (p2:Int):Option (Bool):=
 (idx p1 p2).bind fun j=>some (decide (p0.Y1<=j))
def kK (N:Nat) (p0: (List aJ)) (p1:aJ->Option Bool):Option (Int):=
 (qE p0.length (fun(j:Nat) (o:Unit)=>((idx p0 (j:Int)).bind fun aa=>(p1 aa).bind fun ab=>bif ab then (some (.rt (j:Int))) else (some (.nx ())):Option (Fl (Unit) Int))) ()).bind fun ad=>ad.cs (fun(o:Unit)=>some (-1)) (fun r=>some r)
def jL (N:Nat) (p0: (List aJ)) (p1:aJ->Option Bool):Option (Int):=
 (qE p0.length (fun(j:Nat) (o:Unit)=>((idx p0 (j:Int)).bind fun aa=>(p1 aa).bind fun ab=>bif ab then (some (.rt (j:Int))) else (some (.nx ())):Option (Fl (Unit) Int))) ()).bind fun ad=>ad.cs (fun(o:Unit)=>some (-1)) (fun r=>some r)
def gA (N:Nat) (p0: (List aJ)) (p1:aJ->Option Bool):Option ((List aJ)):=
 (jL N p0 p1).bind fun o=>bif (o==(-1)) then (some p0) else ((nL (fun(j: (List aJ)×Int×Int)=>(bif (decide (j.2.2< (j.1.length:Int))) then ((idx j.1 j.2.2).bind fun aa=>(p1 aa).bind fun ad=>(bif (!ad) then ((idx j.1 j.2.1).bind fun ag=>some ((j.1.set (Int.toNat j.2.1) aa),(IntKind.wrap .i64 (j.2.1+1)))) else (some (j.1,j.2.1))).bind fun ab=>some (.nx (ab.1,ab.2,(IntKind.wrap .i64 (j.2.2+1))))) else (some (.br (j.1,j.2.1,j.2.2))):Option (Fl ((List aJ)×Int×Int) Empty))) N (p0,o,(IntKind.wrap .i64 (o+1)))).bind fun ae=>ae.cs (fun(j: (List aJ)×Int×Int)=>(uE j.1 j.2.1 (j.1.length:Int)).bind fun ah=>(uE (j.1.take (Int.toNat j.2.1)++List.replicate (j.1.length - Int.toNat j.2.1) (⟨0,0,0,0⟩:aJ)) 0 j.2.1).bind fun af=>some af) (fun r=>r.elim))
def fY (N:Nat) (p0 p1:aJ):Option (Int):=
 some (IntKind.wrap .i64 (p0.X0 - p1.X0))
def iC (N:Nat) (p0: (List aJ)):Option ((List Int)×(List aJ)):=
 (sd (fY N) p0).bind fun aa=>(jI aa.length (fun(ad:Nat) (j: (List Int))=>((idx aa (ad:Int)).bind fun o=>(bif (decide ((IntKind.wrap .i64 ((j.length:Int) - 1))>=0)) then ((idx j (IntKind.wrap .i64 ((j.length:Int) - 1))).bind fun ae=>some (decide (o.X0<=ae))) else (some false)).bind fun af=>(bif af then ((idx j (IntKind.wrap .i64 ((j.length:Int) - 1))).bind fun ab=>(idx j (IntKind.wrap .i64 ((j.length:Int) - 1))).bind fun ai=>some (j.set (Int.toNat (IntKind.wrap .i64 ((j.length:Int) - 1))) (if ab<o.X1 then o.X1 else ab))) else ((app 8 j ([o.X0,o.X1]: (List Int))).bind fun ag=>some ag)).bind fun ah=>some ah:Option ((List Int)))) ([]: (List Int))).bind fun j=>some (j,aa)
def lF (N:Nat) (p0: (List Int)) (p1: (List Int)):Option (Bool):=
 bif ((p0.length:Int) != (p1.length:Int)) then (some false) else ((qE p0.length (fun(j:Nat) (o:Unit)=>((idx p0 (j:Int)).bind fun aa=>(idx p1 (j:Int)).bind fun ab=>bif (aa != ab) then (some (.rt false)) else (some (.nx ())):Option (Fl (Unit) Bool))) ()).bind fun ad=>ad.cs (fun(o:Unit)=>some true) (fun r=>some r))
def gY (N:Nat) (p0: (List aA)) (p1:aA):Option ((List aA)):=
 bif (((p1.Xs.length:Int)==0)||(decide (p1.Y1<=p1.Y0))) then (some p0) else ((bif (decide ((IntKind.wrap .i64 ((p0.length:Int) - 1))>=0)) then ((idx p0 (IntKind.wrap .i64 ((p0.length:Int) - 1))).bind fun j=>bif (j.Y1==p1.Y0) then ((idx p0 (IntKind.wrap .i64 ((p0.length:Int) - 1))).bind fun o=>(lF N o.Xs p1.Xs).bind fun aa=>some aa) else (some false)) else (some false)).bind fun ab=>bif ab then ((idx p0 (IntKind.wrap .i64 ((p0.length:Int) - 1))).bind fun ad=>some (p0.set (Int.toNat (IntKind.wrap .i64 ((p0.length:Int) - 1))) ({ad with Y1:=p1.Y1}))) else ((app 40 p0 ([p1]: (List aA))).bind fun ae=>some ae))
def gj (N:Nat) (p0: (List aJ)):Option ((List aA)):=
 (iu N p0).bind fun ag=>(sd (i6 N) ag).bind fun aa=>(jI aa.length (fun(ah:Nat) (ad: (List Int))=>((idx aa (ah:Int)).bind fun ae=>(app 8 ad ([ae.Y0,ae.Y1]: (List Int))).bind fun ai=>some ai:Option ((List Int)))) ([]: (List Int))).bind fun ad=>(r9 ad).bind fun aj=>(fX N aj).bind fun ab=>(nL (fun(j: (List aA)×(List aJ)×Int×Int)=>(bif (decide ((IntKind.wrap .i64 (j.2.2.2+1))< (ab.length:Int))) then ((gA N j.2.1 (fun y0=>mB N y0 ab j.2.2.2)).bind fun ak=>(nL (fun(o: (List aJ)×Int)=>((bif (decide (o.2< (aa.length:Int))) then ((idx aa o.2).bind fun al=>(idx ab j.2.2.2).bind fun an=>some (decide (al.Y0<=an))) else (some false)).bind fun ao=>bif ao then ((idx aa o.2).bind fun aq=>(app 32 o.1 ([aq]: (List aJ))).bind fun ar=>some (.nx (ar,(IntKind.wrap .i64 (o.2+1))))) else (some (.br (o.1,o.2))):Option (Fl ((List aJ)×Int) Empty))) N (ak,j.2.2.1)).bind fun au=>au.cs (fun(o: (List aJ)×Int)=>(idx ab j.2.2.2).bind fun av=>(idx ab (IntKind.wrap .i64 (j.2.2.2+1))).bind fun aw=>(iC N o.1).bind fun af=>(gY N j.1 (⟨av,aw,af.1⟩:aA)).bind fun ax=>some (.nx (ax,af.2,o.2,(IntKind.wrap .i64 (j.2.2.2+1))))) (fun r=>r.elim)) else (some (.br (j.1,j.2.1,j.2.2.1,j.2.2.2))):Option (Fl ((List aA)×(List aJ)×Int×Int) Empty))) N (([]: (List aA)),([]: (List aJ)),0,0)).bind fun ay=>ay.cs (fun(j: (List aA)×(List aJ)×Int×Int)=>some j.1) (fun r=>r.elim)
def iD (N:Nat) (p0: (List aA)):Option ((List aJ)):=
 (jI p0.length (fun(ab:Nat) (aa: (List aJ))=>((idx p0 (ab:Int)).bind fun o=>(nL (fun(j: (List aJ)×Int)=>(bif (decide (j.2< (o.Xs.length:Int))) then ((idx o.Xs j.2).bind fun ad=>(idx o.Xs (IntKind.wrap .i64 (j.2+1))).bind fun ae=>(app 32 j.1 ([(⟨ad,o.Y0,ae,o.Y1⟩:aJ)]: (List aJ))).bind fun af=>some (.nx (af,(IntKind.wrap .i64 (j.2+2))))) else (some (.br (j.1,j.2))):Option (Fl ((List aJ)×Int) Empty))) N (aa,0)).bind fun ag=>ag.cs (fun(j: (List aJ)×Int)=>some j.1) (fun r=>r.elim):Option ((List aJ)))) ([]: (List aJ))).bind fun aa=>some aa
def jz (N:Nat) (p0: (List aJ)) (p1: (List aJ)):Option (Bool):=
 bif ((p0.length:Int) != (p1.length:Int)) then (some false) else ((qE p0.length (fun(j:Nat) (o:Unit)=>((idx p0 (j:Int)).bind fun aa=>(idx p1 (j:Int)).bind fun ab=>bif (!(decide (aa=ab))) then (some (.rt false)) else (some (.nx ())):Option (Fl (Unit) Bool))) ()).bind fun ad=>ad.cs (fun(o:Unit)=>some true) (fun r=>some r))
def iv (N:Nat) (p0: (List aJ)):Option (Int):=
 (jU N p0).bind fun ab=>bif (ab != 0) then (some ab) else ((nL (fun(j:Int)=>(bif (decide (j< (p0.length:Int))) then ((idx p0 (IntKind.wrap .i64 (j - 1))).bind fun o=>(idx p0 j).bind fun aa=>bif ((decide (aa.Y0<o.Y0))||((aa.Y0==o.Y0)&&(decide (aa.X0<=o.X0)))) then (some (.rt 8)) else (some (.nx (IntKind.wrap .i64 (j+1))))) else (some (.br j)):Option (Fl (Int) Int))) N 1).bind fun ad=>ad.cs (fun(j:Int)=>(gj N p0).bind fun ae=>(iD N ae).bind fun af=>(jz N af p0).bind fun ag=>bif (!ag) then (some 3) else (some 0)) (fun r=>some r))
def gu (N:Nat) (p0 p1 p2:Int):Option (Bool):=
 some ((decide (p0>=p1))&&(decide (p0<=p2)))
def iS (N:Nat) (p0:ka):Option (Bool):=
 ((kj N p0.X).bind fun j=>bif j then ((kj N p0.Y).bind fun o=>some o) else (some false)).bind fun aa=>some aa
def eY (N:Nat) (p0:cN):Option (aJ):=
 some (⟨(IntKind.wrap .i64 (p0.At.X - (IntKind.wrap .i64 (Int.tdiv p0.eR 2)))),(IntKind.wrap .i64 (p0.At.Y - (IntKind.wrap .i64 (Int.tdiv p0.eR 2)))),(IntKind.wrap .i64 ((IntKind.wrap .i64 (p0.At.X - (IntKind.wrap .i64 (Int.tdiv p0.eR 2))))+p0.eR)),(IntKind.wrap .i64 ((IntKind.wrap .i64 (p0.At.Y - (IntKind.wrap .i64 (Int.tdiv p0.eR 2))))+p0.eR))⟩:aJ)
def lG (N:Nat) (p0: (List aA)):Option (aJ):=
 (idx p0 0).bind fun ad=>(idx ad.Xs 0).bind fun ae=>(idx p0 0).bind fun af=>(idx p0 0).bind fun ag=>(idx ag.Xs 1).bind fun ah=>(idx p0 (IntKind.wrap .i64 ((p0.length:Int) - 1))).bind fun ai=>(jI p0.length (fun(aj:Nat) (j:aJ)=>((idx p0 (aj:Int)).bind fun o=>(idx o.Xs 0).bind fun aa=>(idx o.Xs (IntKind.wrap .i64 ((o.Xs.length:Int) - 1))).bind fun ab=>some ({{j with X0:=(if aa<j.X0 then aa else j.X0)} with X1:=(if j.X1<ab then ab else j.X1)}):Option (aJ))) (⟨ae,af.Y0,ah,ai.Y1⟩:aJ)).bind fun j=>some j
def k6 (N:Nat) (p0: (List aA)):Option (Bool):=
 (bif ((p0.length:Int)==0) then (some true) else ((lG N p0).bind fun j=>(lE N j).bind fun o=>some o)).bind fun aa=>some aa
def jM (N:Nat) (p0:cN):Option (aJ×Int):=
 ((gu N p0.eR 1 10000).bind fun o=>bif (!o) then (some true) else ((iS N p0.At).bind fun aa=>some (!aa))).bind fun ab=>bif ab then (some ((⟨0,0,0,0⟩:aJ),1)) else ((eY N p0).bind fun j=>(gj N ([j]: (List aJ))).bind fun ad=>(k6 N ad).bind fun ae=>bif (!ae) then (some ((⟨0,0,0,0⟩:aJ),1)) else (some (j,0)))
def jA (N:Nat) (p0:kr):Option (Int):=
 bif (decide ((p0.bL.length:Int)>500)) then (some 2) else ((qE p0.bL.length (fun(aa:Nat) (ab:Unit)=>((idx p0.bL (aa:Int)).bind fun j=>(jM N j).bind fun o=>bif (o.2 != 0) then (some (.rt o.2)) else (((gu N j.dD 0 (IntKind.wrap .i64 ((p0.aO.length:Int) - 1))).bind fun ad=>bif (!ad) then (some true) else ((gu N j.To j.dD (IntKind.wrap .i64 ((p0.aO.length:Int) - 1))).bind fun ae=>some (!ae))).bind fun af=>bif af then (some (.rt 1)) else (some (.nx ()))):Option (Fl (Unit) Int))) ()).bind fun ag=>ag.cs (fun(ab:Unit)=>some 0) (fun r=>some r))
def iO (N:Nat) (p0:eQ):Option (aX):=
 some (⟨p0.Part,p0.aX⟩:aX)
def jB (N:Nat) (p0:kr):Option (Int):=
 bif (decide ((p0.bM.length:Int)>1000)) then (some 2) else ((qE p0.bM.length (fun(o:Nat) (aa:Unit)=>((idx p0.bM (o:Int)).bind fun j=>((gW N j.Part).bind fun ab=>bif (!ab) then (some true) else ((fM N j.aX).bind fun ad=>some (!ad))).bind fun ae=>bif ae then (some (.rt 5)) else (((gu N j.eU 0 (IntKind.wrap .i64 ((p0.aO.length:Int) - 1))).bind fun af=>bif (!af) then (some true) else ((iS N j.At).bind fun ag=>some (!ag))).bind fun ah=>bif ah then (some (.rt 1)) else ((bif (decide ((o:Int)>0)) then ((idx p0.bM (IntKind.wrap .i64 ((o:Int) - 1))).bind fun ai=>(iO N j).bind fun aj=>(iO N ai).bind fun ak=>(dB N aj ak).bind fun al=>some (decide (al<=0))) else (some false)).bind fun an=>bif an then (some (.rt 8)) else (some (.nx ())))):Option (Fl (Unit) Int))) ()).bind fun ao=>ao.cs (fun(aa:Unit)=>some 0) (fun r=>some r))
def kF (N:Nat) (p0 p1:Int) (p2 p3:Int):Option (Int):=
 some (if (if 0< (IntKind.wrap .i64 ((IntKind.wrap .i64 (p2 - p1))+1)) then (IntKind.wrap .i64 ((IntKind.wrap .i64 (p2 - p1))+1)) else 0)< (IntKind.wrap .i64 ((IntKind.wrap .i64 (p0 - p3))+1)) then (IntKind.wrap .i64 ((IntKind.wrap .i64 (p0 - p3))+1)) else (if 0< (IntKind.wrap .i64 ((IntKind.wrap .i64 (p2 - p1))+1)) then (IntKind.wrap .i64 ((IntKind.wrap .i64 (p2 - p1))+1)) else 0))
def pT (N:Nat) (p0 p1:aJ):Option (Int):=
 (kF N p0.X0 p0.X1 p1.X0 p1.X1).bind fun j=>(kF N p0.Y0 p0.Y1 p1.Y0 p1.Y1).bind fun o=>some (if j<o then o else j)
def jV (N:Nat) (p0:cN) (p1:Int):Option (Bool):=
 some ((decide (p0.dD<=p1))&&(decide (p1<=p0.To)))
def lH (N:Nat) (p0: (List aA)) (p1 p2:Int):Option ((List Int)×Int):=
 bif ((p0.length:Int)==0) then (some (([]: (List Int)),p2)) else ((idx p0 0).bind fun aa=>bif (decide (p1<aa.Y0)) then ((idx p0 0).bind fun j=>some (([]: (List Int)),(if j.Y0<p2 then j.Y0 else p2))) else ((idx p0 0).bind fun ab=>(idx p0 0).bind fun o=>some (ab.Xs,(if o.Y1<p2 then o.Y1 else p2))))
def oE (N:Nat) (p0: (List Int)) (p1: (List Int)) (p2:Bool->Bool->Option Bool):Option ((List Int)):=
 (nL (fun(j: (List Int)×(List Int)×(List Int)×Bool×Bool×Bool)=>((bif (decide ((j.1.length:Int)>0)) then (some true) else (some (decide ((j.2.1.length:Int)>0)))).bind fun af=>bif af then ((bif ((j.2.1.length:Int)==0) then (some true) else (bif (decide ((j.1.length:Int)>0)) then ((idx j.1 0).bind fun ag=>(idx j.2.1 0).bind fun ah=>some (decide (ag<=ah))) else (some false))).bind fun ai=>(bif ai then ((idx j.1 0).bind fun aj=>some aj) else ((idx j.2.1 0).bind fun ak=>some ak)).bind fun o=>(bif (decide ((j.1.length:Int)>0)) then ((idx j.1 0).bind fun al=>some (al==o)) else (some false)).bind fun an=>(bif an then ((uE j.1 1 (j.1.length:Int)).bind fun ao=>some (ao,(!j.2.2.2.1))) else (some (j.1,j.2.2.2.1))).bind fun aa=>(bif (decide ((j.2.1.length:Int)>0)) then ((idx j.2.1 0).bind fun aq=>some (aq==o)) else (some false)).bind fun ar=>(bif ar then ((uE j.2.1 1 (j.2.1.length:Int)).bind fun au=>some (au,(!j.2.2.2.2.1))) else (some (j.2.1,j.2.2.2.2.1))).bind fun ab=>(p2 aa.2 ab.2).bind fun ad=>(bif (ad != j.2.2.2.2.2) then ((app 8 j.2.2.1 ([o]: (List Int))).bind fun av=>some (av,ad)) else (some (j.2.2.1,j.2.2.2.2.2))).bind fun ae=>some (.nx (aa.1,ab.1,ae.1,aa.2,ab.2,ae.2))) else (some (.br (j.1,j.2.1,j.2.2.1,j.2.2.2.1,j.2.2.2.2.1,j.2.2.2.2.2))):Option (Fl ((List Int)×(List Int)×(List Int)×Bool×Bool×Bool) Empty))) N (p0,p1,([]: (List Int)),false,false,false)).bind fun aw=>aw.cs (fun(j: (List Int)×(List Int)×(List Int)×Bool×Bool×Bool)=>some j.2.2.1) (fun r=>r.elim)
def nA (N:Nat) (p0: (List aA)) (p1: (List aA)) (p2:Bool->Bool->Option Bool):Option ((List aA)):=
 bif ((IntKind.wrap .i64 ((p0.length:Int)+ (p1.length:Int)))==0) then (some ([]: (List aA))) else ((jI (([p0,p1]: (List (List aA))).length) (fun(ah:Nat) (o:Int×Int)=>((idx ([p0,p1]: (List (List aA))) (ah:Int)).bind fun ad=>(bif (decide ((ad.length:Int)>0)) then ((bif ((ah:Int)==0) then (some true) else (some ((p0.length:Int)==0))).bind fun al=>(bif al then ((idx ad 0).bind fun an=>(idx ad (IntKind.wrap .i64 ((ad.length:Int) - 1))).bind fun ao=>some (an.Y0,ao.Y1)) else (some (o.1,o.2))).bind fun ag=>(idx ad 0).bind fun ai=>(idx ad (IntKind.wrap .i64 ((ad.length:Int) - 1))).bind fun aj=>some ((if ai.Y0<ag.1 then ai.Y0 else ag.1),(if ag.2<aj.Y1 then aj.Y1 else ag.2))) else (some (o.1,o.2))).bind fun ak=>some (ak.1,ak.2):Option (Int×Int))) (0,0)).bind fun o=>(nL (fun(j: (List aA)×(List aA)×(List aA)×Int)=>(bif (decide (j.2.2.2<o.2)) then ((nL (fun(aa: (List aA))=>((bif (decide ((aa.length:Int)>0)) then ((idx aa 0).bind fun aq=>some (decide (aq.Y1<=j.2.2.2))) else (some false)).bind fun ar=>bif ar then ((uE aa 1 (aa.length:Int)).bind fun au=>some (.nx au)) else (some (.br aa)):Option (Fl ((List aA)) Empty))) N j.1).bind fun av=>av.cs (fun(aa: (List aA))=>(nL (fun(ab: (List aA))=>((bif (decide ((ab.length:Int)>0)) then ((idx ab 0).bind fun aw=>some (decide (aw.Y1<=j.2.2.2))) else (some false)).bind fun ax=>bif ax then ((uE ab 1 (ab.length:Int)).bind fun ay=>some (.nx ay)) else (some (.br ab)):Option (Fl ((List aA)) Empty))) N j.2.1).bind fun az=>az.cs (fun(ab: (List aA))=>(lH N aa j.2.2.2 o.2).bind fun ae=>(lH N ab j.2.2.2 o.2).bind fun af=>(oE N ae.1 af.1 p2).bind fun a0=>(gY N j.2.2.1 (⟨j.2.2.2,(if af.2<ae.2 then af.2 else ae.2),a0⟩:aA)).bind fun a1=>some (.nx (aa,ab,a1,(if af.2<ae.2 then af.2 else ae.2)))) (fun r=>r.elim)) (fun r=>r.elim)) else (some (.br (j.1,j.2.1,j.2.2.1,j.2.2.2))):Option (Fl ((List aA)×(List aA)×(List aA)×Int) Empty))) N (p0,p1,([]: (List aA)),o.1)).bind fun a2=>a2.cs (fun(j: (List aA)×(List aA)×(List aA)×Int)=>some j.2.2.1) (fun r=>r.elim))
def mC (N:Nat) (p0 p1:Bool):Option (Bool):=
 some (p0&&(!p1))
def jW (N:Nat) (p0: (List aA)) (p1: (List aA)):Option ((List aA)):=
 (nA N p0 p1 (mC N)).bind fun j=>some j
def k7 (N:Nat) (p0: (List aA)):Option (Int):=
 (jI p0.length (fun(o:Nat) (j:Int)=>((idx p0 (o:Int)).bind fun aa=>some (IntKind.wrap .i64 (j+ (IntKind.wrap .i64 (Int.tdiv (aa.Xs.length:Int) 2)))):Option (Int))) 0).bind fun j=>some j
def eG (N:Nat) (p0:Int) (p1_0: (List Int)):Option (Int×(List Int)):=
 (nL (fun(j:Int×(List Int))=>((idx j.2 j.1).bind fun aa=>bif (aa != j.1) then ((idx j.2 j.1).bind fun ab=>(idx j.2 ab).bind fun o=>(idx j.2 j.1).bind fun af=>(idx (j.2.set (Int.toNat j.1) o) j.1).bind fun ad=>some (.nx (ad,(j.2.set (Int.toNat j.1) o)))) else (some (.br (j.1,j.2))):Option (Fl (Int×(List Int)) Empty))) N (p0,p1_0)).bind fun ae=>ae.cs (fun(j:Int×(List Int))=>some (j.1,j.2)) (fun r=>r.elim)
def ku (N:Nat) (p0: (List aA)):Option ((List (List aA))):=
 (iD N p0).bind fun ab=>(mk 8 (0:Int) (ab.length:Int)).bind fun an=>(jI an.length (fun(ai:Nat) (ag: (List Int))=>((idx ag (ai:Int)).bind fun bd=>some (ag.set (Int.toNat (ai:Int)) (ai:Int)):Option ((List Int)))) an).bind fun ag=>(jI p0.length (fun(aj:Nat) (aa: (List Int)×Int×Int)=>((idx p0 (aj:Int)).bind fun ak=>(bif (decide ((aj:Int)>0)) then ((idx p0 (IntKind.wrap .i64 ((aj:Int) - 1))).bind fun ar=>some (ar.Y1==ak.Y0)) else (some false)).bind fun au=>(bif au then ((nL (fun(j: (List Int)×Int×Int)=>(bif ((decide (j.2.1<aa.2.1))&&(decide (j.2.2< (IntKind.wrap .i64 (aa.2.1+ (IntKind.wrap .i64 (Int.tdiv (ak.Xs.length:Int) 2))))))) then (((idx ab j.2.1).bind fun av=>(idx ab j.2.2).bind fun aw=>bif (decide (av.X0<aw.X1)) then ((idx ab j.2.2).bind fun ax=>(idx ab j.2.1).bind fun ay=>some (decide (ax.X0<ay.X1))) else (some false)).bind fun az=>(bif az then ((eG N j.2.1 j.1).bind fun ae=>(eG N j.2.2 ae.2).bind fun ad=>(idx ad.2 (if ae.1<ad.1 then ad.1 else ae.1)).bind fun bf=>some (ad.2.set (Int.toNat (if ae.1<ad.1 then ad.1 else ae.1)) (if ad.1<ae.1 then ad.1 else ae.1))) else (some j.1)).bind fun a0=>(idx ab j.2.1).bind fun a1=>(idx ab j.2.2).bind fun a2=>(bif (decide (a1.X1<a2.X1)) then (some ((IntKind.wrap .i64 (j.2.1+1)),j.2.2)) else (some (j.2.1,(IntKind.wrap .i64 (j.2.2+1))))).bind fun ao=>some (.nx (a0,ao.1,ao.2))) else (some (.br (j.1,j.2.1,j.2.2))):Option (Fl ((List Int)×Int×Int) Empty))) N (aa.1,aa.2.2,aa.2.1)).bind fun a3=>a3.cs (fun(j: (List Int)×Int×Int)=>some j.1) (fun r=>r.elim)) else (some aa.1)).bind fun a4=>some (a4,(IntKind.wrap .i64 (aa.2.1+ (IntKind.wrap .i64 (Int.tdiv (ak.Xs.length:Int) 2)))),aa.2.1):Option ((List Int)×Int×Int))) (ag,0,0)).bind fun aa=>(jI ab.length (fun(aq:Nat) (o: (List Int)×(List (Int×Int))×(List (List aJ)))=>((idx ab (aq:Int)).bind fun a5=>(eG N (aq:Int) o.1).bind fun ah=>(bif (!(fR o.2.1 ah.1)) then ((app 24 o.2.2 [([]: (List aJ))]).bind fun a6=>some ((kT o.2.1 ah.1 (o.2.2.length:Int)),a6,(o.2.2.length:Int))) else (some (o.2.1,o.2.2,(dH o.2.1 ah.1 (0:Int))))).bind fun af=>(idx af.2.1 af.2.2).bind fun a7=>(app 32 a7 ([a5]: (List aJ))).bind fun a8=>(idx af.2.1 af.2.2).bind fun bg=>some (ah.2,af.1,(af.2.1.set (Int.toNat af.2.2) a8)):Option ((List Int)×(List (Int×Int))×(List (List aJ))))) (aa.1,([]: (List (Int×Int))),([]: (List (List aJ))))).bind fun o=>(jI o.2.2.length (fun(a9:Nat) (al: (List (List aA)))=>((idx o.2.2 (a9:Int)).bind fun ba=>(gj N ba).bind fun bb=>(app 24 al ([bb]: (List (List aA)))).bind fun bc=>some bc:Option ((List (List aA))))) ([]: (List (List aA)))).bind fun al=>some al
def i7 (N:Nat) (p0_0: (List (List aJ))) (p0_2: (List cN)) (p0_4: (List (List aA))) (p0_5: (List aI)):Option (Bool×(List (List aA))×(List aI)):=
 (jI p0_0.length (fun(aa:Nat) (j: (List (List aA))×(List aI)×Bool)=>((idx p0_0 (aa:Int)).bind fun ai=>(jI p0_2.length (fun(aj:Nat) (o: (List aJ))=>((idx p0_2 (aj:Int)).bind fun af=>(jV N af (aa:Int)).bind fun ak=>(bif ak then ((eY N af).bind fun al=>(app 32 o ([al]: (List aJ))).bind fun an=>some an) else (some o)).bind fun ao=>some ao:Option ((List aJ)))) ([]: (List aJ))).bind fun o=>(gj N ai).bind fun aq=>(gj N o).bind fun ar=>(jW N aq ar).bind fun ab=>(bif j.2.2 then ((k7 N ab).bind fun au=>some ((decide (au<=2000)),ab)) else (some (false,ab))).bind fun ad=>(app 24 j.1 ([ad.2]: (List (List aA)))).bind fun av=>(ku N ad.2).bind fun ag=>(jI ag.length (fun(aw:Nat) (ae: (List aI))=>((idx ag (aw:Int)).bind fun ah=>(iD N ah).bind fun ax=>(app 56 ae ([(⟨(aa:Int),ah,ax⟩:aI)]: (List aI))).bind fun ay=>some ay:Option ((List aI)))) j.2.1).bind fun ae=>some (av,ae,ad.1):Option ((List (List aA))×(List aI)×Bool))) (p0_4,p0_5,true)).bind fun j=>(bif j.2.2 then (some (decide ((j.2.1.length:Int)<=2000))) else (some false)).bind fun az=>some (az,j.1,j.2.1)
def pE (N:Nat) (p0 p1:aJ):Option (Bool):=
 some ((((decide (p0.X0<p1.X1))&&(decide (p1.X0<p0.X1)))&&((p0.Y1==p1.Y0)||(p1.Y1==p0.Y0)))||(((decide (p0.Y0<p1.Y1))&&(decide (p1.Y0<p0.Y1)))&&((p0.X1==p1.X0)||(p1.X1==p0.X0))))
def ji (N:Nat) (p0:aJ) (p1:cN):Option (Bool):=
 (eY N p1).bind fun j=>(pE N p0 j).bind fun o=>some o
def fN (N:Nat) (p0: (List aJ)) (p1:aJ->Option Bool):Option (Bool):=
 (kK N p0 p1).bind fun j=>some (decide (j>=0))
def i9 (N:Nat) (p0_2: (List cN)) (p0_5: (List aI)) (p0_6: (List (List Int))):Option ((List (List Int))):=
 (jI p0_2.length (fun(ae:Nat) (o: (List (List Int)))=>((idx p0_2 (ae:Int)).bind fun aa=>(jI p0_5.length (fun(ab:Nat) (j: (List Int))=>((idx p0_5 (ab:Int)).bind fun ad=>(bif aa.jJ then ((jV N aa ad.eU).bind fun af=>bif af then ((fN N ad.nT (fun y0=>ji N y0 aa)).bind fun ag=>some ag) else (some false)) else (some false)).bind fun ah=>(bif ah then ((app 8 j ([(ab:Int)]: (List Int))).bind fun ai=>some ai) else (some j)).bind fun aj=>some aj:Option ((List Int)))) ([]: (List Int))).bind fun j=>(app 24 o ([j]: (List (List Int)))).bind fun ak=>some ak:Option ((List (List Int))))) p0_6).bind fun o=>some o
def jX (N:Nat) (p0:Int):Option (((List Int))):=
 (mk 8 (0:Int) p0).bind fun aa=>(jI aa.length (fun(o:Nat) (j: (List Int))=>((idx j (o:Int)).bind fun ab=>some (j.set (Int.toNat (o:Int)) (o:Int)):Option ((List Int)))) aa).bind fun j=>some j
def fI (N:Nat) (p0_0: (List Int)) (p1:Int):Option (Int×(List Int)):=
 (nL (fun(j: (List Int)×Int)=>((idx j.1 j.2).bind fun aa=>bif (aa != j.2) then ((idx j.1 j.2).bind fun ab=>(idx j.1 ab).bind fun o=>(idx j.1 j.2).bind fun af=>(idx (j.1.set (Int.toNat j.2) o) j.2).bind fun ad=>some (.nx ((j.1.set (Int.toNat j.2) o),ad))) else (some (.br (j.1,j.2))):Option (Fl ((List Int)×Int) Empty))) N (p0_0,p1)).bind fun ae=>ae.cs (fun(j: (List Int)×Int)=>some (j.2,j.1)) (fun r=>r.elim)
def fZ (N:Nat) (p0_0: (List Int)) (p1 p2:Int):Option ((List Int)):=
 (fI N p0_0 p1).bind fun o=>(fI N o.2 p2).bind fun j=>(idx j.2 (if o.1<j.1 then j.1 else o.1)).bind fun aa=>some (j.2.set (Int.toNat (if o.1<j.1 then j.1 else o.1)) (if j.1<o.1 then j.1 else o.1))
def ja (N:Nat) (p0_0: (List Int)):Option ((List (List Int))×(List Int)):=
 (jI p0_0.length (fun(ab:Nat) (j: (List Int)×(List (List Int))×(List (Int×Int)))=>((fI N j.1 (ab:Int)).bind fun aa=>(bif (aa.1==(ab:Int)) then ((app 24 j.2.1 [([]: (List Int))]).bind fun ad=>some (ad,(kT j.2.2 (ab:Int) (j.2.1.length:Int)))) else (some (j.2.1,j.2.2))).bind fun o=>(idx o.1 (dH o.2 aa.1 (0:Int))).bind fun ae=>(app 8 ae ([(ab:Int)]: (List Int))).bind fun af=>(idx o.1 (dH o.2 aa.1 (0:Int))).bind fun ag=>some (aa.2,(o.1.set (Int.toNat (dH o.2 aa.1 (0:Int))) af),o.2):Option ((List Int)×(List (List Int))×(List (Int×Int))))) (p0_0,([]: (List (List Int))),([]: (List (Int×Int))))).bind fun j=>some (j.2.1,j.1)
def kl (N:Nat) (p0:aJ) (p1:ka):Option (Bool):=
 (bif (decide (p1.X>=p0.X0)) then (bif (decide (p1.X<p0.X1)) then (bif (decide (p1.Y>=p0.Y0)) then (some (decide (p1.Y<p0.Y1))) else (some false)) else (some false)) else (some false)).bind fun j=>some j
def jl (N:Nat) (p0: (List aJ)) (p1:ka):Option (Bool):=
 (fN N p0 (fun y0=>kl N y0 p1)).bind fun j=>some j
def jc (N:Nat) (p0_2: (List cN)) (p0_5: (List aI)) (p1:eQ):Option (kb×Bool):=
 (qE p0_2.length (fun(o:Nat) (ad:Unit)=>((idx p0_2 (o:Int)).bind fun j=>(bif j.jJ then ((jV N j p1.eU).bind fun ae=>bif ae then ((eY N j).bind fun af=>(jl N ([af]: (List aJ)) p1.At).bind fun gK=>some gK) else (some false)) else (some false)).bind fun ag=>bif ag then (some (.rt ((⟨true,(o:Int)⟩:kb),true))) else (some (.nx ())):Option (Fl (Unit) (kb×Bool)))) ()).bind fun ah=>ah.cs (fun(ad:Unit)=>(qE p0_5.length (fun(aa:Nat) (ai:Unit)=>((idx p0_5 (aa:Int)).bind fun ab=>(bif (ab.eU==p1.eU) then ((jl N ab.nT p1.At).bind fun aj=>some aj) else (some false)).bind fun ak=>bif ak then (some (.rt ((⟨false,(aa:Int)⟩:kb),true))) else (some (.nx ())):Option (Fl (Unit) (kb×Bool)))) ()).bind fun al=>al.cs (fun(ai:Unit)=>some ((⟨false,0⟩:kb),false)) (fun r=>some r)) (fun r=>some r)
def gk (N:Nat) (p0_8: (List Int)) (p0_9: (List Int)) (p1:kb):Option (Int):=
 bif p1.cN then ((idx p0_9 p1.Number).bind fun j=>some j) else ((idx p0_8 p1.Number).bind fun o=>some o)
def eW (N:Nat) (p0_2: (List cN)) (p0_3: (List eQ)) (p0_5: (List aI)) (p0_6: (List (List Int))) (p0_8: (List Int)) (p0_9: (List Int)) (p0_10: (List Int)) (p0_11: (List kb)):Option ((List bJ)×(List Int)×(List Int)×(List Int)×(List kb)):=
 (jX N (IntKind.wrap .i64 ((p0_5.length:Int)+ (p0_2.length:Int)))).bind fun ar=>(jI p0_6.length (fun(ai:Nat) (af: (List Int))=>((idx p0_6 (ai:Int)).bind fun aj=>(jI aj.length (fun(au:Nat) (ag: (List Int))=>((idx aj (au:Int)).bind fun av=>(fZ N ag av (IntKind.wrap .i64 ((p0_5.length:Int)+ (ai:Int)))).bind fun aw=>some aw:Option ((List Int)))) af).bind fun ag=>some ag:Option ((List Int)))) ar).bind fun af=>(mk 8 (0:Int) (p0_5.length:Int)).bind fun ax=>(mk 8 (0:Int) (p0_2.length:Int)).bind fun ay=>(ja N af).bind fun ak=>(jI ak.1.length (fun(az:Nat) (aa: (List bJ)×(List Int)×(List Int))=>((idx ak.1 (az:Int)).bind fun al=>(jI al.length (fun(a0:Nat) (j: (List Int)×(List Int)×(List Int)×(List Int))=>((idx al (a0:Int)).bind fun ab=>(bif (decide (ab< (p0_5.length:Int))) then ((idx j.1 ab).bind fun bd=>(app 8 j.2.2.1 ([ab]: (List Int))).bind fun a1=>some ((j.1.set (Int.toNat ab) (aa.1.length:Int)),j.2.1,a1,j.2.2.2)) else ((idx p0_2 (IntKind.wrap .i64 (ab - (p0_5.length:Int)))).bind fun a2=>(bif a2.jJ then ((idx j.2.1 (IntKind.wrap .i64 (ab - (p0_5.length:Int)))).bind fun bf=>(app 8 j.2.2.2 ([(IntKind.wrap .i64 (ab - (p0_5.length:Int)))]: (List Int))).bind fun a3=>some ((j.2.1.set (Int.toNat (IntKind.wrap .i64 (ab - (p0_5.length:Int)))) (aa.1.length:Int)),a3)) else ((idx j.2.1 (IntKind.wrap .i64 (ab - (p0_5.length:Int)))).bind fun bg=>some ((j.2.1.set (Int.toNat (IntKind.wrap .i64 (ab - (p0_5.length:Int)))) (-1)),j.2.2.2))).bind fun an=>some (j.1,an.1,j.2.2.1,an.2))).bind fun ad=>some (ad.1,ad.2.1,ad.2.2.1,ad.2.2.2):Option ((List Int)×(List Int)×(List Int)×(List Int)))) (aa.2.1,aa.2.2,([]: (List Int)),([]: (List Int)))).bind fun j=>(bif (decide ((IntKind.wrap .i64 ((j.2.2.1.length:Int)+ (j.2.2.2.length:Int)))>0)) then ((app 72 aa.1 [(⟨j.2.2.1,j.2.2.2,([]: (List aX))⟩:bJ)]).bind fun a4=>some a4) else (some aa.1)).bind fun a5=>some (a5,j.1,j.2.1):Option ((List bJ)×(List Int)×(List Int)))) (([]: (List bJ)),ax,ay)).bind fun aa=>(jI p0_3.length (fun(a6:Nat) (o: (List bJ)×(List Int)×(List Int)×(List Int)×(List kb))=>((idx p0_3 (a6:Int)).bind fun ao=>(jc N p0_2 p0_5 ao).bind fun ah=>(bif ah.2 then ((gk N o.2.1 o.2.2.1 ah.1).bind fun ae=>(idx o.1 ae).bind fun a7=>(iO N ao).bind fun a8=>(app 32 a7.aS ([a8]: (List aX))).bind fun a9=>(idx o.1 ae).bind fun ba=>some ((o.1.set (Int.toNat ae) {ba with aS:=a9}),ae)) else (some (o.1,(-1)))).bind fun aq=>(app 8 o.2.2.2.1 ([aq.2]: (List Int))).bind fun bb=>(app 16 o.2.2.2.2 ([ah.1]: (List kb))).bind fun bc=>some (aq.1,o.2.1,o.2.2.1,bb,bc):Option ((List bJ)×(List Int)×(List Int)×(List Int)×(List kb)))) (aa.1,aa.2.1,aa.2.2,p0_10,p0_11)).bind fun o=>some (o.1,o.2.1,o.2.2.1,o.2.2.2.1,o.2.2.2.2)
def gF (N:Nat) (p0:kr):Option (Option ((List (List aJ))×(List aJ)×(List cN)×(List eQ)×(List (List aA))×(List aI)×(List (List Int))×(List bJ)×(List Int)×(List Int)×(List Int)×(List kb))×Int):=
 bif ((p0.aO.length:Int)==0) then (some (none,9)) else (bif (decide ((p0.aO.length:Int)>16)) then (some (none,2)) else ((qE p0.aO.length (fun(an:Nat) (aa:Int)=>((idx p0.aO (an:Int)).bind fun ae=>(iv N ae).bind fun af=>bif (af != 0) then (some (.rt (none,af))) else (some (.nx (IntKind.wrap .i64 (aa+ (ae.length:Int))))):Option (Fl (Int) (Option ((List (List aJ))×(List aJ)×(List cN)×(List eQ)×(List (List aA))×(List aI)×(List (List Int))×(List bJ)×(List Int)×(List Int)×(List Int)×(List kb))×Int)))) (p0.eC.length:Int)).bind fun ao=>ao.cs (fun(aa:Int)=>(iv N p0.eC).bind fun ag=>bif (ag != 0) then (some (none,ag)) else (bif (decide (aa>2000)) then (some (none,2)) else ((jA N p0).bind fun ah=>bif (ah != 0) then (some (none,ah)) else ((jB N p0).bind fun ai=>bif (ai != 0) then (some (none,ai)) else ((qE p0.bL.length (fun(aj:Nat) (aq:Unit)=>((idx p0.bL (aj:Int)).bind fun ab=>(uE p0.bL 0 (aj:Int)).bind fun ak=>(qE ak.length (fun(ar:Nat) (au:Unit)=>((idx ak (ar:Int)).bind fun ad=>(bif ((decide (ab.dD<=ad.To))&&(decide (ad.dD<=ab.To))) then ((eY N ab).bind fun av=>(eY N ad).bind fun aw=>(pT N av aw).bind fun ax=>some (ax==0)) else (some false)).bind fun ay=>bif ay then (some (.rt (none,12))) else (some (.nx ())):Option (Fl (Unit) (Option ((List (List aJ))×(List aJ)×(List cN)×(List eQ)×(List (List aA))×(List aI)×(List (List Int))×(List bJ)×(List Int)×(List Int)×(List Int)×(List kb))×Int)))) ()).bind fun az=>az.cs (fun(au:Unit)=>some (.nx ())) (fun r=>some (.rt r)):Option (Fl (Unit) (Option ((List (List aJ))×(List aJ)×(List cN)×(List eQ)×(List (List aA))×(List aI)×(List (List Int))×(List bJ)×(List Int)×(List Int)×(List Int)×(List kb))×Int)))) ()).bind fun a0=>a0.cs (fun(aq:Unit)=>(i7 N p0.aO p0.bL ([]: (List (List aA))) ([]: (List aI))).bind fun j=>bif (!j.1) then (some (none,2)) else ((i9 N p0.bL j.2.2 ([]: (List (List Int)))).bind fun al=>(eW N p0.bL p0.bM j.2.2 al ([]: (List Int)) ([]: (List Int)) ([]: (List Int)) ([]: (List kb))).bind fun o=>some (some (p0.aO,p0.eC,p0.bL,p0.bM,j.2.1,j.2.2,al,o.1,o.2.1,o.2.2.1,o.2.2.2.1,o.2.2.2.2),0))) (fun r=>some r)))))) (fun r=>some r)))
def jm (N:Nat) (p0: (List aL)) (p1:bK) (p2:kr):Option (Option ((List (List aJ))×(List aJ)×(List cN)×(List eQ)×(List (List aA))×(List aI)×(List (List Int))×(List bJ)×(List Int)×(List Int)×(List Int)×(List kb))×Int):=
 (ir N p0 p1).bind fun aa=>bif (aa != 0) then (some (none,aa)) else ((gF N p2).bind fun o=>Ge o.1 (some (none,o.2)) (fun(j: ((List (List aJ))×(List aJ)×(List cN)×(List eQ)×(List (List aA))×(List aI)×(List (List Int))×(List bJ)×(List Int)×(List Int)×(List Int)×(List kb)))=>some (some (j.1,j.2.1,j.2.2.1,j.2.2.2.1,j.2.2.2.2.1,j.2.2.2.2.2.1,j.2.2.2.2.2.2.1,j.2.2.2.2.2.2.2.1,j.2.2.2.2.2.2.2.2.1,j.2.2.2.2.2.2.2.2.2.1,j.2.2.2.2.2.2.2.2.2.2.1,j.2.2.2.2.2.2.2.2.2.2.2),o.2)))
def km (N:Nat) (p0:bK):Option ((List (aX×Int))):=
 (jI p0.bE.length (fun(aa:Nat) (j: (List (aX×Int)))=>((idx p0.bE (aa:Int)).bind fun ab=>(jI ab.aS.length (fun(ad:Nat) (o: (List (aX×Int)))=>((idx ab.aS (ad:Int)).bind fun ae=>some (kT o ae (aa:Int)):Option ((List (aX×Int))))) j).bind fun o=>some o:Option ((List (aX×Int))))) ([]: (List (aX×Int)))).bind fun j=>some j
def k8 (N:Nat) (p0: (List aL)) (p1:Part):Option ((List aX)):=
 (iZ N p0 p1.ju).bind fun aa=>(idx p0 aa).bind fun o=>(jI o.aS.length (fun(ab:Nat) (j: (List aX))=>((idx o.aS (ab:Int)).bind fun ad=>(app 32 j ([(⟨p1.Name,ad.Name⟩:aX)]: (List aX))).bind fun ae=>some ae:Option ((List aX)))) ([]: (List aX))).bind fun j=>some j
def kx (N:Nat) (p0: (List aL)) (p1:bK):Option ((List aX)):=
 (km N p1).bind fun ad=>(jI p1.cJ.length (fun(ae:Nat) (o: (List aX))=>((idx p1.cJ (ae:Int)).bind fun af=>(k8 N p0 af).bind fun aa=>(jI aa.length (fun(ag:Nat) (j: (List aX))=>((idx aa (ag:Int)).bind fun ab=>(bif (!(fR ad ab)) then ((app 32 j ([ab]: (List aX))).bind fun ah=>some ah) else (some j)).bind fun ai=>some ai:Option ((List aX)))) o).bind fun j=>some j:Option ((List aX)))) ([]: (List aX))).bind fun o=>some o
def eP (N:Nat) (p0: (List eQ)) (p1:aX) (p2:eQ->aX->Option Int):Option (Int×Bool):=
 (nL (fun(j:Int×Int)=>(bif (decide (j.1<j.2)) then ((idx p0 (IntKind.wrap .i64 (Int.fdiv (IntKind.wrap .u64 (IntKind.wrap .i64 (j.1+j.2))) 2))).bind fun aa=>(p2 aa p1).bind fun ab=>(bif (decide (ab<0)) then (some ((IntKind.wrap .i64 ((IntKind.wrap .i64 (Int.fdiv (IntKind.wrap .u64 (IntKind.wrap .i64 (j.1+j.2))) 2))+1)),j.2)) else (some (j.1,(IntKind.wrap .i64 (Int.fdiv (IntKind.wrap .u64 (IntKind.wrap .i64 (j.1+j.2))) 2))))).bind fun o=>some (.nx (o.1,o.2))) else (some (.br (j.1,j.2))):Option (Fl (Int×Int) Empty))) N (0,(p0.length:Int))).bind fun ad=>ad.cs (fun(j:Int×Int)=>(bif (decide (j.1< (p0.length:Int))) then ((idx p0 j.1).bind fun ae=>(p2 ae p1).bind fun af=>some (af==0)) else (some false)).bind fun ag=>some (j.1,ag)) (fun r=>r.elim)
def gN (N:Nat) (p0:eQ) (p1:aX):Option (Int):=
 (iO N p0).bind fun j=>(dB N j p1).bind fun o=>some o
def iT (N:Nat) (p0:kr) (p1:aX):Option (Int):=
 (eP N p0.bM p1 (gN N)).bind fun j=>bif (!j.2) then (some (-1)) else (some j.1)
def iI (N:Nat) (p1:Int):Option ((List aX)):=
 bif (decide (p1<0)) then (none) else ((bif (decide ((IntKind.wrap .i64 (p1 - (IntKind.wrap .i64 (((0:Nat):Int) - ((0:Nat):Int)))))>0)) then ((Gv 32 (⟨⟨[]⟩,⟨[]⟩⟩:aX) (IntKind.wrap .i64 (p1 - (IntKind.wrap .i64 (((0:Nat):Int) - ((0:Nat):Int)))))).bind fun j=>(uE j 0 ((0:Nat):Int)).bind fun o=>some o) else (some ([]: (List aX)))).bind fun aa=>some aa)
def jC (N:Nat) (p0: (List (List aX))):Option ((List aX)):=
 (jI p0.length (fun(ab:Nat) (j:Int)=>((idx p0 (ab:Int)).bind fun aa=>bif (decide ((IntKind.wrap .i64 (j+ (aa.length:Int)))<0)) then (none) else (some (IntKind.wrap .i64 (j+ (aa.length:Int)))):Option (Int))) 0).bind fun j=>(iI N j).bind fun ad=>(jI p0.length (fun(ae:Nat) (o: (List aX))=>((idx p0 (ae:Int)).bind fun af=>(app 32 o af).bind fun ag=>some ag:Option ((List aX)))) ad).bind fun o=>some o
def jD (N:Nat) (p0_0: (List (List aJ))) (p0_1: (List aJ)) (p0_2: (List cN)) (p0_3: (List eQ)) (p0_10: (List Int)) (p1:Net):Option ((List aX)):=
 (jI p1.aS.length (fun(ae:Nat) (j: (List (List aX))×(List (Int×Int)))=>((idx p1.aS (ae:Int)).bind fun ab=>(iT N (⟨p0_0,p0_1,p0_2,p0_3⟩:kr) ab).bind fun ad=>bif (decide (ad<0)) then (some (j.1,j.2)) else ((idx p0_10 ad).bind fun aa=>(bif ((!(fR j.2 aa))||(decide (aa<0))) then ((app 24 j.1 [([]: (List aX))]).bind fun af=>some (af,(kT j.2 aa (j.1.length:Int)),(j.1.length:Int))) else (some (j.1,j.2,(dH j.2 aa (0:Int))))).bind fun o=>(idx o.1 o.2.2).bind fun ag=>(app 32 ag ([ab]: (List aX))).bind fun ah=>(idx o.1 o.2.2).bind fun aj=>some ((o.1.set (Int.toNat o.2.2) ah),o.2.1)):Option ((List (List aX))×(List (Int×Int))))) (([]: (List (List aX))),([]: (List (Int×Int))))).bind fun j=>bif (decide ((j.1.length:Int)<2)) then (some ([]: (List aX))) else ((jC N j.1).bind fun ai=>some ai)
def iJ (N:Nat) (p0_0: (List Part)) (p0_1: (List Net)) (p0_2: (List (aX×Int))) (p0_3: (List (aX×Bool))) (p1:bJ):Option ((List bR)×(List aX)×Bool):=
 (jI p1.aS.length (fun(aa:Nat) (j: (List (bR×Bool))×(List aX)×Int)=>((idx p1.aS (aa:Int)).bind fun o=>bif (fR p0_2 o) then ((idx p0_1 (dH p0_2 o (0:Int))).bind fun ab=>(app 32 j.2.1 ([o]: (List aX))).bind fun ad=>some ((kT j.1 ab.Name true),ad,j.2.2)) else (bif (dH p0_3 o (false:Bool)) then ((app 32 j.2.1 ([o]: (List aX))).bind fun ae=>some (j.1,ae,(IntKind.wrap .i64 (j.2.2+1)))) else (some (j.1,j.2.1,j.2.2))):Option ((List (bR×Bool))×(List aX)×Int))) (([]: (List (bR×Bool))),([]: (List aX)),0)).bind fun j=>(Ab j.1).bind fun af=>some (af,j.2.1,(decide ((IntKind.wrap .i64 ((j.1.length:Int)+j.2.2))>1)))
def jd (N:Nat) (p0_0: (List Part)) (p0_1: (List Net)) (p0_2: (List (aX×Int))) (p0_3: (List (aX×Bool))) (p1:aX):Option (Bool):=
 (bif (fR p0_2 p1) then (some true) else (some (dH p0_3 p1 (false:Bool)))).bind fun j=>some j
def fO (N:Nat) (p0: (List aL)) (p1:bK) (p2:kr):Option ((List dC)×Int):=
 (jm N p0 p1 p2).bind fun aa=>Ge aa.1 (bif (aa.2 != 0) then (some (([]: (List dC)),aa.2)) else (none)) (fun(j: ((List (List aJ))×(List aJ)×(List cN)×(List eQ)×(List (List aA))×(List aI)×(List (List Int))×(List bJ)×(List Int)×(List Int)×(List Int)×(List kb)))=>bif (aa.2 != 0) then (some (([]: (List dC)),aa.2)) else ((km N p1).bind fun ai=>(kx N p0 p1).bind fun aj=>(jI aj.length (fun(au:Nat) (ae: (List (aX×Bool)))=>((idx aj (au:Int)).bind fun av=>some (kT ae av true):Option ((List (aX×Bool))))) ([]: (List (aX×Bool)))).bind fun ae=>(jI p1.bE.length (fun(aw:Nat) (ag: (List aX))=>((idx p1.bE (aw:Int)).bind fun ak=>(jI ak.aS.length (fun(ax:Nat) (af: (List aX))=>((idx ak.aS (ax:Int)).bind fun al=>(iT N p2 al).bind fun ay=>(bif (decide (ay<0)) then ((app 32 af ([al]: (List aX))).bind fun az=>some az) else (some af)).bind fun a0=>some a0:Option ((List aX)))) ag).bind fun af=>some af:Option ((List aX)))) ([]: (List aX))).bind fun ag=>(sd (dB N) ag).bind fun an=>(bif (decide ((an.length:Int)>0)) then ((app 56 ([]: (List dC)) ([(⟨1,[],an⟩:dC)]: (List dC))).bind fun a1=>some a1) else (some ([]: (List dC)))).bind fun a2=>(jI p1.bE.length (fun(a3:Nat) (o: (List Int)×(List dC))=>((idx p1.bE (a3:Int)).bind fun ao=>(jD N j.1 j.2.1 j.2.2.1 j.2.2.2.1 o.1 ao).bind fun aq=>(bif (decide ((aq.length:Int)>0)) then ((app 56 o.2 ([(⟨2,([ao.Name]: (List bR)),aq⟩:dC)]: (List dC))).bind fun a4=>some a4) else (some o.2)).bind fun a5=>some (o.1,a5):Option ((List Int)×(List dC)))) (j.2.2.2.2.2.2.2.2.2.2.1,a2)).bind fun o=>(jI j.2.2.2.2.2.2.2.1.length (fun(a6:Nat) (ab: (List dC))=>((idx j.2.2.2.2.2.2.2.1 (a6:Int)).bind fun a7=>(iJ N p1.cJ p1.bE ai ae a7).bind fun ah=>(bif ah.2.2 then ((app 56 ab ([(⟨3,ah.1,ah.2.1⟩:dC)]: (List dC))).bind fun a8=>some a8) else (some ab)).bind fun a9=>some a9:Option ((List dC)))) o.2).bind fun ab=>(jI p2.bM.length (fun(ba:Nat) (ad: (List aX))=>((idx p2.bM (ba:Int)).bind fun ar=>(iO N ar).bind fun bb=>(jd N p1.cJ p1.bE ai ae bb).bind fun bc=>(bif (!bc) then ((iO N ar).bind fun bd=>(app 32 ad ([bd]: (List aX))).bind fun bf=>some bf) else (some ad)).bind fun bg=>some bg:Option ((List aX)))) ([]: (List aX))).bind fun ad=>(bif (decide ((ad.length:Int)>0)) then ((app 56 ab ([(⟨4,[],ad⟩:dC)]: (List dC))).bind fun bh=>some bh) else (some ab)).bind fun bj=>some (bj,0)))
def dL (N:Nat):Option (Bool):=
 (jM N (⟨⟨0,0⟩,2,0,0,false⟩:cN)).bind fun j=>(bif (j.2==0) then (some (decide (j.1= (⟨(-1),(-1),1,1⟩:aJ)))) else (some false)).bind fun o=>some o
def kG (N:Nat) (p0: (List aL)) (p1:bK) (p2:aX):Option (bR×Bool×Int):=
 (ir N p0 p1).bind fun j=>bif (j != 0) then (some (⟨[]⟩,false,j)) else ((kZ N p0 p1.cJ p2).bind fun aa=>bif (!aa) then (some (⟨[]⟩,false,9)) else ((km N p1).bind fun o=>bif (!(fR o p2)) then (some (⟨[]⟩,false,0)) else ((idx p1.bE (dH o p2 (0:Int))).bind fun ab=>some (ab.Name,true,0))))
def jY (N:Nat) (p0:kr) (p1:aX):Option (Int×Bool×Int):=
 (gF N p0).bind fun j=>Ge j.1 (bif (j.2 != 0) then (some (0,false,j.2)) else ((iT N p0 p1).bind fun ab=>bif (decide (ab<0)) then (some (0,false,9)) else (none))) (fun(aa: ((List (List aJ))×(List aJ)×(List cN)×(List eQ)×(List (List aA))×(List aI)×(List (List Int))×(List bJ)×(List Int)×(List Int)×(List Int)×(List kb)))=>bif (j.2 != 0) then (some (0,false,j.2)) else ((iT N p0 p1).bind fun o=>bif (decide (o<0)) then (some (0,false,9)) else ((idx aa.2.2.2.2.2.2.2.2.2.2.1 o).bind fun ad=>bif (decide (ad<0)) then (some (0,false,0)) else ((idx aa.2.2.2.2.2.2.2.2.2.2.1 o).bind fun ae=>some (ae,true,0)))))
def fJ (N:Nat) (p0: (List aL)) (p1:bK) (p2:kr) (p3 p4:aX):Option (Bool):=
 (fO N p0 p1 p2).bind fun o=>bif (o.2 != 0) then ((bif ((o.1.length:Int)==0) then ((dL N).bind fun af=>some af) else (some false)).bind fun ag=>some ag) else ((nL (fun(j:Int)=>(bif (decide (j< (o.1.length:Int))) then ((idx o.1 j).bind fun ah=>bif (ah.Kind != 4) then ((dL N).bind fun ai=>some (.rt ai)) else (some (.nx (IntKind.wrap .i64 (j+1))))) else (some (.br j)):Option (Fl (Int) Bool))) N 0).bind fun aj=>aj.cs (fun(j:Int)=>(kG N p0 p1 p3).bind fun aa=>(kG N p0 p1 p4).bind fun ab=>(jY N p2 p3).bind fun ad=>(jY N p2 p4).bind fun ae=>bif (((((decide (p3=p4))||(aa.2.2 != 0))||(ab.2.2 != 0))||(ad.2.2 != 0))||(ae.2.2 != 0)) then ((dL N).bind fun ak=>some ak) else ((bif (((ad.2.1&&ae.2.1)&&(ad.1==ae.1))==((aa.2.1&&ab.2.1)&&(aa.1.oW ab.1))) then ((dL N).bind fun al=>some al) else (some false)).bind fun an=>some an)) (fun r=>some r))
end
end Go.Gk
namespace Go.Gk
open Go
def lK {R:Type} (m:Nat) (e:Nat->Option R):Option R:=(List.range m).findSome? e
theorem jo {R:Type} {m:Nat} {e:Nat->Option R}:lK m e=none↔∀k,k<m->e k=none:=by
 simp [lK]
theorem jq {R:Type} {m:Nat} {e:Nat->Option R} {r:R}:lK m e=some r↔∃k,k<m/\e k=some r/\∀j,j<k->e j=none:=by
 constructor
 ·intro h
  obtain⟨l1,a,l2,hl,ha,hn⟩:=List.findSome?_eq_some_iff.1 h
  have hlen:l1.length<m:=by have:=congrArg List.length hl;simp at this;omega
  have hget: ∀i,i<l1.length->l1[i]? =some i:=fun i hi=>by
   have:=congrArg (·[i]?) hl
   simp only [fP hi,List.getElem?_range (show i<m by omega)] at this
   exact this.symm
  have hat:a=l1.length:=by
   have:=congrArg (·[l1.length]?) hl
   simp [List.getElem?_range hlen] at this
   exact this.symm
  refine⟨a,by omega,ha,fun j hj=>hn j ?_⟩
  exact eN (hget j (by omega))
 ·rintro⟨k,hk,he,hn⟩
  refine List.findSome?_eq_some_iff.2 ⟨List.range k,k,(List.range (m - k - 1)).map (· + (k+1)),?_,he,fun x hx=>hn x (o6.1 hx)⟩
  refine List.ext_getElem? fun i=>?_
  by_cases h1:i<k
  ·rw [fP (by simpa using h1),List.getElem?_range (by omega),List.getElem?_range h1]
  ·rw [fF (by simpa using h1),List.length_range]
   by_cases h2:i=k
   ·subst h2;simp [List.getElem?_range hk]
   ·obtain⟨d,rfl⟩: ∃d,i=k+1+d:=⟨i - (k+1),by omega⟩
    rw [show k+1+d - k=d+1 by omega,List.getElem?_cons_succ,gH]
    by_cases h3:k+1+d<m
    ·rw [List.getElem?_range h3,List.getElem?_range (by omega)];simp;omega
    ·rw [List.getElem?_eq_none (by simp;omega),List.getElem?_eq_none (by simp;omega)];rfl
theorem Hd {R R':Type} {m:Nat} {e:Nat->Option R} (f:R->R'): (lK m e).map f=lK m (fun k=>(e k).map f):=by
 cases hx:lK m e with
 | none=>exact(jo.2 fun k hk=>by rw [jo.1 hx k hk];rfl).symm
 | some r=>
  obtain⟨k,hk,he,hn⟩:=jq.1 hx
  exact(jq.2 ⟨k,hk,by rw [he];rfl,fun j hj=>by rw [hn j hj];rfl⟩).symm
section
variable {S R:Type}
def zL (o:Option R) (s:S):Fl S R:=match o with | some r=> .rt r | none=> .nx s
def A6 (o:Option R) (s:S):Fo S R:=match o with | some r=> .rt r | none=> .go s
theorem Cs {body:Nat->S->Option (Fl S R)} (F:Nat->S) (e:Nat->Option R) (m:Nat): ∀(n k:Nat),k+n=m->
  (∀j,k<=j->j<m->(∀i,k<=i->i<j->e i=none)->body j (F j)=some (zL (e j) (F (j+1))))->
  ∃o,AH body n k (F k)=some o/\((∀j,k<=j->j<m->e j=none)/\o = .go (F m)\/∃j r,k<=j/\j<m/\e j=some r/\(∀i,k<=i->i<j->e i=none)/\o = .rt r)
 | 0,k,hk,_=>⟨_,rfl, .inl ⟨fun j h1 h2=>by omega,by rw [show k=m by omega]⟩⟩
 | n+1,k,hk,h=>by
  have hb:=h k (bI _) (by omega) (fun i h1 h2=>by omega)
  unfold AH
  rw [hb]
  cases hx:e k with
  | some r=>exact⟨_,rfl, .inr ⟨k,r,bI _,by omega,hx,fun i h1 h2=>by omega,rfl⟩⟩
  | none=>
   obtain⟨o,ho,hc⟩:=Cs F e m n (k+1) (by omega) (fun j h1 h2 h3=>h j (by omega) h2 fun i h4 h5=>by
    by_cases h6:i=k
    ·subst h6;exact hx
    ·exact h3 i (by omega) h5)
   refine⟨o,ho,?_⟩
   rcases hc with ⟨h1,h2⟩ | ⟨j,r,h1,h2,h3,h4,h5⟩
   ·refine .inl ⟨fun j h3 h4=>?_,h2⟩
    by_cases h6:j=k
    ·subst h6;exact hx
    ·exact h1 j (by omega) h4
   ·refine .inr ⟨j,r,by omega,h2,h3,fun i h6 h7=>?_,h5⟩
    by_cases h8:i=k
    ·subst h8;exact hx
    ·exact h4 i (by omega) h7
theorem EA {body:Nat->S->Option (Fl S R)} {m:Nat} {s:S} (F:Nat->S) (e:Nat->Option R) (hm:m<=4611686018427387904) (hs:F 0=s)
  (h: ∀k,k<m->(∀i,i<k->e i=none)->body k (F k)=some (zL (e k) (F (k+1)))):qE m body s=some (A6 (lK m e) (F m)):=by
 subst hs
 unfold qE
 rw [aC hm]
 obtain⟨o,ho,hc⟩:=Cs F e m m 0 (by omega) (fun j _ h2 h3=>h j h2 fun i hi=>h3 i (mw _) hi)
 rw [ho]
 rcases hc with ⟨h1,h2⟩ | ⟨j,r,_,h2,h3,h4,h5⟩
 ·rw [jo.2 fun k hk=>h1 k (mw _) hk,h2];rfl
 ·rw [jq.2 ⟨j,h2,h3,fun i hi=>h4 i (mw _) hi⟩,h5];rfl
theorem lh {body:Nat->Unit->Option (Fl Unit R)} {m:Nat} (e:Nat->Option R) (hm:m<=4611686018427387904)
  (h: ∀k,k<m->(∀i,i<k->e i=none)->body k ()=some (zL (e k) ())):qE m body ()=some (A6 (lK m e) ()):=
 EA (fun _=>()) e hm rfl h
theorem Ct {body:Nat->S->Option S} (F:Nat->S): ∀(n k:Nat),(∀j,k<=j->j<k+n->body j (F j)=some (F (j+1)))->Da body n k (F k)=some (F (k+n))
 | 0,_,_=>rfl
 | n+1,k,h=>by
  unfold Da
  rw [h k (bI _) (by omega)]
  have:=Ct F n (k+1) (fun j h1 h2=>h j (by omega) (by omega))
  rw [show k+ (n+1)=k+1+n by omega]
  exact this
theorem vH {body:Nat->S->Option S} {m:Nat} {s:S} (F:Nat->S) (hm:m<=4611686018427387904) (hs:F 0=s)
  (h: ∀k,k<m->body k (F k)=some (F (k+1))):jI m body s=some (F m):=by
 subst hs
 unfold jI
 rw [aC hm]
 have:=Ct F m 0 (fun j _ h2=>h j (by omega))
 rwa [fQ] at this
theorem tF {body:S->Option (Fl S R)} (Inv:S->Prop) (μ:S->Nat) (Go:S->Prop) (Rt:R->Prop)
  (h: ∀s,Inv s->∃fl,body s=some fl/\match fl with | .nx s'=>Inv s'/\μ s'<μ s | .br s'=>Go s' | .rt r=>Rt r):
  ∀(N:Nat) (s:S),Inv s->μ s<N->∃o,nL body N s=some o/\match o with | .go s'=>Go s' | .rt r=>Rt r
 | 0,s,_,hn=>by omega
 | N+1,s,hi,hn=>by
  obtain⟨fl,hb,hf⟩:=h s hi
  unfold nL
  rw [hb]
  cases fl with
  | nx s'=>exact tF Inv μ Go Rt h N s' hf.1 (by have:=hf.2;omega)
  | br s'=>exact⟨_,rfl,hf⟩
  | rt r=>exact⟨_,rfl,hf⟩
theorem Cu {body:Nat->S->Option (Fl S R)} (Inv:Nat->S->Prop) (Go:S->Prop) (Rt:R->Prop) (m:Nat)
  (h: ∀k s,k<m->Inv k s->∃fl,body k s=some fl/\match fl with | .nx s'=>Inv (k+1) s' | .br s'=>Go s' | .rt r=>Rt r) (hg: ∀s,Inv m s->Go s):
  ∀(n k:Nat) (s:S),k+n=m->Inv k s->∃o,AH body n k s=some o/\match o with | .go s'=>Go s' | .rt r=>Rt r
 | 0,k,s,hk,hi=>⟨_,rfl,hg s (by rw [<-hk];exact hi)⟩
 | n+1,k,s,hk,hi=>by
  obtain⟨fl,hb,hf⟩:=h k s (by omega) hi
  unfold AH
  rw [hb]
  cases fl with
  | nx s'=>exact Cu Inv Go Rt m h hg n (k+1) s' (by omega) hf
  | br s'=>exact⟨_,rfl,hf⟩
  | rt r=>exact⟨_,rfl,hf⟩
theorem IH {body:Nat->S->Option (Fl S R)} {m:Nat} {s:S} (Inv:Nat->S->Prop) (Go:S->Prop) (Rt:R->Prop) (hm:m<=4611686018427387904) (h0:Inv 0 s)
  (h: ∀k s,k<m->Inv k s->∃fl,body k s=some fl/\match fl with | .nx s'=>Inv (k+1) s' | .br s'=>Go s' | .rt r=>Rt r) (hg: ∀s,Inv m s->Go s):
  ∃o,qE m body s=some o/\match o with | .go s'=>Go s' | .rt r=>Rt r:=by
 unfold qE
 rw [aC hm]
 exact Cu Inv Go Rt m h hg m 0 s (by omega) h0
theorem Cv {body:Nat->S->Option S} (Inv:Nat->S->Prop) (m:Nat) (h: ∀k s,k<m->Inv k s->∃s',body k s=some s'/\Inv (k+1) s'):
  ∀(n k:Nat) (s:S),k+n=m->Inv k s->∃s',Da body n k s=some s'/\Inv m s'
 | 0,k,s,hk,hi=>⟨_,rfl,by rw [<-hk];exact hi⟩
 | n+1,k,s,hk,hi=>by
  obtain⟨s',hb,hf⟩:=h k s (by omega) hi
  unfold Da
  rw [hb]
  exact Cv Inv m h n (k+1) s' (by omega) hf
theorem x0 {body:Nat->S->Option S} {m:Nat} {s:S} (Inv:Nat->S->Prop) (hm:m<=4611686018427387904) (h0:Inv 0 s)
  (h: ∀k s,k<m->Inv k s->∃s',body k s=some s'/\Inv (k+1) s'): ∃s',jI m body s=some s'/\Inv m s':=by
 unfold jI
 rw [aC hm]
 exact Cv Inv m h m 0 s (by omega) h0
end
section
variable {α β:Type}
theorem aB (x:α) (f:α->Option β): (some x).bind f=f x:=rfl
theorem gU (l:List α) (k:Nat) (h:k<l.length):idx l ((k:Nat):Int)=some l[k]:=by
 unfold idx;rw [aC (by omega),cK,aK h]
theorem eX {l:List α} {k:Nat} {x:α} (h:l[k]? =some x):idx l ((k:Nat):Int)=some x:=by
 unfold idx;rw [aC (by omega),cK,h]
theorem He (s:bR) (k:Nat) (h:k<s.cB.length):E0 s ((k:Nat):Int)=some s.cB[k]:=by
 unfold E0;rw [aC (by omega),cK,aK h]
theorem lL {k:Nat} (h:0<k) (hk:k<=4611686018427387904):IntKind.wrap .i64 (((k:Nat):Int) - 1)= ((k - 1:Nat):Int):=by
 rw [dW (by omega) (by omega)];omega
theorem p8 (l:List α) (k:Nat) (h:k<=l.length):uE l 0 ((k:Nat):Int)=some (l.take k):=by
 unfold uE;rw [aC ⟨by omega,by omega,by omega⟩]
 simp only [Int.toNat_zero,List.drop_zero,Int.sub_zero,cK]
theorem vI (l:List α) (k:Nat) (h:k<=l.length):uE l ((k:Nat):Int) ((l.length:Nat):Int)=some (l.drop k):=by
 unfold uE;rw [aC ⟨by omega,by omega,by omega⟩]
 simp only [cK,Option.some.injEq]
 rw [o7];rw [gS];omega
theorem gL {b:Nat} {l ys:List α} (h: (l.length+ys.length)*b<=140737488355328):app b l ys=some (l++ys):=by unfold app;rw [aC h]
theorem vJ {b:Nat} (z:α) {n:Nat} (h:n*b<=140737488355328):mk b z ((n:Nat):Int)=some (List.replicate n z):=by
 unfold mk
 have e: ((n:Nat):Int)* ((b:Nat):Int)= ((n*b:Nat):Int):=(Int.natCast_mul n b).symm
 rw [e]
 generalize n*b=q at h ⊢
 rw [aC ⟨by omega,by omega⟩,cK]
end
theorem bR.ext' {a b:bR} (h:a.cB=b.cB):a=b:=by cases a;cases b;simp at h;rw [h]
theorem ph {a b:bR}:a.oW b=true↔a=b:=by
 unfold bR.oW;rw [beq_iff_eq];exact⟨bR.ext',fun h=>by rw [h]⟩
theorem ov {a b:bR}:a.oW b=false↔a≠b:=by rw [<-iM,ph]
theorem A7 (a b:bR):a.oW b=decide (a=b):=by rw [fH,ph];simp
theorem xv: ∀(a:List UInt8),Op.bytesLess a a=false
 | []=>rfl
 | a::l=>by
  unfold Op.bytesLess
  rw [xv l];simp
theorem yD: ∀{a b c:List UInt8},Op.bytesLess a b=true->Op.bytesLess b c=true->Op.bytesLess a c=true
 | [],[],_,h,_=>by simp [Op.bytesLess] at h
 | [],_::_,[],_,h=>by simp [Op.bytesLess] at h
 | [],_::_,_::_,_,_=>rfl
 | _::_,[],_,h,_=>by simp [Op.bytesLess] at h
 | _::_,_::_,[],_,h=>by simp [Op.bytesLess] at h
 | a::l,b::m,c::n,h1,h2=>by
  unfold Op.bytesLess at h1 h2 ⊢
  simp only [dS,cC,cE,beq_iff_eq] at h1 h2 ⊢
  rcases h1 with h1 | ⟨rfl,h1⟩
  ·rcases h2 with h2 | ⟨rfl,h2⟩
   ·exact .inl (UInt8.lt_trans h1 h2)
   ·exact .inl h1
  ·rcases h2 with h2 | ⟨rfl,h2⟩
   ·exact .inl h2
   ·exact .inr ⟨rfl,yD h1 h2⟩
theorem yE: ∀(a b:List UInt8),Op.bytesLess a b=true\/a=b\/Op.bytesLess b a=true
 | [],[]=> .inr (.inl rfl)
 | [],_::_=> .inl rfl
 | _::_,[]=> .inr (.inr rfl)
 | a::l,b::m=>by
  unfold Op.bytesLess
  simp only [dS,cC,cE,beq_iff_eq]
  by_cases h1:a<b
  ·exact .inl (.inl h1)
  ·by_cases h2:b<a
   ·exact .inr (.inr (.inl h2))
   ·have e:a=b:=by
     simp only [UInt8.lt_iff_toNat_lt] at h1 h2
     exact UInt8.toNat_inj.1 (by omega)
    subst e
    rcases yE l m with h | h | h
    ·exact .inl (.inr ⟨rfl,h⟩)
    ·exact .inr (.inl (by rw [h]))
    ·exact .inr (.inr (.inr ⟨rfl,h⟩))
theorem m7: ∀(a b:List UInt8),Lib.compareBytes a b<0↔Op.bytesLess a b=true
 | [],[]=>by simp [Lib.compareBytes,Op.bytesLess]
 | [],_::_=>by simp [Lib.compareBytes,Op.bytesLess]
 | _::_,[]=>by simp [Lib.compareBytes,Op.bytesLess]
 | a::l,b::m=>by
  unfold Lib.compareBytes Op.bytesLess
  simp only [dS,cC,cE,beq_iff_eq]
  split
  ·simp_all
  ·rename_i h1
   split
   ·rename_i h2
    have h3:a≠b:=fun e=>by subst e;exact h1 h2
    simp [h1,h3]
   ·rename_i h2
    have e:a=b:=by
     simp only [UInt8.lt_iff_toNat_lt] at h1 h2
     exact UInt8.toNat_inj.1 (by omega)
    subst e
    rw [m7 l m];simp [h1]
theorem iE: ∀(a b:List UInt8),Lib.compareBytes a b=0↔a=b
 | [],[]=>by simp [Lib.compareBytes]
 | [],_::_=>by simp [Lib.compareBytes]
 | _::_,[]=>by simp [Lib.compareBytes]
 | a::l,b::m=>by
  unfold Lib.compareBytes
  split
  ·rename_i h1
   have h3:a≠b:=fun e=>by subst e;exact absurd h1 (by simp)
   simp [h3]
  ·rename_i h1
   split
   ·rename_i h2
    have h3:a≠b:=fun e=>by subst e;exact h1 h2
    simp [h3]
   ·rename_i h2
    have e:a=b:=by
     simp only [UInt8.lt_iff_toNat_lt] at h1 h2
     exact UInt8.toNat_inj.1 (by omega)
    subst e
    rw [iE l m];simp
def bR.lt (a b:bR):Prop:=a.xF b=true
theorem bR.lt_irrefl (a:bR): ¬bR.lt a a:=by unfold bR.lt bR.xF;rw [xv];decide
theorem bR.lt_trans {a b c:bR} (h1:bR.lt a b) (h2:bR.lt b c):bR.lt a c:=yD h1 h2
theorem bR.p9 (a b:bR):bR.lt a b\/a=b\/bR.lt b a:=by
 rcases yE a.cB b.cB with h | h | h
 ·exact .inl h
 ·exact .inr (.inl (bR.ext' h))
 ·exact .inr (.inr h)
theorem bR.yF {a b:bR} (h:bR.lt a b):a≠b:=fun e=>by subst e;exact bR.lt_irrefl a h
theorem bR.lt_asymm {a b:bR} (h:bR.lt a b): ¬bR.lt b a:=fun h'=>bR.lt_irrefl a (bR.lt_trans h h')
theorem EB {a b:bR}: (a.xF b||a.oW b)=false↔bR.lt b a:=by
 rw [Bool.or_eq_false_iff,ov]
 constructor
 ·rintro⟨h1,h2⟩
  rcases bR.p9 a b with h | h | h
  ·unfold bR.lt at h;rw [h1] at h;cases h
  ·exact absurd h h2
  ·exact h
 ·intro h
  refine⟨?_,fun e=>bR.yF h e.symm⟩
  rw [<-iM];exact fun h'=>bR.lt_asymm h h'
end Go.Gk
namespace Go.Gk
open Go
class Bk (α:Type) where
 bk:α->Nat
 pos: ∀x,1<=bk x
def bk {α:Type} [Bk α] (x:α):Nat:=Bk.bk x
theorem Hf {α:Type} [Bk α] (x:α):1<=bk x:=Bk.pos x
instance:Bk bR:=⟨fun s=>s.cB.length+1,fun _=>by omega⟩
instance:Bk Int:=⟨fun _=>1,fun _=>by omega⟩
instance:Bk Bool:=⟨fun _=>1,fun _=>by omega⟩
instance {α:Type} [Bk α]:Bk (List α):=⟨fun l=>(l.map bk).sum+1,fun _=>by omega⟩
theorem Hg {α:Type} [Bk α]:bk ([]:List α)=1:=rfl
theorem A8 {α:Type} [Bk α] (x:α) (l:List α):bk (x::l)=bk x+bk l:=by
 show (List.map bk (x::l)).sum+1=bk x+ ((List.map bk l).sum+1)
 simp;omega
theorem yG {α:Type} [Bk α]: ∀{l:List α} {x:α},x∈l->bk x+1<=bk l
 | y::l,x,h=>by
  rw [A8]
  rcases fG.1 h with h | h
  ·subst h;have:=Hf l;omega
  ·have:=yG h;omega
theorem uM {α:Type} [Bk α] {l:List α} {k:Nat} {x:α} (h:l[k]? =some x):bk x+1<=bk l:=yG (eN h)
theorem kL {α:Type} [Bk α]: ∀(l:List α),l.length+1<=bk l
 | []=>by rw [Hg];simp
 | x::l=>by rw [A8,gI];have:=kL l;have:=Hf x;omega
theorem uN (s:bR):bk s=s.cB.length+1:=rfl
section
variable {α R:Type}
theorem Ft {l:List α} {e:Nat->Option R} (f:α->Option R) (h: ∀k x,l[k]? =some x->e k=f x):lK l.length e=l.findSome? f:=by
 cases hx:lK l.length e with
 | none=>
  refine(List.findSome?_eq_none_iff.2 fun x hm=>?_).symm
  obtain⟨k,hk⟩:=eA hm
  rw [<-h k x hk];exact jo.1 hx k (aZ.1 hk).1
 | some r=>
  obtain⟨k,hk,he,hn⟩:=jq.1 hx
  refine(List.findSome?_eq_some_iff.2 ⟨l.take k,l[k],l.drop (k+1),?_,?_,fun y hy=>?_⟩).symm
  ·rw [<-qF hk,List.take_append_drop]
  ·rw [<-h k l[k] (aK hk)];exact he
  ·obtain⟨j,hj⟩:=eA hy
   have hjk:j<k:=by have:=(aZ.1 hj).1;rw [cV] at this;omega
   rw [List.getElem?_take_of_lt hjk] at hj
   rw [<-h j y hj];exact hn j hjk
theorem A9 (l:List α) (p:α->Bool) (r:R):l.findSome? (fun x=>if p x=true then some r else none)=if l.any p=true then some r else none:=by
 induction l with
 | nil=>simp
 | cons x l ih=>
  rw [List.findSome?_cons,List.any_cons]
  cases h:p x <;> simp [ih]
theorem yH {l:List α} {body:Nat->Unit->Option (Fl Unit R)} (f:α->Option R) (hl:l.length<=4611686018427387904)
  (h: ∀k x,l[k]? =some x->body k ()=some (zL (f x) ())):qE l.length body ()=some (A6 (l.findSome? f) ()):=by
 have h2:=lh (body:=body) (m:=l.length) (fun k=>(l[k]?).bind f) hl (fun k hk _=>by
  rw [h k l[k] (aK hk),aK hk];rfl)
 rw [h2,Ft f (fun k x hx=>by rw [hx];rfl)]
theorem II {l:List α} {body:Nat->Unit->Option (Fl Unit R)} (p:α->Bool) (r:R) (hl:l.length<=4611686018427387904)
  (h: ∀k x,l[k]? =some x->body k ()=some (if p x=true then .rt r else .nx ())):qE l.length body ()=some (if l.any p=true then .rt r else .go ()):=by
 rw [yH (fun x=>if p x=true then some r else none) hl (fun k x hx=>by rw [h k x hx];cases p x <;> rfl),A9]
 cases l.any p <;> rfl
end
theorem IJ {β:Type} (b:Bool) (x y:β): (bif b then some x else some y)=some (bif b then x else y):=by cases b <;> rfl
section
variable {α β:Type}
def Cw (l:List α) (p:α->Bool):Int:=match l.findIdx? p with | some k=>((k:Nat):Int) | none=> -1
theorem yI {l:List α} {p:α->Bool} (h:l.any p=false):Cw l p = -1:=by
 unfold Cw
 rw [List.findIdx?_eq_none_iff.2]
 intro x hx
 rw [<-iM]
 intro hp
 rw [<-iM] at h
 exact h (ke.2 ⟨x,hx,hp⟩)
theorem Cx {l:List α} {p:α->Bool} {k:Nat} {x:α} (hk:l[k]? =some x) (hp:p x=true) (hn: ∀j y,j<k->l[j]? =some y->p y=false):Cw l p= ((k:Nat):Int):=by
 unfold Cw
 have hlt:=(aZ.1 hk).1
 have:l.findIdx? p=some k:=by
  rw [List.findIdx?_eq_some_iff_getElem]
  refine⟨hlt,?_,fun j hj=>?_⟩
  ·have:=aK hlt;rw [hk] at this;injection this with this;rw [<-this];exact hp
  ·have:=hn j l[j] hj (aK (by omega));simpa using this
 rw [this]
theorem j4 (l:List α) (p:α->Bool): (Cw l p = -1/\∀x∈l,p x=false)\/∃k x,Cw l p= ((k:Nat):Int)/\l[k]? =some x/\p x=true/\∀j y,j<k->l[j]? =some y->p y=false:=by
 unfold Cw
 cases h:l.findIdx? p with
 | none=>exact .inl ⟨rfl,fun x hx=>by have:=List.findIdx?_eq_none_iff.1 h x hx;simpa using this⟩
 | some k=>
  obtain⟨hk,hp,hn⟩:=List.findIdx?_eq_some_iff_getElem.1 h
  refine .inr ⟨k,l[k],rfl,aK hk,hp,fun j y hj hy=>?_⟩
  have:=hn j hj
  rw [aK (by omega)] at hy
  injection hy with hy
  subst hy;simpa using this
theorem DB (l:List α) (p:α->Bool):decide (Cw l p>=0)=l.any p:=by
 rcases j4 l p with ⟨h,hn⟩ | ⟨k,x,h,hx,hp,_⟩
 ·rw [h,List.any_eq_false.2 (fun x hx=>by rw [hn x hx];decide)];decide
 ·rw [h,ke.2 ⟨x,eN hx,hp⟩];simp
def qW (p0:List α) (p1:α->Option Bool):Option Int:=
 (qE p0.length (fun(k1:Nat) (_:Unit)=>((idx p0 ((k1:Nat):Int)).bind fun x7=>(p1 x7).bind fun x10=>bif x10 then (some (.rt ((k1:Nat):Int))) else (some (.nx ())):Option (Fl (Unit) Int))) ()).bind fun o11=>o11.cs (fun(_:Unit)=>some (-1)) (fun r=>some r)
theorem ui {l:List α} {φ:α->Option Bool} (p:α->Bool) (hl:l.length<=4611686018427387904) (h: ∀x∈l,φ x=some (p x)):qW l φ=some (Cw l p):=by
 unfold qW
 rw [lh (fun k=>(l[k]?).bind fun x=>if p x=true then some ((k:Nat):Int) else none) hl (fun k hk _=>by
  rw [gU l k hk,aB,h _ (dK hk),aB,aK hk]
  cases hp:p l[k] <;> simp [zL,hp]),aB]
 rcases j4 l p with ⟨h1,h2⟩ | ⟨k,x,h1,h2,h3,h4⟩
 ·rw [jo.2 (fun k hk=>by rw [aK hk];simp [h2 _ (dK hk)])]
  simp [A6,Fo.cs,h1]
 ·rw [(jq (r:=((k:Nat):Int))).2 ⟨k,(aZ.1 h2).1,by rw [h2];simp [h3],fun j hj=>by
   cases hy:l[j]? with
   | none=>rfl
   | some y=>simp [h4 j y hj hy]⟩]
  simp [A6,Fo.cs,h1]
def nu (p0:List α) (p1:α->Option Bool):Option Bool:=
 (qW p0 p1).bind fun x1=>some (decide (x1>=0))
theorem m8 {l:List α} {φ:α->Option Bool} (p:α->Bool) (hl:l.length<=4611686018427387904) (h: ∀x∈l,φ x=some (p x)):nu l φ=some (l.any p):=by
 unfold nu
 rw [ui p hl h,aB,DB]
def DC [DecidableEq α] (p0 p1:List α):Option Bool:=
 bif (((p0.length:Nat):Int) != ((p1.length:Nat):Int)) then (some false) else ((qE p0.length (fun(k1:Nat) (_:Unit)=>((idx p0 ((k1:Nat):Int)).bind fun x13=>(idx p1 ((k1:Nat):Int)).bind fun x16=>bif (!(decide (x13=x16))) then (some (.rt false)) else (some (.nx ())):Option (Fl (Unit) Bool))) ()).bind fun o23=>o23.cs (fun(_:Unit)=>some true) (fun r=>some r))
theorem Aj [DecidableEq α] {l m:List α} (hl:l.length<=4611686018427387904):DC l m=some (decide (l=m)):=by
 unfold DC
 by_cases h:l.length=m.length
 ·have e: (((l.length:Nat):Int) != ((m.length:Nat):Int))=false:=by rw [h];simp
  rw [e,aY]
  rw [lh (fun k=>if l[k]? =m[k]? then none else some false) hl (fun k hk _=>by
   rw [gU l k hk,aB,gU m k (by omega),aB,aK hk,aK (by omega:k<m.length)]
   by_cases hx:l[k]=m[k] <;> simp [zL,hx]),aB]
  by_cases hx:l=m
  ·subst hx;rw [jo.2 (fun k _=>aC rfl)];simp [A6,Fo.cs]
  ·have: ∃r,lK l.length (fun k=>if l[k]? =m[k]? then none else some false)=some r:=by
    cases hf:lK l.length (fun k=>if l[k]? =m[k]? then none else some false) with
    | some r=>exact⟨r,rfl⟩
    | none=>
     exfalso;refine hx (List.ext_getElem? fun i=>?_)
     by_cases hi:i<l.length
     ·have:=jo.1 hf i hi
      by_cases h6:l[i]? =m[i]?
      ·exact h6
      ·rw [aD h6] at this;cases this
     ·rw [List.getElem?_eq_none (by omega),List.getElem?_eq_none (by omega)]
   obtain⟨r,hr⟩:=this
   have hr2:r=false:=by
    obtain⟨k,_,hk,_⟩:=jq.1 hr
    split at hk
    ·cases hk
    ·injection hk with hk;exact hk.symm
   rw [hr,hr2];simp [A6,Fo.cs,hx]
 ·have e: (((l.length:Nat):Int) != ((m.length:Nat):Int))=true:=by simp;omega
  rw [e,aT,bS (fun h'=>h (by rw [h']))]
def Sorted (key:α->bR) (l:List α):Prop:=∀(i j:Nat) (x y:α),i<j->l[i]? =some x->l[j]? =some y->bR.lt (key x) (key y)
theorem Fu {key:α->bR} {l:List α} (h: ∀k x y,l[k]? =some x->l[k+1]? =some y->bR.lt (key x) (key y)):Sorted key l:=by
 intro i j
 induction j with
 | zero=>intro x y hij;omega
 | succ j ih=>
  intro x y hij hx hy
  by_cases e:i=j
  ·subst e;exact h i x y hx hy
  ·have hj:j<l.length:=by have:=(aZ.1 hy).1;omega
   exact bR.lt_trans (ih x l[j] (by omega) hx (aK hj)) (h j l[j] y (aK hj) hy)
theorem Sorted.inj {key:α->bR} {l:List α} (h:Sorted key l) {i j:Nat} {x y:α} (hx:l[i]? =some x) (hy:l[j]? =some y) (e:key x=key y):i=j:=by
 rcases Nat.lt_trichotomy i j with h1 | h1 | h1
 ·exact absurd e (bR.yF (h i j x y h1 hx hy))
 ·exact h1
 ·exact absurd e.symm (bR.yF (h j i y x h1 hy hx))
def nat? (key:α->bR) (l:List α) (s:bR):Int:=Cw l (fun x=>(key x).oW s)
def zM (N:Nat) (p0:List α) (p1:β) (p2:α->β->Option Int):Option (Int×Bool):=
 (nL (fun(s2:Int×Int)=>(bif (decide (s2.1<s2.2)) then ((idx p0 (IntKind.wrap .i64 (Int.fdiv (IntKind.wrap .u64 (IntKind.wrap .i64 (s2.1+s2.2))) 2))).bind fun x13=>(p2 x13 p1).bind fun x16=>(bif (decide (x16<0)) then (some ((IntKind.wrap .i64 ((IntKind.wrap .i64 (Int.fdiv (IntKind.wrap .u64 (IntKind.wrap .i64 (s2.1+s2.2))) 2))+1)),s2.2)) else (some (s2.1,(IntKind.wrap .i64 (Int.fdiv (IntKind.wrap .u64 (IntKind.wrap .i64 (s2.1+s2.2))) 2))))).bind fun s17=>some (.nx (s17.1,s17.2))) else (some (.br (s2.1,s2.2))):Option (Fl (Int×Int) Empty))) N (0,((p0.length:Nat):Int))).bind fun o29=>o29.cs (fun(s2:Int×Int)=>(bif (decide (s2.1< ((p0.length:Nat):Int))) then ((idx p0 s2.1).bind fun x25=>(p2 x25 p1).bind fun x28=>some (x28==0)) else (some false)).bind fun s23=>some (s2.1,s23)) (fun r=>r.elim)
theorem Ak {a b:Nat} (h:a<b) (hb:b<=4611686018427387904):IntKind.wrap .i64 (Int.fdiv (IntKind.wrap .u64 (IntKind.wrap .i64 (((a:Nat):Int)+ ((b:Nat):Int)))) 2)= (((a+b) / 2:Nat):Int):=by
 rw [dW (x:=((a:Nat):Int)+ ((b:Nat):Int)) (by omega) (by omega)]
 have e:IntKind.wrap .u64 (((a:Nat):Int)+ ((b:Nat):Int))= ((a+b:Nat):Int):=by
  show ((a:Int)+b) % 18446744073709551616=_
  omega
 rw [e,Int.fdiv_eq_ediv_of_nonneg _ (by omega),dW (by omega) (by omega)]
 omega
theorem Ba {N:Nat} {key:α->bR} {l:List α} {s:bR} {φ:α->bR->Option Int} (hφ: ∀x,φ x s=some (Lib.compareBytes (key x).cB s.cB)) (hs:Sorted key l)
  (hl:l.length<=1048576) (hN:4194304<=N): ∃r,zM N l s φ=some r/\(bif (!r.2) then (some (-1)) else (some r.1))=some (nat? key l s):=by
 unfold zM
 have h:=tF (S:=Int×Int) (R:=Empty)
  (body:=(fun(s2:Int×Int)=>(bif (decide (s2.1<s2.2)) then ((idx l (IntKind.wrap .i64 (Int.fdiv (IntKind.wrap .u64 (IntKind.wrap .i64 (s2.1+s2.2))) 2))).bind fun x13=>(φ x13 s).bind fun x16=>(bif (decide (x16<0)) then (some ((IntKind.wrap .i64 ((IntKind.wrap .i64 (Int.fdiv (IntKind.wrap .u64 (IntKind.wrap .i64 (s2.1+s2.2))) 2))+1)),s2.2)) else (some (s2.1,(IntKind.wrap .i64 (Int.fdiv (IntKind.wrap .u64 (IntKind.wrap .i64 (s2.1+s2.2))) 2))))).bind fun s17=>some (.nx (s17.1,s17.2))) else (some (.br (s2.1,s2.2))):Option (Fl (Int×Int) Empty))))
  (fun st=>∃a b:Nat,st= (((a:Nat):Int),((b:Nat):Int))/\a<=b/\b<=l.length/\(∀j x,j<a->l[j]? =some x->bR.lt (key x) s)/\(∀j x,b<=j->l[j]? =some x->¬bR.lt (key x) s))
  (fun st=>(st.2 - st.1).toNat)
  (fun st=>∃a:Nat,st.1= ((a:Nat):Int)/\a<=l.length/\(∀j x,j<a->l[j]? =some x->bR.lt (key x) s)/\(∀j x,a<=j->l[j]? =some x->¬bR.lt (key x) s))
  (fun _=>True) (by
   rintro st ⟨a,b,rfl,hab,hb,h1,h2⟩
   by_cases hlt:a<b
   ·have hm: (a+b) / 2<l.length:=by omega
    have hd:decide (((a:Nat):Int)< ((b:Nat):Int))=true:=by rw [cE];omega
    simp only [hd,aT,Ak hlt (by omega:b<=4611686018427387904),gU l _ hm,aB,hφ]
    by_cases hc:Lib.compareBytes (key l[(a+b) / 2]).cB s.cB<0
    ·have hc':bR.lt (key l[(a+b) / 2]) s:=(m7 _ _).1 hc
     simp only [hc,decide_true,aT,aB]
     refine⟨_,rfl,⟨(a+b) / 2+1,b,?_,by omega,hb,fun j x hj hx=>?_,h2⟩,?_⟩
     ·rw [dW (by omega) (by omega)];simp
     ·by_cases e:j= (a+b) / 2
      ·subst e;rw [aK hm] at hx;injection hx with hx;subst hx;exact hc'
      ·exact bR.lt_trans (hs j _ x _ (by omega) hx (aK hm)) hc'
     ·rw [dW (by omega) (by omega)];simp only;omega
    ·have hc': ¬bR.lt (key l[(a+b) / 2]) s:=fun h=>hc ((m7 _ _).2 h)
     simp only [hc,decide_false,aY,aB]
     refine⟨_,rfl,⟨a,(a+b) / 2,rfl,by omega,by omega,h1,fun j x hj hx=>?_⟩,by simp only;omega⟩
     by_cases e:j= (a+b) / 2
     ·subst e;rw [aK hm] at hx;injection hx with hx;subst hx;exact hc'
     ·exact fun h3=>hc' (bR.lt_trans (hs _ j _ x (by omega) (aK hm) hx) h3)
   ·have hd:decide (((a:Nat):Int)< ((b:Nat):Int))=false:=by rw [decide_eq_false_iff_not];omega
    simp only [hd,aY]
    exact⟨_,rfl,a,rfl,by omega,h1,fun j x hj hx=>h2 j x (by omega) hx⟩)
  N (0,((l.length:Nat):Int)) ⟨0,l.length,rfl,by omega,bI _,fun j x hj=>by omega,fun j x hj hx=>by have:=(aZ.1 hx).1;omega⟩ (by simp only;omega)
 obtain⟨o,ho,hc⟩:=h
 rw [ho,aB]
 cases o with
 | rt r=>exact r.elim
 | go st=>
  obtain⟨a,ha,hle,h1,h2⟩:=hc
  simp only [Fo.cs,ha]
  by_cases hlt:a<l.length
  ·have hd:decide (((a:Nat):Int)< ((l.length:Nat):Int))=true:=by rw [cE];omega
   simp only [hd,aT,gU l _ hlt,aB,hφ]
   refine⟨_,rfl,?_⟩
   by_cases he:key l[a]=s
   ·have e0:Lib.compareBytes (key l[a]).cB s.cB=0:=(iE _ _).2 (by rw [he])
    simp only [e0,BEq.rfl,nk,aY]
    unfold nat?
    rw [Cx (aK hlt) (ph.2 he) (fun j y hj hy=>by rw [ov];exact bR.yF (h1 j y hj hy))]
   ·have e0: (Lib.compareBytes (key l[a]).cB s.cB==0)=false:=by
     rw [beq_eq_false_iff_ne];intro h;exact he (bR.ext' ((iE _ _).1 h))
    simp only [e0,o8,aT]
    unfold nat?
    rw [yI]
    rw [List.any_eq_false]
    intro x hx
    rw [iM,ov]
    obtain⟨j,hj⟩:=eA hx
    intro hk
    by_cases hja:j<a
    ·exact bR.yF (h1 j x hja hj) hk
    ·by_cases e:j=a
     ·subst e;rw [aK hlt] at hj;injection hj with hj;subst hj;exact he hk
     ·have h3:=hs a j _ x (by omega) (aK hlt) hj
      rw [hk] at h3
      exact h2 a _ (bI _) (aK hlt) h3
  ·have hd:decide (((a:Nat):Int)< ((l.length:Nat):Int))=false:=by rw [decide_eq_false_iff_not];omega
   simp only [hd,aY,aB]
   refine⟨_,rfl,?_⟩
   simp only [o8,aT]
   unfold nat?
   rw [yI]
   rw [List.any_eq_false]
   intro x hx
   rw [iM,ov]
   obtain⟨j,hj⟩:=eA hx
   have:=(aZ.1 hj).1
   exact bR.yF (h1 j x (by omega) hj)
def lj (key:α->bR) (l:List α) (k:Nat):Bool:=match l[k]?,l[k - 1]? with | some x,some y=>decide (0<k)&&((key x).xF (key y)||(key x).oW (key y)) | _,_=>false
theorem Bb (key:α->bR) {l:List α} {k:Nat} {x:α} (hx:l[k]? =some x) (hl:l.length<=1048576):
  (bif (decide (((k:Nat):Int)>0)) then ((idx l (IntKind.wrap .i64 (((k:Nat):Int) - 1))).bind fun y=>some ((key x).xF (key y)||(key x).oW (key y))) else (some false))=some (lj key l k):=by
 have hk:=(aZ.1 hx).1
 unfold lj
 by_cases h0:0<k
 ·rw [cD (by omega),aT,lL h0 (by omega),gU l _ (by omega),aB,hx,aK (by omega:k - 1<l.length)]
  simp [h0]
 ·have:k=0:=by omega
  subst this
  rw [hx];simp
theorem nv {key:α->bR} {l:List α} (h: ∀k,k<l.length->lj key l k=false):Sorted key l:=Fu fun k x y hx hy=>by
 have hk:=(aZ.1 hy).1
 have:=h (k+1) hk
 unfold lj at this
 rw [hy,Nat.add_sub_cancel,hx] at this
 simp only [Nat.zero_lt_succ,decide_true,Bool.true_and] at this
 exact EB.1 this
end
end Go.Gk
namespace Go.Gk
open Go Go.ChangeShapes Go.WideShapes Go.RowKit
structure UB (ub: (H:Type)->DataW H->Nat) (ua: (H:Type)->List (DataW H)->Nat):Prop where
 str: ∀(H:Type) (b:List UInt8),ub H (.lit (.string b))=b.length+1
 pos: ∀(H:Type) (d:DataW H),1<=ub H d
 sl: ∀(H:Type) (e s:List (DataW H)),ub H (.slice e s)=ua H e+ua H s+1
 ag: ∀(H:Type) (l:List (DataW H)),ub H (.agg l)=ua H l+1
 nil: ∀(H:Type),ua H []=0
 cons: ∀(H:Type) (x:DataW H) (l:List (DataW H)),ua H (x::l)=ub H x+ua H l
def Hw (w:World):dO:=fun b=>w.heap[b]?
structure gq (ub: (H:Type)->DataW H->Nat) (P:Program) (T:TypeId) (α:Type) [GT α] [Bk α]:Prop where
 trod: ∀{H:Type} {enc:TypeId×Value->H} {w:World} {base:Nat} {spare:Nat->Bool} {held:Bool} {fuel:Nat} {cs:List Value} {d:DataW H×List MemPlace},
  DataW.trod enc P w base spare held fuel T cs=some d->∃x:α,GT.ok (Hw w) cs x/\bk x<=ub H d.1
 Ls: ∀{w:World} {r:Reach} {base:Nat} {v:Value},Value.okWide P w r base T v->v=ux α v.cells.toList
section
variable {ub: (H:Type)->DataW H->Nat} {ua: (H:Type)->List (DataW H)->Nat} {P:Program} {T e:TypeId}
theorem Fv (u:UB ub ua) (ht:P.underlying T=some (.int .i64)):gq ub P T Int where
 trod:=fun h=>by
  obtain⟨n,rfl,rfl,_⟩:=DataW.trod_int ht h
  exact⟨n,rfl,u.pos _ _⟩
 Ls:=fun h=>by obtain⟨n,rfl⟩:=okWide_int ht h;rfl
theorem DD (u:UB ub ua) (ht:P.underlying T=some .bool):gq ub P T Bool where
 trod:=fun h=>by
  obtain⟨n,rfl,rfl⟩:=DataW.trod_bool ht h
  exact⟨n,rfl,u.pos _ _⟩
 Ls:=fun h=>by obtain⟨n,rfl⟩:=okWide_bool ht h;rfl
theorem Fw (u:UB ub ua) (ht:P.underlying T=some .string):gq ub P T bR where
 trod:=fun h=>by
  obtain⟨s,rfl,rfl,_⟩:=DataW.trod_string ht h
  refine⟨⟨s.data.toList⟩,?_,?_⟩
  ·show [Value.string s]= [Gk.str ⟨s.data.toList⟩]
   cases s;rfl
  ·rw [u.str];exact bI _
 Ls:=fun h=>by obtain⟨n,rfl⟩:=okWide_string ht h;rfl
theorem xw {α:Type} {R:Nat->α->Prop}: ∀(n:Nat),(∀i,i<n->∃x,R i x)->∃l:List α,l.length=n/\∀i x,l[i]? =some x->R i x
 | 0,_=>⟨[],rfl,fun i x h=>by simp at h⟩
 | n+1,h=>by
  obtain⟨l,h1,h2⟩:=xw n (fun i hi=>h i (by omega))
  obtain⟨x,hx⟩:=h n (by omega)
  refine⟨l++[x],by simp [h1],fun i y hy=>?_⟩
  by_cases hi:i<n
  ·rw [fP (by omega)] at hy;exact h2 i y hy
  ·have:=(aZ.1 hy).1
   rw [cU] at this
   have:i=n:=by simp at this;omega
   subst this
   rw [fF (by omega),h1] at hy
   simp at hy;subst hy;exact hx
theorem Al {H α:Type} [Bk α] (u:UB ub ua): ∀{l:List α} {es:List (DataW H×List MemPlace)},l.length=es.length->
  (∀(i:Nat) (x:α) (y:DataW H×List MemPlace),l[i]? =some x->es[i]? =some y->bk x<=ub H y.1)->bk l<=ua H (es.map (·.1))+1
 | [],[],_,_=>by rw [Hg];omega
 | x::l,y::es,hl,h=>by
  have h1:=h 0 x y rfl rfl
  have h2:=Al (H:=H) u (l:=l) (es:=es) (by simpa using hl) (fun i x y hx hy=>h (i+1) x y (by simpa using hx) (by simpa using hy))
  rw [A8,dV,u.cons];omega
theorem Cy {w:World} {base:Nat} {a:Addr} {n:Nat} {cs:List Value} (h:w.cells? base a n=some cs):At (Hw w) a cs:=by
 intro j v hv
 obtain⟨_,hlen,hc⟩:=World.cells?_some h
 have hj:=(aZ.1 hv).1
 have h2:=hc j (by omega)
 rw [hv] at h2
 unfold vf Hw
 unfold World.cell? at h2
 exact h2
theorem jN {α:Type} [GT α] [Bk α] (u:UB ub ua) (he:gq ub P e α) (ht:P.underlying T=some (.slice e):=by kernel_rfl) (hc:P.cellsOf e=GT.sz α:=by kernel_rfl):gq ub P T (List α) where
 trod:=fun{H enc w base spare held fuel cs d} h=>by
  rcases DataW.trod_slice ht h with ⟨rfl,rfl⟩ | ⟨a,len,cap,elems,rest,n,_,rfl,rfl,_,hlc,hcm,hlen,hel,_⟩
  ·exact⟨[],⟨_,rfl,none,0,0,rfl,rfl,bI _,by simp [maxLen],fun i x hx=>by simp at hx⟩,u.pos _ _⟩
  ·have each: ∀i,i<len->∃x:α,(∃c y,GT.ok (Hw w) c x/\At (Hw w) (a.add (i*GT.sz α)) c/\elems[i]? =some y/\bk x<=ub H y.1):=by
    intro i hi
    have h1:=hel i hi
    rw [aK (by omega:i<elems.length),Option.bind_eq_some_iff] at h1
    obtain⟨c,h2,h3⟩:=h1
    obtain⟨x,h4,h5⟩:=he.trod h3
    refine⟨x,c,_,h4,?_,aK (by omega),h5⟩
    rw [hc] at h2
    exact Cy h2
   obtain⟨l,hl,hr⟩:=xw len each
   refine⟨l,⟨_,rfl,some a,len,cap,rfl,hl.symm,hlc,hcm,fun i x hx=>?_⟩,?_⟩
   ·obtain⟨c,y,h1,h2,_⟩:=hr i x hx
    exact⟨a,c,rfl,h1,h2⟩
   ·have:=Al (H:=H) u (l:=l) (es:=elems) (by omega) (fun i x y hx hy=>by
     obtain⟨c,y',_,_,h3,h4⟩:=hr i x hx
     rw [hy] at h3;injection h3 with h3;subst h3;exact h4)
    rw [u.sl];omega
 Ls:=fun h=>by obtain⟨a,n,c,rfl⟩:=okWide_slice ht h;rfl
def EC (ub: (H:Type)->DataW H->Nat) (ua: (H:Type)->List (DataW H)->Nat) (P:Program) (off:Nat) (fs:List Field) (β:Type) [GT β] (m:β->Nat):Prop:=
 ∀{H:Type} {enc:TypeId×Value->H} {w:World} {base:Nat} {spare:Nat->Bool} {held:Bool} {n:Nat} {cs:List Value} {ys:List (DataW H×List MemPlace)},
  (∀(i:Nat) (f:Field),fs[i]? =some f->DataW.trod enc P w base spare held n f.type ((cs.drop f.offset).take (P.cellsOf f.type))=ys[i]?)->ys.length=fs.length->
  cs.length=off+GT.sz β->∃x:β,GT.ok (Hw w) (cs.drop off) x/\m x<=ua H (ys.map (·.1))
theorem j5 {β:Type} [GT β] [Bk β] {off:Nat} {f:Field} (u:UB ub ua) (h:gq ub P f.type β) (ho:f.offset=off:=by exact rfl) (hc:P.cellsOf f.type=GT.sz β:=by kernel_rfl):EC ub ua P off [f] β bk:=by
 intro H enc w base spare held n cs ys hf hl hcs
 match ys,hl with
 | [y],_=>
  have h1:=hf 0 f rfl
  rw [ho,hc,o7 (by rw [gS];omega)] at h1
  obtain⟨x,h2,h3⟩:=h.trod (d:=y) h1
  exact⟨x,h2,by rw [dV,u.cons];omega⟩
theorem dP {α β:Type} [GT α] [GT β] [Bk α] {off off':Nat} {f:Field} {fs:List Field} {m:β->Nat} (u:UB ub ua) (h:gq ub P f.type α) (hr:EC ub ua P off' fs β m) (ho:f.offset=off:=by exact rfl) (hc:P.cellsOf f.type=GT.sz α:=by kernel_rfl) (hoff:off'=off+GT.sz α:=by exact rfl):EC ub ua P off (f::fs) (α×β) (fun x=>bk x.1+m x.2):=by
 intro H enc w base spare held n cs ys hf hl hcs
 have hsz:GT.sz (α×β)=GT.sz α+GT.sz β:=rfl
 match ys,hl with
 | y::ys,hl=>
  have h1:=hf 0 f rfl
  rw [ho,hc] at h1
  obtain⟨x,h2,h3⟩:=h.trod (d:=y) h1
  obtain⟨x',h4,h5⟩:=hr (n:=n) (cs:=cs) (ys:=ys) (fun i g hg=>hf (i+1) g hg) (by simpa using hl) (by omega)
  refine⟨(x,x'),⟨_,_,?_,h2,h4⟩,?_⟩
  ·rw [hoff,<-List.drop_drop,List.take_append_drop]
  ·rw [dV,u.cons];show bk x+m x'<=_;omega
theorem gC {γ β:Type} [GT β] [Bk γ] {fs:Array Field} {m:β->Nat} (u:UB ub ua) (f:γ->β) (g:β->γ) (hfg: ∀b,f (g b)=b) (ht:P.underlying T=some (.struct fs)) (h:EC ub ua P 0 fs.toList β m) (hm: ∀b,bk (g b)<=m b+1) (hc:P.cellsOf T=GT.sz β:=by kernel_rfl): @gq ub P T γ (GT.via f) _:=
 @gq.mk ub P T γ (GT.via f) _
  (fun{H enc w base spare held fuel cs d} hd=>by
   obtain⟨xs,n,_,rfl,hl,hlen,hf⟩:=DataW.trod_struct ht hd
   obtain⟨b,h1,h2⟩:=h (n:=n) (cs:=cs) (ys:=xs) (fun i g hg=>hf i g (by rw [<-Array.getElem?_toList];exact hg)) (by rw [hlen];simp) (by omega)
   refine⟨g b,?_,?_⟩
   ·show GT.ok (Hw w) cs (f (g b))
    rw [hfg];exact h1
   ·rw [u.ag];have:=hm b;omega)
  (fun hv=>by
   obtain⟨cs,rfl,_⟩:=okWide_struct ht hv
   cases cs;rfl)
theorem gq.arg {H:Type} {enc:TypeId×Value->H} {w:World} {base:Nat} {spare:Nat->Bool} {held:Bool} {r:Reach} {b0:Nat} {v:Value} {d:DataW H} {ps:List MemPlace} {α:Type} [GT α] [Bk α] (o:gq ub P T α)
  (hv:Value.okWide P w r b0 T v) (hd:DataW.Trod enc P w base spare held T v d ps): ∃x:α,uy (Hw w) v x/\bk x<=ub H d:=by
 obtain⟨fuel,hf⟩:=hd
 obtain⟨x,h1,h2⟩:=o.trod hf
 exact⟨x,⟨_,o.Ls hv,h1⟩,h2⟩
end
theorem Calls.fin {P:Program} {f:FuncId} {args:Array Value} {w:World} {R Q:Value->World->Prop} (h:Calls P f args w (gr R)) (k: ∀v w',R v w'->Q v w'):
  Calls P f args w (fun e W'=>∃v,e = .returned v/\Q v W'):=Calls.mono h fun _ w' ⟨v,e,hr⟩=>⟨v,e,k v w' hr⟩
def j8 (W:World):HP:=⟨fun M h=>hle (Hw W) M/\h=oy,fun k ⟨a,b⟩=>⟨EX a k,b⟩⟩
theorem Holds.begin (W:World):Holds W W [j8 W]:=by
 refine⟨Hw W,fun _=>oy,⟨rfl,rfl,rfl,bI _,fun b o h=>h,fun i Pr hq=>?_,fun _ _ _ _ h=>(by cases h),fun _ _ _ _ h=>(by cases h),fun _ _ _ _ _ _ _ h=>(by cases h)⟩⟩
 match i,hq with
 | 0,hq=>simp at hq;subst hq;exact⟨BK _,rfl⟩
section
variable {H:Type} {enc:TypeId×Value->H} {P:Program}
theorem Fx {f:Func} {s:ChangeSpec} {apart fresh handsOn again:Bool} {W W':World} {args:Array Value} {v:Value} {ds gs:List (DataW H)} {before pa pv:List MemPlace}
  (hW:DataW.Whole enc P f.params.toList s.vars apart W args.toList ds gs before)
  (hres: ∀(b:Nat) (sp:Nat->Bool) (hd:Bool),DataW.TrodAll enc P W' b sp hd f.resultTypes.toList (v.resultList f.resultTypes.size) (s.fn H (ds++gs)).results [])
  (hargs: ∀sp:Nat->Bool,(∀p∈before,sp p.block=true)->DataW.TrodAll enc P W' 0 sp true f.params.toList args.toList (s.fn H (ds++gs)).args pa)
  (hvars: ∀sp:Nat->Bool,(∀p∈before,sp p.block=true)->DataW.TrodVars enc P W' sp s.vars (s.fn H (ds++gs)).vars pv)
  (hps:before=pa++pv) (hb:Below W.heap.size W W')
  (hok: ∀(j:Nat) (t:TypeId) (r:Value),f.resultTypes[j]? =some t->(v.resultList f.resultTypes.size)[j]? =some r->Value.okWide P W' .any 0 t r):
  s.post enc P f apart fresh handsOn again W args v W':=by
 have hlt: ∀p∈before,p.block<W.heap.size:=fun p hp=>hW.lt p hp
 have hold: ∀p∈before,(fun b=>decide (b<W.heap.size)) p.block=true:=fun p hp=>by simpa using hlt p hp
 refine⟨ds,gs,before,[],pa,pv,hW,hres _ _ _,hargs _ hold,hvars _ hold,World.keptBut_mono (fun p hp=>⟨hp,?_⟩) (hb.frame (· ∈before)),fun _=>?_⟩
 ·rw [hps,cY] at hp
  exact Or.inr hp
 ·obtain⟨_,_,_,_,_,hz,hn⟩:=hW
  refine⟨hok,_,_,([]++pa)++pv,⟨[]++pa,pv,trodAll_append (hargs _ (fun _ _=>rfl)) (hres _ _ _),hvars _ (fun _ _=>rfl),rfl,?_,?_⟩,?_⟩
  ·intro b off hp
   have hin:MemPlace.cell b off∈before:=by rw [hps];simpa using hp
   rw [hb.frozen (hlt _ hin)]
   exact hz b off hin
  ·intro ha
   have:=hn ha
   rw [hps] at this
   simpa using this
  ·intro p hp _
   rw [hps]
   simpa using hp
theorem uj {W W':World} (hl:laidOutB P=true) (hb:Below W.heap.size W W') {sp:Nat->Bool}: ∀{ts:List TypeId} {vs:List Value} {ds:List (DataW H)} {ps:List MemPlace},
  (∀t∈ts,P.readableRec t=true/\t<P.types.size)->DataW.TrodAll enc P W 0 (fun _=>true) true ts vs ds ps->(∀p∈ps,p.block<W.heap.size)->(∀p∈ps,sp p.block=true)->DataW.TrodAll enc P W' 0 sp true ts vs ds ps
 | [],_,_,_,_,h,_,_=>by
  obtain⟨rfl,rfl,rfl⟩:=trodAll_nil h
  rfl
 | t::ts,_,_,_,ht,h,hlt,hsp=>by
  obtain⟨v,vs,d,ds,p,q,rfl,rfl,rfl,h1,h2⟩:=trodAll_cons h
  refine⟨p,q,?_,uj hl hb (fun t h=>ht t (by simp [h])) h2 (fun x hx=>hlt x (by simp [hx])) (fun x hx=>hsp x (by simp [hx])),rfl⟩
  exact WideElems.Trod_stays hl (ht t (by simp)).1 (ht t (by simp)).2 h1 (fun x hx=>hb.same (hlt x (by simp [hx]))) (fun x hx=>hsp x (by simp [hx]))
end
end Go.Gk
namespace Go.Gk
open Go
instance:Bk cM:=⟨fun x=>bk x.Name+bk x.Kind+bk x.bJ+1,fun _=>by omega⟩
theorem yJ (x:cM):bk x=bk x.Name+bk x.Kind+bk x.bJ+1:=rfl
instance:Bk aL:=⟨fun x=>bk x.Name+bk x.aS+1,fun _=>by omega⟩
theorem pj (x:aL):bk x=bk x.Name+bk x.aS+1:=rfl
instance:Bk Part:=⟨fun x=>bk x.Name+bk x.ju+1,fun _=>by omega⟩
theorem ED (x:Part):bk x=bk x.Name+bk x.ju+1:=rfl
instance:Bk aX:=⟨fun x=>bk x.Part+bk x.aX+1,fun _=>by omega⟩
theorem J8 (x:aX):bk x=bk x.Part+bk x.aX+1:=rfl
instance:Bk Net:=⟨fun x=>bk x.Name+bk x.aS+bk x.ru+1,fun _=>by omega⟩
theorem Bc (x:Net):bk x=bk x.Name+bk x.aS+bk x.ru+1:=rfl
instance:Bk bK:=⟨fun x=>bk x.cJ+bk x.bE+1,fun _=>by omega⟩
theorem m9 (x:bK):bk x=bk x.cJ+bk x.bE+1:=rfl
instance:Bk aJ:=⟨fun x=>bk x.X0+bk x.Y0+bk x.X1+bk x.Y1+1,fun _=>by omega⟩
theorem IK (x:aJ):bk x=bk x.X0+bk x.Y0+bk x.X1+bk x.Y1+1:=rfl
instance:Bk ka:=⟨fun x=>bk x.X+bk x.Y+1,fun _=>by omega⟩
theorem Hh (x:ka):bk x=bk x.X+bk x.Y+1:=rfl
instance:Bk cN:=⟨fun x=>bk x.At+bk x.eR+bk x.dD+bk x.To+bk x.jJ+1,fun _=>by omega⟩
theorem IL (x:cN):bk x=bk x.At+bk x.eR+bk x.dD+bk x.To+bk x.jJ+1:=rfl
instance:Bk eQ:=⟨fun x=>bk x.Part+bk x.aX+bk x.eU+bk x.At+1,fun _=>by omega⟩
theorem EE (x:eQ):bk x=bk x.Part+bk x.aX+bk x.eU+bk x.At+1:=rfl
instance:Bk kr:=⟨fun x=>bk x.aO+bk x.eC+bk x.bL+bk x.bM+1,fun _=>by omega⟩
theorem Hi (x:kr):bk x=bk x.aO+bk x.eC+bk x.bL+bk x.bM+1:=rfl
instance:Bk aA:=⟨fun x=>bk x.Y0+bk x.Y1+bk x.Xs+1,fun _=>by omega⟩
instance:Bk aI:=⟨fun x=>bk x.eU+bk x.Set+bk x.nT+1,fun _=>by omega⟩
instance:Bk bJ:=⟨fun x=>bk x.mA+bk x.bL+bk x.aS+1,fun _=>by omega⟩
instance:Bk kb:=⟨fun x=>bk x.cN+bk x.Number+1,fun _=>by omega⟩
instance:Bk dC:=⟨fun x=>bk x.Kind+bk x.bE+bk x.aS+1,fun _=>by omega⟩
end Go.Gk
namespace Go.Gk
open Go Go.RowKit
def W0 (W:World):World:={W with drawn:=0}
instance (W:World):Nd (W0 W):=⟨rfl⟩
theorem Holds.Ka (W:World):Holds (W0 W) W [j8 W]:=by
 refine⟨Hw W,fun _=>oy,⟨rfl,rfl,rfl,mw _,fun b o h=>h,fun i Pr hq=>?_,fun _ _ _ _ h=>(by cases h),fun _ _ _ _ h=>(by cases h),fun _ _ _ _ _ _ _ h=>(by cases h)⟩⟩
 match i,hq with
 | 0,hq=>simp at hq;subst hq;exact⟨BK _,rfl⟩
theorem Holds.yK {α:Type} [GT α] {W:World} {V:List HP} {v:Value} {x:α} (h:Holds (W0 W) W (V++[j8 W])) (hv:Gk.uy (Hw W) v x):Holds (W0 W) W (rd v x::(V++[j8 W])):=
 h.zC fun M hs g=>by
  have h1:=(g.sat V.length (j8 W) (by simp)).1
  exact⟨hv.mono h1,rfl⟩
theorem Holds.Lz {W w:World} {V:List HP} (h:Holds (W0 W) w (V++[j8 W])):Below W.heap.size W w:=by
 obtain⟨M,hs,g⟩:=h
 have h1:=(g.sat V.length (j8 W) (by simp)).1
 have h2: ∀k o,W.heap[k]? =some o->w.heap[k]? =some o:=fun k o ho=>g.im k o (h1 k o ho)
 refine⟨g.os,g.tape,g.out,?_,fun k hk=>?_⟩
 ·by_cases h0:W.heap.size=0
  ·omega
  ·have h3:=h2 (W.heap.size - 1) _ (fE (by omega))
   have:=(Array.getElem?_eq_some_iff.1 h3).1
   omega
 ·rw [fE hk];exact h2 k _ (fE hk)
end Go.Gk
namespace Go.Gk
open Go Go.Sort
section
variable {α:Type}
theorem xx {β:Type} (a:Array β) {n:Nat} (h:a.size=n):a.extract 0 n=a:=by subst h;exact Array.extract_size
theorem Kb {φ:α->α->Option Int} {l:List α} (cf:α->α->Int) (hφ: ∀x∈l,∀y∈l,φ x y=some (cf x y)) (h1: ∀x∈l,¬cf x x<0)
  (h2: ∀x∈l,∀y∈l,∀z∈l,cf x y<0->cf y z<0->cf x z<0) (h3: ∀x∈l,∀y∈l,∀z∈l,¬cf x y<0->¬cf y z<0->¬cf x z<0):SWO (H4 (B6 φ l)):=by
 have hm: ∀i:Fin l.length,l[i]∈l:=fun i=>dK i.isLt
 have e: ∀i j:Fin l.length,B6 φ l i j=cf l[i] l[j]:=fun i j=>by unfold B6;rw [hφ _ (hm i) _ (hm j)];rfl
 refine⟨fun x=>?_,fun x y z=>?_,fun x y z=>?_⟩
 ·simp only [H4,e,decide_eq_false_iff_not];exact h1 _ (hm _)
 ·simp only [H4,e,decide_eq_true_iff];exact h2 _ (hm _) _ (hm _) _ (hm _)
 ·simp only [H4,e,decide_eq_false_iff_not];exact h3 _ (hm _) _ (hm _) _ (hm _)
theorem vU {φ:α->α->Option Int} {l:List α} (cf:α->α->Int) (hφ: ∀x∈l,∀y∈l,φ x y=some (cf x y)) (h1: ∀x∈l,¬cf x x<0)
  (h2: ∀x∈l,∀y∈l,∀z∈l,cf x y<0->cf y z<0->cf x z<0) (h3: ∀x∈l,∀y∈l,∀z∈l,¬cf x y<0->¬cf y z<0->¬cf x z<0) (hl:l.length<4611686018427387904):
  ∃m,sd φ l=some m/\m.Perm l/\m.Pairwise (fun x y=>¬cf y x<0):=by
 have hO:=Kb cf hφ h1 h2 h3
 have hm: ∀i:Fin l.length,l[i]∈l:=fun i=>dK i.isLt
 have hc: (∀i j:Fin l.length,∃c,φ l[i] l[j]=some c):=fun i j=>⟨_,hφ _ (hm i) _ (hm j)⟩
 refine⟨Eo φ l,by unfold sd;rw [aC ⟨⟨hc,hO⟩,hl⟩],?_⟩
 unfold Eo
 by_cases hn:0<l.length
 ·rw [dif_pos hn]
  letI inh:Inhabited (Fin l.length):=⟨⟨0,hn⟩⟩
  have hds: (Array.ofFn fun i:Fin l.length=>i).size=l.length:=by simp
  obtain⟨hp,hs⟩:=pdq_sorts (H4 (B6 φ l)) hO (Array.ofFn fun i:Fin l.length=>i) 0 l.length (Lib.bitLen l.length) true true (mw _) (by rw [hds];exact bI _) (Or.inl rfl)
  show (List.map (fun i=>l[i]) (pdq (H4 (B6 φ l)) (Array.ofFn fun i:Fin l.length=>i) 0 l.length (Lib.bitLen l.length) true true).toList).Perm l/\_
  generalize pdq (H4 (B6 φ l)) (Array.ofFn fun i:Fin l.length=>i) 0 l.length (Lib.bitLen l.length) true true=d' at hp hs
  obtain⟨hz,_,hpm⟩:=hp
  have hz':d'.size=l.length:=hz.trans hds
  rw [xx d' hz',xx _ hds] at hpm
  have hof: (Array.ofFn fun i:Fin l.length=>i).toList.map (fun i=>l[i])=l:=by
   rw [Array.toList_ofFn,List.map_ofFn]
   exact List.ofFn_getElem
  refine⟨(hpm.map (fun i=>l[i])).trans (List.Perm.of_eq hof),?_⟩
  rw [List.pairwise_map,nY]
  intro i j hi hj hij
  rw [Array.length_toList] at hi hj
  have:=hs i j (mw _) hij (by rw [<-hz'];exact hj)
  rw [getElem!_pos d' i hi,getElem!_pos d' j hj] at this
  have hij2:=hφ _ (hm (d'[j])) _ (hm (d'[i]))
  have hij3:B6 φ l d'[j] d'[i]=cf l[d'[j]] l[d'[i]]:=by unfold B6;rw [hij2];rfl
  unfold H4 at this
  rw [decide_eq_false_iff_not,hij3] at this
  exact this
 ·rw [dif_neg hn]
  have:l= []:=List.length_eq_zero_iff.1 (by omega)
  subst this
  exact⟨List.Perm.refl _,ma⟩
theorem Am {φ:α->α->Option Int} {x:α} (h:φ x x=some 0):sd φ [x]=some [x]:=by
 obtain⟨m,h1,h2,_⟩:=vU (φ:=φ) (l:=[x]) (fun _ _=>0) (fun a ha b hb=>by simp at ha hb;rw [ha,hb];exact h) (fun _ _=>by decide) (fun _ _ _ _ _ _ h=>by simp at h) (fun _ _ _ _ _ _ _ _=>by decide) (by simp)
 rw [h1,List.perm_singleton.1 h2]
theorem zQ {l:List Int} (h:l.Pairwise (fun x y=>x<=y)) (hl:l.length<4611686018427387904):r9 l=some l:=by
 unfold r9
 rw [aC hl,List.mergeSort_of_pairwise (by simpa using h)]
end
end Go.Gk
namespace Go.Gk
open Go
def C4 (l:List Int) (x:Int):Nat:=l.countP (fun a=>decide (a<=x))
def m0 (l:List Int) (x:Int):Bool:=C4 l x % 2==1
def mj (l:List Int):Prop:=l.Pairwise (· < ·)
theorem EF (x:Int):C4 [] x=0:=rfl
theorem nJ (a:Int) (l:List Int) (x:Int):C4 (a::l) x= (if a<=x then 1 else 0)+C4 l x:=by
 unfold C4
 rw [List.countP_cons]
 by_cases h:a<=x <;> simp [h];omega
theorem yP (l m:List Int) (x:Int):C4 (l++m) x=C4 l x+C4 m x:=List.countP_append
theorem EG {l:List Int} {x:Int} (h: ∀a∈l,a<=x):C4 l x=l.length:=by
 unfold C4;rw [List.countP_eq_length];intro a ha;simpa using h a ha
theorem yQ {l:List Int} {x:Int} (h: ∀a∈l,x<a):C4 l x=0:=by
 unfold C4;rw [List.countP_eq_zero];intro a ha;have:=h a ha;simp;omega
theorem vV {l:List Int} {x:Int}:m0 l x=true↔C4 l x % 2=1:=by unfold m0;simp
theorem vW {l:List Int} {x:Int} (h: ∀a∈l,x<a):m0 l x=false:=by unfold m0;rw [yQ h];rfl
theorem mj.head {a:Int} {l:List Int} (h:mj (a::l)): ∀b∈l,a<b:=(List.pairwise_cons.1 h).1
theorem mj.tail {a:Int} {l:List Int} (h:mj (a::l)):mj l:=(List.pairwise_cons.1 h).2
theorem vX {a:Int} {l:List Int} (h:mj (a::l)):m0 (a::l) a=true:=by
 rw [vV,nJ,aC (Int.le_refl _),yQ h.head]
theorem yR: ∀{l m:List Int},mj l->mj m->(∀x,m0 l x=m0 m x)->l=m
 | [],[],_,_,_=>rfl
 | [],b::m,_,hm,h=>by have:=h b;rw [vX hm] at this;cases this
 | a::l,[],hl,_,h=>by have:=h a;rw [vX hl] at this;cases this
 | a::l,b::m,hl,hm,h=>by
  have hab:a=b:=by
   rcases Int.lt_trichotomy a b with h1 | h1 | h1
   ·have h2:=h a
    rw [vX hl,vW (l:=b::m) (fun c hc=>by
     rcases fG.1 hc with rfl | hc
     ·exact h1
     ·have:=hm.head c hc;omega)] at h2
    cases h2
   ·exact h1
   ·have h2:=h b
    rw [vX hm,vW (l:=a::l) (fun c hc=>by
     rcases fG.1 hc with rfl | hc
     ·exact h1
     ·have:=hl.head c hc;omega)] at h2
    cases h2
  subst hab
  rw [yR hl.tail hm.tail (fun x=>?_)]
  by_cases hx:a<=x
  ·have h2:=h x
   unfold m0 at h2 ⊢
   rw [nJ,nJ,aC hx] at h2
   rw [fH] at h2 ⊢
   simp only [beq_iff_eq] at h2 ⊢
   omega
  ·rw [vW (fun c hc=>by have:=hl.head c hc;omega),vW (fun c hc=>by have:=hm.head c hc;omega)]
theorem vY {l:List Int} {a b:Int} (hl: ∀c∈l,c<a) (he:l.length % 2=0) (hab:a<b) (x:Int):m0 (l++[a,b]) x= (m0 l x||(decide (a<=x)&&decide (x<b))):=by
 rw [fH,dS,cC,cE,cE,vV,vV,yP,nJ,nJ,EF]
 by_cases h1:a<=x
 ·have h2:C4 l x=l.length:=EG fun c hc=>by have:=hl c hc;omega
  rw [h2,aC h1]
  by_cases h3:b<=x
  ·rw [aC h3];omega
  ·rw [aD h3];omega
 ·rw [aD h1,aD (by omega)];omega
theorem Hn {l:List Int} {s e a b:Int} (hl: ∀c∈l,c<s) (he:l.length % 2=0) (hs:s<e) (h1:s<=a) (h2:a<=e) (hab:a<b) (x:Int):m0 (l++[s,max e b]) x= (m0 (l++[s,e]) x||(decide (a<=x)&&decide (x<b))):=by
 rw [vY hl he (by omega),vY hl he hs]
 rw [fH]
 simp only [dS,cC,cE]
 constructor
 ·rintro(h | h)
  ·exact .inl (.inl h)
  ·by_cases hx:x<e
   ·exact .inl (.inr ⟨h.1,hx⟩)
   ·exact .inr ⟨by omega,by omega⟩
 ·rintro((h | h) | h)
  ·exact .inl h
  ·exact .inr ⟨h.1,by omega⟩
  ·exact .inr ⟨by omega,by omega⟩
theorem mj.snoc {l:List Int} {a b:Int} (h:mj l) (hl: ∀c∈l,c<a) (hab:a<b):mj (l++[a,b]):=by
 unfold mj
 rw [List.pairwise_append]
 refine⟨h,by simp [hab],fun c hc d hd=>?_⟩
 have:=hl c hc
 simp at hd
 rcases hd with rfl | rfl <;> omega
structure Bd where
 y0:Int
 y1:Int
 xs:List Int
def rowAt:List Bd->Int->List Int
 | [],_=>[]
 | b::s,y=>if b.y0<=y/\y<b.y1 then b.xs else rowAt s y
theorem lr (b:Bd) (s:List Bd) (y:Int):rowAt (b::s) y=if b.y0<=y/\y<b.y1 then b.xs else rowAt s y:=rfl
structure eJ (s:List Bd):Prop where
 each: ∀b∈s,b.y0<b.y1/\b.xs≠[]/\mj b.xs/\b.xs.length % 2=0
 ord:s.Pairwise (fun b c=>b.y1<=c.y0/\(b.y1=c.y0->b.xs≠c.xs))
theorem eJ.nil:eJ []:=⟨fun b h=>by simp at h,ma⟩
theorem eJ.tail {b:Bd} {s:List Bd} (h:eJ (b::s)):eJ s:=⟨fun c hc=>h.each c (kc _ hc),(List.pairwise_cons.1 h.ord).2⟩
theorem kp {s:List Bd} {y:Int} (h: ∀b∈s,y<b.y0\/b.y1<=y):rowAt s y= []:=by
 induction s with
 | nil=>rfl
 | cons b s ih=>
  unfold rowAt
  have:=h b (by simp)
  rw [aD (by omega)]
  exact ih fun c hc=>h c (kc _ hc)
theorem og (s t:List Bd) (y:Int):rowAt (s++t) y=if (∃b∈s,b.y0<=y/\y<b.y1) then rowAt s y else rowAt t y:=by
 induction s with
 | nil=>simp
 | cons b s ih=>
  rw [List.cons_append,lr,lr]
  by_cases h:b.y0<=y/\y<b.y1
  ·rw [aC h,aC ⟨b,by simp,h⟩,aC h]
  ·rw [aD h,ih]
   by_cases h2: ∃c∈s,c.y0<=y/\y<c.y1
   ·obtain⟨c,hc,hc2⟩:=h2
    rw [aC ⟨c,hc,hc2⟩,aC ⟨c,kc _ hc,hc2⟩,aD h]
   ·rw [aD h2,aD (show ¬∃c∈b::s,c.y0<=y/\y<c.y1 from ?_)]
    rintro⟨c,hc,hc2⟩
    rcases fG.1 hc with rfl | hc
    ·exact h hc2
    ·exact h2 ⟨c,hc,hc2⟩
theorem eJ.lu {b:Bd} {s:List Bd} {y:Int} (h0:b.y0<=y) (h1:y<b.y1):rowAt (b::s) y=b.xs:=by unfold rowAt;rw [aC ⟨h0,h1⟩]
theorem eJ.yS {b:Bd} {s:List Bd} (h:eJ (b::s)): ∀c∈s,b.y1<=c.y0:=fun c hc=>((List.pairwise_cons.1 h.ord).1 c hc).1
theorem eJ.tG {b:Bd} {s:List Bd} (h:eJ (b::s)) {y:Int} (hy:y<b.y0):rowAt (b::s) y= []:=kp fun c hc=>by
 rcases fG.1 hc with rfl | hc
 ·exact .inl hy
 ·have:=h.yS c hc;have:=(h.each b (by simp)).1;exact .inl (by omega)
theorem eJ.EH {b:Bd} {s:List Bd} (h:eJ (b::s)):rowAt (b::s) b.y1≠b.xs:=by
 rw [lr,aD (by omega)]
 cases s with
 | nil=>exact fun e=>(h.each b (by simp)).2.1 e.symm
 | cons c s=>
  have h1:=(List.pairwise_cons.1 h.ord).1 c (by simp)
  by_cases e:b.y1=c.y0
  ·rw [eJ.lu (by omega) (by have:=(h.tail.each c (by simp)).1;omega)]
   exact fun h=>h1.2 e h.symm
  ·rw [h.tail.tG (by have:=h1.1;omega)]
   exact fun e=>(h.each b (by simp)).2.1 e.symm
theorem yT: ∀{s t:List Bd},eJ s->eJ t->(∀y,rowAt s y=rowAt t y)->s=t
 | [],[],_,_,_=>rfl
 | [],c::t,_,ht,h=>by
  have hc:=ht.each c (by simp)
  have:=h c.y0
  rw [eJ.lu (Int.le_refl _) hc.1] at this
  exact absurd this.symm hc.2.1
 | b::s,[],hs,_,h=>by
  have hb:=hs.each b (by simp)
  have:=h b.y0
  rw [eJ.lu (Int.le_refl _) hb.1] at this
  exact absurd this hb.2.1
 | b::s,c::t,hs,ht,h=>by
  have hb:=hs.each b (by simp)
  have hc:=ht.each c (by simp)
  have e0:b.y0=c.y0:=by
   rcases Int.lt_trichotomy b.y0 c.y0 with h1 | h1 | h1
   ·have h2:=h b.y0
    rw [eJ.lu (Int.le_refl _) hb.1,ht.tG h1] at h2
    exact absurd h2 hb.2.1
   ·exact h1
   ·have h2:=h c.y0
    rw [eJ.lu (Int.le_refl _) hc.1,hs.tG h1] at h2
    exact absurd h2.symm hc.2.1
  have ex:b.xs=c.xs:=by
   have h2:=h b.y0
   rw [eJ.lu (Int.le_refl _) hb.1,eJ.lu (by omega) (by omega)] at h2
   exact h2
  have e1:b.y1=c.y1:=by
   rcases Int.lt_trichotomy b.y1 c.y1 with h1 | h1 | h1
   ·have h2:=h b.y1
    rw [eJ.lu (b:=c) (by omega) h1] at h2
    exact absurd (h2.trans ex.symm) hs.EH
   ·exact h1
   ·have h2:=h c.y1
    rw [eJ.lu (b:=b) (by omega) h1] at h2
    exact absurd (h2.symm.trans ex) ht.EH
  have ebc:b=c:=by cases b;cases c;simp_all
  subst ebc
  rw [yT hs.tail ht.tail (fun y=>?_)]
  by_cases hy:b.y1<=y
  ·have h2:=h y
   unfold rowAt at h2
   rw [aD (by omega),aD (by omega)] at h2
   exact h2
  ·rw [kp (fun d hd=>by have:=hs.yS d hd;exact .inl (by omega)),kp (fun d hd=>by have:=ht.yS d hd;exact .inl (by omega))]
def vZ (s:List Bd) (x y:Int):Bool:=m0 (rowAt s y) x
theorem An {s:List Bd} (h: ∀b∈s,mj b.xs) (y:Int):mj (rowAt s y):=by
 induction s with
 | nil=>exact ma
 | cons b s ih=>
  unfold rowAt
  split
  ·exact h b (by simp)
  ·exact ih fun c hc=>h c (kc _ hc)
theorem yU {s t:List Bd} (hs:eJ s) (ht:eJ t) (h: ∀x y,vZ s x y=vZ t x y):s=t:=
 yT hs ht fun y=>yR (An (fun b hb=>(hs.each b hb).2.2.1) y) (An (fun b hb=>(ht.each b hb).2.2.1) y) fun x=>h x y
def ml (s:List Bd) (b:Bd):List Bd:=
 if b.xs= []\/b.y1<=b.y0 then s else
  match s.getLast? with
  | some c=>if c.y1=b.y0/\c.xs=b.xs then s.dropLast++[⟨c.y0,b.y1,c.xs⟩] else s++[b]
  | none=>[b]
theorem q6 {α:Type} {s:List α} {c:α} (h:s.getLast? =some c):s=s.dropLast++[c]:=by
 have hne:s≠[]:=fun e=>by rw [e] at h;cases h
 rw [List.getLast?_eq_some_getLast hne] at h
 injection h with h
 rw [<-h];exact(List.dropLast_concat_getLast hne).symm
theorem wW {s:List Bd} {b:Bd} (hs: ∀c∈s,c.y1<=b.y0) (hg: ∀c∈s,c.y0<c.y1) (hb:b.y1<=b.y0->b.y1=b.y0) (y:Int):rowAt (ml s b) y=if b.y0<=y/\y<b.y1 then b.xs else rowAt s y:=by
 have key: ∀(s:List Bd) (c:Bd),(∀d∈s,d.y1<=c.y0)->rowAt (s++[c]) y=if c.y0<=y/\y<c.y1 then c.xs else rowAt s y:=by
  intro s c h
  rw [og]
  by_cases h1:c.y0<=y/\y<c.y1
  ·rw [aC h1,aD (by rintro⟨d,hd,hd2⟩;have:=h d hd;omega),eJ.lu h1.1 h1.2]
  ·rw [aD h1]
   by_cases h2: ∃d∈s,d.y0<=y/\y<d.y1
   ·rw [aC h2]
   ·rw [aD h2,lr,aD h1]
    refine(show rowAt [] y=_ from (kp (s:=s) fun d hd=>?_).symm)
    by_cases h3:d.y0<=y
    ·exact .inr (by have: ¬(d.y0<=y/\y<d.y1):=fun h4=>h2 ⟨d,hd,h4⟩;omega)
    ·exact .inl (by omega)
 unfold ml
 by_cases h0:b.xs= []\/b.y1<=b.y0
 ·rw [aC h0]
  by_cases h1:b.y0<=y/\y<b.y1
  ·rw [aC h1]
   rcases h0 with h0 | h0
   ·rw [h0];exact kp fun c hc=> .inr (by have:=hs c hc;omega)
   ·omega
  ·rw [aD h1]
 ·rw [aD h0]
  cases hl:s.getLast? with
  | none=>
   have:s= []:=by simpa using hl
   subst this
   rfl
  | some c=>
   dsimp only
   have hsp:=q6 hl
   have hcm:c∈s:=by rw [hsp];simp
   by_cases h1:c.y1=b.y0/\c.xs=b.xs
   ·rw [aC h1]
    have hd: ∀d∈s.dropLast,d.y1<=c.y0\/True:=fun _ _=> .inr trivial
    rw [og]
    have hrow:rowAt s y=if (∃d∈s.dropLast,d.y0<=y/\y<d.y1) then rowAt s.dropLast y else (if c.y0<=y/\y<c.y1 then c.xs else []):=by
     conv=>lhs;rw [hsp]
     rw [og];rfl
    rw [hrow]
    have hcg:=hg c hcm
    by_cases h2: ∃d∈s.dropLast,d.y0<=y/\y<d.y1
    ·obtain⟨d,hd,hd2⟩:=h2
     have:=hs d (List.dropLast_subset _ hd)
     have he: ∃d∈s.dropLast,d.y0<=y/\y<d.y1:=⟨d,hd,hd2⟩
     rw [aC he,aC he,aD (by omega)]
    ·rw [aD h2,aD h2]
     show (if c.y0<=y/\y<b.y1 then c.xs else [])=_
     by_cases h3:b.y0<=y/\y<b.y1
     ·rw [aC h3,aC ⟨by omega,h3.2⟩,h1.2]
     ·rw [aD h3]
      by_cases h4:c.y0<=y/\y<c.y1
      ·rw [aC h4,aC ⟨h4.1,by omega⟩]
      ·rw [aD h4,aD (by omega)]
   ·rw [aD h1]
    exact key s b hs
theorem wX {s:List Bd} {b:Bd} (h:eJ s) (hs: ∀c∈s,c.y1<=b.y0) (hb:mj b.xs) (he:b.xs.length % 2=0):eJ (ml s b):=by
 unfold ml
 by_cases h0:b.xs= []\/b.y1<=b.y0
 ·rw [aC h0];exact h
 ·rw [aD h0]
  have hbg:b.y0<b.y1/\b.xs≠[]/\mj b.xs/\b.xs.length % 2=0:=⟨by omega,fun e=>h0 (.inl e),hb,he⟩
  cases hl:s.getLast? with
  | none=>exact⟨fun c hc=>by simp at hc;subst hc;exact hbg,List.pairwise_singleton _ _⟩
  | some c=>
   dsimp only
   have hsp:=q6 hl
   have hcm:c∈s:=by rw [hsp];simp
   have hc:=h.each c hcm
   have hord:=h.ord
   rw [hsp,List.pairwise_append] at hord
   by_cases h1:c.y1=b.y0/\c.xs=b.xs
   ·rw [aC h1]
    refine⟨fun d hd=>?_,?_⟩
    ·rcases cY.1 hd with hd | hd
     ·exact h.each d (List.dropLast_subset _ hd)
     ·simp at hd;subst hd;exact⟨by show c.y0<b.y1;omega,hc.2⟩
    ·rw [List.pairwise_append]
     refine⟨hord.1,List.pairwise_singleton _ _,fun d hd e he=>?_⟩
     simp at he;subst he
     exact hord.2.2 d hd c (by simp)
   ·rw [aD h1]
    refine⟨fun d hd=>?_,?_⟩
    ·rcases cY.1 hd with hd | hd
     ·exact h.each d hd
     ·simp at hd;subst hd;exact hbg
    ·rw [List.pairwise_append]
     refine⟨h.ord,List.pairwise_singleton _ _,fun d hd e he=>?_⟩
     simp at he;subst he
     refine⟨hs d hd,fun e1 e2=>?_⟩
     rw [hsp] at hd
     rcases cY.1 hd with hd | hd
     ·have h2:=(hord.2.2 d hd c (by simp)).1
      have:=hs c hcm
      omega
     ·simp at hd;subst hd;exact h1 ⟨e1,e2⟩
theorem wY {s:List Bd} {b:Bd} (hs: ∀c∈s,c.y1<=b.y0) (hb:b.y0<=b.y1): ∀c∈ml s b,c.y1<=b.y1:=by
 intro c hc
 unfold ml at hc
 split at hc
 ·have:=hs c hc;omega
 ·split at hc
  ·split at hc
   ·rcases cY.1 hc with hc | hc
    ·have:=hs c (List.dropLast_subset _ hc);omega
    ·simp at hc;subst hc;exact Int.le_refl _
   ·rcases cY.1 hc with hc | hc
    ·have:=hs c hc;omega
    ·simp at hc;subst hc;exact Int.le_refl _
  ·simp at hc;subst hc;exact Int.le_refl _
end Go.Gk
namespace Go.Gk
open Go
section
variable {N:Nat}
def bT (b:aA):Bd:=⟨b.Y0,b.Y1,b.Xs⟩
def small (a:Int):Prop:= -1099511627776<=a/\a<=1099511627776
structure C5 (r:aJ):Prop where
 x:r.X0<r.X1
 y:r.Y0<r.Y1
 s1:small r.X0
 s2:small r.X1
 s3:small r.Y0
 s4:small r.Y1
def DG (l:List aJ) (x:Int):Bool:=l.any (fun r=>decide (r.X0<=x)&&decide (x<r.X1))
def zR (l:List aJ) (x y:Int):Bool:=l.any (fun r=>(decide (r.X0<=x)&&decide (x<r.X1))&&(decide (r.Y0<=y)&&decide (y<r.Y1)))
theorem yV {l:List aJ} {x:Int}:DG l x=true↔∃r∈l,r.X0<=x/\x<r.X1:=by unfold DG;simp [ke]
theorem kq {l:List aJ} {x y:Int}:zR l x y=true↔∃r∈l,(r.X0<=x/\x<r.X1)/\r.Y0<=y/\y<r.Y1:=by unfold zR;simp [ke]
theorem wrap_small {a b:Int} (ha:small a) (hb:small b):IntKind.wrap .i64 (a - b)=a - b:=by unfold small at *;exact dW (by omega) (by omega)
theorem CA {n:Nat} (h:0<n) (hn:n<=4611686018427387904):IntKind.wrap .i64 (((n:Nat):Int) - 1)= ((n - 1:Nat):Int):=lL h hn
structure NK (out:List Int) (m:List aJ) (k:Nat):Prop where
 row: (k=0/\out= [])\/∃A s e,out=A++[s,e]/\mj A/\(∀c∈A,c<s)/\A.length % 2=0/\s<e/\∃j r,j<k/\m[j]? =some r/\s=r.X0
 m0: ∀x,m0 out x=DG (m.take k) x
 len:out.length<=2*k
 mem: ∀c∈out,∃r∈m,c=r.X0\/c=r.X1
theorem wZ (l:List aJ) (r:aJ) (x:Int):DG (l++[r]) x= (DG l x||(decide (r.X0<=x)&&decide (x<r.X1))):=by unfold DG;rw [List.any_append];simp
theorem Bg {l:List aJ} (hl:l.length<=268435456) (hok: ∀r∈l,C5 r): ∃row l',iC N l=some (row,l')/\l'.Perm l/\mj row/\row.length % 2=0/\(∀x,m0 row x=DG l x)/\row.length<=2*l.length/\∀c∈row,∃r∈l,c=r.X0\/c=r.X1:=by
 unfold iC
 obtain⟨m,h1,h2,h3⟩:=vU (φ:=fY N) (l:=l) (fun a b=>a.X0 - b.X0) (fun a ha b hb=>by
  unfold fY;rw [wrap_small (hok a ha).s1 (hok b hb).s1]) (fun a _=>by omega) (fun a _ b _ c _ h1 h2=>by omega) (fun a _ b _ c _ h1 h2=>by omega) (by omega)
 have hml:m.length=l.length:=h2.length_eq
 have hmok: ∀r∈m,C5 r:=fun r hr=>hok r (h2.subset hr)
 rw [h1,aB]
 obtain⟨out,a1,a2⟩:=x0 (m:=m.length) (s:=([]:List Int)) (body:=fun(k32:Nat) (s33: (List Int))=>((idx m (k32:Int)).bind fun x79=>(bif (decide ((IntKind.wrap .i64 ((s33.length:Int) - 1))>=0)) then ((idx s33 (IntKind.wrap .i64 ((s33.length:Int) - 1))).bind fun x86=>some (decide (x79.X0<=x86))) else (some false)).bind fun s84=>(bif s84 then ((idx s33 (IntKind.wrap .i64 ((s33.length:Int) - 1))).bind fun x94=>(idx s33 (IntKind.wrap .i64 ((s33.length:Int) - 1))).bind fun x95=>some (s33.set (Int.toNat (IntKind.wrap .i64 ((s33.length:Int) - 1))) (if x94<x79.X1 then x79.X1 else x94))) else ((app 8 s33 ([x79.X0,x79.X1]: (List Int))).bind fun x97=>some x97)).bind fun s92=>some s92:Option ((List Int))))
  (fun k out=>NK out m k) (by omega) ⟨.inl ⟨rfl,rfl⟩,fun x=>rfl,by simp,fun c hc=>by cases hc⟩ (fun k out hk ⟨i1,i2,i3,i4⟩=>by
   have hx:m[k]? =some m[k]:=aK hk
   have hr:=hmok _ (dK hk)
   rw [eX hx,aB]
   have hts:m.take (k+1)=m.take k++[m[k]]:=dU hk
   rcases i1 with ⟨rfl,rfl⟩ | ⟨A,s,e,rfl,hA,hAs,hAe,hse,j,r,hj,hjr,hsr⟩
   ·rw [show decide (IntKind.wrap .i64 (((([]:List Int).length:Nat):Int) - 1)>=0)=false by decide,aY,aB,aY,gL (by simp),aB,aB]
    refine⟨_,rfl, .inr ⟨[],_,_,rfl,ma,fun c hc=>by simp at hc,rfl,hr.x,0,m[0],by omega,hx,rfl⟩,fun x=>?_,by simp,fun c hc=>⟨m[0],dK hk,by simpa using hc⟩⟩
    rw [hts,wZ,<-i2 x]
    exact vY (l:=[]) (fun c hc=>by simp at hc) rfl hr.x x
   ·have hlen: (A++[s,e]).length=A.length+2:=by simp
    have hwp:IntKind.wrap .i64 ((((A++[s,e]).length:Nat):Int) - 1)= ((A.length+1:Nat):Int):=by rw [CA (by omega) (by omega),hlen];rfl
    have hlast: (A++[s,e])[A.length+1]? =some e:=by rw [fF (by omega)];simp
    have hs:s<=m[k].X0:=by
     have:=nY.1 h3 j k (by have:=(aZ.1 hjr).1;omega) hk hj
     rw [hsr,<-(aZ.1 hjr).2];omega
    rw [hwp,cD (by omega),aT,eX hlast,aB,aB]
    by_cases hc:m[k].X0<=e
    ·rw [cD hc,aT,aB,aB,aB,cK]
     have mf: (A++[s,e]).set (A.length+1) (if e<m[k].X1 then m[k].X1 else e)=A++[s,max e m[k].X1]:=by
      rw [List.set_append_right _ _ (by omega)]
      have:A.length+1 - A.length=1:=by omega
      rw [this,Int.max_def]
      simp only [List.set_cons_succ,List.set_cons_zero]
      congr 2
      split <;> split <;> simp <;> omega
     rw [mf]
     refine⟨_,rfl, .inr ⟨A,s,_,rfl,hA,hAs,hAe,by omega,j,r,by omega,hjr,hsr⟩,fun x=>?_,by simp at i3 ⊢;omega,fun c hc=>by
      rcases cY.1 hc with h | h
      ·exact i4 c (List.mem_append_left _ h)
      ·simp at h
       rcases h with h | h
       ·exact i4 c (by simp [h])
       ·rw [Int.max_def] at h
        split at h
        ·exact⟨_,dK hk, .inr h⟩
        ·exact i4 c (by simp [h])⟩
     rw [hts,wZ,<-i2 x]
     exact Hn hAs hAe hse hs hc hr.x x
    ·rw [bS hc,aY,gL (by rw [hlen];simp;omega),aB,aB]
     have hall: ∀c∈A++[s,e],c<m[k].X0:=fun c hc'=>by
      rcases cY.1 hc' with h | h
      ·have:=hAs c h;omega
      ·simp at h;omega
     refine⟨_,rfl, .inr ⟨A++[s,e],_,_,rfl,hA.snoc hAs hse,hall,by rw [hlen];omega,hr.x,k,m[k],by omega,hx,rfl⟩,fun x=>?_,by simp at i3 ⊢;omega,fun c hc=>by
      rcases cY.1 hc with h | h
      ·exact i4 c h
      ·exact⟨m[k],dK hk,by simpa using h⟩⟩
     rw [hts,wZ,<-i2 x]
     exact vY hall (by rw [hlen];omega) hr.x x)
 rw [a1,aB]
 refine⟨out,m,rfl,h2,?_,?_,fun x=>?_,by rw [<-hml];exact a2.len,fun c hc=>by obtain⟨r,hr,h⟩:=a2.mem c hc;exact⟨r,h2.subset hr,h⟩⟩
 ·rcases a2.row with ⟨_,h⟩ | ⟨A,s,e,rfl,hA,hAs,hAe,hse,_⟩
  ·rw [h];exact ma
  ·exact hA.snoc hAs hse
 ·rcases a2.row with ⟨_,h⟩ | ⟨A,s,e,rfl,hA,hAs,hAe,hse,_⟩
  ·rw [h];rfl
  ·simp;omega
 ·rw [a2.m0 x,dJ,fH,yV,yV]
  constructor
  ·rintro⟨r,hr,h⟩;exact⟨r,h2.subset hr,h⟩
  ·rintro⟨r,hr,h⟩;exact⟨r,h2.symm.subset hr,h⟩
theorem Fy {l m:List Int} (hl:l.length<=4611686018427387904):lF N l m=some (decide (l=m)):=Aj hl
theorem EI {s:List aA} {b:aA} (hs:s.length<=1048576000) (hx: ∀c∈s,c.Xs.length<=1048576000): ∃s',gY N s b=some s'/\s'.map bT=ml (s.map bT) (bT b):=by
 unfold gY ml
 by_cases h0:b.Xs= []\/b.Y1<=b.Y0
 ·have e: ((((b.Xs.length:Nat):Int)==0)||(decide (b.Y1<=b.Y0)))=true:=by
   rw [dS]
   rcases h0 with h | h
   ·left;rw [h];rfl
   ·right;exact cD h
  rw [e,aT,aC (show (bT b).xs= []\/(bT b).y1<=(bT b).y0 from h0)]
  exact⟨s,rfl,rfl⟩
 ·have e: ((((b.Xs.length:Nat):Int)==0)||(decide (b.Y1<=b.Y0)))=false:=by
   rw [Bool.or_eq_false_iff]
   constructor
   ·rw [beq_eq_false_iff_ne];intro h;exact h0 (.inl (List.eq_nil_of_length_eq_zero (by omega)))
   ·exact bS fun h=>h0 (.inr h)
  rw [e,aY,aD (show ¬((bT b).xs= []\/(bT b).y1<=(bT b).y0) from h0)]
  rcases List.eq_nil_or_concat s with rfl | ⟨A,c,hA⟩
  ·rw [show decide (IntKind.wrap .i64 (((([]:List aA).length:Nat):Int) - 1)>=0)=false by decide,aY,aB,aY,gL (by simp),aB]
   exact⟨_,rfl,rfl⟩
  ·rw [List.concat_eq_append] at hA
   subst hA
   have hlen: (A++[c]).length=A.length+1:=by simp
   have hwp:IntKind.wrap .i64 ((((A++[c]).length:Nat):Int) - 1)= ((A.length:Nat):Int):=by rw [CA (by omega) (by omega),hlen];rfl
   have hlast: (A++[c])[A.length]? =some c:=by simp
   rw [hwp,cD (by omega),aT,eX hlast,aB,aB,Fy (by have:=hx c (by simp);omega),aB,aB,cK,gL (by rw [hlen];simp;omega),aB]
   have hl2: ((A++[c]).map bT).getLast? =some (bT c):=by simp
   have hd2: ((A++[c]).map bT).dropLast=A.map bT:=by simp
   rw [hl2,hd2]
   dsimp only
   by_cases h1:c.Y1=b.Y0/\c.Xs=b.Xs
   ·rw [aC (show (bT c).y1= (bT b).y0/\(bT c).xs= (bT b).xs from h1),show (c.Y1==b.Y0)=true by rw [h1.1];simp,aT,cD h1.2,aB,aT]
    refine⟨_,rfl,?_⟩
    rw [List.set_append_right _ _ (bI _),Nat.sub_self]
    simp [bT]
   ·rw [aD (show ¬((bT c).y1= (bT b).y0/\(bT c).xs= (bT b).xs) from h1)]
    have e2: (bif (c.Y1==b.Y0) then (some (decide (c.Xs=b.Xs))) else (some false))=some false:=by
     by_cases h2:c.Y1=b.Y0
     ·rw [show (c.Y1==b.Y0)=true by rw [h2];simp,aT,bS (fun h=>h1 ⟨h2,h⟩)]
     ·rw [show (c.Y1==b.Y0)=false by simpa using h2,aY]
    rw [e2,aB,aY]
    exact⟨_,rfl,by simp⟩
end
end Go.Gk
namespace Go.Gk
open Go
def pw (l:List (Int×Int)):List Int:=l.flatMap fun s=>[s.1,s.2]
def Fz (l:List (Int×Int)) (x:Int):Bool:=l.any fun s=>decide (s.1<=x)&&decide (x<s.2)
theorem nb (s:Int×Int) (l:List (Int×Int)):pw (s::l)=s.1::s.2::pw l:=rfl
theorem FA (l:List (Int×Int)): (pw l).length=2*l.length:=by
 induction l with
 | nil=>rfl
 | cons s l ih=>rw [nb,gI,gI,gI,ih];omega
theorem FB (s:Int×Int) (l:List (Int×Int)) (x:Int):Fz (s::l) x= ((decide (s.1<=x)&&decide (x<s.2))||Fz l x):=rfl
theorem yW {l:List (Int×Int)} {x:Int}:Fz l x=true↔∃s∈l,s.1<=x/\x<s.2:=by
 unfold Fz;simp
theorem FC {a b:Int} {m:List Int} (h:mj (a::b::m)) (x:Int):m0 (a::b::m) x= ((decide (a<=x)&&decide (x<b))||m0 m x):=by
 have hab:a<b:=h.head b (by simp)
 have hm:=h.tail.head
 rw [fH,dS,cC,cE,cE,vV,vV,nJ,nJ]
 by_cases h1:a<=x
 ·rw [aC h1]
  by_cases h2:b<=x
  ·rw [aC h2];omega
  ·rw [aD h2,yQ (fun c hc=>by have:=hm c hc;omega)];omega
 ·rw [aD h1,aD (by omega)];omega
theorem v5: ∀{l:List (Int×Int)},mj (pw l)->∀x,m0 (pw l) x=Fz l x
 | [],_,x=>rfl
 | s::l,h,x=>by
  rw [nb] at h ⊢
  rw [FC h,FB,v5 h.tail.tail]
end Go.Gk
namespace Go.Gk
open Go
end Go.Gk
namespace Go.Gk
open Go
def Ok {β:Type} (o:Option β) (P:β->Prop):Prop:=∃r,o=some r/\P r
section
variable {α β S R:Type} {P:α->Prop} {Q:β->Prop}
theorem Ok.ret {x:β} (h:Q x):Ok (some x) Q:=⟨x,rfl,h⟩
theorem Ok.of {o:Option β} {x:β} (h:o=some x) (hq:Q x):Ok o Q:=⟨x,h,hq⟩
theorem Ok.mono {o:Option α} {P':α->Prop} (h:Ok o P) (k: ∀x,P x->P' x):Ok o P':=by obtain⟨x,h1,h2⟩:=h;exact⟨x,h1,k x h2⟩
theorem Ok.bind {o:Option α} {f:α->Option β} (h:Ok o P) (k: ∀x,P x->Ok (f x) Q):Ok (o.bind f) Q:=by
 obtain⟨x,h1,h2⟩:=h;rw [h1];exact k x h2
theorem Ok.eq {o:Option α} {f:α->Option β} {x:α} (h:o=some x) (k:Ok (f x) Q):Ok (o.bind f) Q:=by rw [h];exact k
theorem Ok.bif {b:Bool} {x y:Option β} (ht:b=true->Ok x Q) (hf:b=false->Ok y Q):Ok (bif b then x else y) Q:=by
 cases b with
 | true=>exact ht rfl
 | false=>exact hf rfl
theorem Ok.get {o:Option β} {x:β} (h:Ok o (fun r=>r=x)):o=some x:=by obtain⟨r,h1,h2⟩:=h;rw [h1,h2]
def LA (Go:S->Prop) (Rt:R->Prop):Fo S R->Prop | .go s=>Go s | .rt r=>Rt r
def Jp (Nx Br:S->Prop) (Rt:R->Prop):Fl S R->Prop | .nx s=>Nx s | .br s=>Br s | .rt r=>Rt r
theorem Ok.nx {Nx Br:S->Prop} {Rt:R->Prop} {s:S} (h:Nx s):Ok (some (Fl.nx s)) (Jp Nx Br Rt):=⟨_,rfl,h⟩
theorem Ok.br {Nx Br:S->Prop} {Rt:R->Prop} {s:S} (h:Br s):Ok (some (Fl.br s)) (Jp Nx Br Rt):=⟨_,rfl,h⟩
theorem Ok.rt {Nx Br:S->Prop} {Rt:R->Prop} {r:R} (h:Rt r):Ok (some (Fl.rt r:Fl S R)) (Jp Nx Br Rt):=⟨_,rfl,h⟩
theorem Ok.cs {Go:S->Prop} {Rt:R->Prop} {o:Fo S R} {f:S->Option β} {g:R->Option β} (h:LA Go Rt o) (hf: ∀s,Go s->Ok (f s) Q) (hg: ∀r,Rt r->Ok (g r) Q):Ok (o.cs f g) Q:=by
 cases o with
 | go s=>exact hf s h
 | rt r=>exact hg r h
theorem Ok.jI {body:Nat->S->Option S} {m:Nat} {s:S} (Inv:Nat->S->Prop) (hm:m<=4611686018427387904) (h0:Inv 0 s) (h: ∀k s,k<m->Inv k s->Ok (body k s) (Inv (k+1))):Ok (jI m body s) (Inv m):=
 x0 Inv hm h0 h
theorem Ok.qE {body:Nat->S->Option (Fl S R)} {m:Nat} {s:S} (Inv:Nat->S->Prop) {Go:S->Prop} {Rt:R->Prop} (hm:m<=4611686018427387904) (h0:Inv 0 s)
  (h: ∀k s,k<m->Inv k s->Ok (body k s) (Jp (Inv (k+1)) Go Rt)) (hg: ∀s,Inv m s->Go s):Ok (qE m body s) (LA Go Rt):=by
 obtain⟨o,h1,h2⟩:=IH (R:=R) Inv Go Rt hm h0 (fun k s hk hi=>by
  obtain⟨fl,a1,a2⟩:=h k s hk hi
  exact⟨fl,a1,by cases fl <;> exact a2⟩) hg
 exact⟨o,h1,by cases o <;> exact h2⟩
theorem Ok.nL {body:S->Option (Fl S R)} {N:Nat} {s:S} (Inv:S->Prop) (μ:S->Nat) {Go:S->Prop} {Rt:R->Prop}
  (h: ∀s,Inv s->Ok (body s) (Jp (fun s'=>Inv s'/\μ s'<μ s) Go Rt)) (hi:Inv s) (hn:μ s<N):Ok (nL body N s) (LA Go Rt):=by
 obtain⟨o,h1,h2⟩:=tF (R:=R) Inv μ Go Rt (fun s hi=>by
  obtain⟨fl,a1,a2⟩:=h s hi
  exact⟨fl,a1,by cases fl <;> exact a2⟩) N s hi hn
 exact⟨o,h1,by cases o <;> exact h2⟩
theorem Ok.app {b:Nat} {l ys:List α} {f:List α->Option β} (h: (l.length+ys.length)*b<=140737488355328) (k:Ok (f (l++ys)) Q):Ok ((Go.Gk.app b l ys).bind f) Q:=by rw [gL h];exact k
theorem Ok.idx {l:List α} {i:Nat} {f:α->Option β} (h:i<l.length) (k:Ok (f l[i]) Q):Ok ((Go.Gk.idx l ((i:Nat):Int)).bind f) Q:=by rw [gU l i h];exact k
theorem Ok.ix {l:List α} {i:Nat} {x:α} {f:α->Option β} (h:l[i]? =some x) (k:Ok (f x) Q):Ok ((Go.Gk.idx l ((i:Nat):Int)).bind f) Q:=by rw [eX h];exact k
end
theorem CB {n:Nat} (h:n<=4611686018427387904):IntKind.wrap .i64 ((n:Nat):Int)= ((n:Nat):Int):=dW (by omega) (by omega)
theorem wrap_add {n m:Nat} (h:n+m<=4611686018427387904):IntKind.wrap .i64 (((n:Nat):Int)+ ((m:Nat):Int))= ((n+m:Nat):Int):=by rw [dW (by omega) (by omega)];simp
theorem g8 {n:Nat} (h:n+1<=4611686018427387904):IntKind.wrap .i64 (((n:Nat):Int)+1)= ((n+1:Nat):Int):=by rw [dW (by omega) (by omega)];simp
theorem Ao {n:Nat} (h:n+2<=4611686018427387904):IntKind.wrap .i64 (((n:Nat):Int)+2)= ((n+2:Nat):Int):=by rw [dW (by omega) (by omega)];simp
theorem eL {α:Type} [DecidableEq α]: ∀{l m:List α},l.Nodup->(∀x∈l,x∈m)->l.length<=m.length
 | [],m,_,_=>mw _
 | a::l,m,hn,hs=>by
  have ha:a∈m:=hs a (by simp)
  have hn':=List.nodup_cons.1 hn
  have:=eL (l:=l) (m:=m.erase a) hn'.2 (fun x hx=>by
   rw [List.mem_erase_of_ne (fun e=>hn'.1 (by rw [<-e];exact hx))]
   exact hs x (kc _ hx))
  rw [List.length_erase_of_mem ha] at this
  have:=List.length_pos_of_mem ha
  simp;omega
section
variable {α:Type} {N:Nat}
def LB (z:α) (N:Nat) (p0:List α) (p1:α->Option Bool):Option (List α):=
 (qW p0 p1).bind fun x31=>bif (x31==(-1)) then (some p0) else ((nL (fun(s33: (List α)×Int×Int)=>(bif (decide (s33.2.2< (s33.1.length:Int))) then ((idx s33.1 s33.2.2).bind fun x54=>(p1 x54).bind fun x58=>(bif (!x58) then ((idx s33.1 s33.2.1).bind fun x63=>some ((s33.1.set (Int.toNat s33.2.1) x54),(IntKind.wrap .i64 (s33.2.1+1)))) else (some (s33.1,s33.2.1))).bind fun s61=>some (.nx (s61.1,s61.2,(IntKind.wrap .i64 (s33.2.2+1))))) else (some (.br (s33.1,s33.2.1,s33.2.2))):Option (Fl ((List α)×Int×Int) Empty))) N (p0,x31,(IntKind.wrap .i64 (x31+1)))).bind fun o67=>o67.cs (fun(s33: (List α)×Int×Int)=>(uE s33.1 s33.2.1 (s33.1.length:Int)).bind fun x64=>(uE (s33.1.take (Int.toNat s33.2.1)++List.replicate (s33.1.length - Int.toNat s33.2.1) z) 0 s33.2.1).bind fun x65=>some x65) (fun r=>r.elim))
theorem Ho {z:α} {l:List α} {φ:α->Option Bool} (p:α->Bool) (hφ: ∀x∈l,φ x=some (p x)) (hl:l.length<=4611686018427387000) (hN:l.length<N):LB z N l φ=some (l.filter (fun x=> !p x)):=by
 unfold LB
 rw [ui p (by omega) hφ,aB]
 rcases j4 l p with ⟨h1,h2⟩ | ⟨k,x,h1,h2,h3,h4⟩
 ·rw [h1]
  have:l.filter (fun x=> !p x)=l:=List.filter_eq_self.2 fun a ha=>by rw [h2 a ha];rfl
  rw [this];rfl
 ·rw [h1,show (((k:Nat):Int)== -1)=false by simp,aY]
  have hk:=(aZ.1 h2).1
  have hpre: (l.take k).filter (fun x=> !p x)=l.take k:=List.filter_eq_self.2 fun a ha=>by
   obtain⟨j,hj⟩:=eA ha
   have hjk:j<k:=by have:=(aZ.1 hj).1;rw [cV] at this;omega
   rw [List.getElem?_take_of_lt hjk] at hj
   rw [h4 j a hjk hj];rfl
  have hst:l.take (k+1)=l.take k++[x]:=by
   rw [dU hk];congr 1
   have:=(aZ.1 h2).2;rw [this]
  have hk1:IntKind.wrap .i64 (((k:Nat):Int)+1)= ((k+1:Nat):Int):=by rw [dW (by omega) (by omega)];omega
  rw [hk1]
  obtain⟨o,a1,a2⟩:=tF (S:=(List α)×Int×Int) (R:=Empty) (body:=fun(s33: (List α)×Int×Int)=>(bif (decide (s33.2.2< (s33.1.length:Int))) then ((idx s33.1 s33.2.2).bind fun x54=>(φ x54).bind fun x58=>(bif (!x58) then ((idx s33.1 s33.2.1).bind fun x63=>some ((s33.1.set (Int.toNat s33.2.1) x54),(IntKind.wrap .i64 (s33.2.1+1)))) else (some (s33.1,s33.2.1))).bind fun s61=>some (.nx (s61.1,s61.2,(IntKind.wrap .i64 (s33.2.2+1))))) else (some (.br (s33.1,s33.2.1,s33.2.2))):Option (Fl ((List α)×Int×Int) Empty)))
   (fun s=>∃i j:Nat,s.2.1= ((i:Nat):Int)/\s.2.2= ((j:Nat):Int)/\i<j/\j<=l.length/\s.1.length=l.length/\s.1.take i= (l.take j).filter (fun x=> !p x)/\∀m,j<=m->s.1[m]? =l[m]?)
   (fun s=>l.length - s.2.2.toNat) (fun s=>∃i:Nat,s.2.1= ((i:Nat):Int)/\i<=l.length/\s.1.length=l.length/\s.1.take i=l.filter (fun x=> !p x)) (fun _=>True) (fun s ⟨i,j,e1,e2,hij,hj,hlen,ht,hd⟩=>by
    obtain⟨s,a,b⟩:=s
    dsimp only at e1 e2 hlen ht hd ⊢
    subst e1;subst e2
    by_cases hlt:j<l.length
    ·rw [cD (by rw [hlen];omega),aT]
     have hx:s[j]? =some l[j]:=by rw [hd j (bI _)];exact aK hlt
     have w1:IntKind.wrap .i64 (((j:Nat):Int)+1)= ((j+1:Nat):Int):=by rw [dW (by omega) (by omega)];omega
     have w2:IntKind.wrap .i64 (((i:Nat):Int)+1)= ((i+1:Nat):Int):=by rw [dW (by omega) (by omega)];omega
     have hs2:l.take (j+1)=l.take j++[l[j]]:=dU hlt
     rw [eX hx,aB,hφ _ (dK hlt),aB,w1]
     cases hp:p l[j] with
     | true=>
      refine⟨.nx (s,((i:Nat):Int),((j+1:Nat):Int)),by rw [nk,aY,aB],⟨i,j+1,rfl,rfl,by omega,by omega,hlen,?_,fun m hm=>hd m (by omega)⟩,?_⟩
      ·rw [hs2,iL,ht];simp [hp]
      ·simp only [cK];omega
     | false=>
      refine⟨.nx (s.set i l[j],((i+1:Nat):Int),((j+1:Nat):Int)),by rw [o8,aT,gU _ _ (by omega),aB,cK,w2,aB],⟨i+1,j+1,rfl,rfl,by omega,by omega,by simp [hlen],?_,fun m hm=>?_⟩,?_⟩
      ·rw [hs2,iL,<-ht]
       have: (s.set i l[j]).take (i+1)=s.take i++[l[j]]:=by
        rw [dU (by simp;omega),List.take_set_of_le (bI _)];simp
       rw [this];simp [hp]
      ·rw [eZ,aD (by omega)];exact hd m (by omega)
      ·simp only [cK];omega
    ·rw [bS (by rw [hlen];omega),aY]
     have hje:j=l.length:=by omega
     subst hje
     rw [dJ] at ht
     exact⟨.br (s,((i:Nat):Int),((l.length:Nat):Int)),rfl,i,rfl,by omega,hlen,ht⟩)
   N (l,((k:Nat):Int),((k+1:Nat):Int)) ⟨k,k+1,rfl,rfl,by omega,by omega,rfl,by rw [hst,iL,hpre];simp [h3],fun _ _=>rfl⟩ (by simp only [cK];omega)
  rw [a1,aB]
  cases o with
  | rt r=>exact r.elim
  | go s=>
   obtain⟨i,e1,hi,hlen,ht⟩:=a2
   obtain⟨s,a,b⟩:=s
   dsimp only at e1 hlen ht
   subst e1
   simp only [Fo.cs]
   rw [vI _ _ (by omega),aB,cK,p8 _ _ (by simp;omega),aB,List.take_append_of_le_length (by simp;omega),List.take_take,Nat.min_self,ht]
end
section
variable {κ ν:Type} [DecidableEq κ]
theorem qo (m:List (κ×ν)) (k k':κ) (x z:ν):dH (kT m k x) k' z=if k'=k then x else dH m k' z:=by
 induction m with
 | nil=>unfold kT dH;by_cases h:k'=k <;> simp [h]
 | cons p m ih=>
  unfold kT
  by_cases h:k=p.1
  ·rw [aC h]
   by_cases h':k'=k
   ·subst h';simp [dH]
   ·simp only [dH,List.find?_cons,aD h',bS h']
    rw [bS (fun e=>h' (e.trans h.symm))]
  ·rw [aD h]
   by_cases h':k'=p.1
   ·have:k'≠k:=fun e=>h (e.symm.trans h')
    simp only [dH,List.find?_cons,cD h',aD this]
   ·unfold dH at ih ⊢
    simp only [List.find?_cons,bS h']
    exact ih
theorem w3 (m:List (κ×ν)) (k k':κ) (x:ν):fR (kT m k x) k'= (decide (k'=k)||fR m k'):=by
 induction m with
 | nil=>unfold kT fR;simp
 | cons p m ih=>
  unfold kT
  by_cases h:k=p.1
  ·rw [aC h]
   by_cases h':k'=k
   ·simp [fR,h']
   ·simp only [fR,List.any_cons,bS h',Bool.false_or]
    rw [bS (fun e=>h' (e.trans h.symm)),Bool.false_or]
  ·rw [aD h]
   unfold fR at ih ⊢
   simp only [List.any_cons]
   rw [ih]
   cases decide (k'=p.1) <;> cases decide (k'=k) <;> simp
def lZ (m:List (κ×ν)) (l:List κ) (x:ν):List (κ×ν):=l.foldl (fun m k=>kT m k x) m
theorem q7 (l:List κ) (x z:ν) (k:κ): ∀(m:List (κ×ν)),dH (lZ m l x) k z=if k∈l then x else dH m k z:=by
 induction l with
 | nil=>intro m;simp [lZ]
 | cons a l ih=>
  intro m
  show dH (lZ (kT m a x) l x) k z=_
  rw [ih,qo]
  by_cases h1:k∈l <;> by_cases h2:k=a <;> simp [h1,h2]
theorem DH (l:List κ) (x:ν) (k:κ): ∀(m:List (κ×ν)),fR (lZ m l x) k= (decide (k∈l)||fR m k):=by
 induction l with
 | nil=>intro m;simp [lZ]
 | cons a l ih=>
  intro m
  show fR (lZ (kT m a x) l x) k=_
  rw [ih,w3]
  by_cases h1:k∈l <;> by_cases h2:k=a <;> simp [h1,h2]
theorem Ap {l:List κ} {m:List (κ×ν)} (x:ν) (hl:l.length<=4611686018427387904):
  jI l.length (fun(k:Nat) (s:List (κ×ν))=>((idx l ((k:Nat):Int)).bind fun y=>some (kT s y x):Option (List (κ×ν)))) m=some (lZ m l x):=by
 rw [vH (s:=m) (fun k=>lZ m (l.take k) x) hl rfl (fun k hk=>by
  rw [gU l k hk,aB]
  congr 1
  unfold lZ
  rw [dU hk,List.foldl_append];rfl),dJ]
end
end Go.Gk
namespace Go.Gk
open Go
section
variable {N:Nat}
theorem yX (l:List Int) (a b:Nat) (h:a+b<l.length):Dd l ((a:Nat):Int) ((b:Nat):Int)=some l[a+b]:=by
 unfold Dd
 rw [aC (by omega),show ((a:Nat):Int)+ ((b:Nat):Int)= ((a+b:Nat):Int) by omega,gU _ _ h]
theorem mj.Hp {l:List Int} {a:Int} (h:mj l) (hl: ∀c∈l,c<a):mj (l++[a]):=by
 unfold mj
 rw [List.pairwise_append]
 exact⟨h,List.pairwise_singleton _ _,fun c hc d hd=>by simp at hd;subst hd;exact hl c hc⟩
theorem mj.last {l:List Int} {a:Int} (h:mj l) (hl:l.getLast? =some a): ∀c∈l,c<=a:=by
 intro c hc
 have hs:=q6 hl
 rw [hs] at h hc
 rcases cY.1 hc with h1 | h1
 ·have:=(List.pairwise_append.1 h).2.2 c h1 a (by simp);omega
 ·simp at h1;omega
theorem Bh {l:List Int} (hs:l.Pairwise (fun x y=>x<=y)) (hl:l.length<=4611686018427387000) (hN:l.length<N):
  Ok (fX N l) (fun m=>mj m/\∀c,c∈m↔c∈l):=by
 unfold fX
 refine Ok.bif (fun h2=>Ok.ret ⟨?_,fun c=>Iff.rfl⟩) (fun h2=>?_)
 ·have h2:=of_decide_eq_true h2
  match l,h2 with
  | [],_=>exact ma
  | [a],_=>exact List.pairwise_singleton _ _
  | a::b::l,h2=>simp at h2;omega
 ·have h2:=of_decide_eq_false h2
  have le: ∀(i j:Nat) (x y:Int),i<j->l[i]? =some x->l[j]? =some y->x<=y:=fun i j x y hij hx hy=>by
   have:=nY.1 hs i j (aZ.1 hx).1 (aZ.1 hy).1 hij
   rw [(aZ.1 hx).2,(aZ.1 hy).2] at this;exact this
  refine Ok.bind (Ok.nL (Go:=fun _=>mj l) (Rt:=fun m=>mj m/\∀c,c∈m↔c∈l) (fun s=>∃k:Nat,s= ((k:Nat):Int)/\1<=k/\k<=l.length/\mj (l.take k)) (fun s=>l.length - s.toNat) ?_ ⟨1,rfl,bI _,by omega,?_⟩ (by simp;omega)) ?_
  ·rintro s ⟨k,rfl,hk1,hkl,hinc⟩
   refine Ok.bif (fun h=>?_) (fun h=>Ok.br ?_)
   ·have hk:k<l.length:=by have:=of_decide_eq_true h;omega
    refine Ok.idx hk ?_
    rw [lL hk1 (by omega)]
    refine Ok.idx (by omega) ?_
    refine Ok.bif (fun he=>?_) (fun he=>?_)
    ·have he:l[k]=l[k - 1]:=by simpa using he
     refine Ok.eq (vI l k hkl) ?_
     refine Ok.bind (Ok.nL (Go:=fun s=>∃i:Nat,s.2.1= ((i:Nat):Int)/\i<=l.length/\s.1.length=l.length/\mj (s.1.take i)/\∀c,c∈s.1.take i↔c∈l) (Rt:=fun _=>True)
      (fun s=>∃i j:Nat,s.2.1= ((i:Nat):Int)/\s.2.2= ((j:Nat):Int)/\1<=j/\k+j<=l.length/\i<=k+j - 1/\s.1.length=l.length/\mj (s.1.take i)/\(s.1.take i).getLast? =l[k+j - 1]? /\
       (∀c,c∈s.1.take i↔c∈l.take (k+j))/\∀m,k+j - 1<=m->s.1[m]? =l[m]?) (fun s=>l.length - s.2.2.toNat) ?_ ?_ (by simp;omega)) ?_
     ·rintro⟨u,a,b⟩ ⟨i,j,e1,e2,hj,hjl,hij,hlen,hi,hlast,hmem,hrest⟩
      dsimp only at e1 e2 hlen hi hlast hmem hrest ⊢
      subst e1;subst e2
      rw [cK]
      refine Ok.bif (fun h=>?_) (fun h=>Ok.br ?_)
      ·have hlt:k+j<l.length:=by have:=of_decide_eq_true h;omega
       have hx:u[k+j]'(by omega)=l[k+j]:=by have:=hrest (k+j) (by omega);rw [aK (by omega),aK hlt] at this;injection this
       have hy:u[k+ (j - 1)]'(by omega)=l[k+ (j - 1)]:=by have:=hrest (k+ (j - 1)) (by omega);rw [aK (by omega),aK (by omega)] at this;injection this
       refine Ok.eq (yX u k j (by omega)) ?_
       rw [lL hj (by omega)]
       refine Ok.eq (yX u k (j - 1) (by omega)) ?_
       rw [hx,hy]
       have hts:l.take (k+j+1)=l.take (k+j)++[l[k+j]]:=dU hlt
       have hlast': (u.take i).getLast? =some l[k+ (j - 1)]:=by rw [hlast,show k+j - 1=k+ (j - 1) by omega,aK (by omega)]
       have hxy:l[k+ (j - 1)]<=l[k+j]:=le (k+ (j - 1)) (k+j) _ _ (by omega) (aK _) (aK _)
       refine Ok.bind (P:=fun s'=>s'.1.length=l.length/\∃i':Nat,s'.2= ((i':Nat):Int)/\i'<=k+j/\mj (s'.1.take i')/\(s'.1.take i').getLast? =l[k+j]? /\(∀c,c∈s'.1.take i'↔c∈l.take (k+j+1))/\∀m,k+j<=m->s'.1[m]? =l[m]?) ?_ ?_
       ·refine Ok.bif (fun hne=>?_) (fun hne=>Ok.ret ?_)
        ·have hne:l[k+j]≠l[k+ (j - 1)]:=by simpa using hne
         refine Ok.eq (yX u k j (by omega)) ?_
         rw [hx]
         refine Ok.idx (by omega) (Ok.ret ⟨by simp [hlen],i+1,?_,by omega,?_⟩)
         ·rw [g8 (by omega)]
         ·dsimp only
          rw [cK]
          have ht: (u.set i l[k+j]).take (i+1)=u.take i++[l[k+j]]:=by
           rw [dU (by simp;omega),List.take_set_of_le (bI _)];simp
          rw [ht]
          refine⟨hi.Hp fun c hc=>?_,by simp [aK hlt],fun c=>?_,fun m hm=>?_⟩
          ·have:=hi.last hlast' c hc;omega
          ·rw [hts,cY,cY,hmem]
          ·rw [eZ,aD (by omega)];exact hrest m (by omega)
        ·have he:l[k+j]=l[k+ (j - 1)]:=by simpa using hne
         refine⟨hlen,i,rfl,by omega,hi,?_,fun c=>?_,fun m hm=>hrest m (by omega)⟩
         ·dsimp only;rw [hlast',aK hlt,he]
         ·rw [hts,cY,<-hmem]
          constructor
          ·exact .inl
          ·rintro(h | h)
           ·exact h
           ·simp at h;subst h
            rw [he];exact List.mem_of_getLast? hlast'
       ·rintro⟨v,a⟩ ⟨g1,i',g2,g3,g4,g5,g6,g7⟩
        dsimp only at g1 g2 g4 g5 g6 g7 ⊢
        refine Ok.nx ⟨⟨i',j+1,g2,?_,by omega,by omega,by omega,g1,g4,?_,g6,fun m hm=>g7 m (by omega)⟩,?_⟩
        ·rw [g8 (by omega)]
        ·rw [show k+ (j+1) - 1=k+j by omega];exact g5
        ·rw [g8 (by omega)];simp only [cK];omega
      ·have hge:k+j=l.length:=by have:=of_decide_eq_false h;omega
       refine⟨i,rfl,by omega,hlen,hi,fun c=>?_⟩
       rw [hmem,hge,dJ]
     ·refine⟨k,1,rfl,rfl,bI _,by omega,by omega,rfl,hinc,?_,fun c=>?_,fun m _=>rfl⟩
      ·dsimp only
       rw [show k+1 - 1=k by omega,aK hk,he,List.getLast?_eq_getElem?,cV,Nat.min_eq_left hkl,List.getElem?_take_of_lt (by omega),aK (by omega)]
      ·dsimp only
       rw [dU hk,cY]
       constructor
       ·exact .inl
       ·rintro(h | h)
        ·exact h
        ·simp at h;subst h;rw [he]
         refine eN (i:=k - 1) ?_
         rw [List.getElem?_take_of_lt (by omega),aK (by omega)]
     ·rintro o ho
      refine Ok.cs ho ?_ (fun r=>r.elim)
      rintro⟨u,a,b⟩ ⟨i,e1,hi,hlen,hinc',hmem⟩
      dsimp only at e1 hlen hinc' hmem ⊢
      subst e1
      refine Ok.eq (vI u i (by omega)) ?_
      rw [cK]
      refine Ok.eq (p8 _ i (by simp;omega)) (Ok.rt ?_)
      rw [List.take_append_of_le_length (by simp;omega),List.take_take,Nat.min_self]
      exact⟨hinc',hmem⟩
    ·have he:l[k]≠l[k - 1]:=by simpa using he
     refine Ok.nx ⟨⟨k+1,by rw [g8 (by omega)],by omega,by omega,?_⟩,by rw [g8 (by omega)];simp only [cK];omega⟩
     rw [dU hk]
     refine hinc.Hp fun c hc=>?_
     have hlast: (l.take k).getLast? =some l[k - 1]:=by
      rw [List.getLast?_eq_getElem?,cV,Nat.min_eq_left hkl,List.getElem?_take_of_lt (by omega),aK (by omega)]
     have h3:=hinc.last hlast c hc
     have h4:=le (k - 1) k _ _ (by omega) (aK (by omega:k - 1<l.length)) (aK hk)
     omega
   ·have hge:k=l.length:=by have:=of_decide_eq_false h;omega
    subst hge;rw [dJ] at hinc;exact hinc
  ·match l,h2 with
   | [],h2=>simp at h2
   | a::l,_=>exact List.pairwise_singleton _ _
  ·rintro o ho
   exact Ok.cs ho (fun s h=>Ok.ret ⟨h,fun c=>Iff.rfl⟩) (fun r h=>Ok.ret h)
def qp (l:List aJ):List Int:=l.flatMap fun r=>[r.X0,r.X1]
def l5 (l:List aJ):List Int:=l.flatMap fun r=>[r.Y0,r.Y1]
theorem qq {l:List aJ} {c:Int}:c∈qp l↔∃r∈l,c=r.X0\/c=r.X1:=by unfold qp;simp [List.mem_flatMap]
theorem lv {l:List aJ} {c:Int}:c∈l5 l↔∃r∈l,c=r.Y0\/c=r.Y1:=by unfold l5;simp [List.mem_flatMap]
theorem l6 (l:List aJ): (qp l).length=2*l.length:=by
 induction l with
 | nil=>rfl
 | cons r l ih=>unfold qp at *;simp [List.flatMap_cons,ih];omega
theorem j6 (l:List aJ): (l5 l).length=2*l.length:=by
 induction l with
 | nil=>rfl
 | cons r l ih=>unfold l5 at *;simp [List.flatMap_cons,ih];omega
def vd (X Y:List Int) (s:List Bd):Prop:=∀b∈s,b.y0∈Y/\b.y1∈Y/\∀c∈b.xs,c∈X
theorem vd.push {X Y:List Int} {s:List Bd} {b:Bd} (h:vd X Y s) (h0:b.y0∈Y) (h1:b.y1∈Y) (h2: ∀c∈b.xs,c∈X):vd X Y (ml s b):=by
 intro c hc
 unfold ml at hc
 split at hc
 ·exact h c hc
 ·split at hc
  ·rename_i d hd
   have hdm:d∈s:=List.mem_of_getLast? hd
   split at hc
   ·rcases cY.1 hc with hc | hc
    ·exact h c (List.dropLast_subset _ hc)
    ·simp at hc;subst hc;exact⟨(h d hdm).1,h1,(h d hdm).2.2⟩
   ·rcases cY.1 hc with hc | hc
    ·exact h c hc
    ·simp at hc;subst hc;exact⟨h0,h1,h2⟩
  ·simp at hc;subst hc;exact⟨h0,h1,h2⟩
theorem mj.nodup {l:List Int} (h:mj l):l.Nodup:=List.Pairwise.imp (fun h=>by omega) h
theorem vd.row {X Y:List Int} {s:List Bd} (h:vd X Y s) (hc:eJ s) {b:Bd} (hb:b∈s):b.xs.length<=X.length:=eL (hc.each b hb).2.2.1.nodup (h b hb).2.2
theorem vd.len {X Y:List Int} {s:List Bd} (h:vd X Y s) (hc:eJ s):s.length<=Y.length:=by
 have hn: (s.map Bd.y0).Nodup:=by
  unfold List.Nodup
  rw [List.pairwise_map]
  refine List.Pairwise.imp_of_mem (fun{a b} ha hb hab=>?_) hc.ord
  have:=(hc.each a ha).1
  have:=hab.1
  omega
 have:=eL hn (m:=Y) (fun x hx=>by
  obtain⟨b,hb,rfl⟩:=cR.1 hx
  exact(h b hb).1)
 rwa [gp] at this
theorem vd.mono {X Y X' Y':List Int} {s:List Bd} (h:vd X Y s) (hx: ∀c∈X,c∈X') (hy: ∀c∈Y,c∈Y'):vd X' Y' s:=fun b hb=>⟨hy _ (h b hb).1,hy _ (h b hb).2.1,fun c hc=>hx c ((h b hb).2.2 c hc)⟩
theorem mj.lt {l:List Int} (h:mj l) {i j:Nat} {x y:Int} (hij:i<j) (hx:l[i]? =some x) (hy:l[j]? =some y):x<y:=by
 have:=nY.1 h i j (aZ.1 hx).1 (aZ.1 hy).1 hij
 rw [(aZ.1 hx).2,(aZ.1 hy).2] at this;exact this
theorem mj.next {l:List Int} (h:mj l) {k:Nat} {x y c:Int} (hx:l[k]? =some x) (hy:l[k+1]? =some y) (hc:c∈l) (hxc:x<c):y<=c:=by
 obtain⟨j,hj⟩:=eA hc
 rcases Nat.lt_trichotomy j (k+1) with h1 | h1 | h1
 ·exfalso
  by_cases e:j=k
  ·subst e;rw [hx] at hj;injection hj with hj;omega
  ·have:=h.lt (show j<k by omega) hj hx;omega
 ·subst h1;rw [hy] at hj;injection hj with hj;omega
 ·have:=h.lt h1 hy hj;omega
theorem uV {l:List aJ} {φ:aJ->Option Bool} (p:aJ->Bool) (hφ: ∀x∈l,φ x=some (p x)) (hl:l.length<=4611686018427387000) (hN:l.length<N):gA N l φ=some (l.filter (fun x=> !p x)):=
 Ho (z:=(⟨0,0,0,0⟩:aJ)) p hφ hl hN
theorem zS {l:List aJ} (hl:l.length<=268435456):iu N l=some l:=by
 unfold iu;rw [gL (by simp;omega),aB,List.nil_append]
structure LC (l m:List aJ) (ys:List Int) (k:Nat) (out:List aA) (now:List aJ) (nx:Nat):Prop where
 can:eJ (out.map bT)
 top: ∀c∈out,∀y,ys[k]? =some y->c.Y1<=y
 cover: ∀x y,vZ (out.map bT) x y= (zR l x y&&decide (∀a,ys[k]? =some a->y<a))
 lim:vd (qp l) (l5 l) (out.map bT)
 Oe: ∀r∈now,r∈m.take nx
 Of: ∀r∈m.take nx,∀y,ys[k]? =some y->y<r.Y1->r∈now
 len:now.length<=nx
 NL:nx<=m.length
 rest: ∀(j:Nat) r y,nx<=j->m[j]? =some r->ys[k]? =some y->y<=r.Y0
 low: ∀r∈now,∀y,ys[k]? =some y->r.Y0<=y
structure rD (l:List aJ) (s:List aA):Prop where
 can:eJ (s.map bT)
 cover: ∀x y,vZ (s.map bT) x y=zR l x y
 lim:vd (qp l) (l5 l) (s.map bT)
theorem q8 {l:List aJ} (hl:l.length<=134217728) (hok: ∀r∈l,C5 r) (hN:4294967296<=N):Ok (gj N l) (rD l):=by
 unfold gj
 refine Ok.eq (zS (by omega)) ?_
 obtain⟨m,h1,h2,h3⟩:=vU (φ:=i6 N) (l:=l) (fun a b=>a.Y0 - b.Y0) (fun a ha b hb=>by
  unfold i6;rw [wrap_small (hok a ha).s3 (hok b hb).s3]) (fun a _=>by omega) (fun a _ b _ c _ h1 h2=>by omega) (fun a _ b _ c _ h1 h2=>by omega) (by omega)
 refine Ok.eq h1 ?_
 have hml:m.length=l.length:=h2.length_eq
 have hmem: ∀r,r∈m↔r∈l:=fun r=>h2.mem_iff
 refine Ok.bind (Ok.jI (fun k s=>s=l5 (m.take k)) (by omega) rfl (fun k s hk e=>?_)) ?_
 ·subst e
  refine Ok.idx hk (Ok.app ?_ (Ok.ret ?_))
  ·rw [j6];simp;omega
  ·rw [dU hk]
   unfold l5;rw [List.flatMap_append];rfl
 rintro s rfl
 rw [dJ]
 have hgs:r9 (l5 m)=some ((l5 m).mergeSort (fun x y=>decide (x<=y))):=by unfold r9;rw [aC (by rw [j6];omega)]
 refine Ok.eq hgs ?_
 have hsp: ((l5 m).mergeSort (fun x y=>decide (x<=y))).Pairwise (fun x y=>x<=y):=by
  have:=List.pairwise_mergeSort (le:=fun(x y:Int)=>decide (x<=y)) (fun a b c h1 h2=>by simp at *;omega) (fun a b=>by simp;omega) (l5 m)
  exact List.Pairwise.imp (fun h=>by simpa using h) this
 have hsm: ∀c,c∈(l5 m).mergeSort (fun x y=>decide (x<=y))↔c∈l5 m:=fun c=>List.mem_mergeSort
 have hsl: ((l5 m).mergeSort (fun x y=>decide (x<=y))).length=2*m.length:=by rw [List.length_mergeSort,j6]
 generalize (l5 m).mergeSort (fun x y=>decide (x<=y))=sy at hsp hsm hsl
 refine Ok.bind (Bh (N:=N) hsp (by omega) (by omega)) ?_
 rintro ys ⟨hy,hym⟩
 have hyl:ys.length<=2*m.length:=by
  have:=eL hy.nodup (m:=sy) (fun c hc=>(hym c).1 hc)
  omega
 have y0m: ∀r∈m,r.Y0∈ys:=fun r hr=>(hym _).2 ((hsm _).2 (lv.2 ⟨r,hr, .inl rfl⟩))
 have y1m: ∀r∈m,r.Y1∈ys:=fun r hr=>(hym _).2 ((hsm _).2 (lv.2 ⟨r,hr, .inr rfl⟩))
 have yml: ∀c∈ys,c∈l5 l:=fun c hc=>by
  obtain⟨r,hr,h⟩:=lv.1 ((hsm _).1 ((hym _).1 hc))
  exact lv.2 ⟨r,(hmem r).1 hr,h⟩
 refine Ok.bind (Ok.nL (Go:=fun s=>rD l s.1) (Rt:=fun _=>True) (fun s=>∃k nx:Nat,s.2.2.2= ((k:Nat):Int)/\s.2.2.1= ((nx:Nat):Int)/\(k<ys.length\/k=0)/\LC l m ys k s.1 s.2.1 nx) (fun s=>ys.length - s.2.2.2.toNat) ?_ ?_ (by simp;omega)) ?_
 ·rintro⟨out,now,a,b⟩ ⟨k,nx,e1,e2,hk,I⟩
  dsimp only at e1 e2 I ⊢
  subst e1;subst e2
  rw [g8 (by omega)]
  refine Ok.bif (fun h=>?_) (fun h=>Ok.br ?_)
  ·have hk1:k+1<ys.length:=by have:=of_decide_eq_true h;omega
   have hyk:ys[k]? =some ys[k]:=aK _
   have hyk1:ys[k+1]? =some ys[k+1]:=aK hk1
   have hlt:=hy.lt (Nat.lt_succ_self k) hyk hyk1
   have hcov:=I.cover
   simp only [hyk,Option.some.injEq,forall_eq'] at hcov
   refine Ok.eq (uV (fun r=>decide (r.Y1<=ys[k])) (fun r _=>by unfold mB;rw [gU ys k (by omega),aB]) (by have:=I.len;have:=I.NL;omega) (by have:=I.len;have:=I.NL;omega)) ?_
   have hfl:=hU (fun r:aJ=> !decide (r.Y1<=ys[k])) now
   have hIl:=I.len
   have hIn:=I.NL
   refine Ok.bind (Ok.nL (Go:=fun s=>∃nx':Nat,s.2= ((nx':Nat):Int)/\nx'<=m.length/\s.1.length<=nx'/\(∀r∈s.1,r∈m.take nx')/\(∀r∈m.take nx',ys[k]<r.Y1->r∈s.1)/\(∀r∈s.1,r.Y0<=ys[k]/\ys[k]<r.Y1)/\(∀(j:Nat) r,nx'<=j->m[j]? =some r->ys[k]<r.Y0)) (Rt:=fun _=>True)
    (fun s=>∃nx':Nat,s.2= ((nx':Nat):Int)/\nx<=nx'/\nx'<=m.length/\s.1.length<=nx'/\(∀r∈s.1,r∈m.take nx')/\(∀r∈m.take nx',ys[k]<r.Y1->r∈s.1)/\(∀r∈s.1,r.Y0<=ys[k]/\ys[k]<r.Y1)) (fun s=>m.length - s.2.toNat) ?_ ?_ (by simp;omega)) ?_
   ·rintro⟨nw,b⟩ ⟨nx',e1,g0,g1,g2,g3,g4,g5⟩
    dsimp only at e1 g2 g3 g4 g5 ⊢
    subst e1
    refine Ok.bind (P:=fun b=>b=true↔∃h:nx'<m.length,m[nx'].Y0<=ys[k]) ?_ ?_
    ·refine Ok.bif (fun h=>?_) (fun h=>Ok.ret ?_)
     ·have hlt:nx'<m.length:=by have:=of_decide_eq_true h;omega
      refine Ok.idx hlt (Ok.idx (by omega) (Ok.ret ?_))
      rw [cE];exact⟨fun h=>⟨hlt,h⟩,fun⟨_,h⟩=>h⟩
     ·have:=of_decide_eq_false h
      constructor
      ·intro h;cases h
      ·rintro⟨h,_⟩;omega
    ·intro bb hbb
     refine Ok.bif (fun h=>?_) (fun h=>Ok.br ?_)
     ·obtain⟨hlt,h0⟩:=hbb.1 h
      have hts:m.take (nx'+1)=m.take nx'++[m[nx']]:=dU hlt
      refine Ok.idx hlt (Ok.app (by simp;omega) (Ok.nx ⟨⟨nx'+1,by rw [g8 (by omega)],by omega,by omega,by simp;omega,fun r hr=>?_,fun r hr hr2=>?_,fun r hr=>?_⟩,by rw [g8 (by omega)];simp only [cK];omega⟩))
      ·rw [hts]
       rcases cY.1 hr with h | h
       ·exact List.mem_append_left _ (g3 r h)
       ·exact List.mem_append_right _ h
      ·rw [hts] at hr
       rcases cY.1 hr with h | h
       ·exact List.mem_append_left _ (g4 r h hr2)
       ·exact List.mem_append_right _ h
      ·rcases cY.1 hr with h | h
       ·exact g5 r h
       ·simp at h;subst h
        refine⟨h0,?_⟩
        have:=(hok m[nx'] ((hmem _).1 (dK hlt))).y
        have:=I.rest nx' _ ys[k] g0 (aK hlt) hyk
        omega
     ·refine⟨nx',rfl,g1,g2,g3,g4,g5,fun j r hj hr=>?_⟩
      have hjl:=(aZ.1 hr).1
      have hlt:nx'<m.length:=by omega
      have h0: ¬m[nx'].Y0<=ys[k]:=fun h0=>by rw [hbb.2 ⟨hlt,h0⟩] at h;cases h
      by_cases e:nx'=j
      ·subst e;rw [aK hlt] at hr;injection hr with hr;subst hr;omega
      ·have:=nY.1 h3 nx' j hlt hjl (by omega)
       have hr':=(aZ.1 hr).2
       rw [hr'] at this;omega
   ·refine⟨nx,rfl,bI _,hIn,by dsimp only;omega,fun r hr=>I.Oe r (gR.1 hr).1,fun r hr h=>gR.2 ⟨I.Of r hr ys[k] hyk h,by simpa using h⟩,fun r hr=>?_⟩
    have hr:=gR.1 hr
    have hr2:ys[k]<r.Y1:=by simpa using hr.2
    exact⟨I.low r hr.1 ys[k] hyk,hr2⟩
   ·rintro o ho
    refine Ok.cs ho ?_ (fun r=>r.elim)
    rintro⟨nw,b⟩ ⟨nx',e1,g1,g2,g3,g4,g5,g6⟩
    dsimp only at e1 g2 g3 g4 g5 ⊢
    subst e1
    refine Ok.idx (by omega) (Ok.idx hk1 ?_)
    have hnm: ∀r∈nw,r∈l:=fun r hr=>(hmem r).1 (List.take_subset _ _ (g3 r hr))
    obtain⟨row,nw',s1,s2,s3,s4,s5,s6,s7⟩:=Bg (N:=N) (l:=nw) (by omega) (fun r hr=>hok r (hnm r hr))
    refine Ok.eq s1 ?_
    have hlimx: ∀c∈row,c∈qp l:=fun c hc=>by
     obtain⟨r,hr,h⟩:=s7 c hc
     exact qq.2 ⟨r,hnm r hr,h⟩
    have hol:out.length<=2*l.length:=by have:=I.lim.len I.can;rw [j6,gp] at this;exact this
    have hox: ∀c∈out,c.Xs.length<=2*l.length:=fun c hc=>by
     have:=I.lim.row I.can (b:=bT c) (cR.2 ⟨c,hc,rfl⟩)
     rw [l6] at this;exact this
    obtain⟨out',p1,p2⟩:=EI (N:=N) (s:=out) (b:=⟨ys[k],ys[k+1],row⟩) (by omega) (fun c hc=>by have:=hox c hc;omega)
    refine Ok.eq p1 ?_
    have htop: ∀c∈out.map bT,c.y1<=(bT ⟨ys[k],ys[k+1],row⟩).y0:=fun c hc=>by
     obtain⟨d,hd,rfl⟩:=cR.1 hc
     exact I.top d hd ys[k] hyk
    have hcan:=wX I.can htop s3 s4
    refine Ok.nx ⟨⟨k+1,nx',rfl,rfl, .inl hk1,⟨by dsimp only;rw [p2];exact hcan,fun c hc y hy1=>?_,fun x y=>?_,?_,fun r hr=>g3 r (s2.subset hr),fun r hr y hy1 h=>?_,by rw [s2.length_eq];exact g2,g1,fun j r y hj hr hy1=>?_,fun r hr y hy1=>?_⟩⟩,by simp only [cK];omega⟩
    ·rw [hyk1] at hy1;injection hy1 with hy1;subst hy1
     have hm':bT c∈ml (out.map bT) (bT ⟨ys[k],ys[k+1],row⟩):=by rw [<-p2];exact cR.2 ⟨c,hc,rfl⟩
     exact wY htop (by show ys[k]<=ys[k+1];omega) _ hm'
    ·simp only [hyk1,Option.some.injEq,forall_eq']
     unfold vZ
     rw [p2,wW htop (fun c hc=>(I.can.each c hc).1) (fun h=>absurd h (by show ¬ys[k+1]<=ys[k];omega))]
     by_cases hyy:ys[k]<=y/\y<ys[k+1]
     ·rw [aC (show (bT ⟨ys[k],ys[k+1],row⟩).y0<=y/\y< (bT ⟨ys[k],ys[k+1],row⟩).y1 from hyy),cD hyy.2,Bool.and_true]
      show m0 row x=_
      rw [s5,fH,yV,kq]
      constructor
      ·rintro⟨r,hr,h⟩
       have hrm:=List.take_subset _ _ (g3 r hr)
       have h5:=g5 r hr
       have:=hy.next hyk hyk1 (y1m r hrm) h5.2
       exact⟨r,hnm r hr,h,by omega,by omega⟩
      ·rintro⟨r,hr,h,h7,h8⟩
       have hrm:=(hmem r).2 hr
       have h9:r.Y0<=ys[k]:=by
        by_cases h10:r.Y0<=ys[k]
        ·exact h10
        ·have:=hy.next hyk hyk1 (y0m r hrm) (by omega);omega
       have h11:r∈m.take nx':=by
        obtain⟨j,hj⟩:=eA hrm
        by_cases h12:j<nx'
        ·exact eN (i:=j) (by rw [List.getElem?_take_of_lt h12];exact hj)
        ·have:=g6 j r (by omega) hj;omega
       exact⟨r,g4 r h11 (by omega),h⟩
     ·rw [aD (show ¬((bT ⟨ys[k],ys[k+1],row⟩).y0<=y/\y< (bT ⟨ys[k],ys[k+1],row⟩).y1) from hyy)]
      show vZ (out.map bT) x y=_
      rw [hcov]
      by_cases h1:y<ys[k]
      ·rw [cD h1,cD (show y<ys[k+1] by omega)]
      ·rw [bS h1,bS (show ¬y<ys[k+1] by omega)]
    ·show vd (qp l) (l5 l) (out'.map bT)
     rw [p2]
     exact I.lim.push (yml _ (dK _)) (yml _ (dK _)) hlimx
    ·rw [hyk1] at hy1;injection hy1 with hy1;subst hy1
     exact s2.symm.subset (g4 r hr (by omega))
    ·rw [hyk1] at hy1;injection hy1 with hy1;subst hy1
     exact hy.next hyk hyk1 (y0m r (eN hr)) (g6 j r hj hr)
    ·rw [hyk1] at hy1;injection hy1 with hy1;subst hy1
     have:=(g5 r (s2.subset hr)).1;omega
  ·have hge: ¬k+1<ys.length:=by have:=of_decide_eq_false h;omega
   refine⟨I.can,fun x y=>?_,I.lim⟩
   rw [I.cover]
   by_cases hyn:ys= []
   ·have:zR l x y=false:=by
     rw [<-iM,kq]
     rintro⟨r,hr,_⟩
     have:=y0m r ((hmem r).2 hr)
     rw [hyn] at this;cases this
    rw [this];rfl
   ·have hkl:k<ys.length:=by
     rcases hk with h | h
     ·exact h
     ·subst h;exact List.length_pos_iff.2 hyn
    rw [aK hkl]
    simp only [Option.some.injEq,forall_eq']
    cases hc:zR l x y with
    | false=>rfl
    | true=>
     obtain⟨r,hr,_,h7,h8⟩:=kq.1 hc
     have:=y1m r ((hmem r).2 hr)
     obtain⟨j,hj⟩:=eA this
     have hjl:=(aZ.1 hj).1
     have:r.Y1<=ys[k]:=by
      by_cases e:j=k
      ·subst e;rw [aK hkl] at hj;injection hj with hj;omega
      ·have:=hy.lt (show j<k by omega) hj (aK hkl);omega
     rw [cD (show y<ys[k] by omega)];rfl
 ·refine⟨0,0,rfl,rfl, .inr rfl,?_⟩
  show LC l m ys 0 [] [] 0
  refine⟨eJ.nil,fun c hc=>(by cases hc),fun x y=>?_,fun b hb=>(by cases hb),fun r hr=>(by cases hr),fun r hr=>(by rw [List.take_zero] at hr;cases hr),bI _,mw _,fun j r y _ hr hy0=>?_,fun r hr=>(by cases hr)⟩
  ·show false=_
   symm
   rw [Bool.and_eq_false_iff]
   cases hc:zR l x y with
   | false=>exact .inl rfl
   | true=>
    right
    obtain⟨r,hr,_,h7,h8⟩:=kq.1 hc
    have hr0:=y0m r ((hmem r).2 hr)
    have hpos:0<ys.length:=List.length_pos_of_mem hr0
    rw [decide_eq_false_iff_not]
    intro h
    have h:=h ys[0] (aK hpos)
    obtain⟨j,hj⟩:=eA hr0
    by_cases e:j=0
    ·subst e;rw [aK hpos] at hj;injection hj with hj;omega
    ·have:=hy.lt (show 0<j by omega) (aK hpos) hj;omega
  ·obtain⟨j',hj'⟩:=eA (y0m r (eN hr))
   by_cases e:j'=0
   ·subst e;rw [hy0] at hj';injection hj' with hj';omega
   ·have:=hy.lt (show 0<j' by omega) hy0 hj';omega
 ·rintro o ho
  refine Ok.cs ho (fun s h=>Ok.ret h) (fun r=>r.elim)
end
end Go.Gk
namespace Go.Gk
open Go
section
variable {N:Nat}
def Aq:List Int->List (Int×Int)
 | a::b::l=>(a,b)::Aq l
 | _=>[]
theorem x3: ∀(xs:List Int),(Aq xs).length=xs.length / 2
 | []=>rfl
 | [a]=>by simp [Aq]
 | a::b::l=>by unfold Aq;rw [gI,x3 l];simp only [gI];omega
theorem v7: ∀(xs:List Int) (j:Nat) (h:2*j+1<xs.length),(Aq xs)[j]? =some (xs[2*j],xs[2*j+1])
 | [],j,h=>by simp at h
 | [a],j,h=>by simp at h
 | a::b::l,0,h=>rfl
 | a::b::l,j+1,h=>by
  have:=v7 l j (by simp at h;omega)
  unfold Aq
  rw [List.getElem?_cons_succ,this]
  have e1: (a::b::l)[2* (j+1)]=l[2*j]'(by simp at h;omega):=by simp [show 2* (j+1)=2*j+1+1 by omega]
  have e2: (a::b::l)[2* (j+1)+1]=l[2*j+1]'(by simp at h;omega):=by simp [show 2* (j+1)+1=2*j+1+1+1 by omega]
  rw [e1,e2]
theorem v8: ∀{xs:List Int},xs.length % 2=0->pw (Aq xs)=xs
 | [],_=>rfl
 | [a],h=>by simp at h
 | a::b::l,h=>by unfold Aq;rw [nb,v8 (by simp at h;omega)]
theorem IV {xs:List Int} (h:mj xs) (he:xs.length % 2=0) (x:Int):m0 xs x=Fz (Aq xs) x:=by
 have:=v5 (l:=Aq xs) (by rw [v8 he];exact h) x
 rwa [v8 he] at this
theorem Bi {xs:List Int}: ∀p∈Aq xs,p.1∈xs/\p.2∈xs:=by
 intro p hp
 obtain⟨j,hj⟩:=eA hp
 have hjl:=(aZ.1 hj).1
 rw [x3] at hjl
 rw [v7 xs j (by omega)] at hj
 injection hj with hj;subst hj
 exact⟨dK _,dK _⟩
theorem DI {xs:List Int} (h:mj xs): ∀p∈Aq xs,p.1<p.2:=by
 intro p hp
 obtain⟨j,hj⟩:=eA hp
 have hjl:=(aZ.1 hj).1
 rw [x3] at hjl
 rw [v7 xs j (by omega)] at hj
 injection hj with hj;subst hj
 exact h.lt (show 2*j<2*j+1 by omega) (aK _) (aK _)
def mm (b:aA):List aJ:=(Aq b.Xs).map fun p=>⟨p.1,b.Y0,p.2,b.Y1⟩
def aR (s:List aA):List aJ:=s.flatMap mm
theorem mn (b:aA) (s:List aA):aR (b::s)=mm b++aR s:=rfl
theorem lO (b:aA): (mm b).length=b.Xs.length / 2:=by unfold mm;rw [gp,x3]
theorem l7 (s t:List aA):aR (s++t)=aR s++aR t:=List.flatMap_append
theorem w4 (s:List aA) (k:Nat): (aR (s.take k)).length<=(aR s).length:=by
 conv=>rhs;rw [<-List.take_append_drop k s,l7,cU]
 omega
theorem yY {s:List aA} {A B:Nat} (h1:s.length<=A) (h2: ∀b∈s,b.Xs.length<=B): (aR s).length<=A*B:=by
 induction s generalizing A with
 | nil=>simp [aR]
 | cons b s ih=>
  rw [mn,cU,lO]
  simp at h1
  obtain⟨A',rfl⟩: ∃A',A=A'+1:=⟨A - 1,by omega⟩
  have:=ih (A:=A') (by omega) (fun c hc=>h2 c (kc _ hc))
  have:=h2 b (by simp)
  rw [Nat.add_mul];omega
theorem yZ {s:List aA} (he: ∀b∈s,b.Xs.length % 2=0) (h1:s.length<=1099511627776) (h2: ∀b∈s,b.Xs.length<=1099511627776/\b.Xs.length<N) (h3: (aR s).length<=1099511627776):iD N s=some (aR s):=by
 refine Ok.get ?_
 unfold iD
 refine Ok.bind (Ok.jI (fun k t=>t=aR (s.take k)) (by omega) rfl (fun k t hk e=>?_)) (fun t e=>Ok.ret (by rw [e,dJ]))
 subst e
 refine Ok.idx hk ?_
 have hm:=dK hk
 generalize hb:s[k]=b at hm ⊢
 have heb:=he b hm
 have hbl:=h2 b hm
 have hts:aR (s.take (k+1))=aR (s.take k)++mm b:=by
  rw [dU hk,l7,hb];simp [aR]
 have hle:=w4 s (k+1)
 rw [hts,cU,lO] at hle
 refine Ok.bind (Ok.nL (Go:=fun s'=>s'.1=aR (s.take (k+1))) (Rt:=fun _=>True) (fun s'=>∃j:Nat,s'.2= ((2*j:Nat):Int)/\2*j<=b.Xs.length/\s'.1=aR (s.take k)++(mm b).take j) (fun s'=>b.Xs.length - s'.2.toNat) ?_ ⟨0,rfl,by omega,by simp⟩ (by simp;omega)) ?_
 ·rintro⟨acc,i⟩ ⟨j,e1,hj,e2⟩
  dsimp only at e1 e2 ⊢
  subst e1;subst e2
  refine Ok.bif (fun h=>?_) (fun h=>Ok.br ?_)
  ·have hlt:2*j+1<b.Xs.length:=by have:=of_decide_eq_true h;omega
   refine Ok.idx (by omega) ?_
   rw [g8 (by omega)]
   refine Ok.idx hlt (Ok.app ?_ (Ok.nx ⟨⟨j+1,?_,by omega,?_⟩,?_⟩))
   ·simp;rw [lO];omega
   ·rw [Ao (by omega)];congr 1
   ·rw [jt]
    congr 1
    have hg: (mm b)[j]? =some ⟨b.Xs[2*j],b.Y0,b.Xs[2*j+1],b.Y1⟩:=by
     unfold mm;rw [gH,v7 _ _ hlt];rfl
    have hjl:=(aZ.1 hg).1
    rw [dU hjl,(aZ.1 hg).2]
   ·rw [Ao (by omega)];simp only [cK];omega
  ·have hge:2*j=b.Xs.length:=by have:=of_decide_eq_false h;omega
   show aR (s.take k)++(mm b).take j=_
   rw [hts,o7 (l:=mm b) (by rw [lO];omega)]
 ·rintro o ho
  exact Ok.cs ho (fun s' h=>Ok.ret h) (fun r=>r.elim)
theorem IW {s:List aA} (h1:s.length<=1099511627776) (h2: ∀b∈s,b.Xs.length<=1099511627776) (h3: (aR s).length<=1099511627776):k7 N s=some (((aR s).length:Nat):Int):=by
 refine Ok.get ?_
 unfold k7
 refine Ok.bind (Ok.jI (fun k t=>t= (((aR (s.take k)).length:Nat):Int)) (by omega) rfl (fun k t hk e=>?_)) (fun t e=>Ok.ret (by rw [e,dJ]))
 subst e
 refine Ok.idx hk (Ok.ret ?_)
 have hm:=dK hk
 have hbl:=h2 _ hm
 have hts:aR (s.take (k+1))=aR (s.take k)++mm s[k]:=by
  rw [dU hk,l7];simp [aR]
 have hle:=w4 s (k+1)
 rw [hts,cU,lO] at hle
 have e:Int.tdiv ((s[k].Xs.length:Nat):Int) 2= ((s[k].Xs.length / 2:Nat):Int):=by
  rw [show (2:Int)= ((2:Nat):Int) by rfl,<-Int.ofNat_tdiv]
 rw [e,CB (by omega),wrap_add (by omega),hts,cU,lO]
theorem DJ (l m:List aJ) (x y:Int):zR (l++m) x y= (zR l x y||zR m x y):=List.any_append
theorem Hq {b:aA} (h:mj b.Xs) (he:b.Xs.length % 2=0) (x y:Int):zR (mm b) x y= (m0 b.Xs x&&(decide (b.Y0<=y)&&decide (y<b.Y1))):=by
 rw [IV h he,fH,kq,cC,yW,cC,cE,cE]
 unfold mm
 constructor
 ·rintro⟨r,hr,h1,h2⟩
  obtain⟨p,hp,rfl⟩:=cR.1 hr
  exact⟨⟨p,hp,h1⟩,h2⟩
 ·rintro⟨⟨p,hp,h1⟩,h2⟩
  exact⟨_,cR.2 ⟨p,hp,rfl⟩,h1,h2⟩
theorem tH: ∀{s:List aA},eJ (s.map bT)->∀x y,zR (aR s) x y=vZ (s.map bT) x y
 | [],_,x,y=>rfl
 | b::s,h,x,y=>by
  rw [mn,DJ,tH h.tail x y]
  have hb:=h.each (bT b) (by simp)
  rw [Hq hb.2.2.1 hb.2.2.2]
  unfold vZ
  rw [dV,lr]
  by_cases hy:b.Y0<=y/\y<b.Y1
  ·rw [aC (show (bT b).y0<=y/\y< (bT b).y1 from hy),kp (fun c hc=> .inl (by have:=h.yS c hc;have e: (bT b).y1=b.Y1:=rfl;omega)),cD hy.1,cD hy.2]
   show (m0 b.Xs x&&true||false)=m0 b.Xs x
   simp
  ·rw [aD (show ¬((bT b).y0<=y/\y< (bT b).y1) from hy)]
   have: (decide (b.Y0<=y)&&decide (y<b.Y1))=false:=by rw [Bool.and_eq_false_iff,decide_eq_false_iff_not,decide_eq_false_iff_not];omega
   rw [this];simp
theorem ox {s:List aA} {r:aJ} (h:r∈aR s): ∃b∈s,∃p∈Aq b.Xs,r= ⟨p.1,b.Y0,p.2,b.Y1⟩:=by
 unfold aR mm at h
 obtain⟨b,hb,h⟩:=List.mem_flatMap.1 h
 obtain⟨p,hp,rfl⟩:=cR.1 h
 exact⟨b,hb,p,hp,rfl⟩
theorem y4 {s:List aA} {X Y:List Int} (h:eJ (s.map bT)) (hl:vd X Y (s.map bT)) (hx: ∀c∈X,small c) (hy: ∀c∈Y,small c): ∀r∈aR s,C5 r/\(r.X0∈X/\r.X1∈X)/\r.Y0∈Y/\r.Y1∈Y:=by
 intro r hr
 obtain⟨b,hb,p,hp,rfl⟩:=ox hr
 have hm:bT b∈s.map bT:=cR.2 ⟨b,hb,rfl⟩
 have hc:=h.each _ hm
 have hll:=hl _ hm
 have h1:=Bi p hp
 have h2:=hll.2.2 p.1 h1.1
 have h3:=hll.2.2 p.2 h1.2
 exact⟨⟨DI hc.2.2.1 p hp,hc.1,hx _ h2,hx _ h3,hy _ hll.1,hy _ hll.2.1⟩,⟨h2,h3⟩,hll.1,hll.2.1⟩
theorem uW {l:List Int} {x:Int} (h: ∀c∈l,c<=x):m0 l x= (l.length % 2==1):=by unfold m0;rw [EG h]
theorem w5 {l:List Int} {a x:Int} (h:x<a):m0 (l++[a]) x=m0 l x:=by unfold m0;rw [yP,nJ,aD (by omega),EF];rfl
def FD (l:List Int):Bool:=l.length % 2==1
theorem y5 (l:List Int) (a:Int):FD (l++[a]) = !FD l:=by
 unfold FD
 rw [cU,fH,Bool.not_eq_true',beq_iff_eq,beq_eq_false_iff_ne]
 simp;omega
structure CC (j8:Bool->Bool->Bool) (a b a' b' out:List Int) (inA inB is:Bool) (pa pb:List Int):Prop where
 ea:a=pa++a'
 eb:b=pb++b'
 oa:inA=FD pa
 ob:inB=FD pb
 oo:is=FD out
 ok:is=j8 inA inB
 low: ∀c,(c∈pa\/c∈pb\/c∈out)->∀d,(d∈a'\/d∈b')->c<d
 inc:mj out
 LD: ∀x,(∀d,(d∈a'\/d∈b')->x<d)->m0 out x=j8 (m0 pa x) (m0 pb x)
 mem: ∀c∈out,c∈pa\/c∈pb
 len:out.length<=pa.length+pb.length
theorem CC.step {j8:Bool->Bool->Bool} {a b a' b' out:List Int} {inA inB is:Bool} {pa pb:List Int} (I:CC j8 a b a' b' out inA inB is pa pb) (ha:mj a) (hb:mj b) (x:Int) (ta tb:List Int) (wa wb:Bool)
  (h1:a'= (if wa then x::ta else ta)) (h2:b'= (if wb then x::tb else tb)) (hw:wa=true\/wb=true) (hx: ∀d,(d∈ta\/d∈tb)->x<d):
  CC j8 a b ta tb (if j8 (inA ^^ wa) (inB ^^ wb)=is then out else out++[x]) (inA ^^ wa) (inB ^^ wb) (j8 (inA ^^ wa) (inB ^^ wb)) (if wa then pa++[x] else pa) (if wb then pb++[x] else pb):=by
 have hxm:x∈a'\/x∈b':=by
  rcases hw with h | h
  ·left;rw [h1,aC h];simp
  ·right;rw [h2,aC h];simp
 have hsub: ∀d,(d∈ta\/d∈tb)->d∈a'\/d∈b':=fun d hd=>by
  rcases hd with h | h
  ·left;rw [h1];split
   ·exact kc _ h
   ·exact h
  ·right;rw [h2];split
   ·exact kc _ h
   ·exact h
 have hlow: ∀c,(c∈pa\/c∈pb\/c∈out)->c<x:=fun c hc=>I.low c hc x hxm
 have hpa: ∀c∈(if wa then pa++[x] else pa),c∈pa\/(wa=true/\c=x):=fun c hc=>by
  split at hc
  ·rename_i h
   rcases cY.1 hc with h' | h'
   ·exact .inl h'
   ·simp at h';exact .inr ⟨h,h'⟩
  ·exact .inl hc
 have hpb: ∀c∈(if wb then pb++[x] else pb),c∈pb\/(wb=true/\c=x):=fun c hc=>by
  split at hc
  ·rename_i h
   rcases cY.1 hc with h' | h'
   ·exact .inl h'
   ·simp at h';exact .inr ⟨h,h'⟩
  ·exact .inl hc
 have hout: ∀c∈(if j8 (inA ^^ wa) (inB ^^ wb)=is then out else out++[x]),c∈out\/c=x:=fun c hc=>by
  split at hc
  ·exact .inl hc
  ·rcases cY.1 hc with h' | h'
   ·exact .inl h'
   ·simp at h';exact .inr h'
 have ooA: (inA ^^ wa)=FD (if wa then pa++[x] else pa):=by
  rw [I.oa];cases wa <;> simp [y5]
 have ooB: (inB ^^ wb)=FD (if wb then pb++[x] else pb):=by
  rw [I.ob];cases wb <;> simp [y5]
 have ooO:j8 (inA ^^ wa) (inB ^^ wb)=FD (if j8 (inA ^^ wa) (inB ^^ wb)=is then out else out++[x]):=by
  split
  ·rename_i h;rw [h];exact I.oo
  ·rename_i h
   rw [y5,<-I.oo]
   cases hk:j8 (inA ^^ wa) (inB ^^ wb) <;> cases his:is <;> simp_all
 refine⟨?_,?_,ooA,ooB,ooO,rfl,?_,?_,?_,?_,?_⟩
 ·rw [I.ea,h1];split <;> simp
 ·rw [I.eb,h2];split <;> simp
 ·intro c hc d hd
  have hd':=hx d hd
  have hdd:=hsub d hd
  rcases hc with h | h | h
  ·rcases hpa c h with h' | ⟨_,rfl⟩
   ·exact I.low c (.inl h') d hdd
   ·exact hd'
  ·rcases hpb c h with h' | ⟨_,rfl⟩
   ·exact I.low c (.inr (.inl h')) d hdd
   ·exact hd'
  ·rcases hout c h with h' | rfl
   ·exact I.low c (.inr (.inr h')) d hdd
   ·exact hd'
 ·split
  ·exact I.inc
  ·exact I.inc.Hp fun c hc=>hlow c (.inr (.inr hc))
 ·intro y hy
  by_cases hxy:y<x
  ·have e1:m0 (if wa then pa++[x] else pa) y=m0 pa y:=by split;exact w5 hxy;rfl
   have e2:m0 (if wb then pb++[x] else pb) y=m0 pb y:=by split;exact w5 hxy;rfl
   have e3:m0 (if j8 (inA ^^ wa) (inB ^^ wb)=is then out else out++[x]) y=m0 out y:=by split;rfl;exact w5 hxy
   rw [e1,e2,e3]
   refine I.LD y fun d hd=>?_
   have:x<=d:=by
    rcases hd with h | h
    ·rw [h1] at h
     split at h
     ·rcases fG.1 h with rfl | h
      ·exact Int.le_refl _
      ·have:=hx d (.inl h);omega
     ·have:=hx d (.inl h);omega
    ·rw [h2] at h
     split at h
     ·rcases fG.1 h with rfl | h
      ·exact Int.le_refl _
      ·have:=hx d (.inr h);omega
     ·have:=hx d (.inr h);omega
   omega
  ·rw [uW (l:=if wa then pa++[x] else pa),uW (l:=if wb then pb++[x] else pb),uW]
   ·have e1:=ooA;have e2:=ooB;have e3:=ooO
    unfold FD at e1 e2 e3
    rw [<-e1,<-e2,<-e3]
   ·intro c hc
    rcases hout c hc with h | rfl
    ·have:=hlow c (.inr (.inr h));omega
    ·omega
   ·intro c hc
    rcases hpb c hc with h | ⟨_,rfl⟩
    ·have:=hlow c (.inr (.inl h));omega
    ·omega
   ·intro c hc
    rcases hpa c hc with h | ⟨_,rfl⟩
    ·have:=hlow c (.inl h);omega
    ·omega
 ·intro c hc
  have m1: ∀c,c∈pa->c∈(if wa then pa++[x] else pa):=fun c h=>by split;exact List.mem_append_left _ h;exact h
  have m2: ∀c,c∈pb->c∈(if wb then pb++[x] else pb):=fun c h=>by split;exact List.mem_append_left _ h;exact h
  rcases hout c hc with h | rfl
  ·rcases I.mem c h with h | h
   ·exact .inl (m1 c h)
   ·exact .inr (m2 c h)
  ·rcases hw with h | h
   ·left;rw [aC h];simp
   ·right;rw [aC h];simp
 ·have:=I.len
  have h3: (if wa then pa++[x] else pa).length+ (if wb then pb++[x] else pb).length>=pa.length+pb.length+1:=by
   rcases hw with h | h
   ·subst h;cases wb <;> simp <;> omega
   ·subst h;cases wa <;> simp <;> omega
  split
  ·omega
  ·simp at h3 ⊢;omega
end
end Go.Gk
namespace Go.Gk
open Go
section
variable {N:Nat}
theorem iK (x:Int) (l:List Int):idx (x::l) 0=some x:=rfl
theorem qs {α:Type} (x:α) (l:List α):uE (x::l) 1 (((x::l).length:Nat):Int)=some l:=vI (x::l) 1 (by simp)
theorem jF {α:Type} (x:α) (l:List α):decide ((((x::l).length:Nat):Int)>0)=true:=cD (by simp)
theorem tI {α:Type} (x:α) (l:List α): ((((x::l).length:Nat):Int)==0)=false:=by rw [beq_eq_false_iff_ne];simp;omega
theorem DK {a b:List Int} (ha:mj a) (hb:mj b) (h:a≠[]\/b≠[]): ∃x ta tb wa wb,a= (if wa then x::ta else ta)/\b= (if wb then x::tb else tb)/\(wa=true\/wb=true)/\(∀d,(d∈ta\/d∈tb)->x<d):=by
 match a,b,ha,hb,h with
 | [],[],_,_,h=>rcases h with h | h <;> exact absurd rfl h
 | x::ta,[],ha,_,_=>exact⟨x,ta,[],true,false,rfl,rfl, .inl rfl,fun d hd=>by rcases hd with h | h;exact ha.head d h;cases h⟩
 | [],y::tb,_,hb,_=>exact⟨y,[],tb,false,true,rfl,rfl, .inr rfl,fun d hd=>by rcases hd with h | h;cases h;exact hb.head d h⟩
 | x::ta,y::tb,ha,hb,_=>
  rcases Int.lt_trichotomy x y with h | h | h
  ·refine⟨x,ta,y::tb,true,false,rfl,rfl, .inl rfl,fun d hd=>?_⟩
   rcases hd with h1 | h1
   ·exact ha.head d h1
   ·rcases fG.1 h1 with rfl | h1
    ·exact h
    ·have:=hb.head d h1;omega
  ·subst h
   exact⟨x,ta,tb,true,true,rfl,rfl, .inl rfl,fun d hd=>by rcases hd with h | h;exact ha.head d h;exact hb.head d h⟩
  ·refine⟨y,x::ta,tb,false,true,rfl,rfl, .inr rfl,fun d hd=>?_⟩
   rcases hd with h1 | h1
   ·rcases fG.1 h1 with rfl | h1
    ·exact h
    ·have:=ha.head d h1;omega
   ·exact hb.head d h1
theorem FE {φ:Bool->Bool->Option Bool} {j8:Bool->Bool->Bool} (hφ: ∀p q,φ p q=some (j8 p q)) (hk:j8 false false=false) {a b:List Int} (ha:mj a) (hb:mj b) (hae:a.length % 2=0) (hbe:b.length % 2=0)
  (kD:a.length<=1099511627776) (hbl:b.length<=1099511627776) (hN:a.length+b.length<N):
  Ok (oE N a b φ) (fun m=>mj m/\m.length % 2=0/\(∀x,m0 m x=j8 (m0 a x) (m0 b x))/\∀c∈m,c∈a\/c∈b):=by
 unfold oE
 refine Ok.bind (Ok.nL (Go:=fun s=>mj s.2.2.1/\s.2.2.1.length % 2=0/\(∀x,m0 s.2.2.1 x=j8 (m0 a x) (m0 b x))/\∀c∈s.2.2.1,c∈a\/c∈b) (Rt:=fun _=>True)
  (fun s=>∃pa pb,CC j8 a b s.1 s.2.1 s.2.2.1 s.2.2.2.1 s.2.2.2.2.1 s.2.2.2.2.2 pa pb) (fun s=>s.1.length+s.2.1.length) ?_ ?_ hN) ?_
 ·rintro⟨a',b',out,inA,inB,is⟩ ⟨pa,pb,I⟩
  dsimp only at I ⊢
  have ha':mj a':=by have:=ha;rw [I.ea] at this;exact(List.pairwise_append.1 this).2.1
  have hb':mj b':=by have:=hb;rw [I.eb] at this;exact(List.pairwise_append.1 this).2.1
  have hle:pa.length+a'.length=a.length:=by rw [I.ea];simp
  have hlb:pb.length+b'.length=b.length:=by rw [I.eb];simp
  have hlo:=I.len
  by_cases hne:a'≠[]\/b'≠[]
  ·obtain⟨x,ta,tb,wa,wb,h1,h2,hw,hx⟩:=DK ha' hb' hne
   have J:=I.step ha hb x ta tb wa wb h1 h2 hw hx
   have fin: ∀(sa sb:List Int×Bool),sa= (ta,inA ^^ wa)->sb= (tb,inB ^^ wb)->
     Ok ((φ sa.2 sb.2).bind fun x220=>(bif (x220 != is) then ((app 8 out ([x]: (List Int))).bind fun x227=>some (x227,x220)) else (some (out,is))).bind fun s224=>some (Fl.nx (sa.1,sb.1,s224.1,sa.2,sb.2,s224.2)))
      (Jp (fun s':List Int×List Int×List Int×Bool×Bool×Bool=>(∃pa pb,CC j8 a b s'.1 s'.2.1 s'.2.2.1 s'.2.2.2.1 s'.2.2.2.2.1 s'.2.2.2.2.2 pa pb)/\s'.1.length+s'.2.1.length<a'.length+b'.length) (fun s=>mj s.2.2.1/\s.2.2.1.length % 2=0/\(∀x,m0 s.2.2.1 x=j8 (m0 a x) (m0 b x))/\∀c∈s.2.2.1,c∈a\/c∈b) (fun _:Empty=>True)):=by
    rintro _ _ rfl rfl
    refine Ok.eq (hφ _ _) ?_
    have hlt:ta.length+tb.length<a'.length+b'.length:=by
     rw [h1,h2]
     rcases hw with h | h
     ·subst h;cases wb <;> simp <;> omega
     ·subst h;cases wa <;> simp <;> omega
    by_cases he:j8 (inA ^^ wa) (inB ^^ wb)=is
    ·rw [aC he] at J
     refine Ok.eq (x:=(out,is)) (by rw [he,show (is != is)=false by simp,aY]) ?_
     rw [he] at J
     exact Ok.nx ⟨⟨_,_,J⟩,hlt⟩
    ·rw [aD he] at J
     refine Ok.eq (x:=(out++[x],j8 (inA ^^ wa) (inB ^^ wb))) (by rw [show (j8 (inA ^^ wa) (inB ^^ wb) != is)=true by simp [he],aT,gL (by simp;omega),aB]) (Ok.nx ⟨⟨_,_,J⟩,hlt⟩)
   rcases hw with rfl | rfl
   ·rw [aC rfl] at h1
    subst h1
    refine Ok.eq (x:=true) (by rw [jF,aT]) ?_
    rw [aT]
    have hle2: (bif (((b'.length:Nat):Int)==0) then (some true) else (bif (decide ((((x::ta).length:Nat):Int)>0)) then ((idx (x::ta) 0).bind fun x181=>(idx b' 0).bind fun x183=>some (decide (x181<=x183))) else (some false)))=some true:=by
     cases b' with
     | nil=>rfl
     | cons y b''=>
      rw [tI,aY,jF,aT,iK,aB,iK,aB]
      have:x<=y:=by
       cases wb with
       | true=>simp at h2;omega
       | false=>have:=hx y (.inr (by simp at h2;rw [<-h2];simp));omega
      rw [cD this]
    refine Ok.eq hle2 ?_
    rw [aT]
    refine Ok.eq (x:=x) (by rw [iK,aB]) ?_
    refine Ok.eq (x:=true) (by rw [jF,aT,iK,aB];simp) ?_
    refine Ok.eq (x:=(ta,!inA)) (by rw [aT,qs,aB]) ?_
    cases wb with
    | true=>
     rw [aC rfl] at h2
     subst h2
     refine Ok.eq (x:=true) (by rw [jF,aT,iK,aB];simp) ?_
     refine Ok.eq (x:=(tb,!inB)) (by rw [aT,qs,aB]) ?_
     exact fin _ _ (by simp) (by simp)
    | false=>
     have h2:b'=tb:=h2
     subst h2
     refine Ok.eq (x:=false) ?_ ?_
     ·cases b' with
      | nil=>rfl
      | cons y b''=>
       have:=hx y (.inr (by simp))
       rw [jF,aT,iK,aB,show (y==x)=false by rw [beq_eq_false_iff_ne];omega]
     ·refine Ok.eq (x:=(b',inB)) (by rw [aY]) ?_
      exact fin _ _ (by simp) (by simp)
   ·cases wa with
    | true=>
     rw [aC rfl] at h1 h2
     subst h1;subst h2
     refine Ok.eq (x:=true) (by rw [jF,aT]) ?_
     rw [aT]
     refine Ok.eq (x:=true) (by rw [tI,aY,jF,aT,iK,aB,iK,aB];simp) ?_
     rw [aT]
     refine Ok.eq (x:=x) (by rw [iK,aB]) ?_
     refine Ok.eq (x:=true) (by rw [jF,aT,iK,aB];simp) ?_
     refine Ok.eq (x:=(ta,!inA)) (by rw [aT,qs,aB]) ?_
     refine Ok.eq (x:=true) (by rw [jF,aT,iK,aB];simp) ?_
     refine Ok.eq (x:=(tb,!inB)) (by rw [aT,qs,aB]) ?_
     exact fin _ _ (by simp) (by simp)
    | false=>
     have h1:a'=ta:=h1
     rw [aC rfl] at h2
     subst h1;subst h2
     refine Ok.eq (x:=true) (by rw [jF,IJ];simp) ?_
     rw [aT]
     refine Ok.eq (x:=false) ?_ ?_
     ·rw [tI,aY]
      cases a' with
      | nil=>rfl
      | cons y a''=>
       have:=hx y (.inl (by simp))
       rw [jF,aT,iK,aB,iK,aB,bS (by omega)]
     ·rw [aY]
      refine Ok.eq (x:=x) (by rw [iK,aB]) ?_
      refine Ok.eq (x:=false) ?_ ?_
      ·cases a' with
       | nil=>rfl
       | cons y a''=>
        have:=hx y (.inl (by simp))
        rw [jF,aT,iK,aB,show (y==x)=false by rw [beq_eq_false_iff_ne];omega]
      ·refine Ok.eq (x:=(a',inA)) (by rw [aY]) ?_
       refine Ok.eq (x:=true) (by rw [jF,aT,iK,aB];simp) ?_
       refine Ok.eq (x:=(tb,!inB)) (by rw [aT,qs,aB]) ?_
       exact fin _ _ (by simp) (by simp)
  ·have ea:a'= []:=Classical.byContradiction fun h=>hne (.inl h)
   have eb:b'= []:=Classical.byContradiction fun h=>hne (.inr h)
   subst ea;subst eb
   refine Ok.eq (x:=false) rfl ?_
   refine Ok.br ⟨I.inc,?_,fun x=>?_,fun c hc=>?_⟩
   ·have h1:=I.ea;have h2:=I.eb
    rw [mb] at h1 h2
    have h3:FD out=false:=by
     rw [<-I.oo,I.ok,I.oa,I.ob,<-h1,<-h2]
     unfold FD;rw [hae,hbe];exact hk
    unfold FD at h3
    rw [beq_eq_false_iff_ne] at h3
    dsimp only;omega
   ·have:=I.LD x (fun d hd=>by rcases hd with h | h <;> cases h)
    have h1:=I.ea;have h2:=I.eb
    rw [mb] at h1 h2
    rw [h1,h2];exact this
   ·have h1:=I.ea;have h2:=I.eb
    rw [mb] at h1 h2
    rw [h1,h2];exact I.mem c hc
 ·exact⟨[],[],rfl,rfl,rfl,rfl,rfl,hk.symm,fun c hc=>(by rcases hc with h | h | h <;> cases h),ma,fun x _=>hk.symm,fun c hc=>(by cases hc),bI _⟩
 ·rintro o ho
  exact Ok.cs ho (fun s h=>Ok.ret h) (fun r=>r.elim)
theorem eJ.app {s t:List Bd} (h:eJ (s++t)):eJ t:=⟨fun b hb=>h.each b (List.mem_append_right _ hb),(List.pairwise_append.1 h.ord).2.1⟩
theorem eJ.low {b:Bd} {s:List Bd} (h:eJ (b::s)): ∀c∈b::s,b.y0<=c.y0:=fun c hc=>by
 rcases fG.1 hc with rfl | hc
 ·exact Int.le_refl _
 ·have:=h.yS c hc;have:=(h.each b (by simp)).1;omega
theorem eJ.high {s:List Bd} {b:Bd} (h:eJ (s++[b])): ∀c∈s++[b],c.y1<=b.y1:=fun c hc=>by
 rcases cY.1 hc with hc | hc
 ·have:=((List.pairwise_append.1 h.ord).2.2 c hc b (by simp)).1
  have:=(h.each b (by simp)).1;omega
 ·simp at hc;subst hc;exact Int.le_refl _
def C6 (s:List aA) (y e:Int):List Int×Int:=match s with
 | []=>([],e)
 | b::_=>if y<b.Y0 then ([],if b.Y0<e then b.Y0 else e) else (b.Xs,if b.Y1<e then b.Y1 else e)
theorem Hr {α:Type} (x:α) (l:List α):idx (x::l) 0=some x:=rfl
theorem Jq (s:List aA) (y e:Int):lH N s y e=some (C6 s y e):=by
 unfold lH C6
 cases s with
 | nil=>rfl
 | cons b s=>
  dsimp only
  rw [tI,aY,Hr,aB,aB,aB,aB]
  by_cases h:y<b.Y0
  ·rw [cD h,aT,aC h]
  ·rw [bS h,aY,aD h]
theorem EJ {s:List aA} {y e:Int} {X Y:List Int} (hc:eJ (s.map bT)) (hl:vd X Y (s.map bT)) (hh: ∀b t,s=b::t->y<b.Y1) (hy:y<e):
  y< (C6 s y e).2/\(C6 s y e).2<=e/\(∀y',y<=y'->y'< (C6 s y e).2->rowAt (s.map bT) y'= (C6 s y e).1)/\mj (C6 s y e).1/\(C6 s y e).1.length % 2=0/\((C6 s y e).2=e\/(C6 s y e).2∈Y)/\∀c∈(C6 s y e).1,c∈X:=by
 cases s with
 | nil=>exact⟨hy,Int.le_refl _,fun y' _ _=>rfl,ma,rfl, .inl rfl,fun c hc=>(by cases hc)⟩
 | cons b t=>
  have hb:=hc.each (bT b) (by simp)
  have hlb:=hl (bT b) (by simp)
  have h1:=hh b t rfl
  unfold C6
  dsimp only
  by_cases h:y<b.Y0
  ·rw [aC h]
   dsimp only
   refine⟨by split <;> omega,by split <;> omega,fun y' h2 h3=>?_,ma,rfl,?_,fun c hc=>(by cases hc)⟩
   ·exact hc.tG (by show y'<b.Y0;split at h3 <;> omega)
   ·split
    ·exact .inr hlb.1
    ·exact .inl rfl
  ·rw [aD h]
   dsimp only
   refine⟨by split <;> omega,by split <;> omega,fun y' h2 h3=>?_,hb.2.2.1,hb.2.2.2,?_,hlb.2.2⟩
   ·exact eJ.lu (b:=bT b) (by show b.Y0<=y';omega) (by show y'<b.Y1;split at h3 <;> omega)
   ·split
    ·exact .inr hlb.2.1
    ·exact .inl rfl
theorem Ar {y:Int} {a:List aA} (hN:a.length<N) {body:List aA->Option (Fl (List aA) Empty)}
  (hb:body=fun(s373: (List aA))=>((bif (decide ((s373.length:Int)>0)) then ((idx s373 0).bind fun x407=>some (decide (x407.Y1<=y))) else (some false)).bind fun s405=>bif s405 then ((uE s373 1 (s373.length:Int)).bind fun x410=>some (.nx x410)) else (some (.br s373)):Option (Fl ((List aA)) Empty))):
  Ok (nL body N a) (LA (fun a'=>∃p,a=p++a'/\(∀c∈p,c.Y1<=y)/\∀b t,a'=b::t->y<b.Y1) (fun _=>True)):=by
 subst hb
 refine Ok.nL (fun a'=>∃p,a=p++a'/\∀c∈p,c.Y1<=y) List.length ?_ ⟨[],rfl,fun c hc=>(by cases hc)⟩ hN
 rintro a' ⟨p,e,hp⟩
 cases a' with
 | nil=>exact Ok.eq (x:=false) rfl (Ok.br ⟨p,e,hp,fun b t h=>(by cases h)⟩)
 | cons b t=>
  refine Ok.eq (x:=decide (b.Y1<=y)) (by rw [jF,aT,Hr,aB]) ?_
  refine Ok.bif (fun h=>?_) (fun h=>Ok.br ⟨p,e,hp,fun b' t' h'=>?_⟩)
  ·have h:=of_decide_eq_true h
   refine Ok.eq (qs b t) (Ok.nx ⟨⟨p++[b],by rw [e];simp,fun c hc=>?_⟩,by simp⟩)
   rcases cY.1 hc with hc | hc
   ·exact hp c hc
   ·simp at hc;subst hc;exact h
  ·have h:=of_decide_eq_false h
   injection h' with h1 h2;subst h1;omega
theorem CD {p a':List Bd} {y y':Int} (hp: ∀c∈p,c.y1<=y) (h:y<=y'):rowAt (p++a') y'=rowAt a' y':=by
 rw [og,aD]
 rintro⟨b,hb,h1⟩
 have:=hp b hb;omega
structure Bj (j8:Bool->Bool->Bool) (X Y:List Int) (a b s:List aA):Prop where
 can:eJ (s.map bT)
 cover: ∀x y,vZ (s.map bT) x y=j8 (vZ (a.map bT) x y) (vZ (b.map bT) x y)
 lim:vd X Y (s.map bT)
theorem y6 {s:List aA} (hs:s≠[]) (hl:s.length<=1099511627776) (hc:eJ (s.map bT)): ∃f l,idx s 0=some f/\idx s (IntKind.wrap .i64 (((s.length:Nat):Int) - 1))=some l/\f∈s/\l∈s/\∀c∈s,f.Y0<=c.Y0/\c.Y1<=l.Y1:=by
 cases s with
 | nil=>exact absurd rfl hs
 | cons f t=>
  rw [lL (by simp) (by omega)]
  have hlt: (f::t).length - 1< (f::t).length:=by simp
  refine⟨f,(f::t)[(f::t).length - 1],rfl,gU _ _ hlt,by simp,dK _,fun c hcm=>⟨?_,?_⟩⟩
  ·exact hc.low (bT c) (cR.2 ⟨c,hcm,rfl⟩)
  ·have e: (f::t)= (f::t).dropLast++[(f::t)[(f::t).length - 1]]:=by
    have:=List.dropLast_concat_getLast (show f::t≠[] by simp)
    rw [<-List.getLast_eq_getElem (h:=by simp)];exact this.symm
   generalize (f::t)[(f::t).length - 1]=l at e
   have hc2:=hc
   rw [e,fD] at hc2
   have hm:bT c∈(List.map bT (f::t).dropLast++[bT l]):=by
    have:bT c∈(f::t).map bT:=cR.2 ⟨c,hcm,rfl⟩
    rw [e,fD] at this;exact this
   exact eJ.high hc2 (bT c) hm
theorem DL {φ:Bool->Bool->Option Bool} {j8:Bool->Bool->Bool} (hφ: ∀p q,φ p q=some (j8 p q)) (hk:j8 false false=false) {a b:List aA} {X Y:List Int} (ca:eJ (a.map bT)) (cb:eJ (b.map bT))
  (la:vd X Y (a.map bT)) (lb:vd X Y (b.map bT)) (hX:X.length<=1048576000) (hY:Y.length<=1048576000) (hs: ∀c∈Y,small c) (hN:4398046511104<=N):Ok (nA N a b φ) (Bj j8 X Y a b):=by
 have kD:a.length<=Y.length:=by have:=la.len ca;rwa [gp] at this
 have hbl:b.length<=Y.length:=by have:=lb.len cb;rwa [gp] at this
 unfold nA
 rw [wrap_add (by omega)]
 refine Ok.bif (fun h=>Ok.ret ?_) (fun h=>?_)
 ·have h:a.length+b.length=0:=by have:=beq_iff_eq.1 h;omega
  have e1:a= []:=List.eq_nil_of_length_eq_zero (by omega)
  have e2:b= []:=List.eq_nil_of_length_eq_zero (by omega)
  subst e1;subst e2
  exact⟨eJ.nil,fun x y=>hk.symm,fun c hc=>(by cases hc)⟩
 have h0:a≠[]\/b≠[]:=by
  rw [beq_eq_false_iff_ne] at h
  by_cases e:a= []
  ·right;intro e2;subst e;subst e2;exact h rfl
  ·exact .inl e
 refine Ok.bind (Ok.jI (fun k s=>match k with | 0=>True | 1=>a= []\/((∀c∈a,s.1<=c.Y0/\c.Y1<=s.2)/\s.1∈Y/\s.2∈Y) | _=>((∀c∈a,s.1<=c.Y0/\c.Y1<=s.2)/\(∀c∈b,s.1<=c.Y0/\c.Y1<=s.2)/\s.1∈Y/\s.2∈Y)) (by simp) trivial (fun k s hk hI=>?_)) ?_
 ·obtain⟨y,e⟩:=s
  have hk:k=0\/k=1:=by simp at hk;omega
  rcases hk with rfl | rfl
  ·refine Ok.ix (x:=a) rfl ?_
   by_cases ea:a= []
   ·subst ea
    exact Ok.eq (x:=(y,e)) rfl (Ok.ret (.inl rfl))
   ·obtain⟨f,l,f1,f2,f3,f4,f5⟩:=y6 ea (by omega) ca
    have hpos:decide (((a.length:Nat):Int)>0)=true:=cD (by have:=List.length_pos_iff.2 ea;omega)
    refine Ok.eq (x:=(f.Y0,l.Y1)) ?_ (Ok.ret (.inr ⟨f5,(la _ (cR.2 ⟨f,f3,rfl⟩)).1,(la _ (cR.2 ⟨l,f4,rfl⟩)).2.1⟩))
    rw [hpos,aT]
    show ((some true).bind _)=_
    rw [aB,aT,f1,aB,f2,aB,aB,aB,aB]
    simp
  ·refine Ok.ix (x:=b) rfl ?_
   have hI:a= []\/((∀c∈a,y<=c.Y0/\c.Y1<=e)/\y∈Y/\e∈Y):=hI
   by_cases eb:b= []
   ·subst eb
    refine Ok.eq (x:=(y,e)) rfl (Ok.ret ?_)
    rcases hI with h | ⟨h1,h2,h3⟩
    ·rcases h0 with h' | h'
     ·exact absurd h h'
     ·exact absurd rfl h'
    ·exact⟨h1,fun c hc=>(by cases hc),h2,h3⟩
   ·obtain⟨f,l,f1,f2,f3,f4,f5⟩:=y6 eb (by omega) cb
    have hpos:decide (((b.length:Nat):Int)>0)=true:=cD (by have:=List.length_pos_iff.2 eb;omega)
    have g1:f.Y0∈Y:=(lb _ (cR.2 ⟨f,f3,rfl⟩)).1
    have g2:l.Y1∈Y:=(lb _ (cR.2 ⟨l,f4,rfl⟩)).2.1
    by_cases ea:a= []
    ·subst ea
     refine Ok.eq (x:=(f.Y0,l.Y1)) ?_ (Ok.ret ⟨fun c hc=>(by cases hc),f5,g1,g2⟩)
     rw [hpos,aT]
     show ((some true).bind _)=_
     rw [aB,aT,f1,aB,f2,aB,aB,aB,aB]
     simp
    ·obtain⟨h1,h2,h3⟩:=hI.resolve_left ea
     refine Ok.eq (x:=(if f.Y0<y then f.Y0 else y,if e<l.Y1 then l.Y1 else e)) ?_ (Ok.ret ⟨fun c hc=>?_,fun c hc=>?_,?_,?_⟩)
     ·rw [hpos,aT]
      have ez: (((a.length:Nat):Int)==0)=false:=by rw [beq_eq_false_iff_ne];have:=List.length_pos_iff.2 ea;omega
      rw [ez]
      show ((some false).bind _)=_
      rw [aB,aY,aB,f1,aB,f2,aB]
     ·have:=h1 c hc;dsimp only;split <;> split <;> omega
     ·have:=f5 c hc;dsimp only;split <;> split <;> omega
     ·dsimp only;split
      ·exact g1
      ·exact h2
     ·dsimp only;split
      ·exact g2
      ·exact h3
 ·rintro⟨y0,e0⟩ hI
  have hI: (∀c∈a,y0<=c.Y0/\c.Y1<=e0)/\(∀c∈b,y0<=c.Y0/\c.Y1<=e0)/\y0∈Y/\e0∈Y:=hI
  obtain⟨ia,ib,iy,ie⟩:=hI
  have sy:=hs _ iy
  have se:=hs _ ie
  unfold small at sy se
  dsimp only
  refine Ok.bind (Ok.nL (Go:=fun s=>Bj j8 X Y a b s.2.2.1) (Rt:=fun _=>True)
   (fun s=>∃pa pb,a=pa++s.1/\b=pb++s.2.1/\(∀c∈pa,c.Y1<=s.2.2.2)/\(∀c∈pb,c.Y1<=s.2.2.2)/\y0<=s.2.2.2/\s.2.2.2<=max y0 e0/\s.2.2.2∈Y/\eJ (s.2.2.1.map bT)/\vd X Y (s.2.2.1.map bT)/\(∀c∈s.2.2.1,c.Y1<=s.2.2.2)/\
    ∀x y,vZ (s.2.2.1.map bT) x y= (j8 (vZ (a.map bT) x y) (vZ (b.map bT) x y)&&decide (y<s.2.2.2)))
   (fun s=>(e0 - s.2.2.2).toNat) ?_ ?_ (by dsimp only;omega)) ?_
  ·rintro⟨a',b',out,y⟩ ⟨pa,pb,ea,eb,hpa,hpb,hy0,hye,hyY,hcan,hlim,htop,hcov⟩
   dsimp only at ea eb hpa hpb hy0 hye hyY hcan hlim htop hcov ⊢
   refine Ok.bif (fun h=>?_) (fun h=>Ok.br ?_)
   ·have hlt:y<e0:=of_decide_eq_true h
    have hsl: ∀(p s t:List aA),t=p++s->s.length<=t.length:=fun p s t e=>by rw [e];simp
    have hal':=hsl _ _ _ ea
    have hbl':=hsl _ _ _ eb
    refine Ok.bind (Ar (y:=y) (a:=a') (by omega) rfl) (fun o ho=>Ok.cs ho ?_ (fun r=>r.elim))
    rintro a2 ⟨qa,ea2,hqa,hha⟩
    refine Ok.bind (Ar (y:=y) (a:=b') (by omega) rfl) (fun o ho=>Ok.cs ho ?_ (fun r=>r.elim))
    rintro b2 ⟨qb,eb2,hqb,hhb⟩
    have ea3:a= (pa++qa)++a2:=by rw [ea,ea2];simp
    have eb3:b= (pb++qb)++b2:=by rw [eb,eb2];simp
    have hPa: ∀c∈pa++qa,c.Y1<=y:=fun c hc=>by rcases cY.1 hc with h | h;exact hpa c h;exact hqa c h
    have hPb: ∀c∈pb++qb,c.Y1<=y:=fun c hc=>by rcases cY.1 hc with h | h;exact hpb c h;exact hqb c h
    have ca2:eJ (a2.map bT):=by have:=ca;rw [ea3,fD] at this;exact this.app
    have cb2:eJ (b2.map bT):=by have:=cb;rw [eb3,fD] at this;exact this.app
    have la2:vd X Y (a2.map bT):=fun c hc=>la c (by rw [ea3,fD];exact List.mem_append_right _ hc)
    have lb2:vd X Y (b2.map bT):=fun c hc=>lb c (by rw [eb3,fD];exact List.mem_append_right _ hc)
    refine Ok.eq (Jq a2 y e0) (Ok.eq (Jq b2 y e0) ?_)
    obtain⟨a1,a3,a4,a5,a6,a7,a8⟩:=EJ ca2 la2 hha hlt
    obtain⟨b1,b3,b4,b5,b6,b7,b8⟩:=EJ cb2 lb2 hhb hlt
    have hal2: (C6 a2 y e0).1.length<=X.length:=eL a5.nodup a8
    have hbl2: (C6 b2 y e0).1.length<=X.length:=eL b5.nodup b8
    generalize C6 a2 y e0=pa2 at *
    generalize C6 b2 y e0=pb2 at *
    obtain⟨xa,n⟩:=pa2
    obtain⟨xb,m⟩:=pb2
    dsimp only at *
    refine Ok.bind (FE hφ hk a5 b5 a6 b6 (by omega) (by omega) (by omega)) ?_
    rintro row ⟨r1,r2,r3,r4⟩
    have hnx: ∃nx,nx= (if m<n then m else n)/\y<nx/\nx<=e0/\nx<=n/\nx<=m/\nx∈Y:=by
     refine⟨_,rfl,by split <;> omega,by split <;> omega,by split <;> omega,by split <;> omega,?_⟩
     split
     ·rcases b7 with h | h
      ·rw [h];exact ie
      ·exact h
     ·rcases a7 with h | h
      ·rw [h];exact ie
      ·exact h
    obtain⟨nx,hnx,n1,n2,n3,n4,n5⟩:=hnx
    rw [<-hnx]
    have hol:out.length<=Y.length:=by have:=hlim.len hcan;rwa [gp] at this
    obtain⟨out',p1,p2⟩:=EI (N:=N) (s:=out) (b:=⟨y,nx,row⟩) (by omega) (fun c hc=>by
     have:=hlim.row hcan (b:=bT c) (cR.2 ⟨c,hc,rfl⟩)
     have e: (bT c).xs=c.Xs:=rfl
     rw [e] at this;omega)
    refine Ok.eq p1 ?_
    have htop': ∀c∈out.map bT,c.y1<=(bT ⟨y,nx,row⟩).y0:=fun c hc=>by
     obtain⟨d,hd,rfl⟩:=cR.1 hc
     exact htop d hd
    refine Ok.nx ⟨⟨pa++qa,pb++qb,ea3,eb3,fun c hc=>by have:=hPa c hc;dsimp only;omega,fun c hc=>by have:=hPb c hc;dsimp only;omega,by dsimp only;omega,by dsimp only;omega,n5,by dsimp only;rw [p2];exact wX hcan htop' r1 r2,?_,fun c hc=>?_,fun x y'=>?_⟩,by dsimp only;omega⟩
    ·dsimp only;rw [p2]
     refine hlim.push hyY n5 (fun c hc=>?_)
     rcases r4 c hc with h | h
     ·exact a8 c h
     ·exact b8 c h
    ·have hm':bT c∈ml (out.map bT) (bT ⟨y,nx,row⟩):=by rw [<-p2];exact cR.2 ⟨c,hc,rfl⟩
     exact wY htop' (by show y<=nx;omega) _ hm'
    ·show m0 (rowAt (out'.map bT) y') x=_
     rw [p2,wW htop' (fun c hc=>(hcan.each c hc).1) (fun h=>absurd h (by show ¬nx<=y;omega))]
     by_cases hyy:y<=y'/\y'<nx
     ·rw [aC (show (bT ⟨y,nx,row⟩).y0<=y'/\y'< (bT ⟨y,nx,row⟩).y1 from hyy),cD hyy.2,Bool.and_true]
      show m0 row x=_
      have mp: ∀p q:List aA,(∀c∈p++q,c.Y1<=y)->∀c∈(p++q).map bT,c.y1<=y:=fun p q h c hc=>by
       obtain⟨d,hd,rfl⟩:=cR.1 hc
       exact h d hd
      have q1:vZ (a.map bT) x y'=m0 xa x:=by
       unfold vZ
       rw [ea3,fD,CD (mp _ _ hPa) hyy.1,a4 y' hyy.1 (by omega)]
      have q2:vZ (b.map bT) x y'=m0 xb x:=by
       unfold vZ
       rw [eb3,fD,CD (mp _ _ hPb) hyy.1,b4 y' hyy.1 (by omega)]
      rw [r3,q1,q2]
     ·rw [aD (show ¬((bT ⟨y,nx,row⟩).y0<=y'/\y'< (bT ⟨y,nx,row⟩).y1) from hyy)]
      show vZ (out.map bT) x y'=_
      rw [hcov]
      by_cases h1:y'<y
      ·rw [cD h1,cD (show y'<nx by omega)]
      ·rw [bS h1,bS (show ¬y'<nx by omega)]
   ·have hge:e0<=y:=by have:=of_decide_eq_false h;omega
    refine⟨hcan,fun x y'=>?_,hlim⟩
    dsimp only
    rw [hcov]
    by_cases h1:y'<y
    ·rw [cD h1,Bool.and_true]
    ·have z: ∀s:List aA,(∀c∈s,y0<=c.Y0/\c.Y1<=e0)->vZ (s.map bT) x y'=false:=fun s h=>by
      unfold vZ
      rw [kp fun c hc=>?_]
      ·rfl
      ·obtain⟨d,hd,rfl⟩:=cR.1 hc
       exact .inr (by have:=(h d hd).2;show d.Y1<=y';omega)
     rw [z a ia,z b ib,hk];rfl
  ·refine⟨[],[],rfl,rfl,fun c hc=>(by cases hc),fun c hc=>(by cases hc),Int.le_refl _,by dsimp only;omega,iy,eJ.nil,fun c hc=>(by cases hc),fun c hc=>(by cases hc),fun x y=>?_⟩
   dsimp only
   show false=_
   by_cases h1:y<y0
   ·have z: ∀s:List aA,(∀c∈s,y0<=c.Y0/\c.Y1<=e0)->vZ (s.map bT) x y=false:=fun s h=>by
     unfold vZ
     rw [kp fun c hc=>?_]
     ·rfl
     ·obtain⟨d,hd,rfl⟩:=cR.1 hc
      exact .inl (by have:=(h d hd).1;show y<d.Y0;omega)
    rw [z a ia,z b ib,hk];rfl
   ·rw [bS h1,Bool.and_false]
  ·rintro o ho
   exact Ok.cs ho (fun s h=>Ok.ret h) (fun r=>r.elim)
theorem FF {a b:List aA} {X Y:List Int} (ca:eJ (a.map bT)) (cb:eJ (b.map bT)) (la:vd X Y (a.map bT)) (lb:vd X Y (b.map bT)) (hX:X.length<=1048576000) (hY:Y.length<=1048576000) (hs: ∀c∈Y,small c) (hN:4398046511104<=N):
  Ok (jW N a b) (Bj (fun p q=>p&& !q) X Y a b):=by
 unfold jW
 exact Ok.bind (DL (j8:=fun p q=>p&& !q) (fun p q=>rfl) rfl ca cb la lb hX hY hs hN) (fun s h=>Ok.ret h)
end
end Go.Gk
namespace Go.Gk
open Go
section
variable {N:Nat}
structure UF (n:Nat) (up:List Int) (r:Nat->Nat):Prop where
 len:up.length=n
 rt: ∀i,i<n->∃u:Nat,up[i]? =some ((u:Nat):Int)/\u<=i/\r u=r i/\(u=i↔r i=i)
theorem UF.le {n:Nat} {up:List Int} {r:Nat->Nat} (h:UF n up r): ∀i,i<n->r i<=i:=by
 intro i
 induction i using Nat.strongRecOn with
 | ind i ih=>
  intro hi
  obtain⟨u,_,h2,h3,h4⟩:=h.rt i hi
  by_cases e:u=i
  ·rw [h4.1 e];exact bI _
  ·rw [<-h3];have:=ih u (by omega) (by omega);omega
theorem UF.rr {n:Nat} {up:List Int} {r:Nat->Nat} (h:UF n up r): ∀i,i<n->r (r i)=r i:=by
 intro i
 induction i using Nat.strongRecOn with
 | ind i ih=>
  intro hi
  obtain⟨u,_,h2,h3,h4⟩:=h.rt i hi
  by_cases e:u=i
  ·rw [h4.1 e,h4.1 e]
  ·rw [<-h3];exact ih u (by omega) (by omega)
theorem me {l:List Int} {j:Nat} {v:Int} {i:Nat} (hj:j<l.length): (l.set j v)[i]? =if i=j then some v else l[i]? :=by
 rw [eZ]
 by_cases e:j=i
 ·rw [aC e,aC e.symm,aC hj]
 ·rw [aD e,aD (fun h=>e h.symm)]
theorem UF.init (n:Nat) (up:List Int) (h1:up.length=n) (h2: ∀i,i<n->up[i]? =some ((i:Nat):Int)):UF n up (fun i=>i):=
 ⟨h1,fun i hi=>⟨i,h2 i hi,bI _,rfl,by simp⟩⟩
theorem CE {n:Nat} (hn:n<=1048576000): ∃up,jX N ((n:Nat):Int)=some up/\UF n up (fun i=>i):=by
 unfold jX
 rw [vJ 0 (by omega),aB]
 have h0: (List.replicate n (0:Int)).length=n:=by simp
 obtain⟨s',h1,h2⟩:=x0 (m:=(List.replicate n (0:Int)).length) (s:=List.replicate n (0:Int)) (body:=fun(k34:Nat) (s35: (List Int))=>((idx s35 (k34:Int)).bind fun x38=>some (s35.set (Int.toNat (k34:Int)) (k34:Int)):Option ((List Int))))
  (fun k s=>s.length=n/\∀i,i<k->s[i]? =some ((i:Nat):Int)) (by omega) ⟨h0,fun i hi=>by omega⟩ (fun k s hk ⟨hs,hi⟩=>by
   refine⟨s.set k ((k:Nat):Int),?_,by simp [hs],fun i hi'=>?_⟩
   ·rw [gU _ _ (by omega),aB,cK]
   ·rw [me (by omega)]
    split
    ·rename_i e;rw [e]
    ·exact hi i (by omega))
 rw [h1,aB]
 exact⟨s',rfl,UF.init n s' h2.1 (fun i hi=>h2.2 i (by omega))⟩
theorem Bl {n:Nat} {up:List Int} {r:Nat->Nat} (h:UF n up r) {i:Nat} (hi:i<n) (hn:n<N): ∃up',fI N up ((i:Nat):Int)=some (((r i:Nat):Int),up')/\UF n up' r:=by
 unfold fI
 obtain⟨o,h1,h2⟩:=tF (R:=Empty) (body:=fun(s32: (List Int)×Int)=>((idx s32.1 s32.2).bind fun x43=>bif (x43 != s32.2) then ((idx s32.1 s32.2).bind fun x44=>(idx s32.1 x44).bind fun x45=>(idx s32.1 s32.2).bind fun x46=>(idx (s32.1.set (Int.toNat s32.2) x45) s32.2).bind fun x47=>some (.nx ((s32.1.set (Int.toNat s32.2) x45),x47))) else (some (.br (s32.1,s32.2))):Option (Fl ((List Int)×Int) Empty)))
  (fun s=>UF n s.1 r/\∃j:Nat,s.2= ((j:Nat):Int)/\j<n/\r j=r i) (fun s=>s.2.toNat) (fun s=>s.2= ((r i:Nat):Int)/\UF n s.1 r) (fun _=>True) (fun s ⟨hu,j,hj,hjn,hr⟩=>by
   obtain⟨l,y⟩:=s
   dsimp only at hu hj ⊢
   subst hj
   obtain⟨u,a1,a2,a3,a4⟩:=hu.rt j hjn
   rw [eX a1,aB]
   by_cases e:u=j
   ·subst e
    refine⟨.br (l,((u:Nat):Int)),by rw [show (((u:Nat):Int) != ((u:Nat):Int))=false by simp,aY],?_,hu⟩
    show ((u:Nat):Int)=_
    rw [<-hr,a4.1 rfl]
   ·obtain⟨v,b1,b2,b3,b4⟩:=hu.rt u (by omega)
    have hl:=hu.len
    refine⟨.nx (l.set j ((v:Nat):Int),((v:Nat):Int)),by
     rw [show (((u:Nat):Int) != ((j:Nat):Int))=true by simp;omega,aT,aB,eX b1,aB,aB,cK,
      eX (x:=((v:Nat):Int)) (by rw [me (by omega),aC rfl]),aB],⟨⟨by simp [hl],fun k hk=>?_⟩,v,rfl,by omega,?_⟩,?_⟩
    ·rw [me (by omega)]
     by_cases e2:k=j
     ·subst e2
      rw [aC rfl]
      refine⟨v,rfl,by omega,by rw [b3,a3],?_⟩
      constructor
      ·intro h;omega
      ·intro h;exact absurd (a4.2 h) e
     ·rw [aD e2];exact hu.rt k hk
    ·rw [b3,a3,hr]
    ·simp only [cK];omega)
  N (up,((i:Nat):Int)) ⟨h,i,rfl,hi,rfl⟩ (by simp only [cK];omega)
 rw [h1,aB]
 cases o with
 | go s'=>exact⟨s'.1,by rw [<-h2.1];rfl,h2.2⟩
 | rt r=>exact r.elim
def mZ (r:Nat->Nat) (a b:Nat):Nat->Nat:=fun x=>if r x=max a b then min a b else r x
theorem Hs (a b:Nat): (if ((a:Nat):Int)< ((b:Nat):Int) then ((b:Nat):Int) else ((a:Nat):Int))= ((max a b:Nat):Int):=by
 rw [Nat.max_def];split <;> split <;> omega
theorem Ht (a b:Nat): (if ((b:Nat):Int)< ((a:Nat):Int) then ((b:Nat):Int) else ((a:Nat):Int))= ((min a b:Nat):Int):=by
 rw [Nat.min_def];split <;> split <;> omega
theorem IX {n:Nat} {up:List Int} {r:Nat->Nat} (h:UF n up r) {i k:Nat} (hi:i<n) (hk:k<n) (hn:n<N):
  ∃up',fZ N up ((i:Nat):Int) ((k:Nat):Int)=some up'/\UF n up' (mZ r (r i) (r k)):=by
 obtain⟨u1,a1,a2⟩:=Bl h hi hn
 obtain⟨u2,b1,b2⟩:=Bl a2 hk hn
 have hri:=h.le i hi
 have hrk:=h.le k hk
 have rri:=h.rr i hi
 have rrk:=h.rr k hk
 unfold fZ
 rw [a1,aB,b1,aB]
 dsimp only
 rw [Hs,Ht]
 have hm:max (r i) (r k)<n:=by omega
 have hl:=b2.len
 rw [gU _ _ (by omega),aB,cK]
 refine⟨_,rfl,by simp [hl],fun x hx=>?_⟩
 have rmax:r (max (r i) (r k))=max (r i) (r k):=by rcases Nat.le_total (r i) (r k) with e | e <;> simp [Nat.max_def] <;> split <;> omega
 have rmin:r (min (r i) (r k))=min (r i) (r k):=by rcases Nat.le_total (r i) (r k) with e | e <;> simp [Nat.min_def] <;> split <;> omega
 rw [me (by omega)]
 by_cases e:x=max (r i) (r k)
 ·subst e
  rw [aC rfl]
  refine⟨min (r i) (r k),rfl,by omega,?_,?_⟩
  ·unfold mZ;rw [rmin,rmax,aC rfl];split <;> rfl
  ·unfold mZ;rw [rmax,aC rfl]
 ·rw [aD e]
  obtain⟨u,c1,c2,c3,c4⟩:=b2.rt x hx
  refine⟨u,c1,c2,?_,?_⟩
  ·unfold mZ;rw [c3]
  ·unfold mZ
   split
   ·rename_i e2
    constructor
    ·intro hu;have:=c4.1 hu;omega
    ·intro hu
     have h1:=b2.le x hx
     have:min (r i) (r k)=max (r i) (r k)\/x<max (r i) (r k):=by omega
     have h3:x=max (r i) (r k):=by omega
     exact absurd h3 e
   ·exact c4
def oQ (r:Nat->Nat) (E:List (Nat×Nat)):Prop:=∀p∈E,r p.1=r p.2
def y7 (n:Nat) (r:Nat->Nat) (E:List (Nat×Nat)):Prop:=∀S:Nat->Prop,(∀p∈E,S p.1↔S p.2)->∀i j,i<n->j<n->r i=r j->S i->S j
theorem oQ.join {r:Nat->Nat} {E:List (Nat×Nat)} (h:oQ r E) (i k:Nat) (_h2:r (r i)=r i):oQ (mZ r (r i) (r k)) (E++[(i,k)]):=fun p hp=>by
 rcases cY.1 hp with hp | hp
 ·unfold mZ;rw [h p hp]
 ·simp at hp;subst hp
  unfold mZ
  dsimp only
  split <;> split <;> omega
theorem y7.join {n:Nat} {r:Nat->Nat} {E:List (Nat×Nat)} (h:y7 n r E) {i k:Nat} (hi:i<n) (hk:k<n):y7 n (mZ r (r i) (r k)) (E++[(i,k)]):=fun S hS x y hx hy hr hSx=>by
 have hE: ∀p∈E,S p.1↔S p.2:=fun p hp=>hS p (List.mem_append_left _ hp)
 have hik:S i↔S k:=hS (i,k) (by simp)
 have key:=h S hE
 unfold mZ at hr
 by_cases h1:r x=r y
 ·exact key x y hx hy h1 hSx
 ·have: (r x=r i/\r y=r k)\/(r x=r k/\r y=r i):=by
   split at hr <;> split at hr <;> omega
  rcases this with ⟨e1,e2⟩ | ⟨e1,e2⟩
  ·exact key k y hk hy e2.symm (hik.1 (key x i hx hi e1 hSx))
  ·exact key i y hi hy e2.symm (hik.2 (key x k hx hk e1 hSx))
theorem y7.id (n:Nat):y7 n (fun i=>i) []:=fun S _ i j _ _ h hs=>by
 have h:i=j:=h
 subst h;exact hs
theorem oQ.id:oQ (fun i=>i) []:=fun p hp=>by simp at hp
def bW (n:Nat) (r:Nat->Nat):List Nat:=(List.range n).filter (fun k=>decide (r k=k))
def cls (n:Nat) (r:Nat->Nat) (k:Nat):List Nat:=(List.range n).filter (fun i=>decide (r i=k))
theorem jO (n:Nat) (r:Nat->Nat):bW (n+1) r=if r n=n then bW n r++[n] else bW n r:=by
 unfold bW
 rw [List.range_succ,iL]
 by_cases h:r n=n
 ·rw [aC h];simp [h]
 ·rw [aD h];simp [h]
theorem s9 (n:Nat) (r:Nat->Nat) (k:Nat):cls (n+1) r k=if r n=k then cls n r k++[n] else cls n r k:=by
 unfold cls
 rw [List.range_succ,iL]
 by_cases h:r n=k
 ·rw [aC h];simp [h]
 ·rw [aD h];simp [h]
theorem nc (n:Nat) (r:Nat->Nat): (bW n r).length<=n:=by
 have:=hU (fun k=>decide (r k=k)) (List.range n)
 rw [List.length_range] at this;exact this
theorem x4 (n:Nat) (r:Nat->Nat) (k:Nat): (cls n r k).length<=n:=by
 have:=hU (fun i=>decide (r i=k)) (List.range n)
 rw [List.length_range] at this;exact this
theorem iW {n k:Nat} {r:Nat->Nat}:k∈bW n r↔k<n/\r k=k:=by unfold bW;simp
theorem mo (n:Nat) (r:Nat->Nat): (bW n r).Nodup:=List.Nodup.sublist List.filter_sublist List.nodup_range
def oR (n:Nat) (r:Nat->Nat):List (List Int):=(bW n r).map (fun k=>(cls n r k).map (fun i=>((i:Nat):Int)))
theorem EK {n k:Nat} {r:Nat->Nat} (h: ∀i,i<n->r i<=i) (hk:n<=k):cls n r k= []:=by
 unfold cls
 rw [List.filter_eq_nil_iff]
 intro i hi
 have h1:=o6.1 hi
 have:=h i h1
 simp;omega
theorem tc {α β:Type} (f g:α->β) (l:List α) (j:Nat) (a:α) (hn:l.Nodup) (hj:l[j]? =some a) (hf: ∀b,b∈l->b≠a->f b=g b): (l.map f).set j (g a)=l.map g:=by
 apply List.ext_getElem?
 intro i
 have hjl:=(aZ.1 hj).1
 rw [eZ,gp,gH,gH]
 by_cases e:j=i
 ·subst e;rw [aC rfl,aC hjl,hj];rfl
 ·rw [aD e]
  cases hb:l[i]? with
  | none=>rfl
  | some b=>
   have hne:b≠a:=fun he=>by
    subst he
    have hil:=(aZ.1 hb).1
    exact e ((List.getElem_inj hn).1 (by rw [(aZ.1 hb).2,(aZ.1 hj).2]) |>.symm)
   show some (f b)=some (g b)
   rw [hf b (eN hb) hne]
def LF (n:Nat) (r:Nat->Nat) (m:List (Int×Int)):Prop:=∀(j k:Nat),(bW n r)[j]? =some k->dH m ((k:Nat):Int) 0= ((j:Nat):Int)
theorem IY {n:Nat} {up:List Int} {r:Nat->Nat} (h:UF n up r) (hn:n<N) (hn2:n<=1048576000): ∃up',ja N up=some (oR n r,up')/\UF n up' r:=by
 unfold ja
 have hlen:=h.len
 have hle:=h.le
 have hrr:=h.rr
 obtain⟨s',h1,h2⟩:=x0 (m:=up.length) (s:=(up,([]: (List (List Int))),([]: (List (Int×Int)))))
  (body:=fun(k32:Nat) (s33: (List Int)×(List (List Int))×(List (Int×Int)))=>((fI N s33.1 (k32:Int)).bind fun x117=>(bif (x117.1==(k32:Int)) then ((app 24 s33.2.1 [([]: (List Int))]).bind fun x126=>some (x126,(kT s33.2.2 (k32:Int) (s33.2.1.length:Int)))) else (some (s33.2.1,s33.2.2))).bind fun s122=>(idx s122.1 (dH s122.2 x117.1 (0:Int))).bind fun x128=>(app 8 x128 ([(k32:Int)]: (List Int))).bind fun x134=>(idx s122.1 (dH s122.2 x117.1 (0:Int))).bind fun x136=>some (x117.2,(s122.1.set (Int.toNat (dH s122.2 x117.1 (0:Int))) x134),s122.2):Option ((List Int)×(List (List Int))×(List (Int×Int)))))
  (fun k s=>UF n s.1 r/\s.2.1=oR k r/\LF k r s.2.2) (by omega) ⟨h,rfl,fun j k hj=>by simp [bW] at hj⟩ (fun k s hk ⟨hu,hs,hm⟩=>by
   obtain⟨l,ss,m⟩:=s
   dsimp only at hu hs hm ⊢
   subst hs
   rw [hlen] at hk
   obtain⟨u',a1,a2⟩:=Bl hu hk hn
   rw [a1,aB]
   dsimp only
   have hhl:=nc k r
   have hsl: (oR k r).length= (bW k r).length:=by unfold oR;simp
   have hrk:=hle k hk
   by_cases e:r k=k
   ·
    rw [show (((r k:Nat):Int)==((k:Nat):Int))=true by rw [e];simp,aT,gL (by rw [hsl];simp;omega),aB,aB]
    dsimp only
    rw [e,qo,aC rfl,hsl]
    have hi: (oR k r++[([]:List Int)])[(bW k r).length]? =some []:=by rw [<-hsl,fF (bI _),Nat.sub_self];rfl
    rw [eX hi,aB,gL (by simp),aB,aB,cK]
    refine⟨_,rfl,a2,?_,fun j q hj=>?_⟩
    ·dsimp only
     rw [<-hsl,List.set_append_right _ _ (bI _),Nat.sub_self]
     unfold oR
     rw [jO,aC e,fD]
     congr 1
     ·apply List.map_congr_left
      intro a ha
      have:=(iW.1 ha).1
      rw [s9,aD (by omega)]
     ·simp only [List.set_cons_zero,dV,List.map_nil,List.nil_append]
      rw [s9,aC e,EK (fun i hi=>hle i (by omega)) (bI _)];rfl
    ·dsimp only
     rw [jO,aC e] at hj
     rw [qo]
     by_cases e2:j< (bW k r).length
     ·rw [fP e2] at hj
      have:=(iW.1 (eN hj)).1
      rw [aD (by omega)];exact hm j q hj
     ·rw [fF (by omega)] at hj
      have hj0:j - (bW k r).length=0:=by
       have:=(aZ.1 hj).1;simp at this;omega
      rw [hj0] at hj;simp at hj;subst hj
      rw [aC rfl];congr 1;omega
   ·rw [show (((r k:Nat):Int)==((k:Nat):Int))=false by simp;omega,aY,aB]
    dsimp only
    have hh:r k∈bW k r:=iW.2 ⟨by omega,hrr k hk⟩
    obtain⟨j,hj⟩:=eA hh
    rw [hm j (r k) hj]
    have hcl:=x4 k r (r k)
    have hi: (oR k r)[j]? =some ((cls k r (r k)).map (fun i=>((i:Nat):Int))):=by unfold oR;rw [gH,hj];rfl
    rw [eX hi,aB,gL (by simp;omega),aB,aB,cK]
    refine⟨_,rfl,a2,?_,fun j' q hj'=>?_⟩
    ·unfold oR
     rw [jO,aD e]
     have:=tc (fun a=>(cls k r a).map (fun i=>((i:Nat):Int))) (fun a=>(cls (k+1) r a).map (fun i=>((i:Nat):Int))) (bW k r) j (r k) (mo k r) hj (fun b hb hne=>by
      rw [s9,aD (fun h=>hne h.symm)])
     rw [s9,aC rfl,fD] at this
     exact this
    ·rw [jO,aD e] at hj';exact hm j' q hj')
 rw [h1,aB]
 obtain⟨l,ss,m⟩:=s'
 dsimp only at h2
 rw [hlen] at h2
 refine⟨l,?_,h2.1⟩
 rw [<-h2.2.1]
end
end Go.Gk
namespace Go.Gk
open Go
section
variable {N:Nat}
theorem Bm {n:Nat} {up:List Int} {r:Nat->Nat} (h:UF n up r) {i:Nat} (hi:i<n) (hn:n<N): ∃up',eG N ((i:Nat):Int) up=some (((r i:Nat):Int),up')/\UF n up' r:=by
 unfold eG
 have:=Ok.bind (β:=Int×List Int) (Q:=fun x=>x.1= ((r i:Nat):Int)/\UF n x.2 r) (Ok.nL (body:=fun(s32:Int×(List Int))=>((idx s32.2 s32.1).bind fun x43=>bif (x43 != s32.1) then ((idx s32.2 s32.1).bind fun x44=>(idx s32.2 x44).bind fun x45=>(idx s32.2 s32.1).bind fun x46=>(idx (s32.2.set (Int.toNat s32.1) x45) s32.1).bind fun x47=>some (.nx (x47,(s32.2.set (Int.toNat s32.1) x45)))) else (some (.br (s32.1,s32.2))):Option (Fl (Int×(List Int)) Empty)))
  (N:=N) (s:=(((i:Nat):Int),up)) (Go:=fun s=>s.1= ((r i:Nat):Int)/\UF n s.2 r) (Rt:=fun _=>True) (fun s=>UF n s.2 r/\∃j:Nat,s.1= ((j:Nat):Int)/\j<n/\r j=r i) (fun s=>s.1.toNat) (by
   rintro⟨y,l⟩ ⟨hu,j,hj,hjn,hr⟩
   dsimp only at hu hj ⊢
   subst hj
   obtain⟨u,a1,a2,a3,a4⟩:=hu.rt j hjn
   refine Ok.ix a1 ?_
   by_cases e:u=j
   ·subst e
    rw [show (((u:Nat):Int) != ((u:Nat):Int))=false by simp,aY]
    refine Ok.br ⟨?_,hu⟩
    show ((u:Nat):Int)=_
    rw [<-hr,a4.1 rfl]
   ·obtain⟨v,b1,b2,b3,b4⟩:=hu.rt u (by omega)
    have hl:=hu.len
    rw [show (((u:Nat):Int) != ((j:Nat):Int))=true by simp;omega,aT]
    refine Ok.ix a1 (Ok.ix b1 (Ok.ix a1 (Ok.ix (x:=((v:Nat):Int)) (by rw [cK,me (by omega),aC rfl]) (Ok.nx ⟨⟨⟨by simp [hl],fun k hk=>?_⟩,v,rfl,by omega,?_⟩,?_⟩))))
    ·rw [cK,me (by omega)]
     by_cases e2:k=j
     ·subst e2
      rw [aC rfl]
      refine⟨v,rfl,by omega,by rw [b3,a3],?_⟩
      constructor
      ·intro h;omega
      ·intro h;exact absurd (a4.2 h) e
     ·rw [aD e2];exact hu.rt k hk
    ·rw [b3,a3,hr]
    ·simp only [cK];omega)
  ⟨h,i,rfl,hi,rfl⟩ (by simp only [cK];omega))
  (fun o ho=>Ok.cs (f:=fun(s32:Int×(List Int))=>some (s32.1,s32.2)) (g:=fun r:Empty=>r.elim) ho (fun s h=>Ok.ret h) (fun r=>r.elim))
 obtain⟨⟨x,up'⟩,h1,h2,h3⟩:=this
 exact⟨up',by rw [<-h2];exact h1,h3⟩
theorem Hu {n:Nat} {up:List Int} {r:Nat->Nat} (h:UF n up r) {i k:Nat} (hi:i<n) (hk:k<n) {f:List Int->Option (List Int)} (hn:n<N):
  ∃up',((eG N ((i:Nat):Int) up).bind fun x840=>(eG N ((k:Nat):Int) x840.2).bind fun x842=>(idx x842.2 (if x840.1<x842.1 then x842.1 else x840.1)).bind fun x844=>some (x842.2.set (Int.toNat (if x840.1<x842.1 then x842.1 else x840.1)) (if x842.1<x840.1 then x842.1 else x840.1)))=some up'/\UF n up' (mZ r (r i) (r k)):=by
 obtain⟨u1,a1,a2⟩:=Bm h hi hn
 obtain⟨u2,b1,b2⟩:=Bm a2 hk hn
 obtain⟨v1,c1,c2⟩:=Bl h hi hn
 have hri:=h.le i hi
 have hrk:=h.le k hk
 have rri:=h.rr i hi
 have rrk:=h.rr k hk
 rw [a1,aB,b1,aB]
 dsimp only
 rw [Hs,Ht]
 have hm:max (r i) (r k)<n:=by omega
 have hl:=b2.len
 rw [gU _ _ (by omega),aB,cK]
 refine⟨_,rfl,by simp [hl],fun x hx=>?_⟩
 have rmax:r (max (r i) (r k))=max (r i) (r k):=by rcases Nat.le_total (r i) (r k) with e | e <;> simp [Nat.max_def] <;> split <;> omega
 have rmin:r (min (r i) (r k))=min (r i) (r k):=by rcases Nat.le_total (r i) (r k) with e | e <;> simp [Nat.min_def] <;> split <;> omega
 rw [me (by omega)]
 by_cases e:x=max (r i) (r k)
 ·subst e
  rw [aC rfl]
  refine⟨min (r i) (r k),rfl,by omega,?_,?_⟩
  ·unfold mZ;rw [rmin,rmax,aC rfl];split <;> rfl
  ·unfold mZ;rw [rmax,aC rfl]
 ·rw [aD e]
  obtain⟨u,c1,c2,c3,c4⟩:=b2.rt x hx
  refine⟨u,c1,c2,?_,?_⟩
  ·unfold mZ;rw [c3]
  ·unfold mZ
   split
   ·rename_i e2
    constructor
    ·intro hu;have:=c4.1 hu;omega
    ·intro hu
     have h1:=b2.le x hx
     have h3:x=max (r i) (r k):=by omega
     exact absurd h3 e
   ·exact c4
def gM (s:List aA) (k:Nat):Nat:=(aR (s.take k)).length
theorem w6 {s:List aA} {k:Nat} (h:k<s.length):gM s (k+1)=gM s k+s[k].Xs.length / 2:=by
 unfold gM
 rw [dU h,l7,cU]
 show _+ (aR [s[k]]).length=_
 rw [show aR [s[k]]=mm s[k] by simp [aR],lO]
theorem w7 {s:List aA} {k m:Nat} (h:k<=m):gM s k<=gM s m:=by
 unfold gM
 have:=w4 (s.take m) k
 rwa [List.take_take,Nat.min_eq_left h] at this
theorem CF (s:List aA):gM s s.length= (aR s).length:=by unfold gM;rw [dJ]
theorem IZ {s:List aA} {k t:Nat} (h:k<s.length) (ht:2*t+1<s[k].Xs.length): (aR s)[gM s k+t]? =some ⟨s[k].Xs[2*t],s[k].Y0,s[k].Xs[2*t+1],s[k].Y1⟩:=by
 have e:aR s=aR (s.take k)++(mm s[k]++aR (s.drop (k+1))):=by
  conv=>lhs;rw [<-List.take_append_drop k s,qF h]
  rw [l7,mn]
 rw [e]
 unfold gM
 rw [fF (by omega),Nat.add_sub_cancel_left,fP (by rw [lO];omega)]
 unfold mm
 rw [gH,v7 _ _ ht];rfl
theorem EL {s:List aA} {i:Nat} (h:i< (aR s).length): ∃k,k<s.length/\gM s k<=i/\i<gM s (k+1):=by
 have key: ∀m,m<=s.length->i<gM s m->∃k,k<m/\gM s k<=i/\i<gM s (k+1):=by
  intro m
  induction m with
  | zero=>intro _ h;unfold gM at h;simp [aR] at h
  | succ m ih=>
   intro hm hi
   by_cases h1:i<gM s m
   ·obtain⟨k,hk,h2⟩:=ih (by omega) h1
    exact⟨k,by omega,h2⟩
   ·exact⟨m,by omega,by omega,hi⟩
 exact key s.length (bI _) (by rw [CF];exact h)
def Kc (a c:aJ):Prop:=a.Y1=c.Y0/\a.X0<c.X1/\c.X0<a.X1
def FG (all:List aJ) (i j:Nat):Prop:=∃a c,all[i]? =some a/\all[j]? =some c/\Kc a c
theorem tJ {s:List aA} (he: ∀b∈s,b.Xs.length % 2=0) {k i:Nat} (hk:k<s.length) (h1:gM s k<=i) (h2:i<gM s (k+1)): ∃t,i=gM s k+t/\∃h:2*t+1<s[k].Xs.length,(aR s)[i]? =some ⟨s[k].Xs[2*t],s[k].Y0,s[k].Xs[2*t+1],s[k].Y1⟩:=by
 rw [w6 hk] at h2
 have:=he _ (dK hk)
 refine⟨i - gM s k,by omega,by omega,?_⟩
 have h3:=IZ (t:=i - gM s k) hk (by omega)
 rwa [show gM s k+ (i - gM s k)=i by omega] at h3
theorem y8 {s:List aA} (hc:eJ (s.map bT)) {p q:Nat} (hp:p<s.length) (hq:q<s.length) (h:p<q):s[p].Y1<=s[q].Y0:=by
 have:=nY.1 hc.ord p q (by simp;omega) (by simp;omega) h
 simp only [List.getElem_map] at this
 exact this.1
theorem y9 {s:List aA} (hc:eJ (s.map bT)) {p:Nat} (hp:p<s.length):s[p].Y0<s[p].Y1:=(hc.each (bT s[p]) (cR.2 ⟨_,dK hp,rfl⟩)).1
theorem qt {s:List aA} (hc:eJ (s.map bT)): ∀b∈s,b.Xs.length % 2=0:=fun b hb=>(hc.each (bT b) (cR.2 ⟨b,hb,rfl⟩)).2.2.2
theorem EM {s:List aA} (hc:eJ (s.map bT)): ∀b∈s,mj b.Xs:=fun b hb=>(hc.each (bT b) (cR.2 ⟨b,hb,rfl⟩)).2.2.1
theorem CG {s:List aA} (hc:eJ (s.map bT)) {i j q:Nat} (hq:q<s.length) (h1:gM s q<=j) (h2:j<gM s (q+1)) (ht:FG (aR s) i j): ∃hq0:0<q,s[q - 1].Y1=s[q].Y0/\gM s (q - 1)<=i/\i<gM s q:=by
 obtain⟨a,c,ha,hb,e1,e2,e3⟩:=ht
 obtain⟨t,e4,ht,hj⟩:=tJ (qt hc) hq h1 h2
 rw [hj] at hb;injection hb with hb;subst hb
 have hil:=(aZ.1 ha).1
 obtain⟨p,hp,p1,p2⟩:=EL hil
 obtain⟨u,e5,hu,hi⟩:=tJ (qt hc) hp p1 p2
 rw [hi] at ha;injection ha with ha;subst ha
 have e1:s[p].Y1=s[q].Y0:=e1
 have hpp:=y9 hc hp
 have hqq:=y9 hc hq
 have hpq:p+1=q:=by
  rcases Nat.lt_trichotomy p q with h | h | h
  ·by_cases h':p+1=q
   ·exact h'
   ·have h3:=y8 hc hp (show p+1<s.length by omega) (by omega)
    have h4:=y8 hc (show p+1<s.length by omega) hq (by omega)
    have h5:=y9 hc (show p+1<s.length by omega)
    omega
  ·subst h;omega
  ·have:=y8 hc hq hp h;omega
 subst hpq
 exact⟨by omega,e1,p1,p2⟩
structure PJ (all:List aJ) (n:Nat) (up:List Int) (r:Nat->Nat) (E:List (Nat×Nat)):Prop where
 uf:UF n up r
 co:oQ r E
 fi:y7 n r E
 so: ∀p∈E,FG all p.1 p.2
theorem PJ.join {all:List aJ} {n:Nat} {up up':List Int} {r:Nat->Nat} {E:List (Nat×Nat)} (h:PJ all n up r E) {i j:Nat} (hi:i<n) (hj:j<n) (hu:UF n up' (mZ r (r i) (r j))) (ht:FG all i j):PJ all n up' (mZ r (r i) (r j)) (E++[(i,j)]):=
 ⟨hu,h.co.join i j (h.uf.rr i hi),h.fi.join hi hj,fun p hp=>by
  rcases cY.1 hp with hp | hp
  ·exact h.so p hp
  ·simp at hp;subst hp;exact ht⟩
structure Joined (all:List aJ) (r:Nat->Nat):Prop where
 le: ∀i,i<all.length->r i<=i
 rr: ∀i,i<all.length->r (r i)=r i
 co: ∀i j,FG all i j->r i=r j
 fi: ∀S:Nat->Prop,(∀i j,FG all i j->(S i↔S j))->∀i j,i<all.length->j<all.length->r i=r j->S i->S j
def mN (all:List aJ) (n:Nat) (r:Nat->Nat) (h:Nat):List aJ:=(cls n r h).filterMap (fun i=>all[i]?)
theorem za (all:List aJ) (n:Nat) (r:Nat->Nat) (h:Nat): (mN all n r h).length<=n:=by
 have h1:=List.length_filterMap_le (fun i=>all[i]?) (cls n r h)
 have h2:=x4 n r h
 unfold mN;omega
theorem tK {all:List aJ} {n:Nat} {r:Nat->Nat} (h:Nat) {x:aJ} (hx:all[n]? =some x):mN all (n+1) r h=if r n=h then mN all n r h++[x] else mN all n r h:=by
 unfold mN
 rw [s9]
 split
 ·rw [List.filterMap_append];simp [hx]
 ·rfl
theorem nK {all:List aJ} {n:Nat} {r:Nat->Nat} {h:Nat} {x:aJ}:x∈mN all n r h↔∃i,i<n/\r i=h/\all[i]? =some x:=by
 unfold mN cls
 rw [List.mem_filterMap]
 constructor
 ·rintro⟨i,hi,h⟩
  have:=gR.1 hi
  exact⟨i,o6.1 this.1,by simpa using this.2,h⟩
 ·rintro⟨i,h1,h2,h3⟩
  exact⟨i,gR.2 ⟨o6.2 h1,by simpa using h2⟩,h3⟩
structure q9 (s:List aA) (r:Nat->Nat) (ps:List (List aA)):Prop where
 join:Joined (aR s) r
 len:ps.length= (bW (aR s).length r).length
 each: ∀(j h:Nat) (p:List aA),(bW (aR s).length r)[j]? =some h->ps[j]? =some p->rD (mN (aR s) (aR s).length r h) p
def NM (n:Nat) (r:Nat->Nat) (m:List (Int×Int)):Prop:=(∀(j k:Nat),(bW n r)[j]? =some k->dH m ((k:Nat):Int) 0= ((j:Nat):Int))/\∀k:Nat,fR m ((k:Nat):Int)=decide (k∈bW n r)
theorem DM {s:List aA} {X Y:List Int} (hc:eJ (s.map bT)) (hl:vd X Y (s.map bT)) (hX: ∀c∈X,small c) (hY: ∀c∈Y,small c) (h1:s.length<=1073741824) (h2: ∀b∈s,b.Xs.length<=1073741824) (h3: (aR s).length<=134217728) (hN:4398046511104<=N):
  Ok (ku N s) (fun ps=>∃r,q9 s r ps):=by
 unfold ku
 have hev:=qt hc
 have hinc:=EM hc
 refine Ok.eq (yZ hev (by omega) (fun b hb=>by have:=h2 b hb;omega) (by omega)) ?_
 have hok:=y4 hc hl hX hY
 have hall:gM s s.length= (aR s).length:=CF s
 generalize hn: (aR s).length=n at *
 refine Ok.eq (vJ 0 (by omega)) ?_
 rw [show ((List.replicate n (0:Int)).length)=n by simp]
 refine Ok.bind (Ok.jI (fun k up=>up.length=n/\∀i,i<k->up[i]? =some ((i:Nat):Int)) (by omega) ⟨by simp,fun i hi=>by omega⟩ (fun k up hk hI=>?_)) ?_
 ·obtain⟨hs,hi⟩:=hI
  refine Ok.idx (by omega) (Ok.ret ⟨by simp [hs],fun i hi'=>?_⟩)
  rw [cK,me (by omega)]
  split
  ·rename_i e;rw [e]
  ·exact hi i (by omega)
 rintro up0 ⟨hu1,hu2⟩
 refine Ok.bind (Ok.jI (fun k st=>st.2.1= ((gM s k:Nat):Int)/\(0<k->st.2.2= ((gM s (k - 1):Nat):Int))/\∃r E,PJ (aR s) n st.1 r E/\∀q,q<k->∀i j,gM s q<=j->j<gM s (q+1)->FG (aR s) i j->(i,j)∈E) (by omega)
  ⟨rfl,fun h=>by omega,_,_,⟨UF.init n up0 hu1 hu2,oQ.id,y7.id n,fun p hp=>(by cases hp)⟩,fun q hq=>by omega⟩ (fun k st hk hI=>?_)) ?_
 ·obtain⟨up,a,b⟩:=st
  obtain⟨e1,e2,r,E,hP,hE⟩:=hI
  dsimp only at e1 e2 hP ⊢
  subst e1
  refine Ok.idx hk ?_
  have hoff:=w6 hk
  have hoffle:gM s (k+1)<=n:=by rw [<-hall];exact w7 hk
  have hkm:=dK hk
  have hlen:IntKind.wrap .i64 (Int.tdiv ((s[k].Xs.length:Nat):Int) 2)= ((s[k].Xs.length / 2:Nat):Int):=by
   have:=h2 _ hkm
   rw [show (2:Int)= ((2:Nat):Int) by rfl,<-Int.ofNat_tdiv,CB (by omega)]
  rw [hlen,wrap_add (by omega),<-hoff]
  refine Ok.bind (P:=fun c=>c=true↔∃h0:0<k,s[k - 1].Y1=s[k].Y0) ?_ (fun c hcc=>?_)
  ·refine Ok.bif (fun h=>?_) (fun h=>Ok.ret ?_)
   ·have hpos:0<k:=by have:=of_decide_eq_true h;omega
    rw [lL hpos (by omega)]
    refine Ok.idx (by omega) (Ok.ret ?_)
    rw [beq_iff_eq]
    exact⟨fun h=>⟨hpos,h⟩,fun⟨_,h⟩=>h⟩
   ·have:=of_decide_eq_false h
    constructor
    ·intro h;cases h
    ·rintro⟨h0,_⟩;omega
  refine Ok.bind (P:=fun up'=>∃r E,PJ (aR s) n up' r E/\∀q,q<k+1->∀i j,gM s q<=j->j<gM s (q+1)->FG (aR s) i j->(i,j)∈E) ?_ (fun up' hI=>Ok.ret ⟨rfl,fun _=>rfl,hI⟩)
  refine Ok.bif (fun h=>?_) (fun h=>Ok.ret ⟨r,E,hP,fun q hq i j q1 q2 ht=>?_⟩)
  ·obtain⟨hpos,hyy⟩:=hcc.1 h
   rw [e2 hpos]
   have hoffp:=w6 (show k - 1<s.length by omega)
   rw [show k - 1+1=k by omega] at hoffp
   refine Ok.bind (Ok.nL (Go:=fun st=>∃r E,PJ (aR s) n st.1 r E/\∀q,q<k+1->∀i j,gM s q<=j->j<gM s (q+1)->FG (aR s) i j->(i,j)∈E) (Rt:=fun _=>True)
    (fun st=>∃i j:Nat,st.2.1= ((i:Nat):Int)/\st.2.2= ((j:Nat):Int)/\gM s (k - 1)<=i/\i<=gM s k/\gM s k<=j/\j<=gM s (k+1)/\∃r E,PJ (aR s) n st.1 r E/\(∀q,q<k->∀i j,gM s q<=j->j<gM s (q+1)->FG (aR s) i j->(i,j)∈E)/\
     ∀i' j',gM s (k - 1)<=i'->i'<gM s k->gM s k<=j'->j'<gM s (k+1)->(i'<i\/j'<j)->FG (aR s) i' j'->(i',j')∈E)
    (fun st=>(n - st.2.1.toNat)+ (n - st.2.2.toNat)) ?_ ?_ (by simp only [cK];omega)) (fun o ho=>Ok.cs ho (fun st h=>Ok.ret h) (fun r=>r.elim))
   ·rintro⟨up,a,b⟩ ⟨i,j,e3,e4,i1,i2,j1,j2,r,E,hP,hE,hE2⟩
    dsimp only at e3 e4 hP ⊢
    subst e3;subst e4
    refine Ok.bif (fun h=>?_) (fun h=>Ok.br ?_)
    ·rw [cC,cE,cE] at h
     have hi:i<gM s k:=by omega
     have hj:j<gM s (k+1):=by omega
     obtain⟨t,et,_,hri⟩:=tJ hev (show k - 1<s.length by omega) i1 (by rw [show k - 1+1=k by omega];exact hi)
     obtain⟨u,eu,_,hrj⟩:=tJ hev hk j1 hj
     have xi:=hinc _ (dK (show k - 1<s.length by omega))
     have xj:=hinc _ hkm
     have farI: ∀i' a,i<i'->i'<gM s k->(aR s)[i']? =some a->s[k - 1].Xs[2*t+1]<a.X0:=fun i' a h4 h5 h6=>by
      obtain⟨t',et',ht',hr'⟩:=tJ hev (show k - 1<s.length by omega) (show gM s (k - 1)<=i' by omega) (by rw [show k - 1+1=k by omega];exact h5)
      rw [hr'] at h6;injection h6 with h6;subst h6
      exact xi.lt (show 2*t+1<2*t' by omega) (aK _) (aK _)
     have farJ: ∀j' a,j<j'->j'<gM s (k+1)->(aR s)[j']? =some a->s[k].Xs[2*u+1]<a.X0:=fun j' a h4 h5 h6=>by
      obtain⟨u',eu',hu',hr'⟩:=tJ hev hk (show gM s k<=j' by omega) h5
      rw [hr'] at h6;injection h6 with h6;subst h6
      exact xj.lt (show 2*u+1<2*u' by omega) (aK _) (aK _)
     refine Ok.bind (P:=fun c=>c=true↔FG (aR s) i j) ?_ (fun c hct=>?_)
     ·refine Ok.ix hri (Ok.ix hrj (Ok.bif (fun h=>Ok.ix hrj (Ok.ix hri (Ok.ret ?_))) (fun h=>Ok.ret ?_)))
      ·rw [cE] at h ⊢
       constructor
       ·intro h';exact⟨_,_,hri,hrj,hyy,h,h'⟩
       ·rintro⟨a,c,ha,hc',_,_,h'⟩
        rw [hri] at ha;injection ha with ha;subst ha
        rw [hrj] at hc';injection hc' with hc';subst hc'
        exact h'
      ·constructor
       ·intro h;cases h
       ·rintro⟨a,c,ha,hc',_,h',_⟩
        rw [hri] at ha;injection ha with ha;subst ha
        rw [hrj] at hc';injection hc' with hc';subst hc'
        rw [decide_eq_false_iff_not] at h;exact absurd h' h
     refine Ok.bind (P:=fun up'=>∃r E',PJ (aR s) n up' r E'/\(∀p∈E,p∈E')/\(FG (aR s) i j->(i,j)∈E')) ?_ ?_
     ·refine Ok.bif (fun h=>?_) (fun h=>Ok.ret ⟨r,E,hP,fun p hp=>hp,fun ht=>by rw [hct.2 ht] at h;cases h⟩)
      obtain⟨up',u1,u2⟩:=Hu (N:=N) (f:=fun x=>some x) hP.uf (i:=i) (k:=j) (by omega) (by omega) (by omega)
      refine⟨up',u1,_,_,hP.join (by omega) (by omega) u2 (hct.1 h),fun p hp=>List.mem_append_left _ hp,fun _=>by simp⟩
     ·rintro up' ⟨r',E',hP',hsub,hij⟩
      refine Ok.ix hri (Ok.ix hrj ?_)
      dsimp only
      by_cases hx:s[k - 1].Xs[2*t+1]<s[k].Xs[2*u+1]
      ·rw [cD hx,aT]
       refine Ok.eq (x:=(((i+1:Nat):Int),((j:Nat):Int))) (by rw [g8 (by omega)]) (Ok.nx ⟨⟨i+1,j,rfl,rfl,by omega,by omega,j1,j2,r',E',hP',fun q hq i j q1 q2 ht=>hsub _ (hE q hq i j q1 q2 ht),fun i' j' g1 g2 g3 g4 g5 ht=>?_⟩,by simp only [cK];omega⟩)
       by_cases h5:i'<i\/j'<j
       ·exact hsub _ (hE2 i' j' g1 g2 g3 g4 h5 ht)
       ·have:i'=i:=by omega
        subst this
        by_cases h6:j'=j
        ·subst h6;exact hij ht
        ·exfalso
         obtain⟨a,c,ha,hc',_,_,h'⟩:=ht
         rw [hri] at ha;injection ha with ha;subst ha
         have:=farJ j' c (by omega) g4 hc'
         dsimp only at h';omega
      ·rw [bS hx,aY]
       refine Ok.eq (x:=(((i:Nat):Int),((j+1:Nat):Int))) (by rw [g8 (by omega)]) (Ok.nx ⟨⟨i,j+1,rfl,rfl,i1,i2,by omega,by omega,r',E',hP',fun q hq i j q1 q2 ht=>hsub _ (hE q hq i j q1 q2 ht),fun i' j' g1 g2 g3 g4 g5 ht=>?_⟩,by simp only [cK];omega⟩)
       by_cases h5:i'<i\/j'<j
       ·exact hsub _ (hE2 i' j' g1 g2 g3 g4 h5 ht)
       ·have:j'=j:=by omega
        subst this
        by_cases h6:i'=i
        ·subst h6;exact hij ht
        ·exfalso
         obtain⟨a,c,ha,hc',_,h',_⟩:=ht
         rw [hrj] at hc';injection hc' with hc';subst hc'
         have:=farI i' a (by omega) g2 ha
         dsimp only at h';omega
    ·refine⟨r,E,hP,fun q hq i' j' q1 q2 ht=>?_⟩
     by_cases hqk:q<k
     ·exact hE q hqk i' j' q1 q2 ht
     ·have:q=k:=by omega
      subst this
      obtain⟨_,_,g1,g2⟩:=CG hc hk q1 q2 ht
      refine hE2 i' j' g1 g2 q1 q2 ?_ ht
      rw [Bool.and_eq_false_iff,decide_eq_false_iff_not,decide_eq_false_iff_not] at h
      omega
   ·exact⟨gM s (k - 1),gM s k,rfl,rfl,bI _,w7 (by omega),bI _,w7 (by omega),r,E,hP,hE,fun i' j' g1 g2 g3 g4 g5=>by omega⟩
  ·by_cases hqk:q<k
   ·exact hE q hqk i j q1 q2 ht
   ·have:q=k:=by omega
    subst this
    obtain⟨g0,g1,_⟩:=CG hc hk q1 q2 ht
    rw [hcc.2 ⟨g0,g1⟩] at h;cases h
 ·rintro⟨up,a,b⟩ ⟨_,_,r,E,hP,hE⟩
  dsimp only at hP ⊢
  have hEq: ∀i j,FG (aR s) i j->(i,j)∈E:=fun i j ht=>by
   have hjl:j< (aR s).length:=by obtain⟨a,c,_,hb,_⟩:=ht;exact(aZ.1 hb).1
   obtain⟨q,hq,q1,q2⟩:=EL hjl
   exact hE q hq i j q1 q2 ht
  have hJ:Joined (aR s) r:=⟨by rw [hn];exact hP.uf.le,by rw [hn];exact hP.uf.rr,fun i j ht=>hP.co (i,j) (hEq i j ht),fun S hS i j hi hj=>by
   rw [hn] at hi hj
   exact hP.fi S (fun p hp=>hS p.1 p.2 (hP.so p hp)) i j hi hj⟩
  refine Ok.bind (Ok.jI (fun k st=>UF n st.1 r/\NM k r st.2.1/\st.2.2= (bW k r).map (mN (aR s) k r)) (by omega) ⟨hP.uf,⟨fun j k hj=>by simp [bW] at hj,fun k=>rfl⟩,rfl⟩ (fun k st hk hI=>?_)) ?_
  ·obtain⟨l,m,ls⟩:=st
   obtain⟨hu,⟨hm1,hm2⟩,hs⟩:=hI
   dsimp only at hu hm1 hm2 hs ⊢
   subst hs
   have hkx: (aR s)[k]? =some ((aR s)[k]'(by omega)):=aK (by omega)
   refine Ok.ix hkx ?_
   obtain⟨u',a1,a2⟩:=Bm (N:=N) hu hk (by omega)
   refine Ok.eq a1 ?_
   dsimp only
   have hhl:=nc k r
   have hrk:=hP.uf.le k hk
   have hrr:=hP.uf.rr k hk
   have hcl:=za (aR s) k r (r k)
   have hmap: ((bW k r).map (mN (aR s) k r)).length= (bW k r).length:=by simp
   rw [hm2]
   by_cases e:r k=k
   ·have hnot:r k∉bW k r:=fun h=>by have:=(iW.1 h).1;omega
    refine Ok.eq (x:=(kT m ((r k:Nat):Int) (((bW k r).length:Nat):Int),(bW k r).map (mN (aR s) k r)++[([]:List aJ)],(((bW k r).length:Nat):Int))) ?_ ?_
    ·rw [bS hnot,o8,aT,gL (by simp;omega),aB,hmap]
    ·dsimp only
     have hi: ((bW k r).map (mN (aR s) k r)++[([]:List aJ)])[(bW k r).length]? =some []:=by rw [<-hmap,fF (bI _),Nat.sub_self];rfl
     refine Ok.ix hi (Ok.app (by simp) (Ok.ix hi (Ok.ret ⟨a2,⟨fun j q hj=>?_,fun q=>?_⟩,?_⟩)))
     ·dsimp only
      rw [jO,aC e] at hj
      rw [qo]
      by_cases e2:j< (bW k r).length
      ·rw [fP e2] at hj
       have:=(iW.1 (eN hj)).1
       rw [aD (by omega)];exact hm1 j q hj
      ·rw [fF (by omega)] at hj
       have hj0:j - (bW k r).length=0:=by
        have:=(aZ.1 hj).1;simp at this;omega
       rw [hj0] at hj;simp at hj;subst hj
       rw [aC (by rw [e])];congr 1;omega
     ·dsimp only
      rw [w3,hm2,jO,aC e,fH]
      rw [dS,cE,cE,cE,cY,List.mem_singleton,e]
      constructor
      ·rintro(h | h)
       ·exact .inr (by omega)
       ·exact .inl h
      ·rintro(h | h)
       ·exact .inr h
       ·exact .inl (by omega)
     ·dsimp only
      rw [cK,<-hmap,List.set_append_right _ _ (bI _),Nat.sub_self,jO,aC e,fD]
      congr 1
      ·apply List.map_congr_left
       intro a ha
       have:=(iW.1 ha).1
       rw [tK a hkx,aD (by omega)]
      ·simp only [List.set_cons_zero,dV,List.map_nil,List.nil_append]
       rw [tK k hkx,aC e]
       have:mN (aR s) k r k= []:=by unfold mN;rw [EK (fun i hi=>hP.uf.le i (by omega)) (bI _)];rfl
       rw [this];rfl
   ·have hh:r k∈bW k r:=iW.2 ⟨by omega,hrr⟩
    obtain⟨j,hj⟩:=eA hh
    refine Ok.eq (x:=(m,(bW k r).map (mN (aR s) k r),((j:Nat):Int))) ?_ ?_
    ·rw [cD hh,nk,aY,hm1 j (r k) hj]
    ·dsimp only
     have hi: ((bW k r).map (mN (aR s) k r))[j]? =some (mN (aR s) k r (r k)):=by rw [gH,hj];rfl
     refine Ok.ix hi (Ok.app (by simp;omega) (Ok.ix hi (Ok.ret ⟨a2,⟨fun j' q hj'=>?_,fun q=>?_⟩,?_⟩)))
     ·rw [jO,aD e] at hj';exact hm1 j' q hj'
     ·rw [jO,aD e];exact hm2 q
     ·dsimp only
      rw [cK,jO,aD e]
      have:=tc (mN (aR s) k r) (mN (aR s) (k+1) r) (bW k r) j (r k) (mo k r) hj (fun b hb hne=>by
       rw [tK b hkx,aD (fun h=>hne h.symm)])
      rw [tK (r k) hkx,aC rfl] at this
      exact this
  ·rintro⟨l,m,ls⟩ ⟨_,_,hs⟩
   dsimp only at hs ⊢
   subst hs
   have hhl:=nc n r
   refine Ok.bind (Ok.jI (fun k ps=>ps.length=k/\∀(j h:Nat) (p:List aA),j<k->(bW n r)[j]? =some h->ps[j]? =some p->rD (mN (aR s) n r h) p) (by simp;omega) ⟨rfl,fun j h p hj=>by omega⟩ (fun k ps hk hI=>?_)) ?_
   ·obtain⟨hp1,hp2⟩:=hI
    have hk':k< (bW n r).length:=by simpa using hk
    refine Ok.ix (x:=mN (aR s) n r (bW n r)[k]) (by rw [gH,aK hk'];rfl) ?_
    have hcl:=za (aR s) n r (bW n r)[k]
    refine Ok.bind (q8 (N:=N) (by omega) (fun x hx=>?_) (by omega)) ?_
    ·obtain⟨i,_,_,h⟩:=nK.1 hx
     exact(hok x (eN h)).1
    ·intro p hp
     refine Ok.app (by rw [hp1];simp;omega) (Ok.ret ⟨by simp [hp1],fun j h q hj hh hq=>?_⟩)
     by_cases hjk:j<k
     ·rw [fP (by omega)] at hq
      exact hp2 j h q hjk hh hq
     ·have:j=k:=by omega
      subst this
      rw [fF (by omega),hp1,Nat.sub_self] at hq
      simp at hq;subst hq
      rw [aK hk'] at hh;injection hh with hh;subst hh
      exact hp
   ·rintro ps ⟨hp1,hp2⟩
    refine Ok.ret ⟨r,hJ,?_,fun j h p hh hp=>?_⟩
    ·rw [hp1,hn];simp
    ·rw [hn] at hh ⊢
     exact hp2 j h p (by have:=(aZ.1 hp).1;omega) hh hp
end
end Go.Gk
namespace Go.Gk
open Go
section
variable {N:Nat}
theorem v9 {n:Int} (h: -9223372036854775808<=n/\n<=9223372036854775807):IntKind.wrap .i64 n=n:=by rw [IntKind.wrap_i64];omega
def iw (n lo hi:Int):Bool:=decide (n>=lo)&&decide (n<=hi)
def oS (n:Int):Bool:=iw n (-1000000) 1000000
def uk (p:ka):Bool:=oS p.X&&oS p.Y
def eT (r:aJ):Bool:=oS r.X0&&(oS r.Y0&&(oS r.X1&&oS r.Y1))
theorem zb (n:Int):kj N n=some (oS n):=rfl
theorem xy (p:ka):iS N p=some (uk p):=by
 unfold iS uk
 rw [zb,aB,zb]
 cases oS p.X <;> rfl
theorem zc (r:aJ):lE N r=some (eT r):=by
 unfold lE eT
 simp only [zb,aB]
 cases oS r.X0 <;> cases oS r.Y0 <;> cases oS r.X1 <;> rfl
theorem CH {a b:Int} (h:a≠b):fX (N+4) [a,b]=some [a,b]:=by
 have e: (b==a)=false:=by rw [beq_eq_false_iff_ne];exact fun e=>h e.symm
 have w1:IntKind.wrap .i64 ((1:Int) - 1)=0:=by decide
 have w2:IntKind.wrap .i64 ((1:Int)+1)=2:=by decide
 unfold fX
 have e1:idx [a,b] 1=some b:=rfl
 have e2:idx [a,b] 0=some a:=rfl
 have l2: (([a,b]:List Int).length:Int)=2:=rfl
 rw [l2,show decide ((2:Int)<2)=false by decide,aY]
 rw [nL.eq_def]
 dsimp only
 rw [show decide ((1:Int)<2)=true by decide,aT,e1,aB,w1,e2,aB,e,aY,aB,w2]
 dsimp only
 rw [nL.eq_def]
 dsimp only
 rw [show decide ((2:Int)<2)=false by decide,aY,aB]
 rfl
theorem Jr (x:Int):IntKind.wrap .i64 (x - x)=0:=by rw [Int.sub_self];decide
theorem FH {r:aJ} (hx:r.X0<r.X1) (hy:r.Y0<r.Y1):gj (N+16) [r]=some [⟨r.Y0,r.Y1,[r.X0,r.X1]⟩]:=by
 have s1:sd (i6 (N+16)) [r]=some [r]:=Am (by unfold i6;rw [Jr])
 have s2:sd (fY (N+16)) [r]=some [r]:=Am (by unfold fY;rw [Jr])
 have s3:r9 [r.Y0,r.Y1]=some [r.Y0,r.Y1]:=zQ (by simp;omega) (by simp)
 have c1:iu (N+16) [r]=some [r]:=rfl
 have f1: ∀φ,gA (N+16) [] φ=some []:=fun φ=>rfl
 have st:iC (N+16) [r]=some ([r.X0,r.X1],[r]):=by
  unfold iC
  rw [s2,aB]
  rfl
 have pu: ∀b:aA,b.Xs= [r.X0,r.X1]->b.Y0<b.Y1->gY (N+16) [] b=some [b]:=fun b h1 h2=>by
  unfold gY
  rw [h1,bS (show ¬b.Y1<=b.Y0 by omega)]
  rfl
 unfold gj
 rw [c1,aB,s1,aB]
 have ys: (jI ([r]:List aJ).length (fun(k35:Nat) (s36: (List Int))=>((idx [r] (k35:Int)).bind fun x54=>(app 8 s36 ([x54.Y0,x54.Y1]: (List Int))).bind fun x58=>some x58:Option ((List Int)))) ([]: (List Int)))=some [r.Y0,r.Y1]:=rfl
 rw [ys,aB,s3,aB,CH (N:=N+12) (by omega),aB]
 have l2: (([r.Y0,r.Y1]:List Int).length:Int)=2:=rfl
 have l1: (([r]:List aJ).length:Int)=1:=rfl
 have w1:IntKind.wrap .i64 ((0:Int)+1)=1:=by decide
 have w2:IntKind.wrap .i64 ((1:Int)+1)=2:=by decide
 have i0:idx [r.Y0,r.Y1] 0=some r.Y0:=rfl
 have i1:idx [r.Y0,r.Y1] 1=some r.Y1:=rfl
 have j0:idx [r] 0=some r:=rfl
 have a1:app 32 ([]:List aJ) [r]=some [r]:=rfl
 rw [l2,l1]
 rw [nL.eq_def]
 dsimp only
 rw [w1,show decide ((1:Int)<2)=true by decide,aT,f1,aB]
 rw [nL.eq_def]
 dsimp only
 rw [show decide ((0:Int)<1)=true by decide,aT,j0,aB,i0,aB,aB,show decide (r.Y0<=r.Y0)=true by simp,aT,aB,a1,aB,w1,aB]
 dsimp only
 rw [nL.eq_def]
 dsimp only
 rw [show decide ((1:Int)<1)=false by decide,aY,aB,aY,aB,aB]
 unfold Fo.cs
 dsimp only
 rw [aB,i1,aB,st,aB,pu _ rfl hy,aB,aB]
 dsimp only
 rw [nL.eq_def]
 dsimp only
 rw [w2,show decide ((2:Int)<2)=false by decide,aY,aB]
 rfl
theorem Hv {r:aJ} (hx:r.X0<r.X1):k6 N [⟨r.Y0,r.Y1,[r.X0,r.X1]⟩]=some (eT r):=by
 have ar:lG N [⟨r.Y0,r.Y1,[r.X0,r.X1]⟩]=some r:=by
  have e1: (if r.X0<r.X0 then r.X0 else r.X0)=r.X0:=by split <;> rfl
  have e2: (if r.X1<r.X1 then r.X1 else r.X1)=r.X1:=by split <;> rfl
  show some ({X0:=(if r.X0<r.X0 then r.X0 else r.X0),Y0:=r.Y0,X1:=(if r.X1<r.X1 then r.X1 else r.X1),Y1:=r.Y1}:aJ)=some r
  rw [e1,e2]
 unfold k6
 rw [ar,aB,zc]
 rfl
def x5 (b:cN):aJ:=⟨b.At.X - b.eR / 2,b.At.Y - b.eR / 2,b.At.X - b.eR / 2+b.eR,b.At.Y - b.eR / 2+b.eR⟩
def te (b:cN):Bool:=iw b.eR 1 10000&&uk b.At
def ny (b:cN):aJ×Int:=if te b&&eT (x5 b) then (x5 b,0) else (⟨0,0,0,0⟩,1)
theorem tf {b:cN} (h:te b=true): (1<=b.eR/\b.eR<=10000)/\(-1000000<=b.At.X/\b.At.X<=1000000)/\(-1000000<=b.At.Y/\b.At.Y<=1000000):=by
 simp only [te,iw,uk,oS,cC,decide_eq_true_iff] at h
 omega
theorem mq {b:cN} (h:te b=true):eY N b=some (x5 b):=by
 obtain⟨h1,h2,h3⟩:=tf h
 have t:Int.tdiv b.eR 2=b.eR / 2:=Int.tdiv_eq_ediv_of_nonneg (by omega)
 unfold eY x5
 rw [t,v9 (n:=b.eR / 2) (by omega),v9 (n:=b.At.X - b.eR / 2) (by omega),v9 (n:=b.At.Y - b.eR / 2) (by omega),v9 (by omega),v9 (by omega)]
theorem qu {b:cN}:jM (N+16) b=some (ny b):=by
 have e0:gu (N+16) b.eR 1 10000=some (iw b.eR 1 10000):=rfl
 have e1: (bif (!(iw b.eR 1 10000)) then (some true) else (some (!(uk b.At))))=some (!te b):=by unfold te;cases iw b.eR 1 10000 <;> rfl
 unfold jM ny
 rw [e0,aB,xy,aB,e1,aB]
 cases hf:te b with
 | false=>rfl
 | true=>
  obtain⟨h1,h2,h3⟩:=tf hf
  have hx: (x5 b).X0< (x5 b).X1:=by simp only [x5];omega
  have hy: (x5 b).Y0< (x5 b).Y1:=by simp only [x5];omega
  rw [nk,aY,mq hf,aB,FH hx hy,aB,Hv hx,aB]
  cases eT (x5 b) <;> rfl
theorem FI:dL (N+16)=some true:=by
 unfold dL
 rw [qu,aB]
 rfl
end
end Go.Gk
namespace Go.Gk
open Go
section
variable {N:Nat}
def Kd (c:UInt8):Bool:=
 ((((decide (((c.toNat:Nat):Int)<65))||(decide (((c.toNat:Nat):Int)>90)))&&((decide (((c.toNat:Nat):Int)<97))||(decide (((c.toNat:Nat):Int)>122))))&&((decide (((c.toNat:Nat):Int)<48))||(decide (((c.toNat:Nat):Int)>57))))&&decide (Lib.indexByte [95,43,45,35] c<0)
def isWord (s:bR):Bool:= !s.cB.any Kd&&(decide (1<=s.cB.length)&&decide (s.cB.length<=40))
theorem wc (s:bR) (c:UInt8):ij N s ((c.toNat:Nat):Int)=some (Lib.indexByte s.cB c):=by
 show some (Lib.indexByte s.cB (Int.toNat ((c.toNat:Nat):Int)).toUInt8)=_
 rw [cK];simp
theorem DN {R:Type} (b1:Bool) (c:UInt8) (r:R):
  ((bif b1 then ((ij N (⟨[95,43,45,35]⟩) ((c.toNat:Nat):Int)).bind fun x14=>some (decide (x14<0))) else (some false)).bind fun s12=>bif s12 then (some (.rt r)) else (some (.nx ())):Option (Fl Unit R))=some (if (b1&&decide (Lib.indexByte [95,43,45,35] c<0))=true then .rt r else .nx ()):=by
 rw [wc,aB]
 cases b1
 ·rfl
 ·rw [aT,aB,Bool.true_and]
  cases decide (Lib.indexByte [95,43,45,35] c<0) <;> rfl
theorem kR {s:bR} (h:s.cB.length<=1048576):fM N s=some (isWord s):=by
 unfold fM
 rw [II Kd false (by omega) (fun k x hx=>by
  have hk:=(aZ.1 hx).1
  have e:E0 s ((k:Nat):Int)=some x:=by rw [He s k hk,<-aK hk,hx]
  rw [e,aB]
  exact DN (R:=Bool) _ x false),aB]
 unfold isWord
 cases s.cB.any Kd
 ·simp only [Fo.cs,o8,Bool.true_and,Bool.false_eq_true,if_false,Option.some.injEq]
  rw [fH,cC,cC]
  simp only [cE]
  omega
 ·simp [Fo.cs]
def cutAt (c:UInt8):List UInt8->List (List UInt8)
 | []=>[[]]
 | b::l=>if b==c then []::cutAt c l else match cutAt c l with | h::t=>(b::h)::t | []=>[[b]]
theorem zd {c:UInt8}: ∀{l:List UInt8},c∉l->cutAt c l= [l]
 | [],_=>rfl
 | b::l,h=>by
  unfold cutAt
  have hb: (b==c)=false:=by rw [beq_eq_false_iff_ne];rintro rfl;exact h (by simp)
  rw [hb,zd (fun h'=>h (by simp [h']))];rfl
theorem CI {c:UInt8}: ∀{a b:List UInt8},c∉a->cutAt c (a++c::b)=a::cutAt c b
 | [],b,_=>by rw [List.nil_append];show (if (c==c)=true then _ else _)=_;simp
 | x::a,b,h=>by
  have hb: (x==c)=false:=by rw [beq_eq_false_iff_ne];rintro rfl;exact h (by simp)
  have ih:=CI (c:=c) (a:=a) (b:=b) (fun h'=>h (by simp [h']))
  show (if (x==c)=true then []::cutAt c (a++c::b) else match cutAt c (a++c::b) with | h::t=>(x::h)::t | []=>[[x]])=_
  rw [hb,ih];rfl
theorem tg: ∀(l:List UInt8) (c:UInt8),(Lib.indexByte l c = -1/\c∉l)\/∃a b,l=a++c::b/\c∉a/\Lib.indexByte l c= ((a.length:Nat):Int)
 | [],c=> .inl ⟨rfl,by simp⟩
 | x::l,c=>by
  unfold Lib.indexByte
  by_cases hx:x=c
  ·subst hx;exact .inr ⟨[],l,rfl,by simp,by simp⟩
  ·have hb: (x==c)=false:=by rw [beq_eq_false_iff_ne];exact hx
   rcases tg l c with ⟨h1,h2⟩ | ⟨a,b,h1,h2,h3⟩
   ·left;rw [hb,h1];refine⟨by simp,?_⟩;simp [h2];exact fun h=>hx h.symm
   ·right
    refine⟨x::a,b,by rw [h1];rfl,by simp [h2];exact fun h=>hx h.symm,?_⟩
    rw [hb,h3]
    have: (((a.length:Nat):Int)== -1)=false:=by rw [beq_eq_false_iff_ne];omega
    rw [this];simp
theorem Hx (s:bR) (c:UInt8):kE N s ⟨[c]⟩=some (Lib.indexByte s.cB c):=by
 show (jw N s ⟨[c]⟩).bind _=_
 unfold jw
 by_cases h:bR.oW ⟨[c]⟩ s=true
 ·have:s= ⟨[c]⟩:=(ph.1 h).symm
  subst this
  rw [h];simp [Lib.indexByte]
 ·rw [iM] at h
  rw [h]
  show ((gJ N s ((c.toNat:Nat):Int)).bind _).bind _=_
  have:=wc (N:=N) s c
  simp only [ij] at this
  rw [this];rfl
theorem Hy (s:bR) (c:UInt8):lT N s ⟨[c]⟩=some ((s.cB.count c:Nat):Int):=by
 unfold lT
 show (some _:Option Int)=_
 simp [Lib.countByte]
theorem FJ {s:bR} {k:Nat} (h:k<=s.cB.length):uF s 0 ((k:Nat):Int)=some ⟨s.cB.take k⟩:=by
 unfold uF;rw [aC ⟨by omega,by omega,by omega⟩]
 simp only [Int.toNat_zero,List.drop_zero,Int.sub_zero,cK]
theorem FK {s:bR} {k:Nat} (h:k<=s.cB.length):uF s ((k:Nat):Int) ((s.cB.length:Nat):Int)=some ⟨s.cB.drop k⟩:=by
 unfold uF;rw [aC ⟨by omega,by omega,by omega⟩]
 simp only [cK]
 rw [o7];rw [gS];omega
def ra (s:bR) (c:UInt8):List bR:=(cutAt c s.cB).map bR.mk
theorem Hz {s:bR} (c:UInt8) (h:s.cB.length<=1048576) (hN:4194304<=N):lU N s ⟨[c]⟩=some (ra s c):=by
 have hc:s.cB.count c<=s.cB.length:=List.count_le_length
 unfold lU lD
 rw [show ((-1:Int)==0)=false by decide,aY,show bR.oW ⟨[c]⟩ ⟨[]⟩=false by simp [bR.oW],aY,Hy,aB]
 rw [dW (x:=((s.cB.count c:Nat):Int)+1) (by omega) (by omega),show decide ((-1:Int)<0)=true by decide,aT,aB]
 rw [dW (x:=((s.cB.length:Nat):Int)+1) (by omega) (by omega)]
 have e1: (if ((s.cB.length:Nat):Int)+1< ((s.cB.count c:Nat):Int)+1 then ((s.cB.length:Nat):Int)+1 else ((s.cB.count c:Nat):Int)+1)= ((s.cB.count c+1:Nat):Int):=by
  rw [aD (by omega)];omega
 rw [e1,vJ _ (by omega),aB]
 rw [dW (x:=((s.cB.count c+1:Nat):Int) - 1) (by omega) (by omega)]
 have key:=tF (S:=bR×List bR×Int) (R:=Empty) (body:=(fun(s7:bR×(List bR)×Int)=>(bif (decide (s7.2.2< ((s.cB.count c+1:Nat):Int) - 1)) then ((kE N s7.1 ⟨[c]⟩).bind fun x23=>bif (decide (x23<0)) then (some (.br (s7.1,s7.2.1,s7.2.2))) else ((uF s7.1 0 (IntKind.wrap .i64 (x23+0))).bind fun x24=>(idx s7.2.1 s7.2.2).bind fun x25=>(uF s7.1 (IntKind.wrap .i64 (x23+ (((⟨[c]⟩:bR).cB.length:Nat):Int))) ((s7.1.cB.length:Nat):Int)).bind fun x27=>some (.nx (x27,(s7.2.1.set (Int.toNat s7.2.2) x24),(IntKind.wrap .i64 (s7.2.2+1)))))) else (some (.br (s7.1,s7.2.1,s7.2.2))):Option (Fl (bR×(List bR)×Int) Empty))))
  (fun st=>∃ws:List (List UInt8),st.2.2= ((ws.length:Nat):Int)/\cutAt c s.cB=ws++cutAt c st.1.cB/\ws.length+st.1.cB.count c=s.cB.count c/\st.1.cB.length<=s.cB.length/\st.2.1=ws.map bR.mk++List.replicate (s.cB.count c+1 - ws.length) ⟨[]⟩)
  (fun st=>s.cB.count c+1 - st.2.2.toNat)
  (fun st=>∃ws:List (List UInt8),st.2.2= ((ws.length:Nat):Int)/\cutAt c s.cB=ws++[st.1.cB]/\ws.length=s.cB.count c/\st.2.1=ws.map bR.mk++[⟨[]⟩])
  (fun _=>True) (by
   rintro⟨r,arr,i⟩ ⟨ws,h1,h2,h3,h4,h5⟩
   simp only at h1 h2 h3 h4 h5
   subst h1 h5
   by_cases hlt:ws.length<s.cB.count c
   ·have hd:decide (((ws.length:Nat):Int)< ((s.cB.count c+1:Nat):Int) - 1)=true:=by rw [cE];omega
    simp only [hd,aT,Hx,aB]
    rcases tg r.cB c with ⟨_,hn⟩ | ⟨a,b,hr,ha,hi⟩
    ·rw [List.count_eq_zero_of_not_mem hn] at h3;omega
    ·have hrl:r.cB.length=a.length+ (b.length+1):=by rw [hr];simp
     rw [hi,bS (by omega),aY]
     rw [show ((a.length:Nat):Int)+0= ((a.length:Nat):Int) by omega,dW (x:=((a.length:Nat):Int)) (by omega) (by omega),FJ (by omega),aB]
     rw [gU _ _ (by simp;omega),aB]
     rw [show ((a.length:Nat):Int)+ (((⟨[c]⟩:bR).cB.length:Nat):Int)= ((a.length+1:Nat):Int) by simp,dW (x:=((a.length+1:Nat):Int)) (by omega) (by omega),FK (by omega),aB]
     refine⟨_,rfl,⟨ws++[a],?_,?_,?_,?_,?_⟩,?_⟩
     ·simp only;rw [dW (by omega) (by omega)];simp
     ·simp only
      rw [h2,hr,CI ha];simp
     ·simp only
      rw [hr] at h3 ⊢
      simp [List.count_eq_zero_of_not_mem ha] at h3 ⊢;omega
     ·simp;omega
     ·simp only [cK]
      rw [List.set_append_right _ _ (by simp)]
      simp only [gp,Nat.sub_self]
      obtain⟨d,hd'⟩: ∃d,s.cB.count c+1 - ws.length=d+1:=⟨s.cB.count c - ws.length,by omega⟩
      rw [hd',List.replicate_succ,List.set_cons_zero,show s.cB.count c+1 - (ws++[a]).length=d by simp;omega]
      simp [hr]
     ·simp only;rw [dW (by omega) (by omega)];omega
   ·have hd:decide (((ws.length:Nat):Int)< ((s.cB.count c+1:Nat):Int) - 1)=false:=by rw [decide_eq_false_iff_not];omega
    simp only [hd,aY]
    refine⟨_,rfl,ws,rfl,?_,by omega,?_⟩
    ·have h0:r.cB.count c=0:=by omega
     rw [h2,zd (List.count_eq_zero.1 h0)]
    ·rw [show s.cB.count c+1 - ws.length=1 by omega];rfl)
  N (s,List.replicate (s.cB.count c+1) ⟨[]⟩,0) ⟨[],rfl,rfl,by simp,bI _,by simp⟩ (by simp only;omega)
 obtain⟨o,ho,hgo⟩:=key
 rw [ho,aB]
 cases o with
 | rt r=>exact r.elim
 | go st=>
  obtain⟨r,arr,i⟩:=st
  obtain⟨ws,h1,h2,h3,h4⟩:=hgo
  simp only at h1 h2 h3 h4
  subst h1 h4
  simp only [Fo.cs]
  rw [gU _ _ (by simp),aB,dW (by omega) (by omega)]
  rw [show ((ws.length:Nat):Int)+1= ((ws.length+1:Nat):Int) by omega,p8 _ _ (by simp),aB,aB]
  unfold ra
  rw [h2]
  rw [cK,List.set_append_right _ _ (by simp),o7 (by simp)]
  simp
def lx (s:bR):Bool:=decide (s.cB.length<=200)&&(ra s 47).all isWord
theorem tL {c:UInt8}: ∀{l x:List UInt8},x∈cutAt c l->x.length<=l.length
 | [],x,h=>by simp [cutAt] at h;subst h;simp
 | b::l,x,h=>by
  unfold cutAt at h
  split at h
  ·rcases fG.1 h with h | h
   ·subst h;simp
   ·have:=tL h;simp;omega
  ·split at h
   ·rename_i t e
    rcases fG.1 h with h | h
    ·subst h;have:=tL (c:=c) (l:=l) (by rw [e];exact List.mem_cons_self);simp;omega
    ·have:=tL (c:=c) (l:=l) (by rw [e];exact kc _ h);simp;omega
   ·simp at h;subst h;simp
theorem As (c:UInt8): ∀(l:List UInt8),(cutAt c l).length<=l.length+1
 | []=>by simp [cutAt]
 | b::l=>by
  have:=As c l
  unfold cutAt
  split
  ·simp;omega
  ·split
   ·rename_i e;rw [e] at this;simp at this ⊢;omega
   ·simp
theorem FL {s x:bR} {c:UInt8} (h:x∈ra s c):x.cB.length<=s.cB.length:=by
 obtain⟨y,hy,rfl⟩:=cR.1 h
 exact tL hy
theorem FM (s:bR) (c:UInt8): (ra s c).length<=s.cB.length+1:=by unfold ra;rw [gp];exact As c _
theorem mO {s:bR} (h:s.cB.length<=1048576) (hN:4194304<=N):gW N s=some (lx s):=by
 unfold gW lx
 by_cases hl:s.cB.length<=200
 ·rw [cD (by omega),aT,Hz 47 h hN,aB]
  have e:=m8 (l:=ra s 47) (φ:=gz N) (fun x=> !isWord x) (by have:=FM s 47;omega) (fun x hx=>by
   unfold gz
   rw [kR (by have:=FL hx;omega)];rfl)
  have e2:gx N (ra s 47) (gz N)=nu (ra s 47) (gz N):=rfl
  rw [e2,e,aB,aB,cD hl,Bool.true_and]
  congr 1
  rw [fH]
  simp
 ·rw [bS (by omega),aY,aB,bS hl,Bool.false_and]
end
end Go.Gk
namespace Go.Gk
open Go Classical
section
variable {N:Nat}
theorem HA {a b:aA} (h:bT a=bT b):a=b:=by cases a;cases b;unfold bT at h;simp at h;obtain⟨h1,h2,h3⟩:=h;subst h1;subst h2;subst h3;rfl
theorem we: ∀{s t:List aA},s.map bT=t.map bT->s=t
 | [],[],_=>rfl
 | [],_::_,h=>by cases h
 | _::_,[],h=>by cases h
 | a::s,b::t,h=>by
  rw [dV,dV] at h
  injection h with h1 h2
  rw [HA h1,we h2]
theorem HB {s t:List aA} (hs:eJ (s.map bT)) (ht:eJ (t.map bT)) (h: ∀x y,vZ (s.map bT) x y=vZ (t.map bT) x y):s=t:=we (yU hs ht h)
theorem rD.unique {l:List aJ} {s t:List aA} (hs:rD l s) (ht:rD l t):s=t:=HB hs.can ht.can fun x y=>by rw [hs.cover,ht.cover]
theorem rD.HC {l:List aJ} {s:List aA} (h:rD l s):s.length<=2*l.length/\(∀b∈s,b.Xs.length<=2*l.length)/\(aR s).length<=2*l.length* (2*l.length):=by
 have h1:s.length<=2*l.length:=by have:=h.lim.len h.can;rwa [gp,j6] at this
 have h2: ∀b∈s,b.Xs.length<=2*l.length:=fun b hb=>by
  have:=h.lim.row h.can (b:=bT b) (cR.2 ⟨b,hb,rfl⟩)
  rwa [l6] at this
 exact⟨h1,h2,yY h1 h2⟩
theorem tM {n:Int} (h:oS n=true): -1000000<=n/\n<=1000000:=by
 unfold oS iw at h
 rw [cC,cE,cE] at h;omega
theorem ly {r:aJ} (h:eT r=true): (-1000000<=r.X0/\r.X0<=1000000)/\(-1000000<=r.Y0/\r.Y0<=1000000)/\(-1000000<=r.X1/\r.X1<=1000000)/\(-1000000<=r.Y1/\r.Y1<=1000000):=by
 unfold eT at h
 simp only [cC] at h
 exact⟨tM h.1,tM h.2.1,tM h.2.2.1,tM h.2.2.2⟩
theorem ze {r:aJ} (h: (-1000000<=r.X0/\r.X0<=1000000)/\(-1000000<=r.Y0/\r.Y0<=1000000)/\(-1000000<=r.X1/\r.X1<=1000000)/\(-1000000<=r.Y1/\r.Y1<=1000000)):eT r=true:=by
 unfold eT oS iw
 simp only [cC,cE]
 omega
theorem HD {r:aJ} (h:eT r=true) (hx:r.X0<r.X1) (hy:r.Y0<r.Y1):C5 r:=by
 have:=ly h
 refine⟨hx,hy,?_,?_,?_,?_⟩ <;> unfold small <;> omega
def oh (r:aJ):Option Int:=if eT r=true then (if r.X1<=r.X0\/r.Y1<=r.Y0 then some 13 else none) else some 1
def l8 (l:List aJ):Int:=if 2000<l.length then 2 else (l.findSome? oh).getD 0
theorem zT {l:List aJ} (hl:l.length<=4611686018427387904):jU N l=some (l8 l):=by
 unfold jU l8
 by_cases h:2000<l.length
 ·rw [cD (by omega),aT,aC h]
 ·rw [bS (by omega),aY,aD h,yH oh hl (fun k x hx=>by
   rw [eX hx,aB,zc,aB]
   unfold oh
   cases hr:eT x with
   | false=>rfl
   | true=>
    rw [nk,aY,aC rfl]
    by_cases h2:x.X1<=x.X0\/x.Y1<=x.Y0
    ·rw [aC h2,show (decide (x.X1<=x.X0)||decide (x.Y1<=x.Y0))=true by rw [dS,cE,cE];exact h2];rfl
    ·rw [aD h2,show (decide (x.X1<=x.X0)||decide (x.Y1<=x.Y0))=false by rw [<-iM,dS,cE,cE];exact h2];rfl),aB]
  cases l.findSome? oh <;> rfl
theorem wg {r:aJ}:oh r=none↔eT r=true/\r.X0<r.X1/\r.Y0<r.Y1:=by
 unfold oh
 by_cases h:eT r=true
 ·rw [aC h]
  by_cases h2:r.X1<=r.X0\/r.Y1<=r.Y0
  ·rw [aC h2]
   constructor
   ·intro h;cases h
   ·rintro⟨_,h3,h4⟩;omega
  ·rw [aD h2]
   exact⟨fun _=>⟨h,by omega,by omega⟩,fun _=>rfl⟩
 ·rw [aD h]
  constructor
  ·intro h;cases h
  ·rintro⟨h3,_⟩;exact absurd h3 h
theorem CJ {r:aJ} {e:Int} (h:oh r=some e):e≠0:=by
 unfold oh at h
 split at h
 ·split at h
  ·injection h with h;omega
  ·cases h
 ·injection h with h;omega
theorem um {l:List aJ}:l8 l=0↔l.length<=2000/\∀r∈l,eT r=true/\r.X0<r.X1/\r.Y0<r.Y1:=by
 unfold l8
 by_cases h:2000<l.length
 ·rw [aC h];constructor
  ·intro h;omega
  ·intro h;omega
 ·rw [aD h]
  cases hf:l.findSome? oh with
  | none=>
   rw [List.findSome?_eq_none_iff] at hf
   exact⟨fun _=>⟨by omega,fun r hr=>wg.1 (hf r hr)⟩,fun _=>rfl⟩
  | some e=>
   obtain⟨r,hr,he⟩:=List.exists_of_findSome?_eq_some hf
   constructor
   ·intro h0;exact absurd h0 (CJ he)
   ·rintro⟨_,h2⟩
    rw [wg.2 (h2 r hr)] at he;cases he
def LG (l:List aJ):Prop:=∀(k:Nat) a b,l[k]? =some a->l[k+1]? =some b->¬(b.Y0<a.Y0\/(b.Y0=a.Y0/\b.X0<=a.X0))
def Bn (l:List aJ):Prop:=∃s,rD l s/\aR s=l
noncomputable def kN (l:List aJ):Int:=if l8 l≠0 then l8 l else if LG l then (if Bn l then 0 else 3) else 8
theorem HE {l:List aJ} (h:l8 l=0):l.length<=2000/\∀r∈l,C5 r:=⟨(um.1 h).1,fun r hr=>by have:=(um.1 h).2 r hr;exact HD this.1 this.2.1 this.2.2⟩
theorem DO {l m:List aJ} (hl:l.length<=4611686018427387904):jz N l m=some (decide (l=m)):=by
 have:=Aj (l:=l) (m:=m) hl
 unfold DC at this
 unfold jz
 rw [show (decide (l=m)) = @decide (l=m) (instDecidableEqList l m) from decide_eq_decide.2 Iff.rfl]
 exact this
theorem th {l:List aJ} (hl:l.length<=1073741824) (hN:4398046511104<=N):iv N l=some (kN l):=by
 refine Ok.get ?_
 unfold iv
 refine Ok.eq (zT (by omega)) ?_
 unfold kN
 refine Ok.bif (fun h=>Ok.ret ?_) (fun h=>?_)
 ·rw [aC (by simpa using h)]
 ·have h0:l8 l=0:=by simpa using h
  rw [aD (by simpa using h0)]
  obtain⟨hlen,hok⟩:=HE h0
  refine Ok.bind (Ok.nL (Go:=fun _=>LG l) (Rt:=fun r=>r=8/\¬LG l) (fun s=>∃k:Nat,s= ((k:Nat):Int)/\1<=k/\∀(j:Nat) a b,j+1<k->l[j]? =some a->l[j+1]? =some b->¬(b.Y0<a.Y0\/(b.Y0=a.Y0/\b.X0<=a.X0))) (fun s=>l.length - s.toNat) ?_ ⟨1,rfl,bI _,fun j a b hj=>by omega⟩ (by simp;omega)) ?_
  ·rintro s ⟨k,rfl,hk,hI⟩
   refine Ok.bif (fun h=>?_) (fun h=>Ok.br fun j a b ha hb=>hI j a b ?_ ha hb)
   ·have hk2:k<l.length:=by have:=of_decide_eq_true h;omega
    rw [lL hk (by omega)]
    refine Ok.idx (by omega) (Ok.idx hk2 (Ok.bif (fun hb=>Ok.rt ⟨rfl,fun hu=>?_⟩) (fun hb=>Ok.nx ⟨⟨k+1,by rw [g8 (by omega)],by omega,fun j a b hj ha hb'=>?_⟩,by rw [g8 (by omega)];simp only [cK];omega⟩)))
    ·refine hu (k - 1) l[k - 1] l[k] (aK _) (by rw [show k - 1+1=k by omega];exact aK _) ?_
     rw [dS,cC,cE,cE,beq_iff_eq] at hb;exact hb
    ·by_cases e:j+1<k
     ·exact hI j a b e ha hb'
     ·have:j+1=k:=by omega
      subst this
      rw [aK (by omega)] at ha hb'
      injection ha with ha;injection hb' with hb'
      subst ha;subst hb'
      rw [<-iM,dS,cC,cE,cE,beq_iff_eq] at hb;exact hb
   ·have:=of_decide_eq_false h
    have:=(aZ.1 hb).1;omega
  ·rintro o ho
   refine Ok.cs ho (fun s hu=>?_) (fun r hr=>Ok.ret (by rw [hr.1,aD hr.2]))
   rw [aC hu]
   refine Ok.bind (q8 (N:=N) (by omega) hok (by omega)) ?_
   intro s hs
   obtain⟨z1,z2,z3⟩:=hs.HC
   have z4:2*l.length* (2*l.length)<=4000*4000:=Nat.mul_le_mul (by omega) (by omega)
   refine Ok.eq (yZ (qt hs.can) (by omega) (fun b hb=>by have:=z2 b hb;omega) (by omega)) (Ok.eq (DO (by omega)) ?_)
   have hiff:Bn l↔aR s=l:=⟨fun⟨t,h1,h2⟩=>by rw [hs.unique h1];exact h2,fun h=>⟨s,hs,h⟩⟩
   refine Ok.bif (fun h=>Ok.ret ?_) (fun h=>Ok.ret ?_)
   ·have h: ¬aR s=l:=by simpa using h
    rw [aD (fun h'=>h (hiff.1 h'))]
   ·have h:aR s=l:=by simpa using h
    rw [aC (hiff.2 h)]
theorem CK {l:List aJ}:kN l=0↔l8 l=0/\LG l/\Bn l:=by
 unfold kN
 by_cases h:l8 l=0
 ·rw [aD (by simpa using h)]
  by_cases h2:LG l
  ·rw [aC h2]
   by_cases h3:Bn l
   ·rw [aC h3];exact⟨fun _=>⟨h,h2,h3⟩,fun _=>rfl⟩
   ·rw [aD h3];constructor
    ·intro h;omega
    ·rintro⟨_,_,h4⟩;exact absurd h4 h3
  ·rw [aD h2];constructor
   ·intro h;omega
   ·rintro⟨_,h4,_⟩;exact absurd h4 h2
 ·rw [aC h]
  constructor
  ·intro h2;exact absurd h2 h
  ·rintro⟨h2,_⟩;exact absurd h2 h
theorem uX (n lo hi:Int):gu N n lo hi=some (iw n lo hi):=rfl
theorem FN {b:cN} (hN:16<=N):jM N b=some (ny b):=by
 have:=qu (N:=N - 16) (b:=b)
 rwa [show N - 16+16=N by omega] at this
def px (n:Nat) (b:cN):Option Int:=if (ny b).2≠0 then some (ny b).2 else if iw b.dD 0 (((n:Nat):Int) - 1)=true/\iw b.To b.dD (((n:Nat):Int) - 1)=true then none else some 1
def mP (a:kr):Int:=if 500<a.bL.length then 2 else (a.bL.findSome? (px a.aO.length)).getD 0
theorem zU {a:kr} (h1:a.aO.length<=4611686018427387904) (h2:a.bL.length<=4611686018427387904) (hN:16<=N):jA N a=some (mP a):=by
 unfold jA mP
 by_cases h:500<a.bL.length
 ·rw [cD (by omega),aT,aC h]
 ·have hw:IntKind.wrap .i64 (((a.aO.length:Nat):Int) - 1)= ((a.aO.length:Nat):Int) - 1:=dW (by omega) (by omega)
  rw [bS (by omega),aY,aD h,yH (px a.aO.length) h2 (fun k x hx=>by
   rw [eX hx,aB,FN hN,aB]
   unfold px
   by_cases h0: (ny x).2=0
   ·rw [aD (by simpa using h0),h0,show ((0:Int) != 0)=false by rfl,aY,hw,uX,aB,uX,aB]
    cases h3:iw x.dD 0 (((a.aO.length:Nat):Int) - 1) <;> cases h4:iw x.To x.dD (((a.aO.length:Nat):Int) - 1) <;> rfl
   ·rw [aC h0,show ((ny x).2 != 0)=true by simpa using h0];rfl),aB]
  cases a.bL.findSome? (px a.aO.length) <;> rfl
theorem CL {b:cN} (h: (ny b).2=0):te b=true/\eT (x5 b)=true:=by
 unfold ny at h
 split at h
 ·rename_i h';rwa [cC] at h'
 ·cases h
theorem pO {a:kr} (h:mP a=0):a.bL.length<=500/\∀b∈a.bL,te b=true/\eT (x5 b)=true/\0<=b.dD/\b.dD<=b.To/\b.To< ((a.aO.length:Nat):Int):=by
 unfold mP at h
 split at h
 ·omega
 ·refine⟨by omega,fun b hb=>?_⟩
  have hn:px a.aO.length b=none:=by
   cases hf:a.bL.findSome? (px a.aO.length) with
   | none=>exact List.findSome?_eq_none_iff.1 hf b hb
   | some e=>
    rw [hf] at h
    obtain⟨c,hc,he⟩:=List.exists_of_findSome?_eq_some hf
    have h:e=0:=h
    subst h
    unfold px at he
    split at he
    ·rename_i h';injection he with he;exact absurd he h'
    ·split at he
     ·cases he
     ·injection he with he;omega
  unfold px at hn
  split at hn
  ·cases hn
  ·rename_i h0
   split at hn
   ·rename_i h1
    have h0: (ny b).2=0:=by simpa using h0
    have:=CL h0
    unfold iw at h1
    simp only [cC,cE] at h1
    exact⟨this.1,this.2,by omega,by omega,by omega⟩
   ·cases hn
theorem LH {b:cN} (h1:te b=true) (h2:eT (x5 b)=true):C5 (x5 b):=by
 have hf:=tf h1
 refine HD h2 ?_ ?_
 ·show b.At.X - b.eR / 2<b.At.X - b.eR / 2+b.eR;omega
 ·show b.At.Y - b.eR / 2<b.At.Y - b.eR / 2+b.eR;omega
def jG (p q:aX):Int:=if Lib.compareBytes p.Part.cB q.Part.cB≠0 then Lib.compareBytes p.Part.cB q.Part.cB else Lib.compareBytes p.aX.cB q.aX.cB
theorem rE (p q:aX):dB N p q=some (jG p q):=by
 unfold dB jG
 show (bif (Lib.compareBytes p.Part.cB q.Part.cB != 0) then _ else _)=_
 by_cases h:Lib.compareBytes p.Part.cB q.Part.cB=0
 ·rw [h,aD (by simp)];rfl
 ·rw [aC h,show (Lib.compareBytes p.Part.cB q.Part.cB != 0)=true by simpa using h];rfl
def jR (l:eQ):aX:=⟨l.Part,l.aX⟩
theorem qw (l:eQ):iO N l=some (jR l):=rfl
def mQ (a:kr) (k:Nat):Option Int:=(a.bM[k]?).bind fun x=>
 if (lx x.Part&&isWord x.aX)=true then
  if (iw x.eU 0 (((a.aO.length:Nat):Int) - 1)&&uk x.At)=true then
   if 0<k/\(∃y,a.bM[k - 1]? =some y/\jG (jR x) (jR y)<=0) then some 8 else none
  else some 1
 else some 5
noncomputable def mR (a:kr):Int:=if 1000<a.bM.length then 2 else (lK a.bM.length (mQ a)).getD 0
end
end Go.Gk
namespace Go.Gk
open Go Classical
section
variable {N:Nat}
def zf (a:kr):Prop:=∀x∈a.bM,x.Part.cB.length<=1048576/\x.aX.cB.length<=1048576
theorem zV {a:kr} (h1:a.aO.length<=1073741824) (h2:a.bM.length<=1073741824) (h3:zf a) (hN:4194304<=N):jB N a=some (mR a):=by
 unfold jB mR
 by_cases h:1000<a.bM.length
 ·rw [cD (by omega),aT,aC h]
 ·have hw:IntKind.wrap .i64 (((a.aO.length:Nat):Int) - 1)= ((a.aO.length:Nat):Int) - 1:=dW (by omega) (by omega)
  rw [bS (by omega),aY,aD h,lh (mQ a) (by omega) (fun k hk _=>by
   have hx:a.bM[k]? =some a.bM[k]:=aK hk
   have hs:=h3 _ (dK hk)
   rw [eX hx,aB,mO hs.1 hN,aB]
   have hle:mQ a k= (if (lx a.bM[k].Part&&isWord a.bM[k].aX)=true then
     if (iw a.bM[k].eU 0 (((a.aO.length:Nat):Int) - 1)&&uk a.bM[k].At)=true then
      if 0<k/\(∃y,a.bM[k - 1]? =some y/\jG (jR a.bM[k]) (jR y)<=0) then some 8 else none
     else some 1
    else some 5):=by unfold mQ;rw [hx];rfl
   rw [hle]
   have e1: ((bif (!lx a.bM[k].Part) then (some true) else ((fM N a.bM[k].aX).bind fun x225=>some (!x225))):Option Bool)=some (!(lx a.bM[k].Part&&isWord a.bM[k].aX)):=by
    rw [kR hs.2,aB]
    cases lx a.bM[k].Part <;> rfl
   have e2: ((gu N a.bM[k].eU 0 (IntKind.wrap .i64 (((a.aO.length:Nat):Int) - 1))).bind fun x318=>bif (!x318) then (some true) else ((iS N a.bM[k].At).bind fun x321=>some (!x321)))=some (!(iw a.bM[k].eU 0 (((a.aO.length:Nat):Int) - 1)&&uk a.bM[k].At)):=by
    rw [hw,uX,aB,xy,aB]
    cases iw a.bM[k].eU 0 (((a.aO.length:Nat):Int) - 1) <;> rfl
   show ((bif (!lx a.bM[k].Part) then (some true) else ((fM N a.bM[k].aX).bind fun x225=>some (!x225))):Option Bool).bind _=_
   rw [e1,aB]
   cases h4: (lx a.bM[k].Part&&isWord a.bM[k].aX) with
   | false=>rfl
   | true=>
    rw [nk,aY,aC rfl]
    show (((gu N a.bM[k].eU 0 (IntKind.wrap .i64 (((a.aO.length:Nat):Int) - 1))).bind fun x318=>bif (!x318) then (some true) else ((iS N a.bM[k].At).bind fun x321=>some (!x321)))).bind _=_
    rw [e2,aB]
    cases h5: (iw a.bM[k].eU 0 (((a.aO.length:Nat):Int) - 1)&&uk a.bM[k].At) with
    | false=>rfl
    | true=>
     rw [nk,aY,aC rfl]
     by_cases h0:0<k
     ·rw [cD (by omega),aT,lL h0 (by omega),gU _ _ (by omega:k - 1<a.bM.length)]
      simp only [qw,aB,rE]
      by_cases h6:jG (jR a.bM[k]) (jR a.bM[k - 1])<=0
      ·rw [cD h6,aC ⟨h0,_,aK (by omega:k - 1<a.bM.length),h6⟩];rfl
      ·rw [bS h6,aD (by
        rintro⟨_,y,hy,h7⟩
        rw [aK (by omega:k - 1<a.bM.length)] at hy;injection hy with hy
        rw [<-hy] at h7;exact h6 h7)];rfl
     ·rw [bS (by omega),aD (fun h=>h0 h.1)];rfl),aB]
  cases lK a.bM.length (mQ a) <;> rfl
def l9 (b:cN) (k:Int):Bool:=decide (b.dD<=k)&&decide (k<=b.To)
theorem zg (b:cN) (k:Int):jV N b k=some (l9 b k):=rfl
def oT (bs:List cN) (k:Int):List aJ:=(bs.filter (fun b=>l9 b k)).map x5
structure ng (bs:List cN):Prop where
 len:bs.length<=500
 ok: ∀b∈bs,te b=true/\eT (x5 b)=true
structure tN (r hs:List aJ) (s:List aA):Prop where
 can:eJ (s.map bT)
 cover: ∀x y,vZ (s.map bT) x y= (zR r x y&& !zR hs x y)
 lim:vd (qp r++qp hs) (l5 r++l5 hs) (s.map bT)
theorem Au {bs:List cN} (h:ng bs) (k:Int): (oT bs k).length<=500:=by
 unfold oT
 rw [gp]
 have:=hU (fun b=>l9 b k) bs
 have:=h.len;omega
theorem CM {bs:List cN} (h:ng bs) (k:Int): ∀r∈oT bs k,C5 r/\eT r=true:=by
 intro r hr
 unfold oT at hr
 obtain⟨b,hb,rfl⟩:=cR.1 hr
 have:=h.ok b (gR.1 hb).1
 exact⟨LH this.1 this.2,this.2⟩
theorem tN.small {r hs:List aJ} {s:List aA} (h:tN r hs s) (h1: ∀x∈r,C5 x) (h2: ∀x∈hs,C5 x): (∀c∈qp r++qp hs,small c)/\∀c∈l5 r++l5 hs,small c:=by
 constructor
 ·intro c hc
  rcases cY.1 hc with h | h
  ·obtain⟨x,hx,rfl | rfl⟩:=qq.1 h
   ·exact(h1 x hx).s1
   ·exact(h1 x hx).s2
  ·obtain⟨x,hx,rfl | rfl⟩:=qq.1 h
   ·exact(h2 x hx).s1
   ·exact(h2 x hx).s2
 ·intro c hc
  rcases cY.1 hc with h | h
  ·obtain⟨x,hx,rfl | rfl⟩:=lv.1 h
   ·exact(h1 x hx).s3
   ·exact(h1 x hx).s4
  ·obtain⟨x,hx,rfl | rfl⟩:=lv.1 h
   ·exact(h2 x hx).s3
   ·exact(h2 x hx).s4
theorem w8 {s:List aA} {X Y:List Int} {A:Nat} (hc:eJ (s.map bT)) (h:vd X Y (s.map bT)) (hX:X.length<=A) (hY:Y.length<=A):s.length<=A/\(∀b∈s,b.Xs.length<=A)/\(aR s).length<=A*A:=by
 have h1:s.length<=A:=by have:=h.len hc;rw [gp] at this;omega
 have h2: ∀b∈s,b.Xs.length<=A:=fun b hb=>by
  have:=h.row hc (b:=bT b) (cR.2 ⟨b,hb,rfl⟩)
  have e: (bT b).xs=b.Xs:=rfl
  rw [e] at this;omega
 exact⟨h1,h2,yY h1 h2⟩
theorem zW {r hs:List aJ} (h1:r.length<=2000) (h2: ∀x∈r,C5 x) (h3:hs.length<=500) (h4: ∀x∈hs,C5 x) (hN:4398046511104<=N) {β:Type} {f:List aA->Option β} {Q:β->Prop} (k: ∀s,tN r hs s->Ok (f s) Q):
  Ok ((gj N r).bind fun x378=>(gj N hs).bind fun x380=>(jW N x378 x380).bind f) Q:=by
 refine Ok.bind (q8 (N:=N) (by omega) h2 (by omega)) (fun s hs1=>?_)
 refine Ok.bind (q8 (N:=N) (by omega) h4 (by omega)) (fun t ht=>?_)
 have hz: ∀c∈l5 r++l5 hs,small c:=by
  intro c hc
  rcases cY.1 hc with h | h
  ·obtain⟨x,hx,rfl | rfl⟩:=lv.1 h
   ·exact(h2 x hx).s3
   ·exact(h2 x hx).s4
  ·obtain⟨x,hx,rfl | rfl⟩:=lv.1 h
   ·exact(h4 x hx).s3
   ·exact(h4 x hx).s4
 refine Ok.bind (FF (X:=qp r++qp hs) (Y:=l5 r++l5 hs) hs1.can ht.can (hs1.lim.mono (fun c h=>List.mem_append_left _ h) (fun c h=>List.mem_append_left _ h)) (ht.lim.mono (fun c h=>List.mem_append_right _ h) (fun c h=>List.mem_append_right _ h))
  (by rw [cU,l6,l6];omega) (by rw [cU,j6,j6];omega) hz hN) (fun u hu=>?_)
 exact k u ⟨hu.can,fun x y=>by rw [hu.cover,hs1.cover,ht.cover],hu.lim⟩
def cX:Nat->List (List (List aA))->List aI
 | _,[]=>[]
 | k,ps::r=>ps.map (fun p=>⟨((k:Nat):Int),p,aR p⟩)++cX (k+1) r
theorem uY (ps:List (List aA)): ∀(r:List (List (List aA))) (k:Nat),cX k (r++[ps])=cX k r++ps.map (fun p=>⟨((k+r.length:Nat):Int),p,aR p⟩)
 | [],k=>by unfold cX;simp [cX]
 | q::r,k=>by
  show _++cX (k+1) (r++[ps])= (_++cX (k+1) r)++_
  rw [uY ps r (k+1),jt]
  congr 3
  simp only [gI]
  rw [show k+ (r.length+1)=k+1+r.length by omega]
theorem zh {s p:List aA} {ps:List (List aA)} {r:Nat->Nat} {X Y:List Int} (h:q9 s r ps) (hc:eJ (s.map bT)) (hl:vd X Y (s.map bT)) (hX: ∀c∈X,small c) (hY: ∀c∈Y,small c) (hp:p∈ps):
  ∃j k:Nat,ps[j]? =some p/\(bW (aR s).length r)[j]? =some k/\rD (mN (aR s) (aR s).length r k) p/\vd X Y (p.map bT):=by
 obtain⟨j,hj⟩:=eA hp
 have hjl:=(aZ.1 hj).1
 rw [h.len] at hjl
 have hh: (bW (aR s).length r)[j]? =some (bW (aR s).length r)[j]:=aK hjl
 have hs:=h.each j _ p hh hj
 refine⟨j,_,hj,hh,hs,hs.lim.mono (fun c hcx=>?_) (fun c hcx=>?_)⟩
 ·obtain⟨x,hx,hxc⟩:=qq.1 hcx
  obtain⟨i,_,_,hi⟩:=nK.1 hx
  have:=y4 hc hl hX hY x (eN hi)
  rcases hxc with rfl | rfl
  ·exact this.2.1.1
  ·exact this.2.1.2
 ·obtain⟨x,hx,hxc⟩:=lv.1 hcx
  obtain⟨i,_,_,hi⟩:=nK.1 hx
  have:=y4 hc hl hX hY x (eN hi)
  rcases hxc with rfl | rfl
  ·exact this.2.2.1
  ·exact this.2.2.2
structure w9 (cs:List (List aJ)) (bs:List cN) (k:Nat) (mX:List (List aA)) (gv:List (List (List aA))):Prop where
 len:mX.length=k
 FO:gv.length=k
 dr: ∀(i:Nat) r s,i<k->cs[i]? =some r->mX[i]? =some s->tN r (oT bs ((i:Nat):Int)) s
 pt: ∀(i:Nat) s ps,i<k->mX[i]? =some s->gv[i]? =some ps->∃u,q9 s u ps
 BJ: (cX 0 gv).length<=k*25000000
theorem q9.BJ {s:List aA} {u:Nat->Nat} {ps:List (List aA)} (h:q9 s u ps):ps.length<=(aR s).length:=by
 rw [h.len];exact nc _ _
theorem DQ {cs:List (List aJ)} {bs:List cN} (hcs:cs.length<=16) (hc: ∀r∈cs,r.length<=2000/\∀x∈r,C5 x) (hb:ng bs) (hN:4398046511104<=N):
  Ok (i7 N cs bs [] []) (fun x=>∃gv,w9 cs bs cs.length x.2.1 gv/\x.2.2=cX 0 gv/\(x.1=true↔(∀s∈x.2.1,(aR s).length<=2000)/\x.2.2.length<=2000)):=by
 unfold i7
 refine Ok.bind (P:=fun(st:List (List aA)×List aI×Bool)=>∃gv,w9 cs bs cs.length st.1 gv/\st.2.1=cX 0 gv/\(st.2.2=true↔∀s∈st.1,(aR s).length<=2000)) (Ok.jI (fun(k:Nat) (st:List (List aA)×List aI×Bool)=>∃gv,w9 cs bs k st.1 gv/\st.2.1=cX 0 gv/\(st.2.2=true↔∀s∈st.1,(aR s).length<=2000)) (by omega)
  ⟨[],⟨rfl,rfl,fun i r s hi=>by omega,fun i s ps hi=>by omega,by simp [cX]⟩,rfl,by simp⟩ (fun k st hk hI=>?_)) ?_
 ·obtain⟨mX,pcs,okk⟩:=st
  obtain⟨gv,D,e1,e2⟩:=hI
  dsimp only at D e1 e2 ⊢
  subst e1
  have hkx:cs[k]? =some cs[k]:=aK hk
  obtain⟨hr1,hr2⟩:=hc _ (dK hk)
  refine Ok.ix hkx ?_
  refine Ok.bind (P:=fun t=>t=oT bs ((k:Nat):Int)) (Ok.mono (Ok.jI (fun j t=>t=oT (bs.take j) ((k:Nat):Int)) (by have:=hb.len;omega) rfl (fun j t hj e=>?_)) (fun t e=>by rw [e,dJ])) (fun t e=>?_)
  ·subst e
   refine Ok.idx hj (Ok.eq (zg _ _) ?_)
   have hts:bs.take (j+1)=bs.take j++[bs[j]]:=dU hj
   have hgb:=hb.ok _ (dK hj)
   have hl: (oT (bs.take j) ((k:Nat):Int)).length<=500:=by
    unfold oT
    rw [gp]
    have:=hU (fun b=>l9 b ((k:Nat):Int)) (bs.take j)
    rw [cV] at this
    have:=hb.len;omega
   cases ht:l9 bs[j] ((k:Nat):Int) with
   | false=>
    rw [aY]
    refine Ok.eq rfl (Ok.ret ?_)
    unfold oT
    rw [hts,iL];simp [ht]
   | true=>
    rw [aT]
    refine Ok.eq (x:=oT (bs.take j) ((k:Nat):Int)++[x5 bs[j]]) (by rw [mq hgb.1,aB,gL (by simp;omega),aB]) (Ok.ret ?_)
    unfold oT
    rw [hts,iL,fD];simp [ht]
  ·subst e
   have hho:=CM hb ((k:Nat):Int)
   have hhl:=Au hb ((k:Nat):Int)
   refine zW hr1 hr2 hhl (fun x hx=>(hho x hx).1) hN (fun s hs=>?_)
   obtain⟨sx,sy⟩:=hs.small hr2 (fun x hx=>(hho x hx).1)
   obtain⟨z1,z2,z3⟩:=w8 (A:=5000) hs.can hs.lim (by rw [cU,l6,l6];omega) (by rw [cU,j6,j6];omega)
   have hmany:=IW (N:=N) (s:=s) (by omega) (fun b hb=>by have:=z2 b hb;omega) (by omega)
   refine Ok.eq (x:=(okk&&decide ((aR s).length<=2000),s)) ?_ ?_
   ·cases okk with
    | false=>rfl
    | true=>
     rw [aT,hmany,aB,Bool.true_and]
     rw [show decide ((((aR s).length:Nat):Int)<=2000)=decide ((aR s).length<=2000) from decide_eq_decide.2 (by omega)]
   dsimp only
   refine Ok.app (by rw [D.len];simp;omega) ?_
   refine Ok.bind (DM (N:=N) hs.can hs.lim sx sy (by omega) (fun b hb=>by have:=z2 b hb;omega) (by omega) hN) ?_
   rintro ps ⟨u,hu⟩
   have hfew:=hu.BJ
   have hk16:k*25000000<=16*25000000:=Nat.mul_le_mul_right _ (by omega)
   have hDf:=D.BJ
   refine Ok.bind (P:=fun t=>t=cX 0 gv++ps.map (fun p=>(⟨((k:Nat):Int),p,aR p⟩:aI))) (Ok.mono (Ok.jI (fun j t=>t=cX 0 gv++(ps.take j).map (fun p=>(⟨((k:Nat):Int),p,aR p⟩:aI))) (by omega) (by simp) (fun j t hj e=>?_)) (fun t e=>by rw [e,dJ])) (fun t e=>Ok.ret ?_)
   ·subst e
    have hjx:ps[j]? =some ps[j]:=aK hj
    refine Ok.ix hjx ?_
    obtain⟨_,_,_,_,mf,hpl⟩:=zh hu hs.can hs.lim sx sy (dK hj)
    obtain⟨y1,y2,y3⟩:=w8 (A:=5000) mf.can hpl (by rw [cU,l6,l6];omega) (by rw [cU,j6,j6];omega)
    refine Ok.eq (yZ (qt mf.can) (by omega) (fun b hb=>by have:=y2 b hb;omega) (by omega)) (Ok.app ?_ (Ok.ret ?_))
    ·simp only [cU,gp,cV,List.length_singleton];omega
    ·rw [dU hj,fD,jt];rfl
   ·subst e
    refine⟨gv++[ps],⟨by simp [D.len],by simp [D.FO],fun i r s' hi hr hs'=>?_,fun i s' ps' hi hs' hps'=>?_,?_⟩,?_,?_⟩
    ·dsimp only at hs'
     by_cases hik:i<k
     ·rw [fP (by rw [D.len];exact hik)] at hs'
      exact D.dr i r s' hik hr hs'
     ·have:i=k:=by omega
      subst this
      rw [fF (by rw [D.len];omega),D.len,Nat.sub_self] at hs'
      simp at hs';subst hs'
      rw [hkx] at hr;injection hr with hr;subst hr
      exact hs
    ·dsimp only at hs'
     by_cases hik:i<k
     ·rw [fP (by rw [D.len];exact hik)] at hs'
      rw [fP (by rw [D.FO];exact hik)] at hps'
      exact D.pt i s' ps' hik hs' hps'
     ·have:i=k:=by omega
      subst this
      rw [fF (by rw [D.len];omega),D.len,Nat.sub_self] at hs'
      rw [fF (by rw [D.FO];omega),D.FO,Nat.sub_self] at hps'
      simp at hs' hps';subst hs';subst hps'
      exact⟨u,hu⟩
    ·rw [uY,cU,gp];omega
    ·dsimp only
     rw [uY,D.FO,fQ]
    ·dsimp only
     rw [cC,e2,cE]
     constructor
     ·rintro⟨h1,h2⟩ s' hs'
      rcases cY.1 hs' with h | h
      ·exact h1 s' h
      ·simp at h;subst h;exact h2
     ·intro h
      exact⟨fun s' hs'=>h s' (List.mem_append_left _ hs'),h s (by simp)⟩
 ·rintro⟨mX,pcs,okk⟩ ⟨gv,D,e1,e2⟩
  dsimp only at D e1 e2 ⊢
  subst e1
  refine Ok.bind (P:=fun b=>b=true↔(∀s∈mX,(aR s).length<=2000)/\(cX 0 gv).length<=2000) (Ok.bif (fun h=>Ok.ret ?_) (fun h=>Ok.ret ?_)) (fun b hb=>Ok.ret ⟨gv,D,rfl,hb⟩)
  ·rw [cE]
   constructor
   ·intro h';exact⟨e2.1 h,by omega⟩
   ·rintro⟨_,h'⟩;omega
  ·constructor
   ·intro h';cases h'
   ·rintro⟨h',_⟩;rw [e2.2 h'] at h;cases h
end
end Go.Gk
namespace Go.Gk
open Go Classical
section
variable {N:Nat}
section
variable {α:Type}
def ti (P:α->Bool) (l:List α) (n:Nat):List Nat:=(List.range n).filter (fun k=>(l[k]?).any P)
theorem DR {P:α->Bool} {l:List α} {n:Nat} {x:α} (h:l[n]? =some x):ti P l (n+1)=if P x=true then ti P l n++[n] else ti P l n:=by
 unfold ti
 rw [List.range_succ,iL]
 by_cases hp:P x=true
 ·rw [aC hp];simp [h,hp]
 ·rw [aD hp];simp [h,hp]
theorem Av (P:α->Bool) (l:List α) (n:Nat): (ti P l n).length<=n:=by
 have:=hU (fun k=>(l[k]?).any P) (List.range n)
 rw [List.length_range] at this;exact this
theorem FP {P:α->Bool} {l:List α} {n k:Nat}:k∈ti P l n↔k<n/\(l[k]?).any P=true:=by unfold ti;simp
theorem wh {β:Type} {l:List α} (P:α->Bool) (g:Nat->β):lK l.length (fun k=>(l[k]?).bind fun x=>if P x=true then some (g k) else none)= (l.findIdx? P).map g:=by
 cases h:l.findIdx? P with
 | none=>
  rw [List.findIdx?_eq_none_iff] at h
  refine jo.2 fun k hk=>?_
  rw [aK hk]
  have:=h _ (dK hk)
  simp [this]
 | some j=>
  obtain⟨hj,hp,hn⟩:=List.findIdx?_eq_some_iff_getElem.1 h
  refine jq.2 ⟨j,hj,by rw [aK hj];simp [hp],fun i hi=>?_⟩
  rw [aK (by omega)]
  have:=hn i hi
  simp [this]
end
def ints (l:List Nat):List Int:=l.map fun i=>((i:Nat):Int)
theorem tj (l m:List Nat):ints (l++m)=ints l++ints m:=fD
theorem lz (l:List Nat): (ints l).length=l.length:=gp _
theorem zi {l:List Nat} {x:Int}:x∈ints l↔∃i∈l,x= ((i:Nat):Int):=by
 unfold ints;rw [cR]
 constructor
 ·rintro⟨i,h1,h2⟩;exact⟨i,h1,h2.symm⟩
 ·rintro⟨i,h1,h2⟩;exact⟨i,h1,h2.symm⟩
def EN (p0 p1:aJ):Bool:=((((decide (p0.X0<p1.X1))&&(decide (p1.X0<p0.X1)))&&((p0.Y1==p1.Y0)||(p1.Y1==p0.Y0)))||(((decide (p0.Y0<p1.Y1))&&(decide (p1.Y0<p0.Y1)))&&((p0.X1==p1.X0)||(p1.X1==p0.X0))))
def mS (b:cN) (p:aI):Bool:=b.jJ&&(l9 b p.eU&&p.nT.any (fun r=>EN r (x5 b)))
def oU (bs:List cN) (pcs:List aI):List (List Int):=bs.map fun b=>ints (ti (mS b) pcs pcs.length)
theorem py {l:List aJ} {φ:aJ->Option Bool} (p:aJ->Bool) (hl:l.length<=4611686018427387904) (h: ∀x∈l,φ x=some (p x)):fN N l φ=some (l.any p):=
 m8 p hl h
theorem HF {bs:List cN} {pcs:List aI} (hb:ng bs) (hp:pcs.length<=1073741824) (hr: ∀p∈pcs,p.nT.length<=1073741824):i9 N bs pcs []=some (oU bs pcs):=by
 refine Ok.get ?_
 have hbl:=hb.len
 unfold i9
 refine Ok.bind (Ok.jI (fun k st=>st=oU (bs.take k) pcs) (by omega) rfl (fun k st hk e=>?_)) (fun st e=>Ok.ret (by rw [e,dJ]))
 subst e
 have hg:=hb.ok _ (dK hk)
 refine Ok.idx hk ?_
 refine Ok.bind (P:=fun t=>t=ints (ti (mS bs[k]) pcs pcs.length)) (Ok.jI (fun j t=>t=ints (ti (mS bs[k]) pcs j)) (by omega) rfl (fun j t hj e=>?_)) (fun t e=>?_)
 ·subst e
  have hjx:pcs[j]? =some pcs[j]:=aK hj
  have hl:=Av (mS bs[k]) pcs j
  refine Ok.ix hjx ?_
  refine Ok.eq (x:=mS bs[k] pcs[j]) ?_ ?_
  ·unfold mS
   cases bs[k].jJ with
   | false=>rfl
   | true=>
    rw [aT,zg,aB,Bool.true_and]
    cases l9 bs[k] pcs[j].eU with
    | false=>rfl
    | true=>
     rw [aT,py (fun r=>EN r (x5 bs[k])) (by have:=hr _ (dK hj);omega) (fun r _=>by
      unfold ji;rw [mq hg.1];rfl),aB,Bool.true_and]
  ·rw [DR hjx]
   cases ht:mS bs[k] pcs[j] with
   | false=>rw [aY,aD (by simp)];exact Ok.eq rfl (Ok.ret rfl)
   | true=>
    rw [aT,aC rfl]
    refine Ok.eq (x:=ints (ti (mS bs[k]) pcs j)++[((j:Nat):Int)]) (by rw [gL (by rw [lz];simp;omega),aB]) (Ok.ret ?_)
    rw [tj];rfl
 ·subst e
  refine Ok.app ?_ (Ok.ret ?_)
  ·unfold oU;simp;omega
  ·unfold oU
   rw [dU hk,fD];rfl
def CN (r:List aJ) (p:ka):Bool:=r.any (fun x=>decide (p.X>=x.X0)&&(decide (p.X<x.X1)&&(decide (p.Y>=x.Y0)&&decide (p.Y<x.Y1))))
theorem wi {r:List aJ} {p:ka} (hl:r.length<=4611686018427387904):jl N r p=some (CN r p):=by
 unfold jl
 rw [py (fun x=>decide (p.X>=x.X0)&&(decide (p.X<x.X1)&&(decide (p.Y>=x.Y0)&&decide (p.Y<x.Y1)))) hl (fun x _=>by
  unfold kl
  cases decide (p.X>=x.X0) <;> cases decide (p.X<x.X1) <;> cases decide (p.Y>=x.Y0) <;> rfl)];rfl
def uZ (l:eQ) (b:cN):Bool:=b.jJ&&(l9 b l.eU&&CN [x5 b] l.At)
def wj (l:eQ) (p:aI):Bool:=(p.eU==l.eU)&&CN p.nT l.At
def Bo (bs:List cN) (pcs:List aI) (l:eQ):Option kb:=match bs.findIdx? (uZ l) with
 | some k=>some ⟨true,((k:Nat):Int)⟩
 | none=>(pcs.findIdx? (wj l)).map fun k=>⟨false,((k:Nat):Int)⟩
theorem HG {bs:List cN} {pcs:List aI} (hb:ng bs) (hp:pcs.length<=1073741824) (hr: ∀p∈pcs,p.nT.length<=1073741824) (l:eQ):
  jc N bs pcs l=some ((Bo bs pcs l).getD ⟨false,0⟩,(Bo bs pcs l).isSome):=by
 have hbl:=hb.len
 unfold jc
 rw [lh (fun k=>(bs[k]?).bind fun x=>if uZ l x=true then some ((⟨true,((k:Nat):Int)⟩:kb),true) else none) (by omega) (fun k hk _=>by
  have hkx:bs[k]? =some bs[k]:=aK hk
  have hg:=hb.ok _ (dK hk)
  rw [eX hkx,aB,hkx,mq hg.1,aB,aB,wi (by simp)]
  unfold uZ
  cases bs[k].jJ with
  | false=>rfl
  | true=>
   show (((bif l9 bs[k] l.eU then _ else _:Option Bool)).bind _)=_
   cases l9 bs[k] l.eU with
   | false=>rfl
   | true=>
    cases CN [x5 bs[k]] l.At <;> rfl),aB,wh (uZ l) (fun k=>((⟨true,((k:Nat):Int)⟩:kb),true))]
 unfold Bo
 cases bs.findIdx? (uZ l) with
 | some k=>rfl
 | none=>
  show ((qE pcs.length _ ()).bind _)=_
  rw [lh (fun k=>(pcs[k]?).bind fun x=>if wj l x=true then some ((⟨false,((k:Nat):Int)⟩:kb),true) else none) (by omega) (fun k hk _=>by
   have hkx:pcs[k]? =some pcs[k]:=aK hk
   rw [eX hkx,aB,hkx,aB,wi (by have:=hr _ (dK hk);omega)]
   unfold wj
   cases pcs[k].eU==l.eU with
   | false=>rfl
   | true=>cases CN pcs[k].nT l.At <;> rfl),aB,wh (wj l) (fun k=>((⟨false,((k:Nat):Int)⟩:kb),true))]
  cases pcs.findIdx? (wj l) <;> rfl
def Lk (n:Nat) (tch:List (List Int)) (i j:Nat):Prop:=∃(k:Nat) (l:List Int),tch[k]? =some l/\((i:Nat):Int)∈l/\j=n+k
structure Ke (n m:Nat) (tch:List (List Int)) (r:Nat->Nat):Prop where
 le: ∀i,i<n+m->r i<=i
 rr: ∀i,i<n+m->r (r i)=r i
 co: ∀i j,Lk n tch i j->r i=r j
 fi: ∀S:Nat->Prop,(∀i j,Lk n tch i j->(S i↔S j))->∀i j,i<n+m->j<n+m->r i=r j->S i->S j
theorem FQ {n m:Nat} {tch:List (List Int)} (hm:tch.length=m) (ht: ∀l∈tch,l.length<=1073741824/\∀x∈l,∃i:Nat,i<n/\x= ((i:Nat):Int)) (hn:n<=1073741824) (hm2:m<=1073741824) {up:List Int} (hu:UF (n+m) up (fun i=>i)) (hN:4398046511104<=N):
  Ok (jI tch.length (fun(k34:Nat) (s35: (List Int))=>((idx tch (k34:Int)).bind fun x89=>(jI x89.length (fun(k92:Nat) (s93: (List Int))=>((idx x89 (k92:Int)).bind fun x107=>(fZ N s93 x107 (IntKind.wrap .i64 ((n:Int)+ (k34:Int)))).bind fun x109=>some x109:Option ((List Int)))) s35).bind fun s93=>some s93:Option ((List Int)))) up)
   (fun up'=>∃r,UF (n+m) up' r/\Ke n m tch r):=by
 have base:Ok (jI tch.length (fun(k34:Nat) (s35: (List Int))=>((idx tch (k34:Int)).bind fun x89=>(jI x89.length (fun(k92:Nat) (s93: (List Int))=>((idx x89 (k92:Int)).bind fun x107=>(fZ N s93 x107 (IntKind.wrap .i64 ((n:Int)+ (k34:Int)))).bind fun x109=>some x109:Option ((List Int)))) s35).bind fun s93=>some s93:Option ((List Int)))) up)
   (fun up'=>∃r E,UF (n+m) up' r/\oQ r E/\y7 (n+m) r E/\(∀p∈E,Lk n tch p.1 p.2)/\∀(k:Nat) l (i:Nat),k<tch.length->tch[k]? =some l->((i:Nat):Int)∈l->(i,n+k)∈E):=by
  refine Ok.jI (fun q up'=>∃r E,UF (n+m) up' r/\oQ r E/\y7 (n+m) r E/\(∀p∈E,Lk n tch p.1 p.2)/\∀(k:Nat) l (i:Nat),k<q->tch[k]? =some l->((i:Nat):Int)∈l->(i,n+k)∈E) (by omega)
   ⟨_,_,hu,oQ.id,y7.id _,fun p hp=>(by cases hp),fun k l i hk=>by omega⟩ (fun q up' hq hI=>?_)
  obtain⟨r,E,h1,h2,h3,h4,h5⟩:=hI
  have hqx:tch[q]? =some tch[q]:=aK hq
  obtain⟨hl1,hl2⟩:=ht _ (dK hq)
  refine Ok.ix hqx ?_
  rw [wrap_add (by omega)]
  refine Ok.bind (Ok.jI (fun t up'=>∃r E,UF (n+m) up' r/\oQ r E/\y7 (n+m) r E/\(∀p∈E,Lk n tch p.1 p.2)/\(∀(k:Nat) l (i:Nat),k<q->tch[k]? =some l->((i:Nat):Int)∈l->(i,n+k)∈E)/\∀i:Nat,((i:Nat):Int)∈tch[q].take t->(i,n+q)∈E) (by omega)
   ⟨r,E,h1,h2,h3,h4,h5,fun i hi=>by simp at hi⟩ (fun t up' htl hI=>?_)) (fun up' hI=>Ok.ret ?_)
  ·obtain⟨r,E,h1,h2,h3,h4,h5,h6⟩:=hI
   refine Ok.idx htl ?_
   obtain⟨i,hi,e⟩:=hl2 _ (dK htl)
   rw [e]
   obtain⟨u2,a1,a2⟩:=IX (N:=N) h1 (i:=i) (k:=n+q) (by omega) (by omega) (by omega)
   refine Ok.eq a1 (Ok.ret ⟨_,_,a2,h2.join i (n+q) (h1.rr i (by omega)),h3.join (by omega) (by omega),fun p hp=>?_,fun k l j hk hl hj=>List.mem_append_left _ (h5 k l j hk hl hj),fun j hj=>?_⟩)
   ·rcases cY.1 hp with hp | hp
    ·exact h4 p hp
    ·simp at hp;subst hp
     exact⟨q,tch[q],hqx,by rw [<-e];exact dK htl,rfl⟩
   ·rw [dU htl,cY] at hj
    rcases hj with hj | hj
    ·exact List.mem_append_left _ (h6 j hj)
    ·rw [List.mem_singleton,e] at hj
     have:j=i:=by omega
     subst this;simp
  ·obtain⟨r,E,h1,h2,h3,h4,h5,h6⟩:=hI
   refine⟨r,E,h1,h2,h3,h4,fun k l i hk hl hi=>?_⟩
   by_cases hkq:k<q
   ·exact h5 k l i hkq hl hi
   ·have:k=q:=by omega
    subst this
    rw [hqx] at hl;injection hl with hl;subst hl
    exact h6 i (by rw [dJ];exact hi)
 obtain⟨up',e,r,E,h1,h2,h3,h4,h5⟩:=base
 have hE: ∀i j,Lk n tch i j->(i,j)∈E:=fun i j ⟨k,l,hl,hi,hj⟩=>by
  rw [hj];exact h5 k l i (aZ.1 hl).1 hl hi
 exact⟨up',e,r,h1,h1.le,h1.rr,fun i j h=>h2 (i,j) (hE i j h),fun S hS i j hi hj=>h3 S (fun p hp=>hS p.1 p.2 (h4 p hp)) i j hi hj⟩
def zX (bs:List cN) (j:Nat):Bool:=(bs[j]?).any (fun b=>b.jJ)
def gP (n:Nat) (c:List Nat):List Nat:=c.filter (fun i=>decide (i<n))
def gB (bs:List cN) (n:Nat) (c:List Nat):List Nat:=(c.filter (fun i=> !decide (i<n)&&zX bs (i - n))).map (fun i=>i - n)
def Gh (bs:List cN) (n:Nat) (c:List Nat):Bool:=decide (0< (gP n c).length+ (gB bs n c).length)
def NY (bs:List cN) (n:Nat) (c:List Nat):bJ:=⟨ints (gP n c),ints (gB bs n c),[]⟩
theorem EO (n:Nat) (c:List Nat) (i:Nat):gP n (c++[i])=if i<n then gP n c++[i] else gP n c:=by
 unfold gP;rw [iL];split <;> rename_i h <;> simp [h]
theorem EP (bs:List cN) (n:Nat) (c:List Nat) (i:Nat):gB bs n (c++[i])=if i<n then gB bs n c else if zX bs (i - n)=true then gB bs n c++[i - n] else gB bs n c:=by
 unfold gB;rw [iL,fD]
 split
 ·rename_i h;simp [h]
 ·rename_i h
  split <;> rename_i h2 <;> simp [h,h2]
theorem DS (n:Nat) (c:List Nat): (gP n c).length<=c.length:=hU _ _
theorem DT (bs:List cN) (n:Nat) (c:List Nat): (gB bs n c).length<=c.length:=by unfold gB;rw [gp];exact hU _ _
def live (bs:List cN) (n t:Nat) (r:Nat->Nat) (hs:List Nat):List Nat:=hs.filter (fun h=>Gh bs n (cls t r h))
def o4 (bs:List cN) (n t:Nat) (r:Nat->Nat) (hs:List Nat):List bJ:=(live bs n t r hs).map (fun h=>NY bs n (cls t r h))
theorem FR (bs:List cN) (n t:Nat) (r:Nat->Nat) (hs:List Nat) (h:Nat):live bs n t r (hs++[h])=if Gh bs n (cls t r h)=true then live bs n t r hs++[h] else live bs n t r hs:=by
 unfold live;rw [iL];split <;> rename_i h2 <;> simp [h2]
theorem qx (bs:List cN) (n t:Nat) (r:Nat->Nat) (hs:List Nat): (o4 bs n t r hs).length= (live bs n t r hs).length:=by unfold o4;rw [gp]
def gi (bs:List cN) (n t:Nat) (r:Nat->Nat) (h:Nat):Nat:=(live bs n t r ((bW t r).takeWhile (fun x=>decide (x≠h)))).length
theorem uo {l:List Nat} (hn:l.Nodup) {k h:Nat} (hk:l[k]? =some h):l.takeWhile (fun x=>decide (x≠h))=l.take k:=by
 induction l generalizing k with
 | nil=>simp at hk
 | cons a l ih=>
  cases k with
  | zero=>simp at hk;subst hk;simp
  | succ k=>
   have hk:l[k]? =some h:=by simpa using hk
   have hne:a≠h:=fun e=>(List.nodup_cons.1 hn).1 (by rw [e];exact eN hk)
   rw [List.takeWhile_cons,aC (by simpa using hne),List.take_succ_cons,ih (List.nodup_cons.1 hn).2 hk]
theorem rf (bs:List cN) (n t:Nat) (r:Nat->Nat) (hs:List Nat): (live bs n t r hs).length<=hs.length:=hU _ _
theorem Js {bs:List cN} {n t:Nat} {r:Nat->Nat} {h:Nat} (hh:h∈bW t r) (hne:Gh bs n (cls t r h)=true):gi bs n t r h< (live bs n t r (bW t r)).length/\(live bs n t r (bW t r))[gi bs n t r h]? =some h:=by
 obtain⟨k,hk⟩:=eA hh
 have hkl:=(aZ.1 hk).1
 unfold gi
 rw [uo (mo t r) hk]
 have e:bW t r= (bW t r).take k++h::(bW t r).drop (k+1):=by
  have h1:=(List.take_append_drop k (bW t r)).symm
  rw [qF hkl,(aZ.1 hk).2] at h1;exact h1
 have e2:live bs n t r (bW t r)=live bs n t r ((bW t r).take k)++h::live bs n t r ((bW t r).drop (k+1)):=by
  conv=>lhs;rw [e]
  unfold live
  rw [iL,List.filter_cons,aC hne]
 constructor
 ·rw [e2];simp
 ·rw [e2]
  simp
end
end Go.Gk
namespace Go.Gk
open Go Classical
section
variable {N:Nat}
theorem Aw {l:List Nat} (h:l.Nodup) {i j a:Nat} (hi:l[i]? =some a) (hj:l[j]? =some a):i=j:=
 (List.getElem_inj (h₀:=(aZ.1 hi).1) (h₁:=(aZ.1 hj).1) h).1 (by rw [(aZ.1 hi).2,(aZ.1 hj).2])
theorem tO {n i k:Nat} {r:Nat->Nat}:i∈cls n r k↔i<n/\r i=k:=by unfold cls;simp
theorem FT (n:Nat) (r:Nat->Nat) (k:Nat): (cls n r k).Nodup:=List.Nodup.sublist List.filter_sublist List.nodup_range
structure LI (bs:List cN) (n m:Nat) (r:Nat->Nat) (hs:List Nat) (ofP ofB:List Int):Prop where
 lp:ofP.length=n
 lb:ofB.length=m
 pc: ∀i,i<n->r i∈hs->ofP[i]? =some ((gi bs n (n+m) r (r i):Nat):Int)
 bo: ∀j,j<m->r (n+j)∈hs->ofB[j]? =some (if zX bs j=true then ((gi bs n (n+m) r (r (n+j)):Nat):Int) else -1)
theorem CO {bs:List cN} {n m:Nat} {r:Nat->Nat} (hm:bs.length=m) (hn:n<=1073741824) (hm2:m<=1073741824) {op ob:List Int} (hop:op.length=n) (hob:ob.length=m)
  {body:Nat->List bJ×List Int×List Int->Option (List bJ×List Int×List Int)}
  (hbody:body= (fun(k123:Nat) (s124: (List bJ)×(List Int)×(List Int))=>((idx (oR (n+m) r) (k123:Int)).bind fun x455=>(jI x455.length (fun(k458:Nat) (s459: (List Int)×(List Int)×(List Int)×(List Int))=>((idx x455 (k458:Int)).bind fun x556=>(bif (decide (x556< (n:Int))) then ((idx s459.1 x556).bind fun x580=>(app 8 s459.2.2.1 ([x556]: (List Int))).bind fun x582=>some ((s459.1.set (Int.toNat x556) (s124.1.length:Int)),s459.2.1,x582,s459.2.2.2)) else ((idx bs (IntKind.wrap .i64 (x556 - (n:Int)))).bind fun x584=>(bif x584.jJ then ((idx s459.2.1 (IntKind.wrap .i64 (x556 - (n:Int)))).bind fun x594=>(app 8 s459.2.2.2 ([(IntKind.wrap .i64 (x556 - (n:Int)))]: (List Int))).bind fun x596=>some ((s459.2.1.set (Int.toNat (IntKind.wrap .i64 (x556 - (n:Int)))) (s124.1.length:Int)),x596)) else ((idx s459.2.1 (IntKind.wrap .i64 (x556 - (n:Int)))).bind fun x598=>some ((s459.2.1.set (Int.toNat (IntKind.wrap .i64 (x556 - (n:Int)))) (-1)),s459.2.2.2))).bind fun s592=>some (s459.1,s592.1,s459.2.2.1,s592.2))).bind fun s577=>some (s577.1,s577.2.1,s577.2.2.1,s577.2.2.2):Option ((List Int)×(List Int)×(List Int)×(List Int)))) (s124.2.1,s124.2.2,([]: (List Int)),([]: (List Int)))).bind fun s459=>(bif (decide ((IntKind.wrap .i64 ((s459.2.2.1.length:Int)+ (s459.2.2.2.length:Int)))>0)) then ((app 72 s124.1 [(⟨s459.2.2.1,s459.2.2.2,([]: (List aX))⟩:bJ)]).bind fun x610=>some x610) else (some s124.1)).bind fun s606=>some (s606,s459.1,s459.2.1):Option ((List bJ)×(List Int)×(List Int))))):
  Ok (jI (oR (n+m) r).length body ([],op,ob)) (fun st=>st.1=o4 bs n (n+m) r (bW (n+m) r)/\LI bs n m r (bW (n+m) r) st.2.1 st.2.2):=by
 subst hbody
 have hsl: (oR (n+m) r).length= (bW (n+m) r).length:=by unfold oR;simp
 have hhl:=nc (n+m) r
 refine Ok.mono (Ok.jI (fun(k:Nat) (st:List bJ×List Int×List Int)=>st.1=o4 bs n (n+m) r ((bW (n+m) r).take k)/\LI bs n m r ((bW (n+m) r).take k) st.2.1 st.2.2) (by omega) ⟨rfl,hop,hob,fun i hi h=>by simp at h,fun j hj h=>by simp at h⟩ (fun k st hk hI=>?_)) (fun st h=>by rw [hsl,dJ] at h;exact h)
 obtain⟨gs,ofP,ofB⟩:=st
 obtain⟨e1,I⟩:=hI
 dsimp only at e1 I ⊢
 subst e1
 rw [hsl] at hk
 have hkx: (bW (n+m) r)[k]? =some (bW (n+m) r)[k]:=aK hk
 have hts: (bW (n+m) r).take (k+1)= (bW (n+m) r).take k++[(bW (n+m) r)[k]]:=dU hk
 have hgk:gi bs n (n+m) r (bW (n+m) r)[k]= (o4 bs n (n+m) r ((bW (n+m) r).take k)).length:=by
  unfold gi;rw [uo (mo _ _) hkx,qx]
 generalize hh: (bW (n+m) r)[k]=h at *
 have hsx: (oR (n+m) r)[k]? =some (ints (cls (n+m) r h)):=by unfold oR;rw [gH,hkx];rfl
 refine Ok.ix hsx ?_
 have hcl:=x4 (n+m) r h
 rw [lz]
 have hgl: (o4 bs n (n+m) r ((bW (n+m) r).take k)).length<=n+m:=by
  rw [qx]
  have:=rf bs n (n+m) r ((bW (n+m) r).take k)
  rw [cV] at this;omega
 have hold: ∀i∈cls (n+m) r h,∀i',r i'∈(bW (n+m) r).take k->i≠i':=fun i hi i' hi' e=>by
  subst e
  rw [(tO.1 hi).2] at hi'
  obtain⟨j,hj⟩:=eA hi'
  have hjk:j<k:=by have:=(aZ.1 hj).1;rw [cV] at this;omega
  rw [List.getElem?_take_of_lt hjk] at hj
  have:=Aw (mo (n+m) r) hj hkx
  omega
 refine Ok.bind (P:=fun s'=>LI bs n m r ((bW (n+m) r).take (k+1)) s'.1 s'.2.1/\s'.2.2.1=ints (gP n (cls (n+m) r h))/\s'.2.2.2=ints (gB bs n (cls (n+m) r h))) (Ok.mono (Ok.jI
  (fun(t:Nat) (s':List Int×List Int×List Int×List Int)=>LI bs n m r ((bW (n+m) r).take k) s'.1 s'.2.1/\s'.2.2.1=ints (gP n ((cls (n+m) r h).take t))/\s'.2.2.2=ints (gB bs n ((cls (n+m) r h).take t))/\
   (∀i∈(cls (n+m) r h).take t,i<n->s'.1[i]? =some ((gi bs n (n+m) r h:Nat):Int))/\∀i∈(cls (n+m) r h).take t,¬i<n->s'.2.1[i - n]? =some (if zX bs (i - n)=true then ((gi bs n (n+m) r h:Nat):Int) else -1)) (by omega)
   ⟨I,rfl,rfl,fun i hi=>by simp at hi,fun i hi=>by simp at hi⟩ (fun t s' ht hI'=>?_)) ?_) ?_
 ·obtain⟨oP,oB,pp,bb⟩:=s'
  obtain⟨J,e2,e3,J1,J2⟩:=hI'
  dsimp only at J e2 e3 J1 J2 ⊢
  subst e2;subst e3
  have htx: (ints (cls (n+m) r h))[t]? =some (((cls (n+m) r h)[t]:Nat):Int):=by unfold ints;rw [gH,aK ht];rfl
  refine Ok.ix htx ?_
  have htt: (cls (n+m) r h).take (t+1)= (cls (n+m) r h).take t++[(cls (n+m) r h)[t]]:=dU ht
  have hcm:=dK ht
  have hdist: ∀i∈(cls (n+m) r h).take t,i≠(cls (n+m) r h)[t]:=fun i hi e=>by
   obtain⟨j,hj⟩:=eA hi
   have hjt:j<t:=by have:=(aZ.1 hj).1;rw [cV] at this;omega
   rw [List.getElem?_take_of_lt hjt] at hj
   have:=Aw (FT (n+m) r h) hj (by rw [e];exact aK ht)
   omega
  generalize (cls (n+m) r h)[t]=c at *
  obtain⟨hc1,hc2⟩:=tO.1 hcm
  have hgp:=DS n ((cls (n+m) r h).take t)
  have hgb:=DT bs n ((cls (n+m) r h).take t)
  rw [cV] at hgp hgb
  by_cases hcn:c<n
  ·rw [cD (by omega: ((c:Nat):Int)< ((n:Nat):Int)),aT]
   refine Ok.bind (P:=fun x=>x= (oP.set c ((gi bs n (n+m) r h:Nat):Int),oB,ints (gP n ((cls (n+m) r h).take t))++[((c:Nat):Int)],ints (gB bs n ((cls (n+m) r h).take t)))) ?_ ?_
   ·refine Ok.idx (by rw [J.lp];exact hcn) (Ok.app (by rw [lz];simp;omega) (Ok.ret ?_))
    rw [cK,hgk]
   ·rintro _ rfl
    refine Ok.ret ⟨⟨by simp [J.lp],J.lb,fun i hi hr=>?_,J.bo⟩,?_,?_,fun i hi hin=>?_,fun i hi hin=>?_⟩
    ·dsimp only
     rw [me (by rw [J.lp];exact hcn),aD (fun e=>hold c hcm i hr e.symm)];exact J.pc i hi hr
    ·dsimp only;rw [htt,EO,aC hcn,tj];rfl
    ·dsimp only;rw [htt,EP,aC hcn]
    ·dsimp only
     rw [me (by rw [J.lp];exact hcn)]
     split
     ·rfl
     ·rename_i hne
      rw [htt] at hi
      rcases cY.1 hi with hi | hi
      ·exact J1 i hi hin
      ·exact absurd (by simpa using hi) hne
    ·rw [htt] at hi
     rcases cY.1 hi with hi | hi
     ·exact J2 i hi hin
     ·have:i=c:=by simpa using hi
      subst this;exact absurd hcn hin
  ·rw [bS (by omega: ¬((c:Nat):Int)< ((n:Nat):Int)),aY]
   have hw:IntKind.wrap .i64 (((c:Nat):Int) - ((n:Nat):Int))= ((c - n:Nat):Int):=by rw [dW (by omega) (by omega)];omega
   have hcm2:c - n<bs.length:=by omega
   have hpl:zX bs (c - n)=bs[c - n].jJ:=by unfold zX;rw [aK hcm2];rfl
   rw [hw]
   refine Ok.bind (P:=fun x=>x= (oP,oB.set (c - n) (if zX bs (c - n)=true then ((gi bs n (n+m) r h:Nat):Int) else -1),ints (gP n ((cls (n+m) r h).take t)),ints (gB bs n ((cls (n+m) r h).take t++[c])))) ?_ ?_
   ·refine Ok.idx hcm2 ?_
    rw [EP,aD hcn,hpl]
    cases hp:bs[c - n].jJ with
    | true=>
     rw [aT,aC rfl,aC rfl]
     refine Ok.eq (x:=(oB.set (c - n) ((gi bs n (n+m) r h:Nat):Int),ints (gB bs n ((cls (n+m) r h).take t)++[c - n]))) ?_ (Ok.ret rfl)
     rw [gU _ _ (by rw [J.lb];omega),aB,gL (by rw [lz];simp;omega),aB,cK,hgk,tj];rfl
    | false=>
     rw [aY,aD (by simp),aD (by simp)]
     refine Ok.eq (x:=(oB.set (c - n) (-1),ints (gB bs n ((cls (n+m) r h).take t)))) ?_ (Ok.ret rfl)
     rw [gU _ _ (by rw [J.lb];omega),aB,cK]
   ·rintro _ rfl
    refine Ok.ret ⟨⟨J.lp,by simp [J.lb],J.pc,fun j hj hr=>?_⟩,?_,?_,fun i hi hin=>?_,fun i hi hin=>?_⟩
    ·dsimp only
     rw [me (by rw [J.lb];omega),aD (fun e=>hold c hcm (n+j) hr (by omega))];exact J.bo j hj hr
    ·dsimp only;rw [htt,EO,aD hcn]
    ·dsimp only;rw [htt]
    ·rw [htt] at hi
     rcases cY.1 hi with hi | hi
     ·exact J1 i hi hin
     ·have:i=c:=by simpa using hi
      subst this;exact absurd hin hcn
    ·dsimp only
     rw [me (by rw [J.lb];omega)]
     split
     ·rename_i e;rw [e]
     ·rename_i hne
      rw [htt] at hi
      rcases cY.1 hi with hi | hi
      ·exact J2 i hi hin
      ·exact absurd (by have:i=c:=(by simpa using hi);rw [this]) hne
 ·rintro⟨oP,oB,pp,bb⟩ ⟨J,e2,e3,J1,J2⟩
  dsimp only at J e2 e3 J1 J2 ⊢
  rw [dJ] at e2 e3 J1 J2
  refine⟨⟨J.lp,J.lb,fun i hi hr=>?_,fun j hj hr=>?_⟩,e2,e3⟩
  ·rw [hts] at hr
   rcases cY.1 hr with hr | hr
   ·exact J.pc i hi hr
   ·have hr:r i=h:=by simpa using hr
    rw [hr];exact J1 i (tO.2 ⟨by omega,hr⟩) hi
  ·rw [hts] at hr
   rcases cY.1 hr with hr | hr
   ·exact J.bo j hj hr
   ·have hr:r (n+j)=h:=by simpa using hr
    rw [hr]
    have:=J2 (n+j) (tO.2 ⟨by omega,hr⟩) (by omega)
    rwa [Nat.add_sub_cancel_left] at this
 ·rintro⟨oP,oB,pp,bb⟩ ⟨J,e2,e3⟩
  dsimp only at J e2 e3 ⊢
  subst e2;subst e3
  have hgp:=DS n (cls (n+m) r h)
  have hgb:=DT bs n (cls (n+m) r h)
  rw [lz,lz,wrap_add (by omega)]
  have hgs:o4 bs n (n+m) r ((bW (n+m) r).take (k+1))=if Gh bs n (cls (n+m) r h)=true then o4 bs n (n+m) r ((bW (n+m) r).take k)++[NY bs n (cls (n+m) r h)] else o4 bs n (n+m) r ((bW (n+m) r).take k):=by
   unfold o4
   rw [hts,FR]
   split
   ·rw [fD];rfl
   ·rfl
  refine Ok.bind (P:=fun x=>x=o4 bs n (n+m) r ((bW (n+m) r).take (k+1))) (Ok.bif (fun hb=>?_) (fun hb=>Ok.ret ?_)) (fun x e=>Ok.ret ⟨e,J⟩)
  ·have hne:Gh bs n (cls (n+m) r h)=true:=cD (by have:=of_decide_eq_true hb;omega)
   refine Ok.app (by simp;omega) (Ok.ret ?_)
   rw [hgs,aC hne];rfl
  ·have hne: ¬Gh bs n (cls (n+m) r h)=true:=fun h'=>by
    have h1:=of_decide_eq_true h'
    have h2:=of_decide_eq_false hb
    omega
   rw [hgs,aD hne]
end
end Go.Gk
