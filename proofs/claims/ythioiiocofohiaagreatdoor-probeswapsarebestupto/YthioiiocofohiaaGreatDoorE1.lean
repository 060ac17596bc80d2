/-
  Helping texts: plain functions and plain laws. No statement of the seed is proved here.
-/
import Derived.Test.YthioiiocofohiaaGreatDoorA1
import Derived.ChangeShapes
import Derived.ChangeSame
import Derived.Carry
import Derived.RowKit
import Derived.Test.YthioiiocofohiaaGreatDoorA2
set_option linter.unusedVariables false
set_option linter.unusedSimpArgs false
set_option linter.unusedSectionVars false
namespace Go.Gk
open Go
noncomputable section
structure aH where
 X0:Int
 Y0:Int
 X1:Int
 Y1:Int
 deriving DecidableEq,Inhabited
structure bH where
 X:Int
 Y:Int
 deriving DecidableEq,Inhabited
structure cD where
 At:bH
 eP:Int
 cZ:Int
 To:Int
 iO:Bool
 deriving DecidableEq,Inhabited
structure dD where
 Part:dO
 fE:dO
 eV:Int
 At:bH
 deriving DecidableEq,Inhabited
structure fz where
 aI: (List (List aH))
 cQ: (List aH)
 aQ: (List cD)
 bL: (List dD)
 deriving DecidableEq,Inhabited
structure fE where
 Part:dO
 fE:dO
 deriving DecidableEq,Inhabited
structure Test where
 A:fE
 B:fE
 Joined:Bool
 deriving DecidableEq,Inhabited
structure Touch where
 Test:Int
 nW:Bool
 qy:Int
 deriving DecidableEq,Inhabited
structure aA where
 Y0:Int
 Y1:Int
 Xs: (List Int)
 deriving DecidableEq,Inhabited
structure aJ where
 eV:Int
 Set: (List aA)
 o4: (List aH)
 deriving DecidableEq,Inhabited
structure cU where
 oQ: (List Int)
 aQ: (List Int)
 jC: (List fE)
 deriving DecidableEq,Inhabited
structure fJ where
 cD:Bool
 Number:Int
 deriving DecidableEq,Inhabited
structure cE where
 e0:Int
 e1:Int
 deriving DecidableEq,Inhabited
def cE.gt (x:cE) (k:Fin 2):Int:=if k.val=0 then x.e0 else x.e1
def cE.st (x:cE) (k:Fin 2) (y:Int):cE:=if k.val=0 then {x with e0:=y} else {x with e1:=y}
structure aX where
 e0:bH
 e1:bH
 deriving DecidableEq,Inhabited
def aX.gt (x:aX) (k:Fin 2):bH:=if k.val=0 then x.e0 else x.e1
def aX.st (x:aX) (k:Fin 2) (y:bH):aX:=if k.val=0 then {x with e0:=y} else {x with e1:=y}
structure lK where
 Open:Bool
 fJ:fJ
 A:Int
 B:Int
 deriving DecidableEq,Inhabited
structure bD where
 e0:aX
 e1:aX
 deriving DecidableEq,Inhabited
def bD.gt (x:bD) (k:Fin 2):aX:=if k.val=0 then x.e0 else x.e1
def bD.st (x:bD) (k:Fin 2) (y:aX):bD:=if k.val=0 then {x with e0:=y} else {x with e1:=y}
structure aK where
 from_:Int
 to:Int
 deriving DecidableEq,Inhabited
structure bA where
 from_:Int
 to:Int
 ki: (List aK)
 deriving DecidableEq,Inhabited
structure kH where
 Pq:fz
 KA: (List Test)
 speed:Int
 KB:Int
 deriving DecidableEq,Inhabited
def rV (N:Nat) (p0 p1 p2:Int):Option (Bool):=
 some ((decide (p0>=p1))&&(decide (p0<=p2)))
def kI (N:Nat) (p0:Int):Option (Bool):=
 (rV N p0 (-1000000) 1000000).bind fun j=>some j
def mm (N:Nat) (p0:aH):Option (Bool):=
 ((kI N p0.X0).bind fun j=>bif j then ((kI N p0.Y0).bind fun o=>bif o then ((kI N p0.X1).bind fun aa=>bif aa then ((kI N p0.Y1).bind fun ab=>some ab) else (some false)) else (some false)) else (some false)).bind fun ad=>some ad
def kj (N:Nat) (p0: (List aH)):Option (Int):=
 bif (decide ((p0.length:Int)>2000)) then (some 2) else ((qX p0.length (fun(o:Nat) (aa:Unit)=>((idx p0 (o:Int)).bind fun j=>(mm N j).bind fun ab=>bif (!ab) then (some (.rt 1)) else (bif ((decide (j.X1<=j.X0))||(decide (j.Y1<=j.Y0))) then (some (.rt 13)) else (some (.nx ()))):Option (Fl (Unit) Int))) ()).bind fun ad=>ad.cs (fun(aa:Unit)=>some 0) (fun r=>some r))
def iH (N:Nat) (p0: (List aH)):Option ((List aH)):=
 (app 32 ([]: (List aH)) p0).bind fun j=>some j
def jh (N:Nat) (p0 p1:aH):Option (Int):=
 some (IntKind.wrap .i64 (p0.Y0 - p1.Y0))
def gr (N:Nat) (p0: (List Int)):Option ((List Int)):=
 bif (decide ((p0.length:Int)<2)) then (some p0) else ((jB (fun(o:Int)=>(bif (decide (o< (p0.length:Int))) then ((idx p0 o).bind fun ab=>(idx p0 (IntKind.wrap .i64 (o - 1))).bind fun ad=>bif (ab==ad) then ((sO p0 o (p0.length:Int)).bind fun ak=>(jB (fun(j: (List Int)×Int×Int)=>(bif (decide (j.2.2< (((j.1.length - Int.toNat o):Nat):Int))) then ((EO j.1 o j.2.2).bind fun ae=>(EO j.1 o (IntKind.wrap .i64 (j.2.2 - 1))).bind fun af=>(bif (ae != af) then ((EO j.1 o j.2.2).bind fun ag=>(idx j.1 j.2.1).bind fun al=>some ((j.1.set (Int.toNat j.2.1) ag),(IntKind.wrap .i64 (j.2.1+1)))) else (some (j.1,j.2.1))).bind fun aa=>some (.nx (aa.1,aa.2,(IntKind.wrap .i64 (j.2.2+1))))) else (some (.br (j.1,j.2.1,j.2.2))):Option (Fl ((List Int)×Int×Int) Empty))) N (p0,o,1)).bind fun ah=>ah.cs (fun(j: (List Int)×Int×Int)=>(sO j.1 j.2.1 (j.1.length:Int)).bind fun an=>(sO (j.1.take (Int.toNat j.2.1)++List.replicate (j.1.length - Int.toNat j.2.1) (0:Int)) 0 j.2.1).bind fun ai=>some (.rt ai)) (fun r=>r.elim)) else (some (.nx (IntKind.wrap .i64 (o+1))))) else (some (.br o)):Option (Fl (Int) (List Int)))) N 1).bind fun aj=>aj.cs (fun(o:Int)=>some p0) (fun r=>some r))
def nu (N:Nat) (p0:aH) (p1: (List Int)) (p2:Int):Option (Bool):=
 (idx p1 p2).bind fun j=>some (decide (p0.Y1<=j))
def lz (N:Nat) (p0: (List aH)) (p1:aH->Option Bool):Option (Int):=
 (qX p0.length (fun(j:Nat) (o:Unit)=>((idx p0 (j:Int)).bind fun aa=>(p1 aa).bind fun ab=>bif ab then (some (.rt (j:Int))) else (some (.nx ())):Option (Fl (Unit) Int))) ()).bind fun ad=>ad.cs (fun(o:Unit)=>some (-1)) (fun r=>some r)
def j7 (N:Nat) (p0: (List aH)) (p1:aH->Option Bool):Option (Int):=
 (qX p0.length (fun(j:Nat) (o:Unit)=>((idx p0 (j:Int)).bind fun aa=>(p1 aa).bind fun ab=>bif ab then (some (.rt (j:Int))) else (some (.nx ())):Option (Fl (Unit) Int))) ()).bind fun ad=>ad.cs (fun(o:Unit)=>some (-1)) (fun r=>some r)
def gL (N:Nat) (p0: (List aH)) (p1:aH->Option Bool):Option ((List aH)):=
 (j7 N p0 p1).bind fun o=>bif (o==(-1)) then (some p0) else ((jB (fun(j: (List aH)×Int×Int)=>(bif (decide (j.2.2< (j.1.length:Int))) then ((idx j.1 j.2.2).bind fun aa=>(p1 aa).bind fun ad=>(bif (!ad) then ((idx j.1 j.2.1).bind fun ag=>some ((j.1.set (Int.toNat j.2.1) aa),(IntKind.wrap .i64 (j.2.1+1)))) else (some (j.1,j.2.1))).bind fun ab=>some (.nx (ab.1,ab.2,(IntKind.wrap .i64 (j.2.2+1))))) else (some (.br (j.1,j.2.1,j.2.2))):Option (Fl ((List aH)×Int×Int) Empty))) N (p0,o,(IntKind.wrap .i64 (o+1)))).bind fun ae=>ae.cs (fun(j: (List aH)×Int×Int)=>(sO j.1 j.2.1 (j.1.length:Int)).bind fun ah=>(sO (j.1.take (Int.toNat j.2.1)++List.replicate (j.1.length - Int.toNat j.2.1) (⟨0,0,0,0⟩:aH)) 0 j.2.1).bind fun af=>some af) (fun r=>r.elim))
def gu (N:Nat) (p0 p1:aH):Option (Int):=
 some (IntKind.wrap .i64 (p0.X0 - p1.X0))
def iP (N:Nat) (p0: (List aH)):Option ((List Int)×(List aH)):=
 (wk (gu N) p0).bind fun aa=>(lF aa.length (fun(ad:Nat) (j: (List Int))=>((idx aa (ad:Int)).bind fun o=>(bif (decide ((IntKind.wrap .i64 ((j.length:Int) - 1))>=0)) then ((idx j (IntKind.wrap .i64 ((j.length:Int) - 1))).bind fun ae=>some (decide (o.X0<=ae))) else (some false)).bind fun af=>(bif af then ((idx j (IntKind.wrap .i64 ((j.length:Int) - 1))).bind fun ab=>(idx j (IntKind.wrap .i64 ((j.length:Int) - 1))).bind fun ai=>some (j.set (Int.toNat (IntKind.wrap .i64 ((j.length:Int) - 1))) (if ab<o.X1 then o.X1 else ab))) else ((app 8 j ([o.X0,o.X1]: (List Int))).bind fun ag=>some ag)).bind fun ah=>some ah:Option ((List Int)))) ([]: (List Int))).bind fun j=>some (j,aa)
def mn (N:Nat) (p0: (List Int)) (p1: (List Int)):Option (Bool):=
 bif ((p0.length:Int) != (p1.length:Int)) then (some false) else ((qX p0.length (fun(j:Nat) (o:Unit)=>((idx p0 (j:Int)).bind fun aa=>(idx p1 (j:Int)).bind fun ab=>bif (aa != ab) then (some (.rt false)) else (some (.nx ())):Option (Fl (Unit) Bool))) ()).bind fun ad=>ad.cs (fun(o:Unit)=>some true) (fun r=>some r))
def iv (N:Nat) (p0: (List aA)) (p1:aA):Option ((List aA)):=
 bif (((p1.Xs.length:Int)==0)||(decide (p1.Y1<=p1.Y0))) then (some p0) else ((bif (decide ((IntKind.wrap .i64 ((p0.length:Int) - 1))>=0)) then ((idx p0 (IntKind.wrap .i64 ((p0.length:Int) - 1))).bind fun j=>bif (j.Y1==p1.Y0) then ((idx p0 (IntKind.wrap .i64 ((p0.length:Int) - 1))).bind fun o=>(mn N o.Xs p1.Xs).bind fun aa=>some aa) else (some false)) else (some false)).bind fun ab=>bif ab then ((idx p0 (IntKind.wrap .i64 ((p0.length:Int) - 1))).bind fun ad=>some (p0.set (Int.toNat (IntKind.wrap .i64 ((p0.length:Int) - 1))) ({ad with Y1:=p1.Y1}))) else ((app 40 p0 ([p1]: (List aA))).bind fun ae=>some ae))
def gz (N:Nat) (p0: (List aH)):Option ((List aA)):=
 (iH N p0).bind fun ag=>(wk (jh N) ag).bind fun aa=>(lF aa.length (fun(ah:Nat) (ad: (List Int))=>((idx aa (ah:Int)).bind fun ae=>(app 8 ad ([ae.Y0,ae.Y1]: (List Int))).bind fun ai=>some ai:Option ((List Int)))) ([]: (List Int))).bind fun ad=>(tp ad).bind fun aj=>(gr N aj).bind fun ab=>(jB (fun(j: (List aA)×(List aH)×Int×Int)=>(bif (decide ((IntKind.wrap .i64 (j.2.2.2+1))< (ab.length:Int))) then ((gL N j.2.1 (fun y0=>nu N y0 ab j.2.2.2)).bind fun ak=>(jB (fun(o: (List aH)×Int)=>((bif (decide (o.2< (aa.length:Int))) then ((idx aa o.2).bind fun al=>(idx ab j.2.2.2).bind fun an=>some (decide (al.Y0<=an))) else (some false)).bind fun ao=>bif ao then ((idx aa o.2).bind fun aq=>(app 32 o.1 ([aq]: (List aH))).bind fun ar=>some (.nx (ar,(IntKind.wrap .i64 (o.2+1))))) else (some (.br (o.1,o.2))):Option (Fl ((List aH)×Int) Empty))) N (ak,j.2.2.1)).bind fun au=>au.cs (fun(o: (List aH)×Int)=>(idx ab j.2.2.2).bind fun av=>(idx ab (IntKind.wrap .i64 (j.2.2.2+1))).bind fun aw=>(iP N o.1).bind fun af=>(iv N j.1 (⟨av,aw,af.1⟩:aA)).bind fun ax=>some (.nx (ax,af.2,o.2,(IntKind.wrap .i64 (j.2.2.2+1))))) (fun r=>r.elim)) else (some (.br (j.1,j.2.1,j.2.2.1,j.2.2.2))):Option (Fl ((List aA)×(List aH)×Int×Int) Empty))) N (([]: (List aA)),([]: (List aH)),0,0)).bind fun ay=>ay.cs (fun(j: (List aA)×(List aH)×Int×Int)=>some j.1) (fun r=>r.elim)
def iQ (N:Nat) (p0: (List aA)):Option ((List aH)):=
 (lF p0.length (fun(ab:Nat) (aa: (List aH))=>((idx p0 (ab:Int)).bind fun o=>(jB (fun(j: (List aH)×Int)=>(bif (decide (j.2< (o.Xs.length:Int))) then ((idx o.Xs j.2).bind fun ad=>(idx o.Xs (IntKind.wrap .i64 (j.2+1))).bind fun ae=>(app 32 j.1 ([(⟨ad,o.Y0,ae,o.Y1⟩:aH)]: (List aH))).bind fun af=>some (.nx (af,(IntKind.wrap .i64 (j.2+2))))) else (some (.br (j.1,j.2))):Option (Fl ((List aH)×Int) Empty))) N (aa,0)).bind fun ag=>ag.cs (fun(j: (List aH)×Int)=>some j.1) (fun r=>r.elim):Option ((List aH)))) ([]: (List aH))).bind fun aa=>some aa
def jO (N:Nat) (p0: (List aH)) (p1: (List aH)):Option (Bool):=
 bif ((p0.length:Int) != (p1.length:Int)) then (some false) else ((qX p0.length (fun(j:Nat) (o:Unit)=>((idx p0 (j:Int)).bind fun aa=>(idx p1 (j:Int)).bind fun ab=>bif (!(decide (aa=ab))) then (some (.rt false)) else (some (.nx ())):Option (Fl (Unit) Bool))) ()).bind fun ad=>ad.cs (fun(o:Unit)=>some true) (fun r=>some r))
def iI (N:Nat) (p0: (List aH)):Option (Int):=
 (kj N p0).bind fun ab=>bif (ab != 0) then (some ab) else ((jB (fun(j:Int)=>(bif (decide (j< (p0.length:Int))) then ((idx p0 (IntKind.wrap .i64 (j - 1))).bind fun o=>(idx p0 j).bind fun aa=>bif ((decide (aa.Y0<o.Y0))||((aa.Y0==o.Y0)&&(decide (aa.X0<=o.X0)))) then (some (.rt 8)) else (some (.nx (IntKind.wrap .i64 (j+1))))) else (some (.br j)):Option (Fl (Int) Int))) N 1).bind fun ad=>ad.cs (fun(j:Int)=>(gz N p0).bind fun ae=>(iQ N ae).bind fun af=>(jO N af p0).bind fun ag=>bif (!ag) then (some 3) else (some 0)) (fun r=>some r))
def gI (N:Nat) (p0 p1 p2:Int):Option (Bool):=
 some ((decide (p0>=p1))&&(decide (p0<=p2)))
def i7 (N:Nat) (p0:bH):Option (Bool):=
 ((kI N p0.X).bind fun j=>bif j then ((kI N p0.Y).bind fun o=>some o) else (some false)).bind fun aa=>some aa
def fH (N:Nat) (p0:cD):Option (aH):=
 some (⟨(IntKind.wrap .i64 (p0.At.X - (IntKind.wrap .i64 (Int.tdiv p0.eP 2)))),(IntKind.wrap .i64 (p0.At.Y - (IntKind.wrap .i64 (Int.tdiv p0.eP 2)))),(IntKind.wrap .i64 ((IntKind.wrap .i64 (p0.At.X - (IntKind.wrap .i64 (Int.tdiv p0.eP 2))))+p0.eP)),(IntKind.wrap .i64 ((IntKind.wrap .i64 (p0.At.Y - (IntKind.wrap .i64 (Int.tdiv p0.eP 2))))+p0.eP))⟩:aH)
def mo (N:Nat) (p0: (List aA)):Option (aH):=
 (idx p0 0).bind fun ad=>(idx ad.Xs 0).bind fun ae=>(idx p0 0).bind fun af=>(idx p0 0).bind fun ag=>(idx ag.Xs 1).bind fun ah=>(idx p0 (IntKind.wrap .i64 ((p0.length:Int) - 1))).bind fun ai=>(lF p0.length (fun(aj:Nat) (j:aH)=>((idx p0 (aj:Int)).bind fun o=>(idx o.Xs 0).bind fun aa=>(idx o.Xs (IntKind.wrap .i64 ((o.Xs.length:Int) - 1))).bind fun ab=>some ({{j with X0:=(if aa<j.X0 then aa else j.X0)} with X1:=(if j.X1<ab then ab else j.X1)}):Option (aH))) (⟨ae,af.Y0,ah,ai.Y1⟩:aH)).bind fun j=>some j
def lR (N:Nat) (p0: (List aA)):Option (Bool):=
 (bif ((p0.length:Int)==0) then (some true) else ((mo N p0).bind fun j=>(mm N j).bind fun o=>some o)).bind fun aa=>some aa
def lj (N:Nat) (p0:cD):Option (aH×Int):=
 ((gI N p0.eP 1 10000).bind fun o=>bif (!o) then (some true) else ((i7 N p0.At).bind fun aa=>some (!aa))).bind fun ab=>bif ab then (some ((⟨0,0,0,0⟩:aH),1)) else ((fH N p0).bind fun j=>(gz N ([j]: (List aH))).bind fun ad=>(lR N ad).bind fun ae=>bif (!ae) then (some ((⟨0,0,0,0⟩:aH),1)) else (some (j,0)))
def jP (N:Nat) (p0:fz):Option (Int):=
 bif (decide ((p0.aQ.length:Int)>500)) then (some 2) else ((qX p0.aQ.length (fun(aa:Nat) (ab:Unit)=>((idx p0.aQ (aa:Int)).bind fun j=>(lj N j).bind fun o=>bif (o.2 != 0) then (some (.rt o.2)) else (((gI N j.cZ 0 (IntKind.wrap .i64 ((p0.aI.length:Int) - 1))).bind fun ad=>bif (!ad) then (some true) else ((gI N j.To j.cZ (IntKind.wrap .i64 ((p0.aI.length:Int) - 1))).bind fun ae=>some (!ae))).bind fun af=>bif af then (some (.rt 1)) else (some (.nx ()))):Option (Fl (Unit) Int))) ()).bind fun ag=>ag.cs (fun(ab:Unit)=>some 0) (fun r=>some r))
def gW (N:Nat) (p0:dO) (p1:Int):Option (Int):=
 some (Lib.indexByte p0.cP (Int.toNat p1).toUInt8)
def jQ (N:Nat) (p0 p1:dO):Option (Int):=
 bif (((p1.cP.length:Int)==0)||(p1.BO p0)) then (some 0) else (bif ((p1.cP.length:Int)==1) then ((EJ p1 0).bind fun j=>(gW N p0 (j.toNat:Int)).bind fun o=>some o) else (bif (decide ((p1.cP.length:Int)>=(p0.cP.length:Int))) then (some (-1)) else (none)))
def lk (N:Nat) (p0 p1:dO):Option (Int):=
 (jQ N p0 p1).bind fun j=>some j
def mL (N:Nat) (p0 p1:dO):Option (Int):=
 bif ((p1.cP.length:Int)==0) then (none) else (bif ((p1.cP.length:Int)==1) then ((EJ p1 0).bind fun aa=>some ((Lib.countByte p0.cP (Int.toNat (aa.toNat:Int)).toUInt8:Nat):Int)) else ((jB (fun(j:dO×Int)=>((lk N j.1 p1).bind fun o=>bif (o==(-1)) then (some (.rt j.2)) else ((vx j.1 (IntKind.wrap .i64 (o+ (p1.cP.length:Int))) (j.1.cP.length:Int)).bind fun ab=>some (.nx (ab,(IntKind.wrap .i64 (j.2+1))))):Option (Fl (dO×Int) Int))) N (p0,0)).bind fun ad=>ad.cs (fun(j:dO×Int)=>some 0) (fun r=>some r)))
def mq (N:Nat) (p0 p1:dO) (p2 p3:Int):Option ((List dO)):=
 bif (p3==0) then (some ([]: (List dO))) else (bif (p1.BO (⟨[]⟩)) then (none) else ((bif (decide (p3<0)) then ((mL N p0 p1).bind fun ab=>some (IntKind.wrap .i64 (ab+1))) else (some p3)).bind fun o=>(mk 16 (⟨[]⟩:dO) (if (IntKind.wrap .i64 ((p0.cP.length:Int)+1))<o then (IntKind.wrap .i64 ((p0.cP.length:Int)+1)) else o)).bind fun ad=>(jB (fun(j:dO×(List dO)×Int)=>(bif (decide (j.2.2< (IntKind.wrap .i64 ((if (IntKind.wrap .i64 ((p0.cP.length:Int)+1))<o then (IntKind.wrap .i64 ((p0.cP.length:Int)+1)) else o) - 1)))) then ((lk N j.1 p1).bind fun aa=>bif (decide (aa<0)) then (some (.br (j.1,j.2.1,j.2.2))) else ((vx j.1 0 (IntKind.wrap .i64 (aa+p2))).bind fun ae=>(idx j.2.1 j.2.2).bind fun ai=>(vx j.1 (IntKind.wrap .i64 (aa+ (p1.cP.length:Int))) (j.1.cP.length:Int)).bind fun af=>some (.nx (af,(j.2.1.set (Int.toNat j.2.2) ae),(IntKind.wrap .i64 (j.2.2+1)))))) else (some (.br (j.1,j.2.1,j.2.2))):Option (Fl (dO×(List dO)×Int) Empty))) N (p0,ad,0)).bind fun ag=>ag.cs (fun(j:dO×(List dO)×Int)=>(idx j.2.1 j.2.2).bind fun aj=>(sO (j.2.1.set (Int.toNat j.2.2) j.1) 0 (IntKind.wrap .i64 (j.2.2+1))).bind fun ah=>some ah) (fun r=>r.elim)))
def ll (N:Nat) (p0 p1:dO):Option ((List dO)):=
 (mq N p0 p1 0 (-1)).bind fun j=>some j
def kl (N:Nat) (p0: (List dO)) (p1:dO->Option Bool):Option (Int):=
 (qX p0.length (fun(j:Nat) (o:Unit)=>((idx p0 (j:Int)).bind fun aa=>(p1 aa).bind fun ab=>bif ab then (some (.rt (j:Int))) else (some (.nx ())):Option (Fl (Unit) Int))) ()).bind fun ad=>ad.cs (fun(o:Unit)=>some (-1)) (fun r=>some r)
def gM (N:Nat) (p0: (List dO)) (p1:dO->Option Bool):Option (Bool):=
 (kl N p0 p1).bind fun j=>some (decide (j>=0))
def fV (N:Nat) (p0:dO) (p1:Int):Option (Int):=
 (gW N p0 p1).bind fun j=>some j
def iw (N:Nat) (p0:dO):Option (Bool):=
 (qX p0.cP.length (fun(o:Nat) (aa:Unit)=>((EJ p0 (o:Int)).bind fun j=>(bif ((((decide ((j.toNat:Int)<65))||(decide ((j.toNat:Int)>90)))&&((decide ((j.toNat:Int)<97))||(decide ((j.toNat:Int)>122))))&&((decide ((j.toNat:Int)<48))||(decide ((j.toNat:Int)>57)))) then ((fV N (⟨[95,43,45,35]⟩) (j.toNat:Int)).bind fun ab=>some (decide (ab<0))) else (some false)).bind fun ad=>bif ad then (some (.rt false)) else (some (.nx ())):Option (Fl (Unit) Bool))) ()).bind fun ae=>ae.cs (fun(aa:Unit)=>some ((decide ((p0.cP.length:Int)>=1))&&(decide ((p0.cP.length:Int)<=40)))) (fun r=>some r)
def gN (N:Nat) (p0:dO):Option (Bool):=
 (iw N p0).bind fun j=>some (!j)
def lS (N:Nat) (p0:dO):Option (Bool):=
 (bif (decide ((p0.cP.length:Int)<=200)) then ((ll N p0 (⟨[47]⟩)).bind fun j=>(gM N j (gN N)).bind fun o=>some (!o)) else (some false)).bind fun aa=>some aa
def kJ (N:Nat) (p0:dD):Option (fE):=
 some (⟨p0.Part,p0.fE⟩:fE)
def lA (N:Nat) (p0 p1:dO):Option (Int):=
 some (Lib.compareBytes p0.cP p1.cP)
def mU (N:Nat) (p0 p1:dO):Option (Int):=
 (lA N p0 p1).bind fun j=>some j
def dT (N:Nat) (p0 p1:fE):Option (Int):=
 (mU N p0.Part p1.Part).bind fun j=>bif (j != 0) then (some j) else ((mU N p0.fE p1.fE).bind fun o=>some o)
def jR (N:Nat) (p0:fz):Option (Int):=
 bif (decide ((p0.bL.length:Int)>1000)) then (some 2) else ((qX p0.bL.length (fun(o:Nat) (aa:Unit)=>((idx p0.bL (o:Int)).bind fun j=>((lS N j.Part).bind fun ab=>bif (!ab) then (some true) else ((iw N j.fE).bind fun ad=>some (!ad))).bind fun ae=>bif ae then (some (.rt 5)) else (((gI N j.eV 0 (IntKind.wrap .i64 ((p0.aI.length:Int) - 1))).bind fun af=>bif (!af) then (some true) else ((i7 N j.At).bind fun ag=>some (!ag))).bind fun ah=>bif ah then (some (.rt 1)) else ((bif (decide ((o:Int)>0)) then ((idx p0.bL (IntKind.wrap .i64 ((o:Int) - 1))).bind fun ai=>(kJ N j).bind fun aj=>(kJ N ai).bind fun ak=>(dT N aj ak).bind fun al=>some (decide (al<=0))) else (some false)).bind fun an=>bif an then (some (.rt 8)) else (some (.nx ())))):Option (Fl (Unit) Int))) ()).bind fun ao=>ao.cs (fun(aa:Unit)=>some 0) (fun r=>some r))
def ln (N:Nat) (p0 p1:Int) (p2 p3:Int):Option (Int):=
 some (if (if 0< (IntKind.wrap .i64 ((IntKind.wrap .i64 (p2 - p1))+1)) then (IntKind.wrap .i64 ((IntKind.wrap .i64 (p2 - p1))+1)) else 0)< (IntKind.wrap .i64 ((IntKind.wrap .i64 (p0 - p3))+1)) then (IntKind.wrap .i64 ((IntKind.wrap .i64 (p0 - p3))+1)) else (if 0< (IntKind.wrap .i64 ((IntKind.wrap .i64 (p2 - p1))+1)) then (IntKind.wrap .i64 ((IntKind.wrap .i64 (p2 - p1))+1)) else 0))
def q9 (N:Nat) (p0 p1:aH):Option (Int):=
 (ln N p0.X0 p0.X1 p1.X0 p1.X1).bind fun j=>(ln N p0.Y0 p0.Y1 p1.Y0 p1.Y1).bind fun o=>some (if j<o then o else j)
def km (N:Nat) (p0:cD) (p1:Int):Option (Bool):=
 some ((decide (p0.cZ<=p1))&&(decide (p1<=p0.To)))
def mu (N:Nat) (p0: (List aA)) (p1 p2:Int):Option ((List Int)×Int):=
 bif ((p0.length:Int)==0) then (some (([]: (List Int)),p2)) else ((idx p0 0).bind fun aa=>bif (decide (p1<aa.Y0)) then ((idx p0 0).bind fun j=>some (([]: (List Int)),(if j.Y0<p2 then j.Y0 else p2))) else ((idx p0 0).bind fun ab=>(idx p0 0).bind fun o=>some (ab.Xs,(if o.Y1<p2 then o.Y1 else p2))))
def pG (N:Nat) (p0: (List Int)) (p1: (List Int)) (p2:Bool->Bool->Option Bool):Option ((List Int)):=
 (jB (fun(j: (List Int)×(List Int)×(List Int)×Bool×Bool×Bool)=>((bif (decide ((j.1.length:Int)>0)) then (some true) else (some (decide ((j.2.1.length:Int)>0)))).bind fun af=>bif af then ((bif ((j.2.1.length:Int)==0) then (some true) else (bif (decide ((j.1.length:Int)>0)) then ((idx j.1 0).bind fun ag=>(idx j.2.1 0).bind fun ah=>some (decide (ag<=ah))) else (some false))).bind fun ai=>(bif ai then ((idx j.1 0).bind fun aj=>some aj) else ((idx j.2.1 0).bind fun ak=>some ak)).bind fun o=>(bif (decide ((j.1.length:Int)>0)) then ((idx j.1 0).bind fun al=>some (al==o)) else (some false)).bind fun an=>(bif an then ((sO j.1 1 (j.1.length:Int)).bind fun ao=>some (ao,(!j.2.2.2.1))) else (some (j.1,j.2.2.2.1))).bind fun aa=>(bif (decide ((j.2.1.length:Int)>0)) then ((idx j.2.1 0).bind fun aq=>some (aq==o)) else (some false)).bind fun ar=>(bif ar then ((sO j.2.1 1 (j.2.1.length:Int)).bind fun au=>some (au,(!j.2.2.2.2.1))) else (some (j.2.1,j.2.2.2.2.1))).bind fun ab=>(p2 aa.2 ab.2).bind fun ad=>(bif (ad != j.2.2.2.2.2) then ((app 8 j.2.2.1 ([o]: (List Int))).bind fun av=>some (av,ad)) else (some (j.2.2.1,j.2.2.2.2.2))).bind fun ae=>some (.nx (aa.1,ab.1,ae.1,aa.2,ab.2,ae.2))) else (some (.br (j.1,j.2.1,j.2.2.1,j.2.2.2.1,j.2.2.2.2.1,j.2.2.2.2.2))):Option (Fl ((List Int)×(List Int)×(List Int)×Bool×Bool×Bool) Empty))) N (p0,p1,([]: (List Int)),false,false,false)).bind fun aw=>aw.cs (fun(j: (List Int)×(List Int)×(List Int)×Bool×Bool×Bool)=>some j.2.2.1) (fun r=>r.elim)
def oF (N:Nat) (p0: (List aA)) (p1: (List aA)) (p2:Bool->Bool->Option Bool):Option ((List aA)):=
 bif ((IntKind.wrap .i64 ((p0.length:Int)+ (p1.length:Int)))==0) then (some ([]: (List aA))) else ((lF (([p0,p1]: (List (List aA))).length) (fun(ah:Nat) (o:Int×Int)=>((idx ([p0,p1]: (List (List aA))) (ah:Int)).bind fun ad=>(bif (decide ((ad.length:Int)>0)) then ((bif ((ah:Int)==0) then (some true) else (some ((p0.length:Int)==0))).bind fun al=>(bif al then ((idx ad 0).bind fun an=>(idx ad (IntKind.wrap .i64 ((ad.length:Int) - 1))).bind fun ao=>some (an.Y0,ao.Y1)) else (some (o.1,o.2))).bind fun ag=>(idx ad 0).bind fun ai=>(idx ad (IntKind.wrap .i64 ((ad.length:Int) - 1))).bind fun aj=>some ((if ai.Y0<ag.1 then ai.Y0 else ag.1),(if ag.2<aj.Y1 then aj.Y1 else ag.2))) else (some (o.1,o.2))).bind fun ak=>some (ak.1,ak.2):Option (Int×Int))) (0,0)).bind fun o=>(jB (fun(j: (List aA)×(List aA)×(List aA)×Int)=>(bif (decide (j.2.2.2<o.2)) then ((jB (fun(aa: (List aA))=>((bif (decide ((aa.length:Int)>0)) then ((idx aa 0).bind fun aq=>some (decide (aq.Y1<=j.2.2.2))) else (some false)).bind fun ar=>bif ar then ((sO aa 1 (aa.length:Int)).bind fun au=>some (.nx au)) else (some (.br aa)):Option (Fl ((List aA)) Empty))) N j.1).bind fun av=>av.cs (fun(aa: (List aA))=>(jB (fun(ab: (List aA))=>((bif (decide ((ab.length:Int)>0)) then ((idx ab 0).bind fun aw=>some (decide (aw.Y1<=j.2.2.2))) else (some false)).bind fun ax=>bif ax then ((sO ab 1 (ab.length:Int)).bind fun ay=>some (.nx ay)) else (some (.br ab)):Option (Fl ((List aA)) Empty))) N j.2.1).bind fun az=>az.cs (fun(ab: (List aA))=>(mu N aa j.2.2.2 o.2).bind fun ae=>(mu N ab j.2.2.2 o.2).bind fun af=>(pG N ae.1 af.1 p2).bind fun a0=>(iv N j.2.2.1 (⟨j.2.2.2,(if af.2<ae.2 then af.2 else ae.2),a0⟩:aA)).bind fun a1=>some (.nx (aa,ab,a1,(if af.2<ae.2 then af.2 else ae.2)))) (fun r=>r.elim)) (fun r=>r.elim)) else (some (.br (j.1,j.2.1,j.2.2.1,j.2.2.2))):Option (Fl ((List aA)×(List aA)×(List aA)×Int) Empty))) N (p0,p1,([]: (List aA)),o.1)).bind fun a2=>a2.cs (fun(j: (List aA)×(List aA)×(List aA)×Int)=>some j.2.2.1) (fun r=>r.elim))
def nv (N:Nat) (p0 p1:Bool):Option (Bool):=
 some (p0&&(!p1))
def kn (N:Nat) (p0: (List aA)) (p1: (List aA)):Option ((List aA)):=
 (oF N p0 p1 (nv N)).bind fun j=>some j
def lT (N:Nat) (p0: (List aA)):Option (Int):=
 (lF p0.length (fun(o:Nat) (j:Int)=>((idx p0 (o:Int)).bind fun aa=>some (IntKind.wrap .i64 (j+ (IntKind.wrap .i64 (Int.tdiv (aa.Xs.length:Int) 2)))):Option (Int))) 0).bind fun j=>some j
def eQ (N:Nat) (p0:Int) (p1_0: (List Int)):Option (Int×(List Int)):=
 (jB (fun(j:Int×(List Int))=>((idx j.2 j.1).bind fun aa=>bif (aa != j.1) then ((idx j.2 j.1).bind fun ab=>(idx j.2 ab).bind fun o=>(idx j.2 j.1).bind fun af=>(idx (j.2.set (Int.toNat j.1) o) j.1).bind fun ad=>some (.nx (ad,(j.2.set (Int.toNat j.1) o)))) else (some (.br (j.1,j.2))):Option (Fl (Int×(List Int)) Empty))) N (p0,p1_0)).bind fun ae=>ae.cs (fun(j:Int×(List Int))=>some (j.1,j.2)) (fun r=>r.elim)
def kV (N:Nat) (p0: (List aA)):Option ((List (List aA))):=
 (iQ N p0).bind fun ab=>(mk 8 (0:Int) (ab.length:Int)).bind fun an=>(lF an.length (fun(ai:Nat) (ag: (List Int))=>((idx ag (ai:Int)).bind fun bd=>some (ag.set (Int.toNat (ai:Int)) (ai:Int)):Option ((List Int)))) an).bind fun ag=>(lF p0.length (fun(aj:Nat) (aa: (List Int)×Int×Int)=>((idx p0 (aj:Int)).bind fun ak=>(bif (decide ((aj:Int)>0)) then ((idx p0 (IntKind.wrap .i64 ((aj:Int) - 1))).bind fun ar=>some (ar.Y1==ak.Y0)) else (some false)).bind fun au=>(bif au then ((jB (fun(j: (List Int)×Int×Int)=>(bif ((decide (j.2.1<aa.2.1))&&(decide (j.2.2< (IntKind.wrap .i64 (aa.2.1+ (IntKind.wrap .i64 (Int.tdiv (ak.Xs.length:Int) 2))))))) then (((idx ab j.2.1).bind fun av=>(idx ab j.2.2).bind fun aw=>bif (decide (av.X0<aw.X1)) then ((idx ab j.2.2).bind fun ax=>(idx ab j.2.1).bind fun ay=>some (decide (ax.X0<ay.X1))) else (some false)).bind fun az=>(bif az then ((eQ N j.2.1 j.1).bind fun ae=>(eQ N j.2.2 ae.2).bind fun ad=>(idx ad.2 (if ae.1<ad.1 then ad.1 else ae.1)).bind fun bf=>some (ad.2.set (Int.toNat (if ae.1<ad.1 then ad.1 else ae.1)) (if ad.1<ae.1 then ad.1 else ae.1))) else (some j.1)).bind fun a0=>(idx ab j.2.1).bind fun a1=>(idx ab j.2.2).bind fun a2=>(bif (decide (a1.X1<a2.X1)) then (some ((IntKind.wrap .i64 (j.2.1+1)),j.2.2)) else (some (j.2.1,(IntKind.wrap .i64 (j.2.2+1))))).bind fun ao=>some (.nx (a0,ao.1,ao.2))) else (some (.br (j.1,j.2.1,j.2.2))):Option (Fl ((List Int)×Int×Int) Empty))) N (aa.1,aa.2.2,aa.2.1)).bind fun a3=>a3.cs (fun(j: (List Int)×Int×Int)=>some j.1) (fun r=>r.elim)) else (some aa.1)).bind fun a4=>some (a4,(IntKind.wrap .i64 (aa.2.1+ (IntKind.wrap .i64 (Int.tdiv (ak.Xs.length:Int) 2)))),aa.2.1):Option ((List Int)×Int×Int))) (ag,0,0)).bind fun aa=>(lF ab.length (fun(aq:Nat) (o: (List Int)×(List (Int×Int))×(List (List aH)))=>((idx ab (aq:Int)).bind fun a5=>(eQ N (aq:Int) o.1).bind fun ah=>(bif (!(kD o.2.1 ah.1)) then ((app 24 o.2.2 [([]: (List aH))]).bind fun a6=>some ((oO o.2.1 ah.1 (o.2.2.length:Int)),a6,(o.2.2.length:Int))) else (some (o.2.1,o.2.2,(eJ o.2.1 ah.1 (0:Int))))).bind fun af=>(idx af.2.1 af.2.2).bind fun a7=>(app 32 a7 ([a5]: (List aH))).bind fun a8=>(idx af.2.1 af.2.2).bind fun bg=>some (ah.2,af.1,(af.2.1.set (Int.toNat af.2.2) a8)):Option ((List Int)×(List (Int×Int))×(List (List aH))))) (aa.1,([]: (List (Int×Int))),([]: (List (List aH))))).bind fun o=>(lF o.2.2.length (fun(a9:Nat) (al: (List (List aA)))=>((idx o.2.2 (a9:Int)).bind fun ba=>(gz N ba).bind fun bb=>(app 24 al ([bb]: (List (List aA)))).bind fun bc=>some bc:Option ((List (List aA))))) ([]: (List (List aA)))).bind fun al=>some al
def ji (N:Nat) (p0_0: (List (List aH))) (p0_2: (List cD)) (p0_4: (List (List aA))) (p0_5: (List aJ)):Option (Bool×(List (List aA))×(List aJ)):=
 (lF p0_0.length (fun(aa:Nat) (j: (List (List aA))×(List aJ)×Bool)=>((idx p0_0 (aa:Int)).bind fun ai=>(lF p0_2.length (fun(aj:Nat) (o: (List aH))=>((idx p0_2 (aj:Int)).bind fun af=>(km N af (aa:Int)).bind fun ak=>(bif ak then ((fH N af).bind fun al=>(app 32 o ([al]: (List aH))).bind fun an=>some an) else (some o)).bind fun ao=>some ao:Option ((List aH)))) ([]: (List aH))).bind fun o=>(gz N ai).bind fun aq=>(gz N o).bind fun ar=>(kn N aq ar).bind fun ab=>(bif j.2.2 then ((lT N ab).bind fun au=>some ((decide (au<=2000)),ab)) else (some (false,ab))).bind fun ad=>(app 24 j.1 ([ad.2]: (List (List aA)))).bind fun av=>(kV N ad.2).bind fun ag=>(lF ag.length (fun(aw:Nat) (ae: (List aJ))=>((idx ag (aw:Int)).bind fun ah=>(iQ N ah).bind fun ax=>(app 56 ae ([(⟨(aa:Int),ah,ax⟩:aJ)]: (List aJ))).bind fun ay=>some ay:Option ((List aJ)))) j.2.1).bind fun ae=>some (av,ae,ad.1):Option ((List (List aA))×(List aJ)×Bool))) (p0_4,p0_5,true)).bind fun j=>(bif j.2.2 then (some (decide ((j.2.1.length:Int)<=2000))) else (some false)).bind fun az=>some (az,j.1,j.2.1)
def qL (N:Nat) (p0 p1:aH):Option (Bool):=
 some ((((decide (p0.X0<p1.X1))&&(decide (p1.X0<p0.X1)))&&((p0.Y1==p1.Y0)||(p1.Y1==p0.Y0)))||(((decide (p0.Y0<p1.Y1))&&(decide (p1.Y0<p0.Y1)))&&((p0.X1==p1.X0)||(p1.X1==p0.X0))))
def jt (N:Nat) (p0:aH) (p1:cD):Option (Bool):=
 (fH N p1).bind fun j=>(qL N p0 j).bind fun o=>some o
def f0 (N:Nat) (p0: (List aH)) (p1:aH->Option Bool):Option (Bool):=
 (lz N p0 p1).bind fun j=>some (decide (j>=0))
def jk (N:Nat) (p0_2: (List cD)) (p0_5: (List aJ)) (p0_6: (List (List Int))):Option ((List (List Int))):=
 (lF p0_2.length (fun(ae:Nat) (o: (List (List Int)))=>((idx p0_2 (ae:Int)).bind fun aa=>(lF p0_5.length (fun(ab:Nat) (j: (List Int))=>((idx p0_5 (ab:Int)).bind fun ad=>(bif aa.iO then ((km N aa ad.eV).bind fun af=>bif af then ((f0 N ad.o4 (fun y0=>jt N y0 aa)).bind fun ag=>some ag) else (some false)) else (some false)).bind fun ah=>(bif ah then ((app 8 j ([(ab:Int)]: (List Int))).bind fun ai=>some ai) else (some j)).bind fun aj=>some aj:Option ((List Int)))) ([]: (List Int))).bind fun j=>(app 24 o ([j]: (List (List Int)))).bind fun ak=>some ak:Option ((List (List Int))))) p0_6).bind fun o=>some o
def jc (N:Nat) (p0:Int):Option (((List Int))):=
 (mk 8 (0:Int) p0).bind fun aa=>(lF aa.length (fun(o:Nat) (j: (List Int))=>((idx j (o:Int)).bind fun ab=>some (j.set (Int.toNat (o:Int)) (o:Int)):Option ((List Int)))) aa).bind fun j=>some j
def dX (N:Nat) (p0_0: (List Int)) (p1:Int):Option (Int×(List Int)):=
 (jB (fun(j: (List Int)×Int)=>((idx j.1 j.2).bind fun aa=>bif (aa != j.2) then ((idx j.1 j.2).bind fun ab=>(idx j.1 ab).bind fun o=>(idx j.1 j.2).bind fun af=>(idx (j.1.set (Int.toNat j.2) o) j.2).bind fun ad=>some (.nx ((j.1.set (Int.toNat j.2) o),ad))) else (some (.br (j.1,j.2))):Option (Fl ((List Int)×Int) Empty))) N (p0_0,p1)).bind fun ae=>ae.cs (fun(j: (List Int)×Int)=>some (j.2,j.1)) (fun r=>r.elim)
def dQ (N:Nat) (p0_0: (List Int)) (p1 p2:Int):Option ((List Int)):=
 (dX N p0_0 p1).bind fun o=>(dX N o.2 p2).bind fun j=>(idx j.2 (if o.1<j.1 then j.1 else o.1)).bind fun aa=>some (j.2.set (Int.toNat (if o.1<j.1 then j.1 else o.1)) (if j.1<o.1 then j.1 else o.1))
def jl (N:Nat) (p0_0: (List Int)):Option ((List (List Int))×(List Int)):=
 (lF p0_0.length (fun(ab:Nat) (j: (List Int)×(List (List Int))×(List (Int×Int)))=>((dX N j.1 (ab:Int)).bind fun aa=>(bif (aa.1==(ab:Int)) then ((app 24 j.2.1 [([]: (List Int))]).bind fun ad=>some (ad,(oO j.2.2 (ab:Int) (j.2.1.length:Int)))) else (some (j.2.1,j.2.2))).bind fun o=>(idx o.1 (eJ o.2 aa.1 (0:Int))).bind fun ae=>(app 8 ae ([(ab:Int)]: (List Int))).bind fun af=>(idx o.1 (eJ o.2 aa.1 (0:Int))).bind fun ag=>some (aa.2,(o.1.set (Int.toNat (eJ o.2 aa.1 (0:Int))) af),o.2):Option ((List Int)×(List (List Int))×(List (Int×Int))))) (p0_0,([]: (List (List Int))),([]: (List (Int×Int))))).bind fun j=>some (j.2.1,j.1)
def kK (N:Nat) (p0:aH) (p1:bH):Option (Bool):=
 (bif (decide (p1.X>=p0.X0)) then (bif (decide (p1.X<p0.X1)) then (bif (decide (p1.Y>=p0.Y0)) then (some (decide (p1.Y<p0.Y1))) else (some false)) else (some false)) else (some false)).bind fun j=>some j
def jI (N:Nat) (p0: (List aH)) (p1:bH):Option (Bool):=
 (f0 N p0 (fun y0=>kK N y0 p1)).bind fun j=>some j
def jm (N:Nat) (p0_2: (List cD)) (p0_5: (List aJ)) (p1:dD):Option (fJ×Bool):=
 (qX p0_2.length (fun(o:Nat) (ad:Unit)=>((idx p0_2 (o:Int)).bind fun j=>(bif j.iO then ((km N j p1.eV).bind fun ae=>bif ae then ((fH N j).bind fun af=>(jI N ([af]: (List aH)) p1.At).bind fun ag=>some ag) else (some false)) else (some false)).bind fun ah=>bif ah then (some (.rt ((⟨true,(o:Int)⟩:fJ),true))) else (some (.nx ())):Option (Fl (Unit) (fJ×Bool)))) ()).bind fun ai=>ai.cs (fun(ad:Unit)=>(qX p0_5.length (fun(aa:Nat) (aj:Unit)=>((idx p0_5 (aa:Int)).bind fun ab=>(bif (ab.eV==p1.eV) then ((jI N ab.o4 p1.At).bind fun ak=>some ak) else (some false)).bind fun al=>bif al then (some (.rt ((⟨false,(aa:Int)⟩:fJ),true))) else (some (.nx ())):Option (Fl (Unit) (fJ×Bool)))) ()).bind fun an=>an.cs (fun(aj:Unit)=>some ((⟨false,0⟩:fJ),false)) (fun r=>some r)) (fun r=>some r)
def gA (N:Nat) (p0_8: (List Int)) (p0_9: (List Int)) (p1:fJ):Option (Int):=
 bif p1.cD then ((idx p0_9 p1.Number).bind fun j=>some j) else ((idx p0_8 p1.Number).bind fun o=>some o)
def fF (N:Nat) (p0_2: (List cD)) (p0_3: (List dD)) (p0_5: (List aJ)) (p0_6: (List (List Int))) (p0_8: (List Int)) (p0_9: (List Int)) (p0_10: (List Int)) (p0_11: (List fJ)):Option ((List cU)×(List Int)×(List Int)×(List Int)×(List fJ)):=
 (jc N (IntKind.wrap .i64 ((p0_5.length:Int)+ (p0_2.length:Int)))).bind fun ar=>(lF p0_6.length (fun(ai:Nat) (af: (List Int))=>((idx p0_6 (ai:Int)).bind fun aj=>(lF aj.length (fun(au:Nat) (ag: (List Int))=>((idx aj (au:Int)).bind fun av=>(dQ N ag av (IntKind.wrap .i64 ((p0_5.length:Int)+ (ai:Int)))).bind fun aw=>some aw:Option ((List Int)))) af).bind fun ag=>some ag:Option ((List Int)))) ar).bind fun af=>(mk 8 (0:Int) (p0_5.length:Int)).bind fun ax=>(mk 8 (0:Int) (p0_2.length:Int)).bind fun ay=>(jl N af).bind fun ak=>(lF ak.1.length (fun(az:Nat) (aa: (List cU)×(List Int)×(List Int))=>((idx ak.1 (az:Int)).bind fun al=>(lF al.length (fun(a0:Nat) (j: (List Int)×(List Int)×(List Int)×(List Int))=>((idx al (a0:Int)).bind fun ab=>(bif (decide (ab< (p0_5.length:Int))) then ((idx j.1 ab).bind fun bd=>(app 8 j.2.2.1 ([ab]: (List Int))).bind fun a1=>some ((j.1.set (Int.toNat ab) (aa.1.length:Int)),j.2.1,a1,j.2.2.2)) else ((idx p0_2 (IntKind.wrap .i64 (ab - (p0_5.length:Int)))).bind fun a2=>(bif a2.iO then ((idx j.2.1 (IntKind.wrap .i64 (ab - (p0_5.length:Int)))).bind fun bf=>(app 8 j.2.2.2 ([(IntKind.wrap .i64 (ab - (p0_5.length:Int)))]: (List Int))).bind fun a3=>some ((j.2.1.set (Int.toNat (IntKind.wrap .i64 (ab - (p0_5.length:Int)))) (aa.1.length:Int)),a3)) else ((idx j.2.1 (IntKind.wrap .i64 (ab - (p0_5.length:Int)))).bind fun bg=>some ((j.2.1.set (Int.toNat (IntKind.wrap .i64 (ab - (p0_5.length:Int)))) (-1)),j.2.2.2))).bind fun an=>some (j.1,an.1,j.2.2.1,an.2))).bind fun ad=>some (ad.1,ad.2.1,ad.2.2.1,ad.2.2.2):Option ((List Int)×(List Int)×(List Int)×(List Int)))) (aa.2.1,aa.2.2,([]: (List Int)),([]: (List Int)))).bind fun j=>(bif (decide ((IntKind.wrap .i64 ((j.2.2.1.length:Int)+ (j.2.2.2.length:Int)))>0)) then ((app 72 aa.1 [(⟨j.2.2.1,j.2.2.2,([]: (List fE))⟩:cU)]).bind fun a4=>some a4) else (some aa.1)).bind fun a5=>some (a5,j.1,j.2.1):Option ((List cU)×(List Int)×(List Int)))) (([]: (List cU)),ax,ay)).bind fun aa=>(lF p0_3.length (fun(a6:Nat) (o: (List cU)×(List Int)×(List Int)×(List Int)×(List fJ))=>((idx p0_3 (a6:Int)).bind fun ao=>(jm N p0_2 p0_5 ao).bind fun ah=>(bif ah.2 then ((gA N o.2.1 o.2.2.1 ah.1).bind fun ae=>(idx o.1 ae).bind fun a7=>(kJ N ao).bind fun a8=>(app 32 a7.jC ([a8]: (List fE))).bind fun a9=>(idx o.1 ae).bind fun ba=>some ((o.1.set (Int.toNat ae) {ba with jC:=a9}),ae)) else (some (o.1,(-1)))).bind fun aq=>(app 8 o.2.2.2.1 ([aq.2]: (List Int))).bind fun bb=>(app 16 o.2.2.2.2 ([ah.1]: (List fJ))).bind fun bc=>some (aq.1,o.2.1,o.2.2.1,bb,bc):Option ((List cU)×(List Int)×(List Int)×(List Int)×(List fJ)))) (aa.1,aa.2.1,aa.2.2,p0_10,p0_11)).bind fun o=>some (o.1,o.2.1,o.2.2.1,o.2.2.2.1,o.2.2.2.2)
def gC (N:Nat) (p0:fz):Option (Option ((List (List aH))×(List aH)×(List cD)×(List dD)×(List (List aA))×(List aJ)×(List (List Int))×(List cU)×(List Int)×(List Int)×(List Int)×(List fJ))×Int):=
 bif ((p0.aI.length:Int)==0) then (some (none,9)) else (bif (decide ((p0.aI.length:Int)>16)) then (some (none,2)) else ((qX p0.aI.length (fun(al:Nat) (aa:Int)=>((idx p0.aI (al:Int)).bind fun ad=>(iI N ad).bind fun ae=>bif (ae != 0) then (some (.rt (none,ae))) else (some (.nx (IntKind.wrap .i64 (aa+ (ad.length:Int))))):Option (Fl (Int) (Option ((List (List aH))×(List aH)×(List cD)×(List dD)×(List (List aA))×(List aJ)×(List (List Int))×(List cU)×(List Int)×(List Int)×(List Int)×(List fJ))×Int)))) (p0.cQ.length:Int)).bind fun an=>an.cs (fun(aa:Int)=>(iI N p0.cQ).bind fun af=>bif (af != 0) then (some (none,af)) else (bif (decide (aa>2000)) then (some (none,2)) else ((jP N p0).bind fun ag=>bif (ag != 0) then (some (none,ag)) else ((jR N p0).bind fun ah=>bif (ah != 0) then (some (none,ah)) else ((qX p0.aQ.length (fun(ai:Nat) (ao:Unit)=>((idx p0.aQ (ai:Int)).bind fun eX=>(sO p0.aQ 0 (ai:Int)).bind fun aj=>(qX aj.length (fun(aq:Nat) (ar:Unit)=>((idx aj (aq:Int)).bind fun ab=>(bif ((decide (eX.cZ<=ab.To))&&(decide (ab.cZ<=eX.To))) then ((fH N eX).bind fun au=>(fH N ab).bind fun av=>(q9 N au av).bind fun aw=>some (aw==0)) else (some false)).bind fun ax=>bif ax then (some (.rt (none,12))) else (some (.nx ())):Option (Fl (Unit) (Option ((List (List aH))×(List aH)×(List cD)×(List dD)×(List (List aA))×(List aJ)×(List (List Int))×(List cU)×(List Int)×(List Int)×(List Int)×(List fJ))×Int)))) ()).bind fun ay=>ay.cs (fun(ar:Unit)=>some (.nx ())) (fun r=>some (.rt r)):Option (Fl (Unit) (Option ((List (List aH))×(List aH)×(List cD)×(List dD)×(List (List aA))×(List aJ)×(List (List Int))×(List cU)×(List Int)×(List Int)×(List Int)×(List fJ))×Int)))) ()).bind fun az=>az.cs (fun(ao:Unit)=>(ji N p0.aI p0.aQ ([]: (List (List aA))) ([]: (List aJ))).bind fun j=>bif (!j.1) then (some (none,2)) else ((jk N p0.aQ j.2.2 ([]: (List (List Int)))).bind fun ak=>(fF N p0.aQ p0.bL j.2.2 ak ([]: (List Int)) ([]: (List Int)) ([]: (List Int)) ([]: (List fJ))).bind fun o=>some (some (p0.aI,p0.cQ,p0.aQ,p0.bL,j.2.1,j.2.2,ak,o.1,o.2.1,o.2.2.1,o.2.2.2.1,o.2.2.2.2),0))) (fun r=>some r)))))) (fun r=>some r)))
def fC (N:Nat) (p0: (List dD)) (p1:fE) (p2:dD->fE->Option Int):Option (Int×Bool):=
 (jB (fun(j:Int×Int)=>(bif (decide (j.1<j.2)) then ((idx p0 (IntKind.wrap .i64 (Int.fdiv (IntKind.wrap .u64 (IntKind.wrap .i64 (j.1+j.2))) 2))).bind fun aa=>(p2 aa p1).bind fun ab=>(bif (decide (ab<0)) then (some ((IntKind.wrap .i64 ((IntKind.wrap .i64 (Int.fdiv (IntKind.wrap .u64 (IntKind.wrap .i64 (j.1+j.2))) 2))+1)),j.2)) else (some (j.1,(IntKind.wrap .i64 (Int.fdiv (IntKind.wrap .u64 (IntKind.wrap .i64 (j.1+j.2))) 2))))).bind fun o=>some (.nx (o.1,o.2))) else (some (.br (j.1,j.2))):Option (Fl (Int×Int) Empty))) N (0,(p0.length:Int))).bind fun ad=>ad.cs (fun(j:Int×Int)=>(bif (decide (j.1< (p0.length:Int))) then ((idx p0 j.1).bind fun ae=>(p2 ae p1).bind fun af=>some (af==0)) else (some false)).bind fun ag=>some (j.1,ag)) (fun r=>r.elim)
def hQ (N:Nat) (p0:dD) (p1:fE):Option (Int):=
 (kJ N p0).bind fun j=>(dT N j p1).bind fun o=>some o
def dZ (N:Nat) (p0:fz) (p1:fE):Option (Int):=
 (fC N p0.bL p1 (hQ N)).bind fun j=>bif (!j.2) then (some (-1)) else (some j.1)
def pH (N:Nat) (p0: (List Int)):Option (Int):=
 (qX p0.length (fun(o:Nat) (aa:Unit)=>((idx p0 (o:Int)).bind fun j=>bif (j != 0) then (some (.rt j)) else (some (.nx ())):Option (Fl (Unit) Int))) ()).bind fun ab=>ab.cs (fun(aa:Unit)=>some 0) (fun r=>some r)
def gv (N:Nat) (p0 p1:Test):Option (Int):=
 (dT N p0.A p1.A).bind fun j=>(dT N p0.B p1.B).bind fun o=>(pH N ([j,o]: (List Int))).bind fun aa=>some aa
def kL (N:Nat) (p0:fz) (p1: (List Test)):Option (Option ((List (List aH))×(List aH)×(List cD)×(List dD)×(List (List aA))×(List aJ)×(List (List Int))×(List cU)×(List Int)×(List Int)×(List Int)×(List fJ))×Int):=
 (gC N p0).bind fun o=>HT o.1 (bif (o.2 != 0) then (some (none,o.2)) else (bif (decide ((p1.length:Int)>2000)) then (some (none,2)) else ((qX p1.length (fun(ad:Nat) (af:Unit)=>((idx p1 (ad:Int)).bind fun aa=>((dZ N p0 aa.A).bind fun ag=>bif (decide (ag<0)) then (some true) else ((dZ N p0 aa.B).bind fun ah=>some (decide (ah<0)))).bind fun ai=>bif ai then (some (.rt (none,9))) else ((dT N aa.B aa.A).bind fun aj=>bif (decide (aj<=0)) then (some (.rt (none,8))) else ((bif (decide ((ad:Int)>0)) then ((idx p1 (IntKind.wrap .i64 ((ad:Int) - 1))).bind fun ak=>(gv N aa ak).bind fun al=>some (decide (al<=0))) else (some false)).bind fun an=>bif an then (some (.rt (none,8))) else (some (.nx ())))):Option (Fl (Unit) (Option ((List (List aH))×(List aH)×(List cD)×(List dD)×(List (List aA))×(List aJ)×(List (List Int))×(List cU)×(List Int)×(List Int)×(List Int)×(List fJ))×Int)))) ()).bind fun ao=>ao.cs (fun(af:Unit)=>some (none,0)) (fun r=>some r)))) (fun(j: ((List (List aH))×(List aH)×(List cD)×(List dD)×(List (List aA))×(List aJ)×(List (List Int))×(List cU)×(List Int)×(List Int)×(List Int)×(List fJ)))=>bif (o.2 != 0) then (some (none,o.2)) else (bif (decide ((p1.length:Int)>2000)) then (some (none,2)) else ((qX p1.length (fun(ae:Nat) (aq:Unit)=>((idx p1 (ae:Int)).bind fun ab=>((dZ N p0 ab.A).bind fun ar=>bif (decide (ar<0)) then (some true) else ((dZ N p0 ab.B).bind fun au=>some (decide (au<0)))).bind fun av=>bif av then (some (.rt (none,9))) else ((dT N ab.B ab.A).bind fun aw=>bif (decide (aw<=0)) then (some (.rt (none,8))) else ((bif (decide ((ae:Int)>0)) then ((idx p1 (IntKind.wrap .i64 ((ae:Int) - 1))).bind fun ax=>(gv N ab ax).bind fun ay=>some (decide (ay<=0))) else (some false)).bind fun az=>bif az then (some (.rt (none,8))) else (some (.nx ())))):Option (Fl (Unit) (Option ((List (List aH))×(List aH)×(List cD)×(List dD)×(List (List aA))×(List aJ)×(List (List Int))×(List cU)×(List Int)×(List Int)×(List Int)×(List fJ))×Int)))) ()).bind fun a0=>a0.cs (fun(aq:Unit)=>some (some (j.1,j.2.1,j.2.2.1,j.2.2.2.1,j.2.2.2.2.1,j.2.2.2.2.2.1,j.2.2.2.2.2.2.1,j.2.2.2.2.2.2.2.1,j.2.2.2.2.2.2.2.2.1,j.2.2.2.2.2.2.2.2.2.1,j.2.2.2.2.2.2.2.2.2.2.1,j.2.2.2.2.2.2.2.2.2.2.2),0)) (fun r=>some r))))
def fA (N:Nat) (p0:fz) (p1: (List Test)):Option (Int):=
 (kL N p0 p1).bind fun j=>HT j.1 (some j.2) (fun(o: ((List (List aH))×(List aH)×(List cD)×(List dD)×(List (List aA))×(List aJ)×(List (List Int))×(List cU)×(List Int)×(List Int)×(List Int)×(List fJ)))=>some j.2)
def il (N:Nat) (p0 p1 p2:Int):Option (Bool):=
 some ((decide (p0>=p1))&&(decide (p0<=p2)))
def hU (N:Nat) (p0:fz) (p1: (List Test)) (p2 p3:Int):Option (Int):=
 (fA N p0 p1).bind fun j=>bif (j != 0) then (some j) else (((il N p2 1 1000000).bind fun o=>bif (!o) then (some true) else ((il N p3 0 1000).bind fun aa=>some (!aa))).bind fun ab=>bif ab then (some 1) else (some 0))
def gw (N:Nat) (p0:fz) (p1:Test) (p2:Bool):Option (aX):=
 (dZ N p0 p1.A).bind fun ab=>(idx p0.bL ab).bind fun j=>(dZ N p0 p1.B).bind fun ad=>(idx p0.bL ad).bind fun o=>(bif p2 then (some (o.At,j.At)) else (some (j.At,o.At))).bind fun aa=>some (⟨aa.1,aa.2⟩:aX)
def m9 (N:Nat) (p0 p1:Int):Option (Int):=
 some (if (IntKind.wrap .i64 (p0 - p1))< (IntKind.wrap .i64 (p1 - p0)) then (IntKind.wrap .i64 (p1 - p0)) else (IntKind.wrap .i64 (p0 - p1)))
def iR (N:Nat) (p0 p1:aX) (p2:Int):Option (Int):=
 (jB (fun(j:Int×Int)=>(bif (decide (j.2<2)) then ((Jv 2 j.2).bind fun o=>(m9 N ((p0.gt o).X) ((p1.gt o).X)).bind fun aa=>(m9 N ((p0.gt o).Y) ((p1.gt o).Y)).bind fun ab=>some (.nx ((if (if j.1<aa then aa else j.1)<ab then ab else (if j.1<aa then aa else j.1)),(IntKind.wrap .i64 (j.2+1))))) else (some (.br (j.1,j.2))):Option (Fl (Int×Int) Empty))) N (0,0)).bind fun ad=>ad.cs (fun(j:Int×Int)=>(Mf p2).bind fun ae=>some (IntKind.wrap .i64 (Int.tdiv (IntKind.wrap .i64 ((IntKind.wrap .i64 (j.1+p2)) - 1)) p2))) (fun r=>r.elim)
def lU (N:Nat) (p0:fz) (p1: (List Test)) (p2 p3:Int):Option ((List Touch)×Int):=
 (hU N p0 p1 p2 p3).bind fun ai=>bif (ai != 0) then (some (([]: (List Touch)),ai)) else ((mk 16 (⟨0,0⟩:cE) (IntKind.wrap .i64 ((p1.length:Int)+1))).bind fun au=>(jB (fun(j: (List cE)×Int)=>(bif (decide (j.2>0)) then ((lF (([false,true]: (List Bool)).length) (fun(aj:Nat) (aa: (List cE))=>((idx ([false,true]: (List Bool)) (aj:Int)).bind fun av=>(idx p1 (IntKind.wrap .i64 (j.2 - 1))).bind fun aw=>(gw N p0 aw av).bind fun ak=>(idx p1 j.2).bind fun ax=>(gw N p0 ax false).bind fun ay=>(iR N ak ay p2).bind fun al=>(idx aa (IntKind.wrap .i64 (j.2+1))).bind fun an=>(idx p1 j.2).bind fun az=>(gw N p0 az true).bind fun a0=>(iR N ak a0 p2).bind fun ao=>(idx aa (IntKind.wrap .i64 (j.2+1))).bind fun aq=>(idx aa j.2).bind fun a1=>(Jv 2 (aj:Int)).bind fun a2=>some (aa.set (Int.toNat j.2) (a1.st a2 (if (IntKind.wrap .i64 (ao+aq.e1))< (IntKind.wrap .i64 (al+an.e0)) then (IntKind.wrap .i64 (ao+aq.e1)) else (IntKind.wrap .i64 (al+an.e0))))):Option ((List cE)))) j.1).bind fun aa=>some (.nx (aa,(IntKind.wrap .i64 (j.2 - 1))))) else (some (.br (j.1,j.2))):Option (Fl ((List cE)×Int) Empty))) N (au,(IntKind.wrap .i64 ((p1.length:Int) - 1)))).bind fun a3=>a3.cs (fun(j: (List cE)×Int)=>(lF p1.length (fun(ab:Nat) (o: (List Touch)×aX×Int)=>((idx p1 (ab:Int)).bind fun af=>(gw N p0 af false).bind fun a4=>(iR N o.2.1 a4 p2).bind fun ad=>(gw N p0 af true).bind fun a5=>(iR N o.2.1 a5 p2).bind fun ae=>(idx j.1 (IntKind.wrap .i64 ((ab:Int)+1))).bind fun ag=>(idx j.1 (IntKind.wrap .i64 ((ab:Int)+1))).bind fun ah=>(bif (decide ((IntKind.wrap .i64 (ae+ag.e1))< (IntKind.wrap .i64 (ad+ah.e0)))) then (some ae) else (some ad)).bind fun ar=>(gw N p0 af (decide ((IntKind.wrap .i64 (ae+ag.e1))< (IntKind.wrap .i64 (ad+ah.e0))))).bind fun a6=>(app 24 o.1 ([(⟨(ab:Int),(decide ((IntKind.wrap .i64 (ae+ag.e1))< (IntKind.wrap .i64 (ad+ah.e0)))),(IntKind.wrap .i64 (o.2.2+ (IntKind.wrap .i64 (ar+p3))))⟩:Touch)]: (List Touch))).bind fun a7=>some (a7,a6,(IntKind.wrap .i64 (o.2.2+ (IntKind.wrap .i64 (ar+p3))))):Option ((List Touch)×aX×Int))) (([]: (List Touch)),(⟨(⟨0,0⟩:bH),(⟨0,0⟩:bH)⟩:aX),0)).bind fun o=>some (o.1,0)) (fun r=>r.elim))
def iU (N:Nat) (p0:Int) (p1h_5: (List aJ)):Option (Bool):=
 (il N p0 0 (IntKind.wrap .i64 ((p1h_5.length:Int) - 1))).bind fun j=>some j
def ny (N:Nat) (p0: (List lK)) (p1:lK):Option (Int):=
 (qX p0.length (fun(j:Nat) (o:Unit)=>((idx p0 (j:Int)).bind fun aa=>bif (decide (p1=aa)) then (some (.rt (j:Int))) else (some (.nx ())):Option (Fl (Unit) Int))) ()).bind fun ab=>ab.cs (fun(o:Unit)=>some (-1)) (fun r=>some r)
def lV (N:Nat) (p0: (List lK)) (p1:lK):Option (Bool):=
 (ny N p0 p1).bind fun j=>some (decide (j>=0))
def mw (N:Nat) (p0_0: (List (List aH))) (p0_1: (List aH)) (p0_2: (List cD)) (p0_3: (List dD)) (p0_4: (List (List aA))) (p0_5: (List aJ)) (p0_6: (List (List Int))) (p0_7: (List cU)) (p0_8: (List Int)) (p0_9: (List Int)) (p0_10: (List Int)) (p0_11: (List fJ)) (p1: (List lK)):Option (Int):=
 bif (decide ((p1.length:Int)>20)) then (some 2) else ((qX p1.length (fun(o:Nat) (aa:Unit)=>((idx p1 (o:Int)).bind fun j=>(bif (j.Open&&((j.A != 0)||(j.B != 0))) then (some true) else (bif (!j.Open) then (some (!(decide (j.fJ= (⟨false,0⟩:fJ))))) else (some false))).bind fun ab=>bif ab then (some (.rt 3)) else (((iU N j.A p0_5).bind fun ad=>bif ad then ((iU N j.B p0_5).bind fun ae=>some ae) else (some false)).bind fun af=>(bif j.Open then ((iU N j.fJ.Number p0_5).bind fun ag=>some ag) else (some af)).bind fun ah=>(bif (j.Open&&j.fJ.cD) then (((il N j.fJ.Number 0 (IntKind.wrap .i64 ((p0_2.length:Int) - 1))).bind fun ai=>bif ai then ((idx p0_2 j.fJ.Number).bind fun aj=>some aj.iO) else (some false)).bind fun ak=>some ak) else (some ah)).bind fun al=>bif (!al) then (some (.rt 9)) else (bif ((!j.Open)&&(decide (j.B<=j.A))) then (some (.rt 8)) else ((sO p1 0 (o:Int)).bind fun an=>(lV N an j).bind fun ao=>bif ao then (some (.rt 7)) else (some (.nx ()))))):Option (Fl (Unit) Int))) ()).bind fun aq=>aq.cs (fun(aa:Unit)=>some 0) (fun r=>some r))
def jd (N:Nat) (p0:fJ) (p1:Int):Option (Int):=
 bif p0.cD then (some (IntKind.wrap .i64 (p1+p0.Number))) else (some p0.Number)
def ko (N:Nat) (p0 p1:Int) (p2_0: (List (Int×Bool))) (p3h_0: (List Int)):Option ((List Int)):=
 (bif (!(eJ p2_0 p0 (false:Bool))) then (some (!(eJ p2_0 p1 (false:Bool)))) else (some false)).bind fun j=>(bif j then ((dQ N p3h_0 p0 p1).bind fun o=>some o) else (some p3h_0)).bind fun aa=>some aa
def lq (N:Nat) (p0_2: (List cD)) (p0_3: (List dD)) (p0_5: (List aJ)) (p0_6: (List (List Int))) (p0_10: (List Int)) (p0_11: (List fJ)) (p1: (List lK)):Option ((List Int)):=
 (lF p1.length (fun(aq:Nat) (aa: (List (Int×Bool)))=>((idx p1 (aq:Int)).bind fun aj=>(bif aj.Open then ((jd N aj.fJ (p0_5.length:Int)).bind fun ar=>some (oO aa ar true)) else (some aa)).bind fun au=>some au:Option ((List (Int×Bool))))) ([]: (List (Int×Bool)))).bind fun aa=>(jc N (IntKind.wrap .i64 ((p0_5.length:Int)+ (p0_2.length:Int)))).bind fun av=>(lF p0_6.length (fun(ak:Nat) (ae: (List Int))=>((idx p0_6 (ak:Int)).bind fun al=>(lF al.length (fun(aw:Nat) (af: (List Int))=>((idx al (aw:Int)).bind fun ax=>(ko N ax (IntKind.wrap .i64 ((p0_5.length:Int)+ (ak:Int))) aa af).bind fun ay=>some ay:Option ((List Int)))) ae).bind fun af=>some af:Option ((List Int)))) av).bind fun ae=>(lF p1.length (fun(az:Nat) (ab: (List Int))=>((idx p1 (az:Int)).bind fun ag=>(bif (!ag.Open) then ((ko N ag.A ag.B aa ab).bind fun a0=>some a0) else (some ab)).bind fun a1=>some a1:Option ((List Int)))) ae).bind fun ab=>(mk 8 (0:Int) (p0_3.length:Int)).bind fun a2=>(lF p0_11.length (fun(o:Nat) (j: (List Int)×(List (Int×Int))×(List Int))=>((idx p0_11 (o:Int)).bind fun a3=>(jd N a3 (p0_5.length:Int)).bind fun ad=>((idx p0_10 (o:Int)).bind fun a4=>bif (decide (a4<0)) then (some true) else (some (eJ aa ad (false:Bool)))).bind fun a5=>bif a5 then ((idx j.2.2 (o:Int)).bind fun a6=>some (j.1,j.2.1,(j.2.2.set (Int.toNat (o:Int)) (-1)))) else ((dX N j.1 ad).bind fun ah=>(bif (!(kD j.2.1 ah.1)) then ((dX N ah.2 ad).bind fun an=>some (an.2,(oO j.2.1 an.1 (o:Int)))) else (some (ah.2,j.2.1))).bind fun ai=>(dX N ai.1 ad).bind fun ao=>(idx j.2.2 (o:Int)).bind fun a7=>some (ao.2,ai.2,(j.2.2.set (Int.toNat (o:Int)) (eJ ai.2 ao.1 (0:Int))))):Option ((List Int)×(List (Int×Int))×(List Int)))) (ab,([]: (List (Int×Int))),a2)).bind fun j=>some j.2.2
def iS (N:Nat) (p0:fz) (p1: (List lK)) (p2 p3:fE):Option (Bool×Int):=
 (gC N p0).bind fun o=>HT o.1 (bif (o.2 != 0) then (some (false,o.2)) else (none)) (fun(j: ((List (List aH))×(List aH)×(List cD)×(List dD)×(List (List aA))×(List aJ)×(List (List Int))×(List cU)×(List Int)×(List Int)×(List Int)×(List fJ)))=>bif (o.2 != 0) then (some (false,o.2)) else ((mw N j.1 j.2.1 j.2.2.1 j.2.2.2.1 j.2.2.2.2.1 j.2.2.2.2.2.1 j.2.2.2.2.2.2.1 j.2.2.2.2.2.2.2.1 j.2.2.2.2.2.2.2.2.1 j.2.2.2.2.2.2.2.2.2.1 j.2.2.2.2.2.2.2.2.2.2.1 j.2.2.2.2.2.2.2.2.2.2.2 p1).bind fun ad=>bif (ad != 0) then (some (false,ad)) else ((dZ N p0 p2).bind fun aa=>(dZ N p0 p3).bind fun ae=>bif ((decide (aa<0))||(decide (ae<0))) then (some (false,9)) else ((lq N j.2.2.1 j.2.2.2.1 j.2.2.2.2.2.1 j.2.2.2.2.2.2.1 j.2.2.2.2.2.2.2.2.2.2.1 j.2.2.2.2.2.2.2.2.2.2.2 p1).bind fun ab=>((idx ab aa).bind fun af=>bif (decide (af>=0)) then ((idx ab aa).bind fun ag=>(idx ab ae).bind fun ah=>some (ag==ah)) else (some false)).bind fun ai=>some (ai,0)))))
def fG (N:Nat):Option (Bool):=
 (iS N (⟨([([(⟨0,0,1,1⟩:aH)]: (List aH))]: (List (List aH))),([]: (List aH)),([]: (List cD)),([(⟨⟨[97]⟩,⟨[49]⟩,0,⟨0,0⟩⟩:dD)]: (List dD))⟩:fz) ([]: (List lK)) (⟨⟨[97]⟩,⟨[49]⟩⟩:fE) (⟨⟨[97]⟩,⟨[49]⟩⟩:fE)).bind fun j=>some ((j.2==0)&&j.1)
def mM (N:Nat) (p0:fz) (p1: (List Test)) (p2 p3:Int):Option ((List Touch)×Int):=
 (hU N p0 p1 p2 p3).bind fun ag=>bif (ag != 0) then (some (([]: (List Touch)),ag)) else ((mk 64 (⟨⟨⟨0,0⟩,⟨0,0⟩⟩,⟨⟨0,0⟩,⟨0,0⟩⟩⟩:bD) (p1.length:Int)).bind fun aj=>(lF p1.length (fun(ad:Nat) (ab: (List bD))=>((idx p1 (ad:Int)).bind fun ah=>(gw N p0 ah false).bind fun ak=>(gw N p0 ah true).bind fun al=>(idx ab (ad:Int)).bind fun ay=>some (ab.set (Int.toNat (ad:Int)) (⟨ak,al⟩:bD)):Option ((List bD)))) aj).bind fun ab=>(mk 1 (false:Bool) (p1.length:Int)).bind fun an=>(lF p1.length (fun(az:Nat) (aa: (List Bool)×(List Touch)×aX×Int)=>((lF p1.length (fun(ae:Nat) (o:Int×Int×Int)=>((jB (fun(j:Int×Int×Int×Int)=>(bif (decide (j.2.2.2<2)) then ((idx aa.1 (ae:Int)).bind fun ao=>bif ao then (some (.nx (j.1,j.2.1,j.2.2.1,(IntKind.wrap .i64 (j.2.2.2+1))))) else ((idx ab (ae:Int)).bind fun aq=>(Jv 2 j.2.2.2).bind fun ar=>(iR N aa.2.2.1 (aq.gt ar) p2).bind fun ai=>(bif ((decide (j.1<0))||(decide (ai<j.2.2.1))) then (some ((ae:Int),j.2.2.2,ai)) else (some (j.1,j.2.1,j.2.2.1))).bind fun af=>some (.nx (af.1,af.2.1,af.2.2,(IntKind.wrap .i64 (j.2.2.2+1)))))) else (some (.br (j.1,j.2.1,j.2.2.1,j.2.2.2))):Option (Fl (Int×Int×Int×Int) Empty))) N (o.1,o.2.1,o.2.2,0)).bind fun au=>au.cs (fun(j:Int×Int×Int×Int)=>some (j.1,j.2.1,j.2.2.1)) (fun r=>r.elim):Option (Int×Int×Int))) ((-1),0,0)).bind fun o=>(idx aa.1 o.1).bind fun a0=>(idx ab o.1).bind fun av=>(Jv 2 o.2.1).bind fun aw=>(app 24 aa.2.1 ([(⟨o.1,(o.2.1==1),(IntKind.wrap .i64 (aa.2.2.2+ (IntKind.wrap .i64 (o.2.2+p3))))⟩:Touch)]: (List Touch))).bind fun ax=>some ((aa.1.set (Int.toNat o.1) true),ax,av.gt aw,(IntKind.wrap .i64 (aa.2.2.2+ (IntKind.wrap .i64 (o.2.2+p3))))):Option ((List Bool)×(List Touch)×aX×Int))) (an,([]: (List Touch)),(⟨(⟨0,0⟩:bH),(⟨0,0⟩:bH)⟩:aX),0)).bind fun aa=>some (aa.2.1,0))
def lW (N:Nat) (p0:fz) (p1: (List Test)) (p2: (List Touch)) (p3 p4:Int):Option (Int×Int):=
 (hU N p0 p1 p3 p4).bind fun ad=>bif (ad != 0) then (some (0,ad)) else ((mk 1 (false:Bool) (p1.length:Int)).bind fun ag=>(qX p2.length (fun(ah:Nat) (o: (List Bool))=>((idx p2 (ah:Int)).bind fun aa=>((il N aa.Test 0 (IntKind.wrap .i64 ((p1.length:Int) - 1))).bind fun ai=>bif (!ai) then (some true) else ((idx o aa.Test).bind fun aj=>some aj)).bind fun ak=>bif ak then (some (.rt (0,3))) else ((idx o aa.Test).bind fun ar=>some (.nx (o.set (Int.toNat aa.Test) true))):Option (Fl ((List Bool)) (Int×Int)))) ag).bind fun al=>al.cs (fun(o: (List Bool))=>bif ((p2.length:Int) != (p1.length:Int)) then (some (0,3)) else ((qX p2.length (fun(an:Nat) (j:aX×Int)=>((idx p2 (an:Int)).bind fun ab=>(idx p1 ab.Test).bind fun ao=>(gw N p0 ao ab.nW).bind fun ae=>(iR N j.1 ae p3).bind fun af=>bif (ab.qy != (IntKind.wrap .i64 (j.2+ (IntKind.wrap .i64 (af+p4))))) then (some (.rt (0,12))) else (some (.nx (ae,(IntKind.wrap .i64 (j.2+ (IntKind.wrap .i64 (af+p4))))))):Option (Fl (aX×Int) (Int×Int)))) ((⟨(⟨0,0⟩:bH),(⟨0,0⟩:bH)⟩:aX),0)).bind fun aq=>aq.cs (fun(j:aX×Int)=>some (j.2,0)) (fun r=>some r))) (fun r=>some r))
def dF (N:Nat) (p0:fz) (p1: (List Test)) (p2: (List Touch)) (p3 p4:Int):Option (Bool):=
 (lU N p0 p1 p3 p4).bind fun o=>bif (o.2 != 0) then ((bif ((o.1.length:Int)==0) then ((fG N).bind fun ae=>some ae) else (some false)).bind fun af=>some af) else ((mM N p0 p1 p3 p4).bind fun aa=>(lW N p0 p1 o.1 p3 p4).bind fun ab=>(lW N p0 p1 aa.1 p3 p4).bind fun ag=>bif (((aa.2 != 0)||(ab.2 != 0))||(ag.2 != 0)) then (some false) else ((lW N p0 p1 p2 p3 p4).bind fun ad=>(jB (fun(j:Int)=>(bif (decide (j< (p2.length:Int))) then ((idx p2 j).bind fun ah=>bif (ah.Test != j) then ((fG N).bind fun ai=>some (.rt ai)) else (some (.nx (IntKind.wrap .i64 (j+1))))) else (some (.br j)):Option (Fl (Int) Bool))) N 0).bind fun aj=>aj.cs (fun(j:Int)=>(bif ((ad.2 != 0)||(decide (ab.1<=ad.1))) then ((fG N).bind fun ak=>some ak) else (some false)).bind fun al=>some al) (fun r=>some r)))
def tq (N:Nat) (p0 p1 p2:Int):Option (Bool):=
 some ((decide (p0>=p1))&&(decide (p0<=p2)))
def cL (N:Nat) (p0:Int):Option (Bool):=
 (tq N p0 (-1000000) 1000000).bind fun j=>some j
def j8 (N:Nat) (p0: (List aH)):Option (Int):=
 bif (decide ((p0.length:Int)>2000)) then (some 2) else ((jB (fun(o:Int)=>(bif (decide (o< (p0.length:Int))) then ((idx p0 o).bind fun j=>((cL N j.X0).bind fun aa=>bif (!aa) then (some true) else ((cL N j.Y0).bind fun ab=>bif (!ab) then (some true) else ((cL N j.X1).bind fun ad=>bif (!ad) then (some true) else ((cL N j.Y1).bind fun ae=>some (!ae))))).bind fun af=>bif af then (some (.rt 1)) else (bif ((decide (j.X1<=j.X0))||(decide (j.Y1<=j.Y0))) then (some (.rt 13)) else (some (.nx (IntKind.wrap .i64 (o+1)))))) else (some (.br o)):Option (Fl (Int) Int))) N 0).bind fun ag=>ag.cs (fun(o:Int)=>some 0) (fun r=>some r))
def jS (N:Nat) (p0 p1:aH):Option (Bool):=
 some ((decide (p0.Y0<p1.Y0))||((p0.Y0==p1.Y0)&&(decide (p0.X0<p1.X0))))
def fW (N:Nat) (p0: (List Int)) (p1:Int):Option ((List Int)):=
 (jB (fun(j:Int×Int)=>(bif (decide (j.1<j.2)) then ((idx p0 (IntKind.wrap .i64 (Int.tdiv (IntKind.wrap .i64 (j.1+j.2)) 2))).bind fun aa=>(bif (decide (aa<p1)) then (some ((IntKind.wrap .i64 ((IntKind.wrap .i64 (Int.tdiv (IntKind.wrap .i64 (j.1+j.2)) 2))+1)),j.2)) else (some (j.1,(IntKind.wrap .i64 (Int.tdiv (IntKind.wrap .i64 (j.1+j.2)) 2))))).bind fun o=>some (.nx (o.1,o.2))) else (some (.br (j.1,j.2))):Option (Fl (Int×Int) Empty))) N (0,(p0.length:Int))).bind fun ab=>ab.cs (fun(j:Int×Int)=>(bif (decide (j.1< (p0.length:Int))) then ((idx p0 j.1).bind fun ad=>some (ad==p1)) else (some false)).bind fun ae=>bif ae then (some p0) else ((sO p0 0 j.1).bind fun af=>(app 8 ([]: (List Int)) af).bind fun ag=>(app 8 ag ([p1]: (List Int))).bind fun ah=>(sO p0 j.1 (p0.length:Int)).bind fun ai=>(app 8 ah ai).bind fun aj=>some aj)) (fun r=>r.elim)
def ju (N:Nat) (p0: (List aH)):Option ((List Int)):=
 (jB (fun(j: (List Int)×Int)=>(bif (decide (j.2< (p0.length:Int))) then ((idx p0 j.2).bind fun o=>(idx p0 j.2).bind fun aa=>(fW N j.1 o.Y0).bind fun ab=>(fW N ab aa.Y1).bind fun ad=>some (.nx (ad,(IntKind.wrap .i64 (j.2+1))))) else (some (.br (j.1,j.2))):Option (Fl ((List Int)×Int) Empty))) N (([]: (List Int)),0)).bind fun ae=>ae.cs (fun(j: (List Int)×Int)=>some j.1) (fun r=>r.elim)
def jT (N:Nat) (p0: (List aK)) (p1:aK):Option ((List aK)):=
 (jB (fun(o: (List aK)×Int)=>((bif (decide (o.2< (p0.length:Int))) then ((idx p0 o.2).bind fun ad=>some (decide (ad.to<p1.from_))) else (some false)).bind fun ae=>bif ae then ((idx p0 o.2).bind fun af=>(app 16 o.1 ([af]: (List aK))).bind fun ag=>some (.nx (ag,(IntKind.wrap .i64 (o.2+1))))) else (some (.br (o.1,o.2))):Option (Fl ((List aK)×Int) Empty))) N (([]: (List aK)),0)).bind fun ah=>ah.cs (fun(o: (List aK)×Int)=>(jB (fun(j:aK×Int)=>((bif (decide (j.2< (p0.length:Int))) then ((idx p0 j.2).bind fun ai=>some (decide (ai.from_<=j.1.to))) else (some false)).bind fun aj=>bif aj then ((idx p0 j.2).bind fun aa=>(idx p0 j.2).bind fun ab=>some (.nx ({{j.1 with from_:=(if aa.from_<j.1.from_ then aa.from_ else j.1.from_)} with to:=(if j.1.to<ab.to then ab.to else j.1.to)},(IntKind.wrap .i64 (j.2+1))))) else (some (.br (j.1,j.2))):Option (Fl (aK×Int) Empty))) N (p1,o.2)).bind fun ak=>ak.cs (fun(j:aK×Int)=>(app 16 o.1 ([j.1]: (List aK))).bind fun eX=>(sO p0 j.2 (p0.length:Int)).bind fun al=>(app 16 eX al).bind fun an=>some an) (fun r=>r.elim)) (fun r=>r.elim)
def jU (N:Nat) (p0: (List aH)) (p1:Int):Option ((List aK)):=
 (jB (fun(j: (List aK)×Int)=>(bif (decide (j.2< (p0.length:Int))) then (((idx p0 j.2).bind fun o=>bif (decide (o.Y0<=p1)) then ((idx p0 j.2).bind fun aa=>some (decide (p1<aa.Y1))) else (some false)).bind fun ab=>(bif ab then ((idx p0 j.2).bind fun ad=>(idx p0 j.2).bind fun ae=>(jT N j.1 (⟨ad.X0,ae.X1⟩:aK)).bind fun af=>some af) else (some j.1)).bind fun ag=>some (.nx (ag,(IntKind.wrap .i64 (j.2+1))))) else (some (.br (j.1,j.2))):Option (Fl ((List aK)×Int) Empty))) N (([]: (List aK)),0)).bind fun ah=>ah.cs (fun(j: (List aK)×Int)=>some j.1) (fun r=>r.elim)
def na (N:Nat) (p0: (List aK)) (p1: (List aK)):Option (Bool):=
 bif ((p0.length:Int) != (p1.length:Int)) then (some false) else ((jB (fun(j:Int)=>(bif (decide (j< (p0.length:Int))) then ((idx p0 j).bind fun o=>(idx p1 j).bind fun aa=>bif (!(decide (o=aa))) then (some (.rt false)) else (some (.nx (IntKind.wrap .i64 (j+1))))) else (some (.br j)):Option (Fl (Int) Bool))) N 0).bind fun ab=>ab.cs (fun(j:Int)=>some true) (fun r=>some r))
def gX (N:Nat) (p0: (List bA)) (p1:bA):Option ((List bA)):=
 bif ((p1.ki.length:Int)==0) then (some p0) else ((bif (decide ((p0.length:Int)>0)) then ((idx p0 (IntKind.wrap .i64 ((p0.length:Int) - 1))).bind fun j=>bif (j.to==p1.from_) then ((idx p0 (IntKind.wrap .i64 ((p0.length:Int) - 1))).bind fun o=>(na N o.ki p1.ki).bind fun aa=>some aa) else (some false)) else (some false)).bind fun ab=>bif ab then ((idx p0 (IntKind.wrap .i64 ((p0.length:Int) - 1))).bind fun ad=>some (p0.set (Int.toNat (IntKind.wrap .i64 ((p0.length:Int) - 1))) ({ad with to:=p1.to}))) else ((app 40 p0 ([p1]: (List bA))).bind fun ae=>some ae))
def kM (N:Nat) (p0: (List bA)):Option ((List aH)):=
 (jB (fun(j: (List aH)×Int)=>(bif (decide (j.2< (p0.length:Int))) then ((jB (fun(o: (List aH)×Int)=>((idx p0 j.2).bind fun aa=>bif (decide (o.2< (aa.ki.length:Int))) then ((idx p0 j.2).bind fun ab=>(idx ab.ki o.2).bind fun ad=>(idx p0 j.2).bind fun ae=>(idx p0 j.2).bind fun af=>(idx af.ki o.2).bind fun ag=>(idx p0 j.2).bind fun ah=>(app 32 o.1 ([(⟨ad.from_,ae.from_,ag.to,ah.to⟩:aH)]: (List aH))).bind fun ai=>some (.nx (ai,(IntKind.wrap .i64 (o.2+1))))) else (some (.br (o.1,o.2))):Option (Fl ((List aH)×Int) Empty))) N (j.1,0)).bind fun aj=>aj.cs (fun(o: (List aH)×Int)=>some (.nx (o.1,(IntKind.wrap .i64 (j.2+1))))) (fun r=>r.elim)) else (some (.br (j.1,j.2))):Option (Fl ((List aH)×Int) Empty))) N (([]: (List aH)),0)).bind fun ak=>ak.cs (fun(j: (List aH)×Int)=>some j.1) (fun r=>r.elim)
def gD (N:Nat) (p0: (List aH)):Option ((List aH)):=
 (ju N p0).bind fun o=>(jB (fun(j: (List bA)×Int)=>(bif (decide (j.2< (o.length:Int))) then ((idx o (IntKind.wrap .i64 (j.2 - 1))).bind fun aa=>(idx o j.2).bind fun ab=>(idx o (IntKind.wrap .i64 (j.2 - 1))).bind fun ad=>(jU N p0 ad).bind fun ae=>(gX N j.1 (⟨aa,ab,ae⟩:bA)).bind fun af=>some (.nx (af,(IntKind.wrap .i64 (j.2+1))))) else (some (.br (j.1,j.2))):Option (Fl ((List bA)×Int) Empty))) N (([]: (List bA)),1)).bind fun ag=>ag.cs (fun(j: (List bA)×Int)=>(kM N j.1).bind fun ah=>some ah) (fun r=>r.elim)
def nb (N:Nat) (p0: (List aH)) (p1: (List aH)):Option (Bool):=
 bif ((p0.length:Int) != (p1.length:Int)) then (some false) else ((jB (fun(j:Int)=>(bif (decide (j< (p0.length:Int))) then ((idx p0 j).bind fun o=>(idx p1 j).bind fun aa=>bif (!(decide (o=aa))) then (some (.rt false)) else (some (.nx (IntKind.wrap .i64 (j+1))))) else (some (.br j)):Option (Fl (Int) Bool))) N 0).bind fun ab=>ab.cs (fun(j:Int)=>some true) (fun r=>some r))
def gV (N:Nat) (p0: (List aH)):Option (Int):=
 (j8 N p0).bind fun o=>bif (o != 0) then (some o) else ((jB (fun(j:Int)=>(bif (decide (j< (p0.length:Int))) then ((idx p0 (IntKind.wrap .i64 (j - 1))).bind fun aa=>(idx p0 j).bind fun ab=>(jS N aa ab).bind fun ad=>bif (!ad) then (some (.rt 8)) else (some (.nx (IntKind.wrap .i64 (j+1))))) else (some (.br j)):Option (Fl (Int) Int))) N 1).bind fun ae=>ae.cs (fun(j:Int)=>(gD N p0).bind fun af=>(nb N p0 af).bind fun ag=>bif (!ag) then (some 3) else (some 0)) (fun r=>some r))
def eK (N:Nat) (p0 p1 p2:Int):Option (Bool):=
 some ((decide (p0>=p1))&&(decide (p0<=p2)))
def gY (N:Nat) (p0:bH):Option (Bool):=
 ((cL N p0.X).bind fun j=>bif j then ((cL N p0.Y).bind fun o=>some o) else (some false)).bind fun aa=>some aa
def dL (N:Nat) (p0:cD):Option (aH):=
 some (⟨(IntKind.wrap .i64 (p0.At.X - (IntKind.wrap .i64 (Int.tdiv p0.eP 2)))),(IntKind.wrap .i64 (p0.At.Y - (IntKind.wrap .i64 (Int.tdiv p0.eP 2)))),(IntKind.wrap .i64 ((IntKind.wrap .i64 (p0.At.X - (IntKind.wrap .i64 (Int.tdiv p0.eP 2))))+p0.eP)),(IntKind.wrap .i64 ((IntKind.wrap .i64 (p0.At.Y - (IntKind.wrap .i64 (Int.tdiv p0.eP 2))))+p0.eP))⟩:aH)
def jD (N:Nat) (p0:cD):Option (Int):=
 ((eK N p0.eP 1 10000).bind fun o=>bif (!o) then (some true) else ((gY N p0.At).bind fun aa=>some (!aa))).bind fun ab=>bif ab then (some 1) else ((dL N p0).bind fun j=>((cL N j.X0).bind fun ad=>bif (!ad) then (some true) else ((cL N j.Y0).bind fun ae=>bif (!ae) then (some true) else ((cL N j.X1).bind fun af=>bif (!af) then (some true) else ((cL N j.Y1).bind fun ag=>some (!ag))))).bind fun ah=>bif ah then (some 1) else (some 0))
def iz (N:Nat) (p0:dO):Option (Bool):=
 (jB (fun(o:Int)=>(bif (decide (o< (p0.cP.length:Int))) then ((EJ p0 o).bind fun j=>(bif (!((((decide ((j.toNat:Int)>=97))&&(decide ((j.toNat:Int)<=122)))||((decide ((j.toNat:Int)>=65))&&(decide ((j.toNat:Int)<=90))))||((decide ((j.toNat:Int)>=48))&&(decide ((j.toNat:Int)<=57))))) then ((fV N (⟨[95,43,45,35]⟩) (j.toNat:Int)).bind fun aa=>some (decide (aa<0))) else (some false)).bind fun ab=>bif ab then (some (.rt false)) else (some (.nx (IntKind.wrap .i64 (o+1))))) else (some (.br o)):Option (Fl (Int) Bool))) N 0).bind fun ad=>ad.cs (fun(o:Int)=>(eK N (p0.cP.length:Int) 1 40).bind fun ae=>some ae) (fun r=>some r)
def lX (N:Nat) (p0:dO):Option (Bool):=
 (ll N p0 (⟨[47]⟩)).bind fun o=>(jB (fun(j:Int)=>(bif (decide (j< (o.length:Int))) then ((idx o j).bind fun aa=>(iz N aa).bind fun ab=>bif (!ab) then (some (.rt false)) else (some (.nx (IntKind.wrap .i64 (j+1))))) else (some (.br j)):Option (Fl (Int) Bool))) N 0).bind fun ad=>ad.cs (fun(j:Int)=>some (decide ((p0.cP.length:Int)<=200))) (fun r=>some r)
def kp (N:Nat) (p0:fz) (p1:Int):Option (Int):=
 (idx p0.bL p1).bind fun j=>((lX N j.Part).bind fun aa=>bif (!aa) then (some true) else ((iz N j.fE).bind fun ab=>some (!ab))).bind fun ad=>bif ad then (some 5) else (((eK N j.eV 0 (IntKind.wrap .i64 ((p0.aI.length:Int) - 1))).bind fun ae=>bif (!ae) then (some true) else ((gY N j.At).bind fun af=>some (!af))).bind fun ag=>bif ag then (some 1) else (bif (decide (p1>0)) then ((idx p0.bL (IntKind.wrap .i64 (p1 - 1))).bind fun o=>bif ((j.Part.HE o.Part)||((j.Part.BO o.Part)&&(j.fE.HE o.fE||j.fE.BO o.fE))) then (some 8) else (some 0)) else (some 0)))
def j9 (N:Nat) (p0:fz):Option (Int):=
 bif ((p0.aI.length:Int)==0) then (some 9) else (bif (decide ((p0.aI.length:Int)>16)) then (some 2) else ((jB (fun(j:Int×Int)=>(bif (decide (j.2< (p0.aI.length:Int))) then ((idx p0.aI j.2).bind fun ah=>(gV N ah).bind fun ad=>bif (ad != 0) then (some (.rt ad)) else ((idx p0.aI j.2).bind fun ai=>some (.nx ((IntKind.wrap .i64 (j.1+ (ai.length:Int))),(IntKind.wrap .i64 (j.2+1)))))) else (some (.br (j.1,j.2))):Option (Fl (Int×Int) Int))) N ((p0.cQ.length:Int),0)).bind fun aj=>aj.cs (fun(j:Int×Int)=>(gV N p0.cQ).bind fun ae=>bif (ae != 0) then (some ae) else ((bif (decide (j.1>2000)) then (some true) else (some (decide ((p0.aQ.length:Int)>500)))).bind fun ak=>bif ak then (some 2) else ((jB (fun(o:Int)=>(bif (decide (o< (p0.aQ.length:Int))) then ((idx p0.aQ o).bind fun ab=>(jD N ab).bind fun af=>bif (af != 0) then (some (.rt af)) else (((eK N ab.cZ 0 (IntKind.wrap .i64 ((p0.aI.length:Int) - 1))).bind fun al=>bif (!al) then (some true) else ((eK N ab.To ab.cZ (IntKind.wrap .i64 ((p0.aI.length:Int) - 1))).bind fun an=>some (!an))).bind fun ao=>bif ao then (some (.rt 1)) else (some (.nx (IntKind.wrap .i64 (o+1)))))) else (some (.br o)):Option (Fl (Int) Int))) N 0).bind fun aq=>aq.cs (fun(o:Int)=>bif (decide ((p0.bL.length:Int)>1000)) then (some 2) else ((jB (fun(aa:Int)=>(bif (decide (aa< (p0.bL.length:Int))) then ((kp N p0 aa).bind fun ag=>bif (ag != 0) then (some (.rt ag)) else (some (.nx (IntKind.wrap .i64 (aa+1))))) else (some (.br aa)):Option (Fl (Int) Int))) N 0).bind fun ar=>ar.cs (fun(aa:Int)=>some 0) (fun r=>some r))) (fun r=>some r)))) (fun r=>some r)))
def jV (N:Nat) (p0 p1:cD):Option (Bool):=
 some ((decide (p0.cZ<=p1.To))&&(decide (p1.cZ<=p0.To)))
def gZ (N:Nat) (p0 p1:aH):Option (Bool):=
 (bif (decide ((if p1.X1<p0.X1 then p1.X1 else p0.X1)> (if p0.X0<p1.X0 then p1.X0 else p0.X0))) then (some (decide ((if p1.Y1<p0.Y1 then p1.Y1 else p0.Y1)> (if p0.Y0<p1.Y0 then p1.Y0 else p0.Y0)))) else (some false)).bind fun j=>some j
def nQ (N:Nat) (p0:cD) (p1:Int):Option (Bool):=
 some ((decide (p0.cZ<=p1))&&(decide (p1<=p0.To)))
def jW (N:Nat) (p0: (List aK)) (p1:Int):Option (Bool):=
 (jB (fun(j:Int)=>(bif (decide (j< (p0.length:Int))) then (((idx p0 j).bind fun o=>bif (decide (o.from_<=p1)) then ((idx p0 j).bind fun aa=>some (decide (p1<aa.to))) else (some false)).bind fun ab=>bif ab then (some (.rt true)) else (some (.nx (IntKind.wrap .i64 (j+1))))) else (some (.br j)):Option (Fl (Int) Bool))) N 0).bind fun ad=>ad.cs (fun(j:Int)=>some false) (fun r=>some r)
def mE (N:Nat) (p0: (List aK)) (p1: (List aK)) (p2:Int):Option ((List aK)):=
 (jB (fun(aa: (List Int)×Int)=>(bif (decide (aa.2< (p0.length:Int))) then ((idx p0 aa.2).bind fun ae=>(idx p0 aa.2).bind fun af=>(fW N aa.1 ae.from_).bind fun ag=>(fW N ag af.to).bind fun ah=>some (.nx (ah,(IntKind.wrap .i64 (aa.2+1))))) else (some (.br (aa.1,aa.2))):Option (Fl ((List Int)×Int) Empty))) N (([]: (List Int)),0)).bind fun ai=>ai.cs (fun(aa: (List Int)×Int)=>(jB (fun(j: (List Int)×Int)=>(bif (decide (j.2< (p1.length:Int))) then ((idx p1 j.2).bind fun aj=>(idx p1 j.2).bind fun ak=>(fW N j.1 aj.from_).bind fun al=>(fW N al ak.to).bind fun an=>some (.nx (an,(IntKind.wrap .i64 (j.2+1))))) else (some (.br (j.1,j.2))):Option (Fl ((List Int)×Int) Empty))) N (aa.1,0)).bind fun ao=>ao.cs (fun(j: (List Int)×Int)=>(jB (fun(o: (List aK)×Int)=>(bif (decide (o.2< (j.1.length:Int))) then ((idx j.1 (IntKind.wrap .i64 (o.2 - 1))).bind fun aq=>(idx j.1 (IntKind.wrap .i64 (o.2 - 1))).bind fun ar=>(jW N p0 aq).bind fun ab=>(jW N p1 ar).bind fun ad=>(bif ((((p2==1)&&(ab||ad))||(((p2==2)&&ab)&&ad))||(((p2==3)&&ab)&&(!ad))) then ((idx j.1 (IntKind.wrap .i64 (o.2 - 1))).bind fun au=>(idx j.1 o.2).bind fun av=>(jT N o.1 (⟨au,av⟩:aK)).bind fun aw=>some aw) else (some o.1)).bind fun ax=>some (.nx (ax,(IntKind.wrap .i64 (o.2+1))))) else (some (.br (o.1,o.2))):Option (Fl ((List aK)×Int) Empty))) N (([]: (List aK)),1)).bind fun ay=>ay.cs (fun(o: (List aK)×Int)=>some o.1) (fun r=>r.elim)) (fun r=>r.elim)) (fun r=>r.elim)
def i5 (N:Nat) (p0: (List aH)) (p1: (List aH)) (p2:Int):Option ((List aH)):=
 (app 32 ([]: (List aH)) p0).bind fun aa=>(app 32 aa p1).bind fun ab=>(ju N ab).bind fun o=>(jB (fun(j: (List bA)×Int)=>(bif (decide (j.2< (o.length:Int))) then ((idx o (IntKind.wrap .i64 (j.2 - 1))).bind fun ad=>(idx o j.2).bind fun ae=>(idx o (IntKind.wrap .i64 (j.2 - 1))).bind fun af=>(idx o (IntKind.wrap .i64 (j.2 - 1))).bind fun ag=>(jU N p0 af).bind fun ah=>(jU N p1 ag).bind fun ai=>(mE N ah ai p2).bind fun aj=>(gX N j.1 (⟨ad,ae,aj⟩:bA)).bind fun ak=>some (.nx (ak,(IntKind.wrap .i64 (j.2+1))))) else (some (.br (j.1,j.2))):Option (Fl ((List bA)×Int) Empty))) N (([]: (List bA)),1)).bind fun al=>al.cs (fun(j: (List bA)×Int)=>(kM N j.1).bind fun an=>some an) (fun r=>r.elim)
def nR (N:Nat) (p0: (List aH)) (p1: (List aH)):Option ((List aH)):=
 (i5 N p0 p1 3).bind fun j=>some j
def kq (N:Nat) (p0:fz) (p1:Int):Option ((List aH)):=
 (jB (fun(j: (List aH)×Int)=>(bif (decide (j.2< (p0.aQ.length:Int))) then ((idx p0.aQ j.2).bind fun o=>(nQ N o p1).bind fun aa=>(bif aa then ((idx p0.aQ j.2).bind fun ab=>(dL N ab).bind fun ad=>(app 32 j.1 ([ad]: (List aH))).bind fun ae=>some ae) else (some j.1)).bind fun af=>some (.nx (af,(IntKind.wrap .i64 (j.2+1))))) else (some (.br (j.1,j.2))):Option (Fl ((List aH)×Int) Empty))) N (([]: (List aH)),0)).bind fun ag=>ag.cs (fun(j: (List aH)×Int)=>(idx p0.aI p1).bind fun ah=>(gD N j.1).bind fun ai=>(nR N ah ai).bind fun aj=>some aj) (fun r=>r.elim)
def kd (N:Nat) (p0 p1:aH):Option (Bool):=
 some (((decide ((IntKind.wrap .i64 ((if p1.X1<p0.X1 then p1.X1 else p0.X1) - (if p0.X0<p1.X0 then p1.X0 else p0.X0)))>0))&&(decide ((IntKind.wrap .i64 ((if p1.Y1<p0.Y1 then p1.Y1 else p0.Y1) - (if p0.Y0<p1.Y0 then p1.Y0 else p0.Y0)))>=0)))||((decide ((IntKind.wrap .i64 ((if p1.X1<p0.X1 then p1.X1 else p0.X1) - (if p0.X0<p1.X0 then p1.X0 else p0.X0)))>=0))&&(decide ((IntKind.wrap .i64 ((if p1.Y1<p0.Y1 then p1.Y1 else p0.Y1) - (if p0.Y0<p1.Y0 then p1.Y0 else p0.Y0)))>0))))
def lY (N:Nat) (p0: (List (List aH))) (p1: (List aH)):Option ((List (List aH))):=
 (jB (fun(j:Int)=>((bif (decide (j>0)) then ((idx p1 0).bind fun o=>(idx p0 (IntKind.wrap .i64 (j - 1))).bind fun aa=>(idx aa 0).bind fun ab=>(jS N o ab).bind fun ad=>some ad) else (some false)).bind fun ae=>bif ae then (some (.nx (IntKind.wrap .i64 (j - 1)))) else (some (.br j)):Option (Fl (Int) Empty))) N (p0.length:Int)).bind fun af=>af.cs (fun(j:Int)=>(sO p0 0 j).bind fun ag=>(app 24 ([]: (List (List aH))) ag).bind fun ah=>(app 24 ah ([p1]: (List (List aH)))).bind fun ai=>(sO p0 j (p0.length:Int)).bind fun aj=>(app 24 ai aj).bind fun ak=>some ak) (fun r=>r.elim)
def i6 (N:Nat) (p0: (List aH)):Option ((List (List aH))):=
 (mk 1 (false:Bool) (p0.length:Int)).bind fun ad=>(jB (fun(o: (List Bool)×(List (List aH))×Int)=>(bif (decide (o.2.2< (p0.length:Int))) then ((idx o.1 o.2.2).bind fun ae=>bif ae then (some (.nx (o.1,o.2.1,(IntKind.wrap .i64 (o.2.2+1))))) else ((idx o.1 o.2.2).bind fun aw=>(idx p0 o.2.2).bind fun af=>(jB (fun(aa: (List Bool)×(List aH)×Int)=>(bif (decide (aa.2.2< (aa.2.1.length:Int))) then ((jB (fun(j: (List Bool)×(List aH)×Int)=>(bif (decide (j.2.2< (p0.length:Int))) then (((idx j.1 j.2.2).bind fun ag=>bif (!ag) then ((idx j.2.1 aa.2.2).bind fun ah=>(idx p0 j.2.2).bind fun ai=>(kd N ah ai).bind fun aj=>some aj) else (some false)).bind fun ak=>(bif ak then ((idx j.1 j.2.2).bind fun ax=>(idx p0 j.2.2).bind fun al=>(app 32 j.2.1 ([al]: (List aH))).bind fun an=>some ((j.1.set (Int.toNat j.2.2) true),an)) else (some (j.1,j.2.1))).bind fun ab=>some (.nx (ab.1,ab.2,(IntKind.wrap .i64 (j.2.2+1))))) else (some (.br (j.1,j.2.1,j.2.2))):Option (Fl ((List Bool)×(List aH)×Int) Empty))) N (aa.1,aa.2.1,0)).bind fun ao=>ao.cs (fun(j: (List Bool)×(List aH)×Int)=>some (.nx (j.1,j.2.1,(IntKind.wrap .i64 (aa.2.2+1))))) (fun r=>r.elim)) else (some (.br (aa.1,aa.2.1,aa.2.2))):Option (Fl ((List Bool)×(List aH)×Int) Empty))) N ((o.1.set (Int.toNat o.2.2) true),([af]: (List aH)),0)).bind fun aq=>aq.cs (fun(aa: (List Bool)×(List aH)×Int)=>(gD N aa.2.1).bind fun ar=>(lY N o.2.1 ar).bind fun au=>some (.nx (aa.1,au,(IntKind.wrap .i64 (o.2.2+1))))) (fun r=>r.elim))) else (some (.br (o.1,o.2.1,o.2.2))):Option (Fl ((List Bool)×(List (List aH))×Int) Empty))) N (ad,([]: (List (List aH))),0)).bind fun av=>av.cs (fun(o: (List Bool)×(List (List aH))×Int)=>some o.2.1) (fun r=>r.elim)
def gO (N:Nat) (p0:fz):Option (Int):=
 (j9 N p0).bind fun ab=>bif (ab != 0) then (some ab) else ((jB (fun(o:Int)=>(bif (decide (o< (p0.aQ.length:Int))) then ((jB (fun(aa:Int)=>(bif (decide (aa<o)) then (((idx p0.aQ o).bind fun ae=>(idx p0.aQ aa).bind fun af=>(jV N ae af).bind fun ag=>bif ag then ((idx p0.aQ o).bind fun ah=>(idx p0.aQ aa).bind fun ai=>(dL N ah).bind fun aj=>(dL N ai).bind fun ak=>(gZ N aj ak).bind fun al=>some al) else (some false)).bind fun an=>bif an then (some (.rt 12)) else (some (.nx (IntKind.wrap .i64 (aa+1))))) else (some (.br aa)):Option (Fl (Int) Int))) N 0).bind fun ao=>ao.cs (fun(aa:Int)=>some (.nx (IntKind.wrap .i64 (o+1)))) (fun r=>some (.rt r))) else (some (.br o)):Option (Fl (Int) Int))) N 0).bind fun aq=>aq.cs (fun(o:Int)=>(jB (fun(j:Int×Int)=>(bif (decide (j.2< (p0.aI.length:Int))) then ((kq N p0 j.2).bind fun ad=>bif (decide ((ad.length:Int)>2000)) then (some (.rt 2)) else ((i6 N ad).bind fun ar=>some (.nx ((IntKind.wrap .i64 (j.1+ (ar.length:Int))),(IntKind.wrap .i64 (j.2+1)))))) else (some (.br (j.1,j.2))):Option (Fl (Int×Int) Int))) N (0,0)).bind fun au=>au.cs (fun(j:Int×Int)=>bif (decide (j.1>2000)) then (some 2) else (some 0)) (fun r=>some r)) (fun r=>some r))
end
end Go.Gk
namespace Go.Gk
open Go
def px {R:Type} (m:Nat) (e:Nat->Option R):Option R:=(List.range m).findSome? e
theorem jJ {R:Type} {m:Nat} {e:Nat->Option R}:px m e=none↔∀k,k<m->e k=none:=by
 simp [px]
theorem ku {R:Type} {m:Nat} {e:Nat->Option R} {r:R}:px m e=some r↔∃k,k<m/\e k=some r/\∀j,j<k->e j=none:=by
 constructor
 ·intro h
  obtain⟨l1,a,l2,hl,ha,hn⟩:=List.findSome?_eq_some_iff.1 h
  have hlen:l1.length<m:=by have:=congrArg List.length hl;simp at this;omega
  have hget: ∀i,i<l1.length->l1[i]? =some i:=fun i hi=>by
   have:=congrArg (·[i]?) hl
   simp only [fL hi,List.getElem?_range (show i<m by omega)] at this
   exact this.symm
  have hat:a=l1.length:=by
   have:=congrArg (·[l1.length]?) hl
   simp [List.getElem?_range hlen] at this
   exact this.symm
  refine⟨a,by omega,ha,fun j hj=>hn j ?_⟩
  exact eW (hget j (by omega))
 ·rintro⟨k,hk,he,hn⟩
  refine List.findSome?_eq_some_iff.2 ⟨List.range k,k,(List.range (m - k - 1)).map (· + (k+1)),?_,he,fun x hx=>hn x (mf.1 hx)⟩
  refine List.ext_getElem? fun i=>?_
  by_cases h1:i<k
  ·rw [fL (by simpa using h1),List.getElem?_range (by omega),List.getElem?_range h1]
  ·rw [fT (by simpa using h1),List.length_range]
   by_cases h2:i=k
   ·subst h2;simp [List.getElem?_range hk]
   ·obtain⟨d,rfl⟩: ∃d,i=k+1+d:=⟨i - (k+1),by omega⟩
    rw [show k+1+d - k=d+1 by omega,List.getElem?_cons_succ,gJ]
    by_cases h3:k+1+d<m
    ·rw [List.getElem?_range h3,List.getElem?_range (by omega)];simp;omega
    ·rw [List.getElem?_eq_none (by simp;omega),List.getElem?_eq_none (by simp;omega)];rfl
theorem Iu {R R':Type} {m:Nat} {e:Nat->Option R} (f:R->R'): (px m e).map f=px m (fun k=>(e k).map f):=by
 cases hx:px m e with
 | none=>exact(jJ.2 fun k hk=>by rw [jJ.1 hx k hk];rfl).symm
 | some r=>
  obtain⟨k,hk,he,hn⟩:=ku.1 hx
  exact(ku.2 ⟨k,hk,by rw [he];rfl,fun j hj=>by rw [hn j hj];rfl⟩).symm
section
variable {S R:Type}
def GV (o:Option R) (s:S):Fl S R:=match o with | some r=> .rt r | none=> .nx s
def Co (o:Option R) (s:S):Fo S R:=match o with | some r=> .rt r | none=> .go s
theorem DQ {body:Nat->S->Option (Fl S R)} (F:Nat->S) (e:Nat->Option R) (m:Nat): ∀(n k:Nat),k+n=m->
  (∀j,k<=j->j<m->(∀i,k<=i->i<j->e i=none)->body j (F j)=some (GV (e j) (F (j+1))))->
  ∃o,BP body n k (F k)=some o/\((∀j,k<=j->j<m->e j=none)/\o = .go (F m)\/∃j r,k<=j/\j<m/\e j=some r/\(∀i,k<=i->i<j->e i=none)/\o = .rt r)
 | 0,k,hk,_=>⟨_,rfl, .inl ⟨fun j h1 h2=>by omega,by rw [show k=m by omega]⟩⟩
 | n+1,k,hk,h=>by
  have hb:=h k (bJ _) (by omega) (fun i h1 h2=>by omega)
  unfold BP
  rw [hb]
  cases hx:e k with
  | some r=>exact⟨_,rfl, .inr ⟨k,r,bJ _,by omega,hx,fun i h1 h2=>by omega,rfl⟩⟩
  | none=>
   obtain⟨o,ho,hc⟩:=DQ F e m n (k+1) (by omega) (fun j h1 h2 h3=>h j (by omega) h2 fun i h4 h5=>by
    by_cases h6:i=k
    ·subst h6;exact hx
    ·exact h3 i (by omega) h5)
   refine⟨o,ho,?_⟩
   rcases hc with ⟨h1,h2⟩ | ⟨j,r,h1,h2,h3,h4,h5⟩
   ·refine .inl ⟨fun j h3 h4=>?_,h2⟩
    by_cases h6:j=k
    ·subst h6;exact hx
    ·exact h1 j (by omega) h4
   ·refine .inr ⟨j,r,by omega,h2,h3,fun i h6 h7=>?_,h5⟩
    by_cases h8:i=k
    ·subst h8;exact hx
    ·exact h4 i (by omega) h7
theorem JX {body:Nat->S->Option (Fl S R)} {m:Nat} {s:S} (F:Nat->S) (e:Nat->Option R) (hm:m<=4611686018427387904) (hs:F 0=s)
  (h: ∀k,k<m->(∀i,i<k->e i=none)->body k (F k)=some (GV (e k) (F (k+1)))):qX m body s=some (Co (px m e) (F m)):=by
 subst hs
 unfold qX
 rw [aC hm]
 obtain⟨o,ho,hc⟩:=DQ F e m m 0 (by omega) (fun j _ h2 h3=>h j h2 fun i hi=>h3 i (eL _) hi)
 rw [ho]
 rcases hc with ⟨h1,h2⟩ | ⟨j,r,_,h2,h3,h4,h5⟩
 ·rw [jJ.2 fun k hk=>h1 k (eL _) hk,h2];rfl
 ·rw [ku.2 ⟨j,h2,h3,fun i hi=>h4 i (eL _) hi⟩,h5];rfl
theorem pR {body:Nat->Unit->Option (Fl Unit R)} {m:Nat} (e:Nat->Option R) (hm:m<=4611686018427387904)
  (h: ∀k,k<m->(∀i,i<k->e i=none)->body k ()=some (GV (e k) ())):qX m body ()=some (Co (px m e) ()):=
 JX (fun _=>()) e hm rfl h
theorem wF {body:S->Option (Fl S R)} (Inv:S->Prop) (μ:S->Nat) (Go:S->Prop) (Rt:R->Prop)
  (h: ∀s,Inv s->∃fl,body s=some fl/\match fl with | .nx s'=>Inv s'/\μ s'<μ s | .br s'=>Go s' | .rt r=>Rt r):
  ∀(N:Nat) (s:S),Inv s->μ s<N->∃o,jB body N s=some o/\match o with | .go s'=>Go s' | .rt r=>Rt r
 | 0,s,_,hn=>by omega
 | N+1,s,hi,hn=>by
  obtain⟨fl,hb,hf⟩:=h s hi
  unfold jB
  rw [hb]
  cases fl with
  | nx s'=>exact wF Inv μ Go Rt h N s' hf.1 (by have:=hf.2;omega)
  | br s'=>exact⟨_,rfl,hf⟩
  | rt r=>exact⟨_,rfl,hf⟩
theorem DR {body:Nat->S->Option (Fl S R)} (Inv:Nat->S->Prop) (Go:S->Prop) (Rt:R->Prop) (m:Nat)
  (h: ∀k s,k<m->Inv k s->∃fl,body k s=some fl/\match fl with | .nx s'=>Inv (k+1) s' | .br s'=>Go s' | .rt r=>Rt r) (hg: ∀s,Inv m s->Go s):
  ∀(n k:Nat) (s:S),k+n=m->Inv k s->∃o,BP body n k s=some o/\match o with | .go s'=>Go s' | .rt r=>Rt r
 | 0,k,s,hk,hi=>⟨_,rfl,hg s (by rw [<-hk];exact hi)⟩
 | n+1,k,s,hk,hi=>by
  obtain⟨fl,hb,hf⟩:=h k s (by omega) hi
  unfold BP
  rw [hb]
  cases fl with
  | nx s'=>exact DR Inv Go Rt m h hg n (k+1) s' (by omega) hf
  | br s'=>exact⟨_,rfl,hf⟩
  | rt r=>exact⟨_,rfl,hf⟩
theorem JY {body:Nat->S->Option (Fl S R)} {m:Nat} {s:S} (Inv:Nat->S->Prop) (Go:S->Prop) (Rt:R->Prop) (hm:m<=4611686018427387904) (h0:Inv 0 s)
  (h: ∀k s,k<m->Inv k s->∃fl,body k s=some fl/\match fl with | .nx s'=>Inv (k+1) s' | .br s'=>Go s' | .rt r=>Rt r) (hg: ∀s,Inv m s->Go s):
  ∃o,qX m body s=some o/\match o with | .go s'=>Go s' | .rt r=>Rt r:=by
 unfold qX
 rw [aC hm]
 exact DR Inv Go Rt m h hg m 0 s (by omega) h0
theorem DS {body:Nat->S->Option S} (Inv:Nat->S->Prop) (m:Nat) (h: ∀k s,k<m->Inv k s->∃s',body k s=some s'/\Inv (k+1) s'):
  ∀(n k:Nat) (s:S),k+n=m->Inv k s->∃s',HF body n k s=some s'/\Inv m s'
 | 0,k,s,hk,hi=>⟨_,rfl,by rw [<-hk];exact hi⟩
 | n+1,k,s,hk,hi=>by
  obtain⟨s',hb,hf⟩:=h k s (by omega) hi
  unfold HF
  rw [hb]
  exact DS Inv m h n (k+1) s' (by omega) hf
theorem yW {body:Nat->S->Option S} {m:Nat} {s:S} (Inv:Nat->S->Prop) (hm:m<=4611686018427387904) (h0:Inv 0 s)
  (h: ∀k s,k<m->Inv k s->∃s',body k s=some s'/\Inv (k+1) s'): ∃s',lF m body s=some s'/\Inv m s':=by
 unfold lF
 rw [aC hm]
 exact DS Inv m h m 0 s (by omega) h0
end
section
variable {α β:Type}
theorem aB (x:α) (f:α->Option β): (some x).bind f=f x:=rfl
theorem ke (l:List α) (k:Nat) (h:k<l.length):idx l ((k:Nat):Int)=some l[k]:=by
 unfold idx;rw [aC (by omega),bX,aL h]
theorem dY {l:List α} {k:Nat} {x:α} (h:l[k]? =some x):idx l ((k:Nat):Int)=some x:=by
 unfold idx;rw [aC (by omega),bX,h]
theorem DT (s:dO) (k:Nat) (h:k<s.cP.length):EJ s ((k:Nat):Int)=some s.cP[k]:=by
 unfold EJ;rw [aC (by omega),bX,aL h]
theorem fN {k:Nat} (h:0<k) (hk:k<=4611686018427387904):IntKind.wrap .i64 (((k:Nat):Int) - 1)= ((k - 1:Nat):Int):=by
 rw [eE (by omega) (by omega)];omega
theorem rm (l:List α) (k:Nat) (h:k<=l.length):sO l 0 ((k:Nat):Int)=some (l.take k):=by
 unfold sO;rw [aC ⟨by omega,by omega,by omega⟩]
 simp only [Int.toNat_zero,List.drop_zero,Int.sub_zero,bX]
theorem pS (l:List α) (k:Nat) (h:k<=l.length):sO l ((k:Nat):Int) ((l.length:Nat):Int)=some (l.drop k):=by
 unfold sO;rw [aC ⟨by omega,by omega,by omega⟩]
 simp only [bX,Option.some.injEq]
 rw [lE];rw [ga];omega
theorem jX {b:Nat} {l ys:List α} (h: (l.length+ys.length)*b<=140737488355328):app b l ys=some (l++ys):=by unfold app;rw [aC h]
theorem nC {b:Nat} (z:α) {n:Nat} (h:n*b<=140737488355328):mk b z ((n:Nat):Int)=some (List.replicate n z):=by
 unfold mk
 have e: ((n:Nat):Int)* ((b:Nat):Int)= ((n*b:Nat):Int):=(Int.natCast_mul n b).symm
 rw [e]
 generalize n*b=q at h ⊢
 rw [aC ⟨by omega,by omega⟩,bX]
end
theorem dO.ext' {a b:dO} (h:a.cP=b.cP):a=b:=by cases a;cases b;simp at h;rw [h]
theorem Cp {a b:dO}:a.BO b=true↔a=b:=by
 unfold dO.BO;rw [beq_iff_eq];exact⟨dO.ext',fun h=>by rw [h]⟩
theorem yl: ∀(a:List UInt8),Op.bytesLess a a=false
 | []=>rfl
 | a::l=>by
  unfold Op.bytesLess
  rw [yl l];simp
theorem zB: ∀{a b c:List UInt8},Op.bytesLess a b=true->Op.bytesLess b c=true->Op.bytesLess a c=true
 | [],[],_,h,_=>by simp [Op.bytesLess] at h
 | [],_::_,[],_,h=>by simp [Op.bytesLess] at h
 | [],_::_,_::_,_,_=>rfl
 | _::_,[],_,h,_=>by simp [Op.bytesLess] at h
 | _::_,_::_,[],_,h=>by simp [Op.bytesLess] at h
 | a::l,b::m,c::n,h1,h2=>by
  unfold Op.bytesLess at h1 h2 ⊢
  simp only [cX,bR,bB,beq_iff_eq] at h1 h2 ⊢
  rcases h1 with h1 | ⟨rfl,h1⟩
  ·rcases h2 with h2 | ⟨rfl,h2⟩
   ·exact .inl (UInt8.lt_trans h1 h2)
   ·exact .inl h1
  ·rcases h2 with h2 | ⟨rfl,h2⟩
   ·exact .inl h2
   ·exact .inr ⟨rfl,zB h1 h2⟩
theorem zC: ∀(a b:List UInt8),Op.bytesLess a b=true\/a=b\/Op.bytesLess b a=true
 | [],[]=> .inr (.inl rfl)
 | [],_::_=> .inl rfl
 | _::_,[]=> .inr (.inr rfl)
 | a::l,b::m=>by
  unfold Op.bytesLess
  simp only [cX,bR,bB,beq_iff_eq]
  by_cases h1:a<b
  ·exact .inl (.inl h1)
  ·by_cases h2:b<a
   ·exact .inr (.inr (.inl h2))
   ·have e:a=b:=by
     simp only [UInt8.lt_iff_toNat_lt] at h1 h2
     exact UInt8.toNat_inj.1 (by omega)
    subst e
    rcases zC l m with h | h | h
    ·exact .inl (.inr ⟨rfl,h⟩)
    ·exact .inr (.inl (by rw [h]))
    ·exact .inr (.inr (.inr ⟨rfl,h⟩))
theorem vH: ∀(a b:List UInt8),Lib.compareBytes a b<0↔Op.bytesLess a b=true
 | [],[]=>by simp [Lib.compareBytes,Op.bytesLess]
 | [],_::_=>by simp [Lib.compareBytes,Op.bytesLess]
 | _::_,[]=>by simp [Lib.compareBytes,Op.bytesLess]
 | a::l,b::m=>by
  unfold Lib.compareBytes Op.bytesLess
  simp only [cX,bR,bB,beq_iff_eq]
  split
  ·simp_all
  ·rename_i h1
   split
   ·rename_i h2
    have h3:a≠b:=fun e=>by subst e;exact h1 h2
    simp [h1,h3]
   ·rename_i h2
    have e:a=b:=by
     simp only [UInt8.lt_iff_toNat_lt] at h1 h2
     exact UInt8.toNat_inj.1 (by omega)
    subst e
    rw [vH l m];simp [h1]
theorem vI: ∀(a b:List UInt8),Lib.compareBytes a b=0↔a=b
 | [],[]=>by simp [Lib.compareBytes]
 | [],_::_=>by simp [Lib.compareBytes]
 | _::_,[]=>by simp [Lib.compareBytes]
 | a::l,b::m=>by
  unfold Lib.compareBytes
  split
  ·rename_i h1
   have h3:a≠b:=fun e=>by subst e;exact absurd h1 (by simp)
   simp [h3]
  ·rename_i h1
   split
   ·rename_i h2
    have h3:a≠b:=fun e=>by subst e;exact h1 h2
    simp [h3]
   ·rename_i h2
    have e:a=b:=by
     simp only [UInt8.lt_iff_toNat_lt] at h1 h2
     exact UInt8.toNat_inj.1 (by omega)
    subst e
    rw [vI l m];simp
def dO.lt (a b:dO):Prop:=a.HE b=true
theorem dO.lt_irrefl (a:dO): ¬dO.lt a a:=by unfold dO.lt dO.HE;rw [yl];decide
theorem dO.lt_trans {a b c:dO} (h1:dO.lt a b) (h2:dO.lt b c):dO.lt a c:=zB h1 h2
theorem dO.DU (a b:dO):dO.lt a b\/a=b\/dO.lt b a:=by
 rcases zC a.cP b.cP with h | h | h
 ·exact .inl h
 ·exact .inr (.inl (dO.ext' h))
 ·exact .inr (.inr h)
theorem dO.KU {a b:dO} (h:dO.lt a b):a≠b:=fun e=>by subst e;exact dO.lt_irrefl a h
end Go.Gk
namespace Go.Gk
open Go
class Bk (α:Type) where
 bk:α->Nat
 pos: ∀x,1<=bk x
def bk {α:Type} [Bk α] (x:α):Nat:=Bk.bk x
theorem Iv {α:Type} [Bk α] (x:α):1<=bk x:=Bk.pos x
instance:Bk dO:=⟨fun s=>s.cP.length+1,fun _=>by omega⟩
instance:Bk Int:=⟨fun _=>1,fun _=>by omega⟩
instance:Bk Bool:=⟨fun _=>1,fun _=>by omega⟩
instance {α:Type} [Bk α]:Bk (List α):=⟨fun l=>(l.map bk).sum+1,fun _=>by omega⟩
theorem Iw {α:Type} [Bk α]:bk ([]:List α)=1:=rfl
theorem Cq {α:Type} [Bk α] (x:α) (l:List α):bk (x::l)=bk x+bk l:=by
 show (List.map bk (x::l)).sum+1=bk x+ ((List.map bk l).sum+1)
 simp;omega
theorem EZ {α:Type} [Bk α]: ∀{l:List α} {x:α},x∈l->bk x+1<=bk l
 | y::l,x,h=>by
  rw [Cq]
  rcases cT.1 h with h | h
  ·subst h;have:=Iv l;omega
  ·have:=EZ h;omega
theorem tz {α:Type} [Bk α]: ∀(l:List α),l.length+1<=bk l
 | []=>by rw [Iw];simp
 | x::l=>by rw [Cq,dK];have:=tz l;have:=Iv x;omega
theorem Ix (s:dO):bk s=s.cP.length+1:=rfl
section
variable {α R:Type}
theorem GW {l:List α} {e:Nat->Option R} (f:α->Option R) (h: ∀k x,l[k]? =some x->e k=f x):px l.length e=l.findSome? f:=by
 cases hx:px l.length e with
 | none=>
  refine(List.findSome?_eq_none_iff.2 fun x hm=>?_).symm
  obtain⟨k,hk⟩:=dV hm
  rw [<-h k x hk];exact jJ.1 hx k (aW.1 hk).1
 | some r=>
  obtain⟨k,hk,he,hn⟩:=ku.1 hx
  refine(List.findSome?_eq_some_iff.2 ⟨l.take k,l[k],l.drop (k+1),?_,?_,fun y hy=>?_⟩).symm
  ·rw [<-po hk,List.take_append_drop]
  ·rw [<-h k l[k] (aL hk)];exact he
  ·obtain⟨j,hj⟩:=dV hy
   have hjk:j<k:=by have:=(aW.1 hj).1;rw [cI] at this;omega
   rw [List.getElem?_take_of_lt hjk] at hj
   rw [<-h j y hj];exact hn j hjk
theorem Cr (l:List α) (p:α->Bool) (r:R):l.findSome? (fun x=>if p x=true then some r else none)=if l.any p=true then some r else none:=by
 induction l with
 | nil=>simp
 | cons x l ih=>
  rw [List.findSome?_cons,List.any_cons]
  cases h:p x <;> simp [ih]
theorem wG {l:List α} {body:Nat->Unit->Option (Fl Unit R)} (f:α->Option R) (hl:l.length<=4611686018427387904)
  (h: ∀k x,l[k]? =some x->body k ()=some (GV (f x) ())):qX l.length body ()=some (Co (l.findSome? f) ()):=by
 have h2:=pR (body:=body) (m:=l.length) (fun k=>(l[k]?).bind f) hl (fun k hk _=>by
  rw [h k l[k] (aL hk),aL hk];rfl)
 rw [h2,GW f (fun k x hx=>by rw [hx];rfl)]
theorem JZ {l:List α} {body:Nat->Unit->Option (Fl Unit R)} (p:α->Bool) (r:R) (hl:l.length<=4611686018427387904)
  (h: ∀k x,l[k]? =some x->body k ()=some (if p x=true then .rt r else .nx ())):qX l.length body ()=some (if l.any p=true then .rt r else .go ()):=by
 rw [wG (fun x=>if p x=true then some r else none) hl (fun k x hx=>by rw [h k x hx];cases p x <;> rfl),Cr]
 cases l.any p <;> rfl
end
theorem J0 {β:Type} (b:Bool) (x y:β): (bif b then some x else some y)=some (bif b then x else y):=by cases b <;> rfl
section
variable {α β:Type}
def GX (l:List α) (p:α->Bool):Int:=match l.findIdx? p with | some k=>((k:Nat):Int) | none=> -1
theorem Iy {l:List α} {p:α->Bool} (h:l.any p=false):GX l p = -1:=by
 unfold GX
 rw [List.findIdx?_eq_none_iff.2]
 intro x hx
 rw [<-kb]
 intro hp
 rw [<-kb] at h
 exact h (iZ.2 ⟨x,hx,hp⟩)
theorem Iz {l:List α} {p:α->Bool} {k:Nat} {x:α} (hk:l[k]? =some x) (hp:p x=true) (hn: ∀j y,j<k->l[j]? =some y->p y=false):GX l p= ((k:Nat):Int):=by
 unfold GX
 have hlt:=(aW.1 hk).1
 have:l.findIdx? p=some k:=by
  rw [List.findIdx?_eq_some_iff_getElem]
  refine⟨hlt,?_,fun j hj=>?_⟩
  ·have:=aL hlt;rw [hk] at this;injection this with this;rw [<-this];exact hp
  ·have:=hn j l[j] hj (aL (by omega));simpa using this
 rw [this]
theorem uA (l:List α) (p:α->Bool): (GX l p = -1/\∀x∈l,p x=false)\/∃k x,GX l p= ((k:Nat):Int)/\l[k]? =some x/\p x=true/\∀j y,j<k->l[j]? =some y->p y=false:=by
 unfold GX
 cases h:l.findIdx? p with
 | none=>exact .inl ⟨rfl,fun x hx=>by have:=List.findIdx?_eq_none_iff.1 h x hx;simpa using this⟩
 | some k=>
  obtain⟨hk,hp,hn⟩:=List.findIdx?_eq_some_iff_getElem.1 h
  refine .inr ⟨k,l[k],rfl,aL hk,hp,fun j y hj hy=>?_⟩
  have:=hn j hj
  rw [aL (by omega)] at hy
  injection hy with hy
  subst hy;simpa using this
theorem LP (l:List α) (p:α->Bool):decide (GX l p>=0)=l.any p:=by
 rcases uA l p with ⟨h,hn⟩ | ⟨k,x,h,hx,hp,_⟩
 ·rw [h,List.any_eq_false.2 (fun x hx=>by rw [hn x hx];decide)];decide
 ·rw [h,iZ.2 ⟨x,eW hx,hp⟩];simp
def r9 (p0:List α) (p1:α->Option Bool):Option Int:=
 (qX p0.length (fun(k1:Nat) (_:Unit)=>((idx p0 ((k1:Nat):Int)).bind fun x7=>(p1 x7).bind fun x10=>bif x10 then (some (.rt ((k1:Nat):Int))) else (some (.nx ())):Option (Fl (Unit) Int))) ()).bind fun o11=>o11.cs (fun(_:Unit)=>some (-1)) (fun r=>some r)
theorem vk {l:List α} {φ:α->Option Bool} (p:α->Bool) (hl:l.length<=4611686018427387904) (h: ∀x∈l,φ x=some (p x)):r9 l φ=some (GX l p):=by
 unfold r9
 rw [pR (fun k=>(l[k]?).bind fun x=>if p x=true then some ((k:Nat):Int) else none) hl (fun k hk _=>by
  rw [ke l k hk,aB,h _ (cO hk),aB,aL hk]
  cases hp:p l[k] <;> simp [GV,hp]),aB]
 rcases uA l p with ⟨h1,h2⟩ | ⟨k,x,h1,h2,h3,h4⟩
 ·rw [jJ.2 (fun k hk=>by rw [aL hk];simp [h2 _ (cO hk)])]
  simp [Co,Fo.cs,h1]
 ·rw [(ku (r:=((k:Nat):Int))).2 ⟨k,(aW.1 h2).1,by rw [h2];simp [h3],fun j hj=>by
   cases hy:l[j]? with
   | none=>rfl
   | some y=>simp [h4 j y hj hy]⟩]
  simp [Co,Fo.cs,h1]
def qP (p0:List α) (p1:α->Option Bool):Option Bool:=
 (r9 p0 p1).bind fun x1=>some (decide (x1>=0))
theorem rn {l:List α} {φ:α->Option Bool} (p:α->Bool) (hl:l.length<=4611686018427387904) (h: ∀x∈l,φ x=some (p x)):qP l φ=some (l.any p):=by
 unfold qP
 rw [vk p hl h,aB,LP]
def E0 [DecidableEq α] (p0 p1:List α):Option Bool:=
 bif (((p0.length:Nat):Int) != ((p1.length:Nat):Int)) then (some false) else ((qX p0.length (fun(k1:Nat) (_:Unit)=>((idx p0 ((k1:Nat):Int)).bind fun x13=>(idx p1 ((k1:Nat):Int)).bind fun x16=>bif (!(decide (x13=x16))) then (some (.rt false)) else (some (.nx ())):Option (Fl (Unit) Bool))) ()).bind fun o23=>o23.cs (fun(_:Unit)=>some true) (fun r=>some r))
theorem Bn [DecidableEq α] {l m:List α} (hl:l.length<=4611686018427387904):E0 l m=some (decide (l=m)):=by
 unfold E0
 by_cases h:l.length=m.length
 ·have e: (((l.length:Nat):Int) != ((m.length:Nat):Int))=false:=by rw [h];simp
  rw [e,aN]
  rw [pR (fun k=>if l[k]? =m[k]? then none else some false) hl (fun k hk _=>by
   rw [ke l k hk,aB,ke m k (by omega),aB,aL hk,aL (by omega:k<m.length)]
   by_cases hx:l[k]=m[k] <;> simp [GV,hx]),aB]
  by_cases hx:l=m
  ·subst hx;rw [jJ.2 (fun k _=>aC rfl)];simp [Co,Fo.cs]
  ·have: ∃r,px l.length (fun k=>if l[k]? =m[k]? then none else some false)=some r:=by
    cases hf:px l.length (fun k=>if l[k]? =m[k]? then none else some false) with
    | some r=>exact⟨r,rfl⟩
    | none=>
     exfalso;refine hx (List.ext_getElem? fun i=>?_)
     by_cases hi:i<l.length
     ·have:=jJ.1 hf i hi
      by_cases h6:l[i]? =m[i]?
      ·exact h6
      ·rw [aD h6] at this;cases this
     ·rw [List.getElem?_eq_none (by omega),List.getElem?_eq_none (by omega)]
   obtain⟨r,hr⟩:=this
   have hr2:r=false:=by
    obtain⟨k,_,hk,_⟩:=ku.1 hr
    split at hk
    ·cases hk
    ·injection hk with hk;exact hk.symm
   rw [hr,hr2];simp [Co,Fo.cs,hx]
 ·have e: (((l.length:Nat):Int) != ((m.length:Nat):Int))=true:=by simp;omega
  rw [e,aO,bI (fun h'=>h (by rw [h']))]
def Sorted (key:α->dO) (l:List α):Prop:=∀(i j:Nat) (x y:α),i<j->l[i]? =some x->l[j]? =some y->dO.lt (key x) (key y)
theorem Sorted.inj {key:α->dO} {l:List α} (h:Sorted key l) {i j:Nat} {x y:α} (hx:l[i]? =some x) (hy:l[j]? =some y) (e:key x=key y):i=j:=by
 rcases Nat.lt_trichotomy i j with h1 | h1 | h1
 ·exact absurd e (dO.KU (h i j x y h1 hx hy))
 ·exact h1
 ·exact absurd e.symm (dO.KU (h j i y x h1 hy hx))
def IA (N:Nat) (p0:List α) (p1:β) (p2:α->β->Option Int):Option (Int×Bool):=
 (jB (fun(s2:Int×Int)=>(bif (decide (s2.1<s2.2)) then ((idx p0 (IntKind.wrap .i64 (Int.fdiv (IntKind.wrap .u64 (IntKind.wrap .i64 (s2.1+s2.2))) 2))).bind fun x13=>(p2 x13 p1).bind fun x16=>(bif (decide (x16<0)) then (some ((IntKind.wrap .i64 ((IntKind.wrap .i64 (Int.fdiv (IntKind.wrap .u64 (IntKind.wrap .i64 (s2.1+s2.2))) 2))+1)),s2.2)) else (some (s2.1,(IntKind.wrap .i64 (Int.fdiv (IntKind.wrap .u64 (IntKind.wrap .i64 (s2.1+s2.2))) 2))))).bind fun s17=>some (.nx (s17.1,s17.2))) else (some (.br (s2.1,s2.2))):Option (Fl (Int×Int) Empty))) N (0,((p0.length:Nat):Int))).bind fun o29=>o29.cs (fun(s2:Int×Int)=>(bif (decide (s2.1< ((p0.length:Nat):Int))) then ((idx p0 s2.1).bind fun x25=>(p2 x25 p1).bind fun x28=>some (x28==0)) else (some false)).bind fun s23=>some (s2.1,s23)) (fun r=>r.elim)
theorem GY {a b:Nat} (h:a<b) (hb:b<=4611686018427387904):IntKind.wrap .i64 (Int.fdiv (IntKind.wrap .u64 (IntKind.wrap .i64 (((a:Nat):Int)+ ((b:Nat):Int)))) 2)= (((a+b) / 2:Nat):Int):=by
 rw [eE (x:=((a:Nat):Int)+ ((b:Nat):Int)) (by omega) (by omega)]
 have e:IntKind.wrap .u64 (((a:Nat):Int)+ ((b:Nat):Int))= ((a+b:Nat):Int):=by
  show ((a:Int)+b) % 18446744073709551616=_
  omega
 rw [e,Int.fdiv_eq_ediv_of_nonneg _ (by omega),eE (by omega) (by omega)]
 omega
end
end Go.Gk
namespace Go.Gk
open Go Go.ChangeShapes Go.WideShapes Go.RowKit
structure UB (ub: (H:Type)->DataW H->Nat) (ua: (H:Type)->List (DataW H)->Nat):Prop where
 str: ∀(H:Type) (b:List UInt8),ub H (.lit (.string b))=b.length+1
 pos: ∀(H:Type) (d:DataW H),1<=ub H d
 sl: ∀(H:Type) (e s:List (DataW H)),ub H (.slice e s)=ua H e+ua H s+1
 ag: ∀(H:Type) (l:List (DataW H)),ub H (.agg l)=ua H l+1
 nil: ∀(H:Type),ua H []=0
 cons: ∀(H:Type) (x:DataW H) (l:List (DataW H)),ua H (x::l)=ub H x+ua H l
def Hw (w:World):dS:=fun b=>w.heap[b]?
structure iC (ub: (H:Type)->DataW H->Nat) (P:Program) (T:TypeId) (α:Type) [GT α] [Bk α]:Prop where
 trod: ∀{H:Type} {enc:TypeId×Value->H} {w:World} {base:Nat} {spare:Nat->Bool} {held:Bool} {fuel:Nat} {cs:List Value} {d:DataW H×List MemPlace},
  DataW.trod enc P w base spare held fuel T cs=some d->∃x:α,GT.ok (Hw w) cs x/\bk x<=ub H d.1
 ND: ∀{w:World} {r:Reach} {base:Nat} {v:Value},Value.okWide P w r base T v->v=tg α v.cells.toList
section
variable {ub: (H:Type)->DataW H->Nat} {ua: (H:Type)->List (DataW H)->Nat} {P:Program} {T e:TypeId}
theorem GZ (u:UB ub ua) (ht:P.underlying T=some (.int .i64)):iC ub P T Int where
 trod:=fun h=>by
  obtain⟨n,rfl,rfl,_⟩:=DataW.trod_int ht h
  exact⟨n,rfl,u.pos _ _⟩
 ND:=fun h=>by obtain⟨n,rfl⟩:=okWide_int ht h;rfl
theorem E1 (u:UB ub ua) (ht:P.underlying T=some .bool):iC ub P T Bool where
 trod:=fun h=>by
  obtain⟨n,rfl,rfl⟩:=DataW.trod_bool ht h
  exact⟨n,rfl,u.pos _ _⟩
 ND:=fun h=>by obtain⟨n,rfl⟩:=okWide_bool ht h;rfl
theorem G0 (u:UB ub ua) (ht:P.underlying T=some .string):iC ub P T dO where
 trod:=fun h=>by
  obtain⟨s,rfl,rfl,_⟩:=DataW.trod_string ht h
  refine⟨⟨s.data.toList⟩,?_,?_⟩
  ·show [Value.string s]= [Gk.str ⟨s.data.toList⟩]
   cases s;rfl
  ·rw [u.str];exact bJ _
 ND:=fun h=>by obtain⟨n,rfl⟩:=okWide_string ht h;rfl
theorem ym {α:Type} {R:Nat->α->Prop}: ∀(n:Nat),(∀i,i<n->∃x,R i x)->∃l:List α,l.length=n/\∀i x,l[i]? =some x->R i x
 | 0,_=>⟨[],rfl,fun i x h=>by simp at h⟩
 | n+1,h=>by
  obtain⟨l,h1,h2⟩:=ym n (fun i hi=>h i (by omega))
  obtain⟨x,hx⟩:=h n (by omega)
  refine⟨l++[x],by simp [h1],fun i y hy=>?_⟩
  by_cases hi:i<n
  ·rw [fL (by omega)] at hy;exact h2 i y hy
  ·have:=(aW.1 hy).1
   rw [cR] at this
   have:i=n:=by simp at this;omega
   subst this
   rw [fT (by omega),h1] at hy
   simp at hy;subst hy;exact hx
theorem Bo {H α:Type} [Bk α] (u:UB ub ua): ∀{l:List α} {es:List (DataW H×List MemPlace)},l.length=es.length->
  (∀(i:Nat) (x:α) (y:DataW H×List MemPlace),l[i]? =some x->es[i]? =some y->bk x<=ub H y.1)->bk l<=ua H (es.map (·.1))+1
 | [],[],_,_=>by rw [Iw];omega
 | x::l,y::es,hl,h=>by
  have h1:=h 0 x y rfl rfl
  have h2:=Bo (H:=H) u (l:=l) (es:=es) (by simpa using hl) (fun i x y hx hy=>h (i+1) x y (by simpa using hx) (by simpa using hy))
  rw [Cq,dI,u.cons];omega
theorem DV {w:World} {base:Nat} {a:Addr} {n:Nat} {cs:List Value} (h:w.cells? base a n=some cs):At (Hw w) a cs:=by
 intro j v hv
 obtain⟨_,hlen,hc⟩:=World.cells?_some h
 have hj:=(aW.1 hv).1
 have h2:=hc j (by omega)
 rw [hv] at h2
 unfold we Hw
 unfold World.cell? at h2
 exact h2
theorem oe {α:Type} [GT α] [Bk α] (u:UB ub ua) (he:iC ub P e α) (ht:P.underlying T=some (.slice e):=by kernel_rfl) (hc:P.cellsOf e=GT.sz α:=by kernel_rfl):iC ub P T (List α) where
 trod:=fun{H enc w base spare held fuel cs d} h=>by
  rcases DataW.trod_slice ht h with ⟨rfl,rfl⟩ | ⟨a,len,cap,elems,rest,n,_,rfl,rfl,_,hlc,hcm,hlen,hel,_⟩
  ·exact⟨[],⟨_,rfl,none,0,0,rfl,rfl,bJ _,by simp [maxLen],fun i x hx=>by simp at hx⟩,u.pos _ _⟩
  ·have each: ∀i,i<len->∃x:α,(∃c y,GT.ok (Hw w) c x/\At (Hw w) (a.add (i*GT.sz α)) c/\elems[i]? =some y/\bk x<=ub H y.1):=by
    intro i hi
    have h1:=hel i hi
    rw [aL (by omega:i<elems.length),Option.bind_eq_some_iff] at h1
    obtain⟨c,h2,h3⟩:=h1
    obtain⟨x,h4,h5⟩:=he.trod h3
    refine⟨x,c,_,h4,?_,aL (by omega),h5⟩
    rw [hc] at h2
    exact DV h2
   obtain⟨l,hl,hr⟩:=ym len each
   refine⟨l,⟨_,rfl,some a,len,cap,rfl,hl.symm,hlc,hcm,fun i x hx=>?_⟩,?_⟩
   ·obtain⟨c,y,h1,h2,_⟩:=hr i x hx
    exact⟨a,c,rfl,h1,h2⟩
   ·have:=Bo (H:=H) u (l:=l) (es:=elems) (by omega) (fun i x y hx hy=>by
     obtain⟨c,y',_,_,h3,h4⟩:=hr i x hx
     rw [hy] at h3;injection h3 with h3;subst h3;exact h4)
    rw [u.sl];omega
 ND:=fun h=>by obtain⟨a,n,c,rfl⟩:=okWide_slice ht h;rfl
def F7 (ub: (H:Type)->DataW H->Nat) (ua: (H:Type)->List (DataW H)->Nat) (P:Program) (off:Nat) (fs:List Field) (β:Type) [GT β] (m:β->Nat):Prop:=
 ∀{H:Type} {enc:TypeId×Value->H} {w:World} {base:Nat} {spare:Nat->Bool} {held:Bool} {n:Nat} {cs:List Value} {ys:List (DataW H×List MemPlace)},
  (∀(i:Nat) (f:Field),fs[i]? =some f->DataW.trod enc P w base spare held n f.type ((cs.drop f.offset).take (P.cellsOf f.type))=ys[i]?)->ys.length=fs.length->
  cs.length=off+GT.sz β->∃x:β,GT.ok (Hw w) (cs.drop off) x/\m x<=ua H (ys.map (·.1))
theorem ng {β:Type} [GT β] [Bk β] {off:Nat} {f:Field} (u:UB ub ua) (h:iC ub P f.type β) (ho:f.offset=off:=by exact rfl) (hc:P.cellsOf f.type=GT.sz β:=by kernel_rfl):F7 ub ua P off [f] β bk:=by
 intro H enc w base spare held n cs ys hf hl hcs
 match ys,hl with
 | [y],_=>
  have h1:=hf 0 f rfl
  rw [ho,hc,lE (by rw [ga];omega)] at h1
  obtain⟨x,h2,h3⟩:=h.trod (d:=y) h1
  exact⟨x,h2,by rw [dI,u.cons];omega⟩
theorem eR {α β:Type} [GT α] [GT β] [Bk α] {off off':Nat} {f:Field} {fs:List Field} {m:β->Nat} (u:UB ub ua) (h:iC ub P f.type α) (hr:F7 ub ua P off' fs β m) (ho:f.offset=off:=by exact rfl) (hc:P.cellsOf f.type=GT.sz α:=by kernel_rfl) (hoff:off'=off+GT.sz α:=by exact rfl):F7 ub ua P off (f::fs) (α×β) (fun x=>bk x.1+m x.2):=by
 intro H enc w base spare held n cs ys hf hl hcs
 have hsz:GT.sz (α×β)=GT.sz α+GT.sz β:=rfl
 match ys,hl with
 | y::ys,hl=>
  have h1:=hf 0 f rfl
  rw [ho,hc] at h1
  obtain⟨x,h2,h3⟩:=h.trod (d:=y) h1
  obtain⟨x',h4,h5⟩:=hr (n:=n) (cs:=cs) (ys:=ys) (fun i g hg=>hf (i+1) g hg) (by simpa using hl) (by omega)
  refine⟨(x,x'),⟨_,_,?_,h2,h4⟩,?_⟩
  ·rw [hoff,<-List.drop_drop,List.take_append_drop]
  ·rw [dI,u.cons];show bk x+m x'<=_;omega
theorem jY {γ β:Type} [GT β] [Bk γ] {fs:Array Field} {m:β->Nat} (u:UB ub ua) (f:γ->β) (g:β->γ) (hfg: ∀b,f (g b)=b) (ht:P.underlying T=some (.struct fs)) (h:F7 ub ua P 0 fs.toList β m) (hm: ∀b,bk (g b)<=m b+1) (hc:P.cellsOf T=GT.sz β:=by kernel_rfl): @iC ub P T γ (GT.via f) _:=
 @iC.mk ub P T γ (GT.via f) _
  (fun{H enc w base spare held fuel cs d} hd=>by
   obtain⟨xs,n,_,rfl,hl,hlen,hf⟩:=DataW.trod_struct ht hd
   obtain⟨b,h1,h2⟩:=h (n:=n) (cs:=cs) (ys:=xs) (fun i g hg=>hf i g (by rw [<-Array.getElem?_toList];exact hg)) (by rw [hlen];simp) (by omega)
   refine⟨g b,?_,?_⟩
   ·show GT.ok (Hw w) cs (f (g b))
    rw [hfg];exact h1
   ·rw [u.ag];have:=hm b;omega)
  (fun hv=>by
   obtain⟨cs,rfl,_⟩:=okWide_struct ht hv
   cases cs;rfl)
theorem iC.arg {H:Type} {enc:TypeId×Value->H} {w:World} {base:Nat} {spare:Nat->Bool} {held:Bool} {r:Reach} {b0:Nat} {v:Value} {d:DataW H} {ps:List MemPlace} {α:Type} [GT α] [Bk α] (o:iC ub P T α)
  (hv:Value.okWide P w r b0 T v) (hd:DataW.Trod enc P w base spare held T v d ps): ∃x:α,vu (Hw w) v x/\bk x<=ub H d:=by
 obtain⟨fuel,hf⟩:=hd
 obtain⟨x,h1,h2⟩:=o.trod hf
 exact⟨x,⟨_,o.ND hv,h1⟩,h2⟩
theorem iC.NF {H:Type} {enc:TypeId×Value->H} {w:World} {base:Nat} {spare:Nat->Bool} {held:Bool} {r:Reach} {b0:Nat} {v:Value} {d:DataW H} {ps:List MemPlace} {α:Type} [Sc α] [Bk α] (o:iC ub P T α)
  (hv:Value.okWide P w r b0 T v) (hd:DataW.Trod enc P w base spare held T v d ps): ∃x:α,v=Sc.toV x/\bk x<=ub H d:=by
 obtain⟨x,h1,h2⟩:=o.arg hv hd
 exact⟨x,BM.1 h1,h2⟩
end
theorem Calls.fin {P:Program} {f:FuncId} {args:Array Value} {w:World} {R Q:Value->World->Prop} (h:Calls P f args w (iE R)) (k: ∀v w',R v w'->Q v w'):
  Calls P f args w (fun e W'=>∃v,e = .returned v/\Q v W'):=Calls.mono h fun _ w' ⟨v,e,hr⟩=>⟨v,e,k v w' hr⟩
def fS (W:World):HP:=⟨fun M h=>hle (Hw W) M/\h=ql,fun k ⟨a,b⟩=>⟨Gz a k,b⟩⟩
theorem Holds.begin (W:World):Holds W W [fS W]:=by
 refine⟨Hw W,fun _=>ql,⟨rfl,rfl,rfl,bJ _,fun b o h=>h,fun i Pr hq=>?_,fun _ _ _ _ h=>(by cases h),fun _ _ _ _ h=>(by cases h),fun _ _ _ _ _ _ _ h=>(by cases h)⟩⟩
 match i,hq with
 | 0,hq=>simp at hq;subst hq;exact⟨HC _,rfl⟩
theorem Holds.IB {α:Type} [GT α] {W:World} {V:List HP} {v:Value} {x:α} (h:Holds W W (V++[fS W])) (hv:Gk.vu (Hw W) v x):Holds W W (rd v x::(V++[fS W])):=
 h.Ay fun M hs g=>by
  have h1:=(g.sat V.length (fS W) (by simp)).1
  exact⟨hv.mono h1,rfl⟩
theorem Holds.kept {E W w:World} {V:List HP} (h:Holds E w (V++[fS W])) (he:E=W):Below W.heap.size W w:=by
 subst he
 obtain⟨M,hs,g⟩:=h
 have h1:=(g.sat V.length (fS E) (by simp)).1
 have h2: ∀k o,E.heap[k]? =some o->w.heap[k]? =some o:=fun k o ho=>g.im k o (h1 k o ho)
 refine⟨g.os,g.tape,g.out,?_,fun k hk=>?_⟩
 ·by_cases h0:E.heap.size=0
  ·omega
  ·have h3:=h2 (E.heap.size - 1) _ (f9 (by omega))
   have:=(Array.getElem?_eq_some_iff.1 h3).1
   omega
 ·rw [f9 hk];exact h2 k _ (f9 hk)
section
variable {H:Type} {enc:TypeId×Value->H} {P:Program}
theorem G1 {f:Func} {s:ChangeSpec} {apart fresh handsOn again:Bool} {W W':World} {args:Array Value} {v:Value} {ds gs:List (DataW H)} {before pa pv:List MemPlace}
  (hW:DataW.Whole enc P f.params.toList s.vars apart W args.toList ds gs before)
  (hres: ∀(b:Nat) (sp:Nat->Bool) (hd:Bool),DataW.TrodAll enc P W' b sp hd f.resultTypes.toList (v.resultList f.resultTypes.size) (s.fn H (ds++gs)).results [])
  (hargs: ∀sp:Nat->Bool,(∀p∈before,sp p.block=true)->DataW.TrodAll enc P W' 0 sp true f.params.toList args.toList (s.fn H (ds++gs)).args pa)
  (hvars: ∀sp:Nat->Bool,(∀p∈before,sp p.block=true)->DataW.TrodVars enc P W' sp s.vars (s.fn H (ds++gs)).vars pv)
  (hps:before=pa++pv) (hb:Below W.heap.size W W')
  (hok: ∀(j:Nat) (t:TypeId) (r:Value),f.resultTypes[j]? =some t->(v.resultList f.resultTypes.size)[j]? =some r->Value.okWide P W' .any 0 t r):
  s.post enc P f apart fresh handsOn again W args v W':=by
 have hlt: ∀p∈before,p.block<W.heap.size:=fun p hp=>hW.lt p hp
 have hold: ∀p∈before,(fun b=>decide (b<W.heap.size)) p.block=true:=fun p hp=>by simpa using hlt p hp
 refine⟨ds,gs,before,[],pa,pv,hW,hres _ _ _,hargs _ hold,hvars _ hold,World.keptBut_mono (fun p hp=>⟨hp,?_⟩) (hb.frame (· ∈before)),fun _=>?_⟩
 ·rw [hps,cY] at hp
  exact Or.inr hp
 ·obtain⟨_,_,_,_,_,hz,hn⟩:=hW
  refine⟨hok,_,_,([]++pa)++pv,⟨[]++pa,pv,trodAll_append (hargs _ (fun _ _=>rfl)) (hres _ _ _),hvars _ (fun _ _=>rfl),rfl,?_,?_⟩,?_⟩
  ·intro b off hp
   have hin:MemPlace.cell b off∈before:=by rw [hps];simpa using hp
   rw [hb.frozen (hlt _ hin)]
   exact hz b off hin
  ·intro ha
   have:=hn ha
   rw [hps] at this
   simpa using this
  ·intro p hp _
   rw [hps]
   simpa using hp
theorem vl {W W':World} (hl:laidOutB P=true) (hb:Below W.heap.size W W') {sp:Nat->Bool}: ∀{ts:List TypeId} {vs:List Value} {ds:List (DataW H)} {ps:List MemPlace},
  (∀t∈ts,P.readableRec t=true/\t<P.types.size)->DataW.TrodAll enc P W 0 (fun _=>true) true ts vs ds ps->(∀p∈ps,p.block<W.heap.size)->(∀p∈ps,sp p.block=true)->DataW.TrodAll enc P W' 0 sp true ts vs ds ps
 | [],_,_,_,_,h,_,_=>by
  obtain⟨rfl,rfl,rfl⟩:=trodAll_nil h
  rfl
 | t::ts,_,_,_,ht,h,hlt,hsp=>by
  obtain⟨v,vs,d,ds,p,q,rfl,rfl,rfl,h1,h2⟩:=trodAll_cons h
  refine⟨p,q,?_,vl hl hb (fun t h=>ht t (by simp [h])) h2 (fun x hx=>hlt x (by simp [hx])) (fun x hx=>hsp x (by simp [hx])),rfl⟩
  exact WideElems.Trod_stays hl (ht t (by simp)).1 (ht t (by simp)).2 h1 (fun x hx=>hb.same (hlt x (by simp [hx]))) (fun x hx=>hsp x (by simp [hx]))
end
end Go.Gk
namespace Go.Gk
open Go
instance:Bk aH:=⟨fun x=>bk x.X0+bk x.Y0+bk x.X1+bk x.Y1+1,fun _=>by omega⟩
theorem J3 (x:aH):bk x=bk x.X0+bk x.Y0+bk x.X1+bk x.Y1+1:=rfl
instance:Bk bH:=⟨fun x=>bk x.X+bk x.Y+1,fun _=>by omega⟩
theorem IC (x:bH):bk x=bk x.X+bk x.Y+1:=rfl
instance:Bk cD:=⟨fun x=>bk x.At+bk x.eP+bk x.cZ+bk x.To+bk x.iO+1,fun _=>by omega⟩
theorem J4 (x:cD):bk x=bk x.At+bk x.eP+bk x.cZ+bk x.To+bk x.iO+1:=rfl
instance:Bk dD:=⟨fun x=>bk x.Part+bk x.fE+bk x.eV+bk x.At+1,fun _=>by omega⟩
theorem F8 (x:dD):bk x=bk x.Part+bk x.fE+bk x.eV+bk x.At+1:=rfl
instance:Bk fz:=⟨fun x=>bk x.aI+bk x.cQ+bk x.aQ+bk x.bL+1,fun _=>by omega⟩
theorem ID (x:fz):bk x=bk x.aI+bk x.cQ+bk x.aQ+bk x.bL+1:=rfl
instance:Bk fE:=⟨fun x=>bk x.Part+bk x.fE+1,fun _=>by omega⟩
theorem LQ (x:fE):bk x=bk x.Part+bk x.fE+1:=rfl
instance:Bk Test:=⟨fun x=>bk x.A+bk x.B+bk x.Joined+1,fun _=>by omega⟩
theorem J5 (x:Test):bk x=bk x.A+bk x.B+bk x.Joined+1:=rfl
instance:Bk Touch:=⟨fun x=>bk x.Test+bk x.nW+bk x.qy+1,fun _=>by omega⟩
theorem IE (x:Touch):bk x=bk x.Test+bk x.nW+bk x.qy+1:=rfl
instance:Bk aA:=⟨fun x=>bk x.Y0+bk x.Y1+bk x.Xs+1,fun _=>by omega⟩
instance:Bk aJ:=⟨fun x=>bk x.eV+bk x.Set+bk x.o4+1,fun _=>by omega⟩
instance:Bk cU:=⟨fun x=>bk x.oQ+bk x.aQ+bk x.jC+1,fun _=>by omega⟩
instance:Bk fJ:=⟨fun x=>bk x.cD+bk x.Number+1,fun _=>by omega⟩
instance:Bk cE:=⟨fun x=>bk x.e0+bk x.e1+1,fun _=>by omega⟩
instance:Bk aX:=⟨fun x=>bk x.e0+bk x.e1+1,fun _=>by omega⟩
instance:Bk lK:=⟨fun x=>bk x.Open+bk x.fJ+bk x.A+bk x.B+1,fun _=>by omega⟩
instance:Bk bD:=⟨fun x=>bk x.e0+bk x.e1+1,fun _=>by omega⟩
instance:Bk aK:=⟨fun x=>bk x.from_+bk x.to+1,fun _=>by omega⟩
instance:Bk bA:=⟨fun x=>bk x.from_+bk x.to+bk x.ki+1,fun _=>by omega⟩
instance:Bk kH:=⟨fun x=>bk x.Pq+bk x.KA+bk x.speed+bk x.KB+1,fun _=>by omega⟩
end Go.Gk
namespace Go.Gk
open Go Go.Sort
section
variable {α:Type}
theorem yn {β:Type} (a:Array β) {n:Nat} (h:a.size=n):a.extract 0 n=a:=by subst h;exact Array.extract_size
theorem LR {φ:α->α->Option Int} {l:List α} (cf:α->α->Int) (hφ: ∀x∈l,∀y∈l,φ x y=some (cf x y)) (h1: ∀x∈l,¬cf x x<0)
  (h2: ∀x∈l,∀y∈l,∀z∈l,cf x y<0->cf y z<0->cf x z<0) (h3: ∀x∈l,∀y∈l,∀z∈l,¬cf x y<0->¬cf y z<0->¬cf x z<0):SWO (Jw (Dq φ l)):=by
 have hm: ∀i:Fin l.length,l[i]∈l:=fun i=>cO i.isLt
 have e: ∀i j:Fin l.length,Dq φ l i j=cf l[i] l[j]:=fun i j=>by unfold Dq;rw [hφ _ (hm i) _ (hm j)];rfl
 refine⟨fun x=>?_,fun x y z=>?_,fun x y z=>?_⟩
 ·simp only [Jw,e,decide_eq_false_iff_not];exact h1 _ (hm _)
 ·simp only [Jw,e,decide_eq_true_iff];exact h2 _ (hm _) _ (hm _) _ (hm _)
 ·simp only [Jw,e,decide_eq_false_iff_not];exact h3 _ (hm _) _ (hm _) _ (hm _)
theorem zI {φ:α->α->Option Int} {l:List α} (cf:α->α->Int) (hφ: ∀x∈l,∀y∈l,φ x y=some (cf x y)) (h1: ∀x∈l,¬cf x x<0)
  (h2: ∀x∈l,∀y∈l,∀z∈l,cf x y<0->cf y z<0->cf x z<0) (h3: ∀x∈l,∀y∈l,∀z∈l,¬cf x y<0->¬cf y z<0->¬cf x z<0) (hl:l.length<4611686018427387904):
  ∃m,wk φ l=some m/\m.Perm l/\m.Pairwise (fun x y=>¬cf y x<0):=by
 have hO:=LR cf hφ h1 h2 h3
 have hm: ∀i:Fin l.length,l[i]∈l:=fun i=>cO i.isLt
 have hc: (∀i j:Fin l.length,∃c,φ l[i] l[j]=some c):=fun i j=>⟨_,hφ _ (hm i) _ (hm j)⟩
 refine⟨FO φ l,by unfold wk;rw [aC ⟨⟨hc,hO⟩,hl⟩],?_⟩
 unfold FO
 by_cases hn:0<l.length
 ·rw [dif_pos hn]
  letI inh:Inhabited (Fin l.length):=⟨⟨0,hn⟩⟩
  have hds: (Array.ofFn fun i:Fin l.length=>i).size=l.length:=by simp
  obtain⟨hp,hs⟩:=pdq_sorts (Jw (Dq φ l)) hO (Array.ofFn fun i:Fin l.length=>i) 0 l.length (Lib.bitLen l.length) true true (eL _) (by rw [hds];exact bJ _) (Or.inl rfl)
  show (List.map (fun i=>l[i]) (pdq (Jw (Dq φ l)) (Array.ofFn fun i:Fin l.length=>i) 0 l.length (Lib.bitLen l.length) true true).toList).Perm l/\_
  generalize pdq (Jw (Dq φ l)) (Array.ofFn fun i:Fin l.length=>i) 0 l.length (Lib.bitLen l.length) true true=d' at hp hs
  obtain⟨hz,_,hpm⟩:=hp
  have hz':d'.size=l.length:=hz.trans hds
  rw [yn d' hz',yn _ hds] at hpm
  have hof: (Array.ofFn fun i:Fin l.length=>i).toList.map (fun i=>l[i])=l:=by
   rw [Array.toList_ofFn,List.map_ofFn]
   exact List.ofFn_getElem
  refine⟨(hpm.map (fun i=>l[i])).trans (List.Perm.of_eq hof),?_⟩
  rw [List.pairwise_map,kE]
  intro i j hi hj hij
  rw [Array.length_toList] at hi hj
  have:=hs i j (eL _) hij (by rw [<-hz'];exact hj)
  rw [getElem!_pos d' i hi,getElem!_pos d' j hj] at this
  have hij2:=hφ _ (hm (d'[j])) _ (hm (d'[i]))
  have hij3:Dq φ l d'[j] d'[i]=cf l[d'[j]] l[d'[i]]:=by unfold Dq;rw [hij2];rfl
  unfold Jw at this
  rw [decide_eq_false_iff_not,hij3] at this
  exact this
 ·rw [dif_neg hn]
  have:l= []:=List.length_eq_zero_iff.1 (by omega)
  subst this
  exact⟨List.Perm.refl _,iG⟩
theorem Bp {φ:α->α->Option Int} {x:α} (h:φ x x=some 0):wk φ [x]=some [x]:=by
 obtain⟨m,h1,h2,_⟩:=zI (φ:=φ) (l:=[x]) (fun _ _=>0) (fun a ha b hb=>by simp at ha hb;rw [ha,hb];exact h) (fun _ _=>by decide) (fun _ _ _ _ _ _ h=>by simp at h) (fun _ _ _ _ _ _ _ _=>by decide) (by simp)
 rw [h1,List.perm_singleton.1 h2]
theorem AQ {l:List Int} (h:l.Pairwise (fun x y=>x<=y)) (hl:l.length<4611686018427387904):tp l=some l:=by
 unfold tp
 rw [aC hl,List.mergeSort_of_pairwise (by simpa using h)]
end
end Go.Gk
namespace Go.Gk
open Go
def rA (l:List Int) (x:Int):Nat:=l.countP (fun a=>decide (a<=x))
def nK (l:List Int) (x:Int):Bool:=rA l x % 2==1
def iV (l:List Int):Prop:=l.Pairwise (· < ·)
theorem Cv (x:Int):rA [] x=0:=rfl
theorem mR (a:Int) (l:List Int) (x:Int):rA (a::l) x= (if a<=x then 1 else 0)+rA l x:=by
 unfold rA
 rw [List.countP_cons]
 by_cases h:a<=x <;> simp [h];omega
theorem zJ (l m:List Int) (x:Int):rA (l++m) x=rA l x+rA m x:=List.countP_append
theorem Gb {l:List Int} {x:Int} (h: ∀a∈l,a<=x):rA l x=l.length:=by
 unfold rA;rw [List.countP_eq_length];intro a ha;simpa using h a ha
theorem zK {l:List Int} {x:Int} (h: ∀a∈l,x<a):rA l x=0:=by
 unfold rA;rw [List.countP_eq_zero];intro a ha;have:=h a ha;simp;omega
theorem wS {l:List Int} {x:Int}:nK l x=true↔rA l x % 2=1:=by unfold nK;simp
theorem wT {l:List Int} {x:Int} (h: ∀a∈l,x<a):nK l x=false:=by unfold nK;rw [zK h];rfl
theorem iV.head {a:Int} {l:List Int} (h:iV (a::l)): ∀b∈l,a<b:=(mg.1 h).1
theorem iV.tail {a:Int} {l:List Int} (h:iV (a::l)):iV l:=(mg.1 h).2
theorem wU {a:Int} {l:List Int} (h:iV (a::l)):nK (a::l) a=true:=by
 rw [wS,mR,aC (Int.le_refl _),zK h.head]
theorem zL: ∀{l m:List Int},iV l->iV m->(∀x,nK l x=nK m x)->l=m
 | [],[],_,_,_=>rfl
 | [],b::m,_,hm,h=>by have:=h b;rw [wU hm] at this;cases this
 | a::l,[],hl,_,h=>by have:=h a;rw [wU hl] at this;cases this
 | a::l,b::m,hl,hm,h=>by
  have hab:a=b:=by
   rcases Int.lt_trichotomy a b with h1 | h1 | h1
   ·have h2:=h a
    rw [wU hl,wT (l:=b::m) (fun c hc=>by
     rcases cT.1 hc with rfl | hc
     ·exact h1
     ·have:=hm.head c hc;omega)] at h2
    cases h2
   ·exact h1
   ·have h2:=h b
    rw [wU hm,wT (l:=a::l) (fun c hc=>by
     rcases cT.1 hc with rfl | hc
     ·exact h1
     ·have:=hl.head c hc;omega)] at h2
    cases h2
  subst hab
  rw [zL hl.tail hm.tail (fun x=>?_)]
  by_cases hx:a<=x
  ·have h2:=h x
   unfold nK at h2 ⊢
   rw [mR,mR,aC hx] at h2
   rw [eI] at h2 ⊢
   simp only [beq_iff_eq] at h2 ⊢
   omega
  ·rw [wT (fun c hc=>by have:=hl.head c hc;omega),wT (fun c hc=>by have:=hm.head c hc;omega)]
theorem wV {l:List Int} {a b:Int} (hl: ∀c∈l,c<a) (he:l.length % 2=0) (hab:a<b) (x:Int):nK (l++[a,b]) x= (nK l x||(decide (a<=x)&&decide (x<b))):=by
 rw [eI,cX,bR,bB,bB,wS,wS,zJ,mR,mR,Cv]
 by_cases h1:a<=x
 ·have h2:rA l x=l.length:=Gb fun c hc=>by have:=hl c hc;omega
  rw [h2,aC h1]
  by_cases h3:b<=x
  ·rw [aC h3];omega
  ·rw [aD h3];omega
 ·rw [aD h1,aD (by omega)];omega
theorem II {l:List Int} {s e a b:Int} (hl: ∀c∈l,c<s) (he:l.length % 2=0) (hs:s<e) (h1:s<=a) (h2:a<=e) (hab:a<b) (x:Int):nK (l++[s,max e b]) x= (nK (l++[s,e]) x||(decide (a<=x)&&decide (x<b))):=by
 rw [wV hl he (by omega),wV hl he hs]
 rw [eI]
 simp only [cX,bR,bB]
 constructor
 ·rintro(h | h)
  ·exact .inl (.inl h)
  ·by_cases hx:x<e
   ·exact .inl (.inr ⟨h.1,hx⟩)
   ·exact .inr ⟨by omega,by omega⟩
 ·rintro((h | h) | h)
  ·exact .inl h
  ·exact .inr ⟨h.1,by omega⟩
  ·exact .inr ⟨by omega,by omega⟩
theorem iV.snoc {l:List Int} {a b:Int} (h:iV l) (hl: ∀c∈l,c<a) (hab:a<b):iV (l++[a,b]):=by
 unfold iV
 rw [mh]
 refine⟨h,by simp [hab],fun c hc d hd=>?_⟩
 have:=hl c hc
 simp at hd
 rcases hd with rfl | rfl <;> omega
structure Bd where
 y0:Int
 y1:Int
 xs:List Int
def rowAt:List Bd->Int->List Int
 | [],_=>[]
 | b::s,y=>if b.y0<=y/\y<b.y1 then b.xs else rowAt s y
theorem l7 (b:Bd) (s:List Bd) (y:Int):rowAt (b::s) y=if b.y0<=y/\y<b.y1 then b.xs else rowAt s y:=rfl
structure eA (s:List Bd):Prop where
 each: ∀b∈s,b.y0<b.y1/\b.xs≠[]/\iV b.xs/\b.xs.length % 2=0
 ord:s.Pairwise (fun b c=>b.y1<=c.y0/\(b.y1=c.y0->b.xs≠c.xs))
theorem eA.nil:eA []:=⟨fun b h=>by simp at h,iG⟩
theorem eA.tail {b:Bd} {s:List Bd} (h:eA (b::s)):eA s:=⟨fun c hc=>h.each c (gh _ hc),(mg.1 h.ord).2⟩
theorem kP {s:List Bd} {y:Int} (h: ∀b∈s,y<b.y0\/b.y1<=y):rowAt s y= []:=by
 induction s with
 | nil=>rfl
 | cons b s ih=>
  unfold rowAt
  have:=h b (by simp)
  rw [aD (by omega)]
  exact ih fun c hc=>h c (gh _ hc)
theorem pz (s t:List Bd) (y:Int):rowAt (s++t) y=if (∃b∈s,b.y0<=y/\y<b.y1) then rowAt s y else rowAt t y:=by
 induction s with
 | nil=>simp
 | cons b s ih=>
  rw [List.cons_append,l7,l7]
  by_cases h:b.y0<=y/\y<b.y1
  ·rw [aC h,aC ⟨b,by simp,h⟩,aC h]
  ·rw [aD h,ih]
   by_cases h2: ∃c∈s,c.y0<=y/\y<c.y1
   ·obtain⟨c,hc,hc2⟩:=h2
    rw [aC ⟨c,hc,hc2⟩,aC ⟨c,gh _ hc,hc2⟩,aD h]
   ·rw [aD h2,aD (show ¬∃c∈b::s,c.y0<=y/\y<c.y1 from ?_)]
    rintro⟨c,hc,hc2⟩
    rcases cT.1 hc with rfl | hc
    ·exact h hc2
    ·exact h2 ⟨c,hc,hc2⟩
theorem eA.l8 {b:Bd} {s:List Bd} {y:Int} (h0:b.y0<=y) (h1:y<b.y1):rowAt (b::s) y=b.xs:=by unfold rowAt;rw [aC ⟨h0,h1⟩]
theorem eA.zM {b:Bd} {s:List Bd} (h:eA (b::s)): ∀c∈s,b.y1<=c.y0:=fun c hc=>((mg.1 h.ord).1 c hc).1
theorem eA.uB {b:Bd} {s:List Bd} (h:eA (b::s)) {y:Int} (hy:y<b.y0):rowAt (b::s) y= []:=kP fun c hc=>by
 rcases cT.1 hc with rfl | hc
 ·exact .inl hy
 ·have:=h.zM c hc;have:=(h.each b (by simp)).1;exact .inl (by omega)
theorem eA.Gc {b:Bd} {s:List Bd} (h:eA (b::s)):rowAt (b::s) b.y1≠b.xs:=by
 rw [l7,aD (by omega)]
 cases s with
 | nil=>exact fun e=>(h.each b (by simp)).2.1 e.symm
 | cons c s=>
  have h1:=(mg.1 h.ord).1 c (by simp)
  by_cases e:b.y1=c.y0
  ·rw [eA.l8 (by omega) (by have:=(h.tail.each c (by simp)).1;omega)]
   exact fun h=>h1.2 e h.symm
  ·rw [h.tail.uB (by have:=h1.1;omega)]
   exact fun e=>(h.each b (by simp)).2.1 e.symm
theorem zN: ∀{s t:List Bd},eA s->eA t->(∀y,rowAt s y=rowAt t y)->s=t
 | [],[],_,_,_=>rfl
 | [],c::t,_,ht,h=>by
  have hc:=ht.each c (by simp)
  have:=h c.y0
  rw [eA.l8 (Int.le_refl _) hc.1] at this
  exact absurd this.symm hc.2.1
 | b::s,[],hs,_,h=>by
  have hb:=hs.each b (by simp)
  have:=h b.y0
  rw [eA.l8 (Int.le_refl _) hb.1] at this
  exact absurd this hb.2.1
 | b::s,c::t,hs,ht,h=>by
  have hb:=hs.each b (by simp)
  have hc:=ht.each c (by simp)
  have e0:b.y0=c.y0:=by
   rcases Int.lt_trichotomy b.y0 c.y0 with h1 | h1 | h1
   ·have h2:=h b.y0
    rw [eA.l8 (Int.le_refl _) hb.1,ht.uB h1] at h2
    exact absurd h2 hb.2.1
   ·exact h1
   ·have h2:=h c.y0
    rw [eA.l8 (Int.le_refl _) hc.1,hs.uB h1] at h2
    exact absurd h2.symm hc.2.1
  have ex:b.xs=c.xs:=by
   have h2:=h b.y0
   rw [eA.l8 (Int.le_refl _) hb.1,eA.l8 (by omega) (by omega)] at h2
   exact h2
  have e1:b.y1=c.y1:=by
   rcases Int.lt_trichotomy b.y1 c.y1 with h1 | h1 | h1
   ·have h2:=h b.y1
    rw [eA.l8 (b:=c) (by omega) h1] at h2
    exact absurd (h2.trans ex.symm) hs.Gc
   ·exact h1
   ·have h2:=h c.y1
    rw [eA.l8 (b:=b) (by omega) h1] at h2
    exact absurd (h2.symm.trans ex) ht.Gc
  have ebc:b=c:=by cases b;cases c;simp_all
  subst ebc
  rw [zN hs.tail ht.tail (fun y=>?_)]
  by_cases hy:b.y1<=y
  ·have h2:=h y
   unfold rowAt at h2
   rw [aD (by omega),aD (by omega)] at h2
   exact h2
  ·rw [kP (fun d hd=>by have:=hs.zM d hd;exact .inl (by omega)),kP (fun d hd=>by have:=ht.zM d hd;exact .inl (by omega))]
def th (s:List Bd) (x y:Int):Bool:=nK (rowAt s y) x
theorem Bq {s:List Bd} (h: ∀b∈s,iV b.xs) (y:Int):iV (rowAt s y):=by
 induction s with
 | nil=>exact iG
 | cons b s ih=>
  unfold rowAt
  split
  ·exact h b (by simp)
  ·exact ih fun c hc=>h c (gh _ hc)
theorem sd {s t:List Bd} (hs:eA s) (ht:eA t) (h: ∀x y,th s x y=th t x y):s=t:=
 zN hs ht fun y=>zL (Bq (fun b hb=>(hs.each b hb).2.2.1) y) (Bq (fun b hb=>(ht.each b hb).2.2.1) y) fun x=>h x y
def iJ (s:List Bd) (b:Bd):List Bd:=
 if b.xs= []\/b.y1<=b.y0 then s else
  match s.getLast? with
  | some c=>if c.y1=b.y0/\c.xs=b.xs then s.dropLast++[⟨c.y0,b.y1,c.xs⟩] else s++[b]
  | none=>[b]
theorem pY {α:Type} {s:List α} {c:α} (h:s.getLast? =some c):s=s.dropLast++[c]:=by
 have hne:s≠[]:=fun e=>by rw [e] at h;cases h
 rw [List.getLast?_eq_some_getLast hne] at h
 injection h with h
 rw [<-h];exact(List.dropLast_concat_getLast hne).symm
theorem uC {s:List Bd} {b:Bd} (hs: ∀c∈s,c.y1<=b.y0) (hg: ∀c∈s,c.y0<c.y1) (hb:b.y1<=b.y0->b.y1=b.y0) (y:Int):rowAt (iJ s b) y=if b.y0<=y/\y<b.y1 then b.xs else rowAt s y:=by
 have key: ∀(s:List Bd) (c:Bd),(∀d∈s,d.y1<=c.y0)->rowAt (s++[c]) y=if c.y0<=y/\y<c.y1 then c.xs else rowAt s y:=by
  intro s c h
  rw [pz]
  by_cases h1:c.y0<=y/\y<c.y1
  ·rw [aC h1,aD (by rintro⟨d,hd,hd2⟩;have:=h d hd;omega),eA.l8 h1.1 h1.2]
  ·rw [aD h1]
   by_cases h2: ∃d∈s,d.y0<=y/\y<d.y1
   ·rw [aC h2]
   ·rw [aD h2,l7,aD h1]
    refine(show rowAt [] y=_ from (kP (s:=s) fun d hd=>?_).symm)
    by_cases h3:d.y0<=y
    ·exact .inr (by have: ¬(d.y0<=y/\y<d.y1):=fun h4=>h2 ⟨d,hd,h4⟩;omega)
    ·exact .inl (by omega)
 unfold iJ
 by_cases h0:b.xs= []\/b.y1<=b.y0
 ·rw [aC h0]
  by_cases h1:b.y0<=y/\y<b.y1
  ·rw [aC h1]
   rcases h0 with h0 | h0
   ·rw [h0];exact kP fun c hc=> .inr (by have:=hs c hc;omega)
   ·omega
  ·rw [aD h1]
 ·rw [aD h0]
  cases hl:s.getLast? with
  | none=>
   have:s= []:=by simpa using hl
   subst this
   rfl
  | some c=>
   dsimp only
   have hsp:=pY hl
   have hcm:c∈s:=by rw [hsp];simp
   by_cases h1:c.y1=b.y0/\c.xs=b.xs
   ·rw [aC h1]
    have hd: ∀d∈s.dropLast,d.y1<=c.y0\/True:=fun _ _=> .inr trivial
    rw [pz]
    have hrow:rowAt s y=if (∃d∈s.dropLast,d.y0<=y/\y<d.y1) then rowAt s.dropLast y else (if c.y0<=y/\y<c.y1 then c.xs else []):=by
     conv=>lhs;rw [hsp]
     rw [pz];rfl
    rw [hrow]
    have hcg:=hg c hcm
    by_cases h2: ∃d∈s.dropLast,d.y0<=y/\y<d.y1
    ·obtain⟨d,hd,hd2⟩:=h2
     have:=hs d (List.dropLast_subset _ hd)
     have he: ∃d∈s.dropLast,d.y0<=y/\y<d.y1:=⟨d,hd,hd2⟩
     rw [aC he,aC he,aD (by omega)]
    ·rw [aD h2,aD h2]
     show (if c.y0<=y/\y<b.y1 then c.xs else [])=_
     by_cases h3:b.y0<=y/\y<b.y1
     ·rw [aC h3,aC ⟨by omega,h3.2⟩,h1.2]
     ·rw [aD h3]
      by_cases h4:c.y0<=y/\y<c.y1
      ·rw [aC h4,aC ⟨h4.1,by omega⟩]
      ·rw [aD h4,aD (by omega)]
   ·rw [aD h1]
    exact key s b hs
theorem uD {s:List Bd} {b:Bd} (h:eA s) (hs: ∀c∈s,c.y1<=b.y0) (hb:iV b.xs) (he:b.xs.length % 2=0):eA (iJ s b):=by
 unfold iJ
 by_cases h0:b.xs= []\/b.y1<=b.y0
 ·rw [aC h0];exact h
 ·rw [aD h0]
  have hbg:b.y0<b.y1/\b.xs≠[]/\iV b.xs/\b.xs.length % 2=0:=⟨by omega,fun e=>h0 (.inl e),hb,he⟩
  cases hl:s.getLast? with
  | none=>exact⟨fun c hc=>by simp at hc;subst hc;exact hbg,List.pairwise_singleton _ _⟩
  | some c=>
   dsimp only
   have hsp:=pY hl
   have hcm:c∈s:=by rw [hsp];simp
   have hc:=h.each c hcm
   have hord:=h.ord
   rw [hsp,mh] at hord
   by_cases h1:c.y1=b.y0/\c.xs=b.xs
   ·rw [aC h1]
    refine⟨fun d hd=>?_,?_⟩
    ·rcases cY.1 hd with hd | hd
     ·exact h.each d (List.dropLast_subset _ hd)
     ·simp at hd;subst hd;exact⟨by show c.y0<b.y1;omega,hc.2⟩
    ·rw [mh]
     refine⟨hord.1,List.pairwise_singleton _ _,fun d hd e he=>?_⟩
     simp at he;subst he
     exact hord.2.2 d hd c (by simp)
   ·rw [aD h1]
    refine⟨fun d hd=>?_,?_⟩
    ·rcases cY.1 hd with hd | hd
     ·exact h.each d hd
     ·simp at hd;subst hd;exact hbg
    ·rw [mh]
     refine⟨h.ord,List.pairwise_singleton _ _,fun d hd e he=>?_⟩
     simp at he;subst he
     refine⟨hs d hd,fun e1 e2=>?_⟩
     rw [hsp] at hd
     rcases cY.1 hd with hd | hd
     ·have h2:=(hord.2.2 d hd c (by simp)).1
      have:=hs c hcm
      omega
     ·simp at hd;subst hd;exact h1 ⟨e1,e2⟩
theorem uE {s:List Bd} {b:Bd} (hs: ∀c∈s,c.y1<=b.y0) (hb:b.y0<=b.y1): ∀c∈iJ s b,c.y1<=b.y1:=by
 intro c hc
 unfold iJ at hc
 split at hc
 ·have:=hs c hc;omega
 ·split at hc
  ·split at hc
   ·rcases cY.1 hc with hc | hc
    ·have:=hs c (List.dropLast_subset _ hc);omega
    ·simp at hc;subst hc;exact Int.le_refl _
   ·rcases cY.1 hc with hc | hc
    ·have:=hs c hc;omega
    ·simp at hc;subst hc;exact Int.le_refl _
  ·simp at hc;subst hc;exact Int.le_refl _
end Go.Gk
namespace Go.Gk
open Go
section
variable {N:Nat}
def bT (b:aA):Bd:=⟨b.Y0,b.Y1,b.Xs⟩
def small (a:Int):Prop:= -1099511627776<=a/\a<=1099511627776
structure Bs (r:aH):Prop where
 x:r.X0<r.X1
 y:r.Y0<r.Y1
 s1:small r.X0
 s2:small r.X1
 s3:small r.Y0
 s4:small r.Y1
def E4 (l:List aH) (x:Int):Bool:=l.any (fun r=>decide (r.X0<=x)&&decide (x<r.X1))
def te (l:List aH) (x y:Int):Bool:=l.any (fun r=>(decide (r.X0<=x)&&decide (x<r.X1))&&(decide (r.Y0<=y)&&decide (y<r.Y1)))
theorem zO {l:List aH} {x:Int}:E4 l x=true↔∃r∈l,r.X0<=x/\x<r.X1:=by unfold E4;simp [iZ]
theorem ir {l:List aH} {x y:Int}:te l x y=true↔∃r∈l,(r.X0<=x/\x<r.X1)/\r.Y0<=y/\y<r.Y1:=by unfold te;simp [iZ]
theorem wrap_small {a b:Int} (ha:small a) (hb:small b):IntKind.wrap .i64 (a - b)=a - b:=by unfold small at *;exact eE (by omega) (by omega)
theorem zP {n:Nat} (h:0<n) (hn:n<=4611686018427387904):IntKind.wrap .i64 (((n:Nat):Int) - 1)= ((n - 1:Nat):Int):=fN h hn
structure Pe (out:List Int) (m:List aH) (k:Nat):Prop where
 row: (k=0/\out= [])\/∃A s e,out=A++[s,e]/\iV A/\(∀c∈A,c<s)/\A.length % 2=0/\s<e/\∃j r,j<k/\m[j]? =some r/\s=r.X0
 nK: ∀x,nK out x=E4 (m.take k) x
 len:out.length<=2*k
 mem: ∀c∈out,∃r∈m,c=r.X0\/c=r.X1
theorem xV (l:List aH) (r:aH) (x:Int):E4 (l++[r]) x= (E4 l x||(decide (r.X0<=x)&&decide (x<r.X1))):=by unfold E4;rw [List.any_append];simp
theorem Cw {l:List aH} (hl:l.length<=268435456) (hok: ∀r∈l,Bs r): ∃row l',iP N l=some (row,l')/\l'.Perm l/\iV row/\row.length % 2=0/\(∀x,nK row x=E4 l x)/\row.length<=2*l.length/\∀c∈row,∃r∈l,c=r.X0\/c=r.X1:=by
 unfold iP
 obtain⟨m,h1,h2,h3⟩:=zI (φ:=gu N) (l:=l) (fun a b=>a.X0 - b.X0) (fun a ha b hb=>by
  unfold gu;rw [wrap_small (hok a ha).s1 (hok b hb).s1]) (fun a _=>by omega) (fun a _ b _ c _ h1 h2=>by omega) (fun a _ b _ c _ h1 h2=>by omega) (by omega)
 have hml:m.length=l.length:=h2.length_eq
 have hmok: ∀r∈m,Bs r:=fun r hr=>hok r (h2.subset hr)
 rw [h1,aB]
 obtain⟨out,a1,a2⟩:=yW (m:=m.length) (s:=([]:List Int)) (body:=fun(k32:Nat) (s33: (List Int))=>((idx m (k32:Int)).bind fun x79=>(bif (decide ((IntKind.wrap .i64 ((s33.length:Int) - 1))>=0)) then ((idx s33 (IntKind.wrap .i64 ((s33.length:Int) - 1))).bind fun x86=>some (decide (x79.X0<=x86))) else (some false)).bind fun s84=>(bif s84 then ((idx s33 (IntKind.wrap .i64 ((s33.length:Int) - 1))).bind fun x94=>(idx s33 (IntKind.wrap .i64 ((s33.length:Int) - 1))).bind fun x95=>some (s33.set (Int.toNat (IntKind.wrap .i64 ((s33.length:Int) - 1))) (if x94<x79.X1 then x79.X1 else x94))) else ((app 8 s33 ([x79.X0,x79.X1]: (List Int))).bind fun x97=>some x97)).bind fun s92=>some s92:Option ((List Int))))
  (fun k out=>Pe out m k) (by omega) ⟨.inl ⟨rfl,rfl⟩,fun x=>rfl,by simp,fun c hc=>by cases hc⟩ (fun k out hk ⟨i1,i2,i3,i4⟩=>by
   have hx:m[k]? =some m[k]:=aL hk
   have hr:=hmok _ (cO hk)
   rw [dY hx,aB]
   have hts:m.take (k+1)=m.take k++[m[k]]:=eF hk
   rcases i1 with ⟨rfl,rfl⟩ | ⟨A,s,e,rfl,hA,hAs,hAe,hse,j,r,hj,hjr,hsr⟩
   ·rw [show decide (IntKind.wrap .i64 (((([]:List Int).length:Nat):Int) - 1)>=0)=false by decide,aN,aB,aN,jX (by simp),aB,aB]
    refine⟨_,rfl, .inr ⟨[],_,_,rfl,iG,fun c hc=>by simp at hc,rfl,hr.x,0,m[0],by omega,hx,rfl⟩,fun x=>?_,by simp,fun c hc=>⟨m[0],cO hk,by simpa using hc⟩⟩
    rw [hts,xV,<-i2 x]
    exact wV (l:=[]) (fun c hc=>by simp at hc) rfl hr.x x
   ·have hlen: (A++[s,e]).length=A.length+2:=by simp
    have hwp:IntKind.wrap .i64 ((((A++[s,e]).length:Nat):Int) - 1)= ((A.length+1:Nat):Int):=by rw [zP (by omega) (by omega),hlen];rfl
    have hlast: (A++[s,e])[A.length+1]? =some e:=by rw [fT (by omega)];simp
    have hs:s<=m[k].X0:=by
     have:=kE.1 h3 j k (by have:=(aW.1 hjr).1;omega) hk hj
     rw [hsr,<-(aW.1 hjr).2];omega
    rw [hwp,bG (by omega),aO,dY hlast,aB,aB]
    by_cases hc:m[k].X0<=e
    ·rw [bG hc,aO,aB,aB,aB,bX]
     have mj: (A++[s,e]).set (A.length+1) (if e<m[k].X1 then m[k].X1 else e)=A++[s,max e m[k].X1]:=by
      rw [List.set_append_right _ _ (by omega)]
      have:A.length+1 - A.length=1:=by omega
      rw [this,Int.max_def]
      simp only [List.set_cons_succ,List.set_cons_zero]
      congr 2
      split <;> split <;> simp <;> omega
     rw [mj]
     refine⟨_,rfl, .inr ⟨A,s,_,rfl,hA,hAs,hAe,by omega,j,r,by omega,hjr,hsr⟩,fun x=>?_,by simp at i3 ⊢;omega,fun c hc=>by
      rcases cY.1 hc with h | h
      ·exact i4 c (List.mem_append_left _ h)
      ·simp at h
       rcases h with h | h
       ·exact i4 c (by simp [h])
       ·rw [Int.max_def] at h
        split at h
        ·exact⟨_,cO hk, .inr h⟩
        ·exact i4 c (by simp [h])⟩
     rw [hts,xV,<-i2 x]
     exact II hAs hAe hse hs hc hr.x x
    ·rw [bI hc,aN,jX (by rw [hlen];simp;omega),aB,aB]
     have hall: ∀c∈A++[s,e],c<m[k].X0:=fun c hc'=>by
      rcases cY.1 hc' with h | h
      ·have:=hAs c h;omega
      ·simp at h;omega
     refine⟨_,rfl, .inr ⟨A++[s,e],_,_,rfl,hA.snoc hAs hse,hall,by rw [hlen];omega,hr.x,k,m[k],by omega,hx,rfl⟩,fun x=>?_,by simp at i3 ⊢;omega,fun c hc=>by
      rcases cY.1 hc with h | h
      ·exact i4 c h
      ·exact⟨m[k],cO hk,by simpa using h⟩⟩
     rw [hts,xV,<-i2 x]
     exact wV hall (by rw [hlen];omega) hr.x x)
 rw [a1,aB]
 refine⟨out,m,rfl,h2,?_,?_,fun x=>?_,by rw [<-hml];exact a2.len,fun c hc=>by obtain⟨r,hr,h⟩:=a2.mem c hc;exact⟨r,h2.subset hr,h⟩⟩
 ·rcases a2.row with ⟨_,h⟩ | ⟨A,s,e,rfl,hA,hAs,hAe,hse,_⟩
  ·rw [h];exact iG
  ·exact hA.snoc hAs hse
 ·rcases a2.row with ⟨_,h⟩ | ⟨A,s,e,rfl,hA,hAs,hAe,hse,_⟩
  ·rw [h];rfl
  ·simp;omega
 ·rw [a2.nK x,fw,eI,zO,zO]
  constructor
  ·rintro⟨r,hr,h⟩;exact⟨r,h2.subset hr,h⟩
  ·rintro⟨r,hr,h⟩;exact⟨r,h2.symm.subset hr,h⟩
theorem G2 {l m:List Int} (hl:l.length<=4611686018427387904):mn N l m=some (decide (l=m)):=Bn hl
theorem Gd {s:List aA} {b:aA} (hs:s.length<=1048576000) (hx: ∀c∈s,c.Xs.length<=1048576000): ∃s',iv N s b=some s'/\s'.map bT=iJ (s.map bT) (bT b):=by
 unfold iv iJ
 by_cases h0:b.Xs= []\/b.Y1<=b.Y0
 ·have e: ((((b.Xs.length:Nat):Int)==0)||(decide (b.Y1<=b.Y0)))=true:=by
   rw [cX]
   rcases h0 with h | h
   ·left;rw [h];rfl
   ·right;exact bG h
  rw [e,aO,aC (show (bT b).xs= []\/(bT b).y1<=(bT b).y0 from h0)]
  exact⟨s,rfl,rfl⟩
 ·have e: ((((b.Xs.length:Nat):Int)==0)||(decide (b.Y1<=b.Y0)))=false:=by
   rw [Bool.or_eq_false_iff]
   constructor
   ·rw [beq_eq_false_iff_ne];intro h;exact h0 (.inl (List.eq_nil_of_length_eq_zero (by omega)))
   ·exact bI fun h=>h0 (.inr h)
  rw [e,aN,aD (show ¬((bT b).xs= []\/(bT b).y1<=(bT b).y0) from h0)]
  rcases List.eq_nil_or_concat s with rfl | ⟨A,c,hA⟩
  ·rw [show decide (IntKind.wrap .i64 (((([]:List aA).length:Nat):Int) - 1)>=0)=false by decide,aN,aB,aN,jX (by simp),aB]
   exact⟨_,rfl,rfl⟩
  ·rw [List.concat_eq_append] at hA
   subst hA
   have hlen: (A++[c]).length=A.length+1:=by simp
   have hwp:IntKind.wrap .i64 ((((A++[c]).length:Nat):Int) - 1)= ((A.length:Nat):Int):=by rw [zP (by omega) (by omega),hlen];rfl
   have hlast: (A++[c])[A.length]? =some c:=by simp
   rw [hwp,bG (by omega),aO,dY hlast,aB,aB,G2 (by have:=hx c (by simp);omega),aB,aB,bX,jX (by rw [hlen];simp;omega),aB]
   have hl2: ((A++[c]).map bT).getLast? =some (bT c):=by simp
   have hd2: ((A++[c]).map bT).dropLast=A.map bT:=by simp
   rw [hl2,hd2]
   dsimp only
   by_cases h1:c.Y1=b.Y0/\c.Xs=b.Xs
   ·rw [aC (show (bT c).y1= (bT b).y0/\(bT c).xs= (bT b).xs from h1),show (c.Y1==b.Y0)=true by rw [h1.1];simp,aO,bG h1.2,aB,aO]
    refine⟨_,rfl,?_⟩
    rw [List.set_append_right _ _ (bJ _),Nat.sub_self]
    simp [bT]
   ·rw [aD (show ¬((bT c).y1= (bT b).y0/\(bT c).xs= (bT b).xs) from h1)]
    have e2: (bif (c.Y1==b.Y0) then (some (decide (c.Xs=b.Xs))) else (some false))=some false:=by
     by_cases h2:c.Y1=b.Y0
     ·rw [show (c.Y1==b.Y0)=true by rw [h2];simp,aO,bI (fun h=>h1 ⟨h2,h⟩)]
     ·rw [show (c.Y1==b.Y0)=false by simpa using h2,aN]
    rw [e2,aB,aN]
    exact⟨_,rfl,by simp⟩
end
end Go.Gk
namespace Go.Gk
open Go
def cV (l:List (Int×Int)):List Int:=l.flatMap fun s=>[s.1,s.2]
def ig (l:List (Int×Int)) (x:Int):Bool:=l.any fun s=>decide (s.1<=x)&&decide (x<s.2)
theorem ij (s:Int×Int) (l:List (Int×Int)):cV (s::l)=s.1::s.2::cV l:=rfl
theorem sf (l m:List (Int×Int)):cV (l++m)=cV l++cV m:=List.flatMap_append
theorem jf (l:List (Int×Int)): (cV l).length=2*l.length:=by
 induction l with
 | nil=>rfl
 | cons s l ih=>rw [ij,dK,dK,dK,ih];omega
theorem Bt (s:Int×Int) (l:List (Int×Int)) (x:Int):ig (s::l) x= ((decide (s.1<=x)&&decide (x<s.2))||ig l x):=rfl
theorem yo (l m:List (Int×Int)) (x:Int):ig (l++m) x= (ig l x||ig m x):=List.any_append
theorem rB {l:List (Int×Int)} {x:Int}:ig l x=true↔∃s∈l,s.1<=x/\x<s.2:=by
 unfold ig;simp
theorem G3 {a b:Int} {m:List Int} (h:iV (a::b::m)) (x:Int):nK (a::b::m) x= ((decide (a<=x)&&decide (x<b))||nK m x):=by
 have hab:a<b:=h.head b (by simp)
 have hm:=h.tail.head
 rw [eI,cX,bR,bB,bB,wS,wS,mR,mR]
 by_cases h1:a<=x
 ·rw [aC h1]
  by_cases h2:b<=x
  ·rw [aC h2];omega
  ·rw [aD h2,zK (fun c hc=>by have:=hm c hc;omega)];omega
 ·rw [aD h1,aD (by omega)];omega
theorem rC: ∀{l:List (Int×Int)},iV (cV l)->∀x,nK (cV l) x=ig l x
 | [],_,x=>rfl
 | s::l,h,x=>by
  rw [ij] at h ⊢
  rw [G3 h,Bt,rC h.tail.tail]
theorem Bu: ∀{l m:List (Int×Int)},cV l=cV m->l=m
 | [],[],_=>rfl
 | [],s::m,h=>by cases h
 | s::l,[],h=>by cases h
 | (a,b)::l,(c,d)::m,h=>by
  rw [ij,ij] at h
  injection h with h1 h2
  injection h2 with h2 h3
  simp only at h1 h2
  rw [h1,h2,Bu h3]
theorem xW {l:List (Int×Int)} {c:Int} (h:c∈cV l): ∃s∈l,c=s.1\/c=s.2:=by
 obtain⟨s,hs,hc⟩:=List.mem_flatMap.1 h
 exact⟨s,hs,by simpa using hc⟩
theorem tS {l:List (Int×Int)} (h:iV (cV l)): ∀s∈l,s.1<s.2:=by
 induction l with
 | nil=>intro s hs;cases hs
 | cons a l ih=>
  rw [ij] at h
  intro s hs
  rcases cT.1 hs with rfl | hs
  ·exact h.head _ (by simp)
  ·exact ih h.tail.tail s hs
theorem rD {l m:List (Int×Int)}:iV (cV (l++m))↔iV (cV l)/\iV (cV m)/\∀s∈l,∀t∈m,s.2<t.1:=by
 rw [sf]
 unfold iV
 rw [mh]
 constructor
 ·rintro⟨h1,h2,h3⟩
  exact⟨h1,h2,fun s hs t ht=>h3 s.2 (List.mem_flatMap.2 ⟨s,hs,by simp⟩) t.1 (List.mem_flatMap.2 ⟨t,ht,by simp⟩)⟩
 ·rintro⟨h1,h2,h3⟩
  refine⟨h1,h2,fun a ha b hb=>?_⟩
  obtain⟨s,hs,ha⟩:=xW ha
  obtain⟨t,ht,hb⟩:=xW hb
  have h4:=h3 s hs t ht
  have h5:=tS (l:=l) h1 s hs
  have h6:=tS (l:=m) h2 t ht
  rcases ha with rfl | rfl <;> rcases hb with rfl | rfl <;> omega
def jG (s:Int×Int):List (Int×Int)->(Int×Int)×List (Int×Int)
 | []=>(s,[])
 | a::l=>if a.1<=s.2 then jG (min s.1 a.1,max s.2 a.2) l else (s,a::l)
def kQ (l:List (Int×Int)) (s:Int×Int):List (Int×Int):=
 l.takeWhile (fun a=>decide (a.2<s.1))++(jG s (l.dropWhile fun a=>decide (a.2<s.1))).1::(jG s (l.dropWhile fun a=>decide (a.2<s.1))).2
theorem yp: ∀(l:List (Int×Int)) (s:Int×Int),s.1<s.2->iV (cV l)->(∀a∈l,s.1<=a.2)->
  (jG s l).1.1< (jG s l).1.2/\((jG s l).1.1=s.1\/∃a∈l,(jG s l).1.1=a.1)/\iV (cV (jG s l).2)/\(∀t∈(jG s l).2,(jG s l).1.2<t.1)/\
  ∀x,ig ((jG s l).1::(jG s l).2) x= ((decide (s.1<=x)&&decide (x<s.2))||ig l x)
 | [],s,h,_,_=>⟨h, .inl rfl,iG,fun t (ht:t∈([]:List (Int×Int)))=>(by cases ht),fun x=>rfl⟩
 | a::l,s,h,hi,hs=>by
  have hsp:=tS hi
  have ha:=hsp a (by simp)
  have hi':=hi
  rw [ij] at hi'
  have hsa:=hs a (by simp)
  unfold jG
  by_cases hc:a.1<=s.2
  ·rw [aC hc]
   have hlt: (min s.1 a.1,max s.2 a.2).1< (min s.1 a.1,max s.2 a.2).2:=by dsimp only;omega
   obtain⟨h1,h2,h3,h4,h5⟩:=yp l (min s.1 a.1,max s.2 a.2) hlt hi'.tail.tail (fun b hb=>by
    have:=(rD (l:=[a]) (m:=l)).1 hi
    have h6:=this.2.2 a (by simp) b hb
    have h7:=hsp b (gh _ hb)
    dsimp only;omega)
   refine⟨h1,?_,h3,h4,fun x=>?_⟩
   ·rcases h2 with h2 | ⟨b,hb,h2⟩
    ·rw [h2]
     rcases Int.le_total s.1 a.1 with h6 | h6
     ·exact .inl (by simp only;omega)
     ·exact .inr ⟨a,by simp,by simp only;omega⟩
    ·exact .inr ⟨b,gh _ hb,h2⟩
   ·rw [h5,Bt,<-Bool.or_assoc]
    congr 1
    clear h1 h2 h3 h4 h5
    rw [eI]
    simp only [cX,bR,bB]
    constructor
    ·intro h6
     by_cases h7:s.1<=x/\x<s.2
     ·exact .inl h7
     ·exact .inr (by omega)
    ·rintro(h6 | h6) <;> omega
  ·rw [aD hc]
   refine⟨h, .inl rfl,hi,fun t ht=>?_,fun x=>rfl⟩
   show s.2<t.1
   rcases cT.1 ht with rfl | ht
   ·omega
   ·have:=((rD (l:=[a]) (m:=l)).1 hi).2.2 a (by simp) t ht
    omega
theorem Cx {l:List (Int×Int)} {c:Int} (h:iV (cV l)): ∀a∈l.dropWhile (fun a=>decide (a.2<c)),c<=a.2:=by
 induction l with
 | nil=>intro a ha;cases ha
 | cons b l ih=>
  have h':=h
  rw [ij] at h'
  rw [List.dropWhile_cons]
  by_cases hb:b.2<c
  ·rw [aC (by simpa using hb)];exact ih h'.tail.tail
  ·rw [aD (by simpa using hb)]
   intro a ha
   rcases cT.1 ha with rfl | ha
   ·omega
   ·have h1:=((rD (l:=[b]) (m:=l)).1 h).2.2 b (by simp) a ha
    have h2:=tS h a (gh _ ha)
    omega
theorem Cy (l:List (Int×Int)) (c:Int): ∀a∈l.takeWhile (fun a=>decide (a.2<c)),a.2<c:=by
 induction l with
 | nil=>intro a ha;cases ha
 | cons b l ih=>
  rw [List.takeWhile_cons]
  by_cases hb:b.2<c
  ·rw [aC (by simpa using hb)]
   intro a ha
   rcases cT.1 ha with rfl | ha
   ·exact hb
   ·exact ih a ha
  ·rw [aD (by simpa using hb)]
   intro a ha;cases ha
theorem wW {l:List (Int×Int)} {s:Int×Int} (h:iV (cV l)) (hs:s.1<s.2):
  iV (cV (kQ l s))/\∀x,ig (kQ l s) x= ((decide (s.1<=x)&&decide (x<s.2))||ig l x):=by
 have hsplit:=h
 rw [<-List.takeWhile_append_dropWhile (p:=fun a:Int×Int=>decide (a.2<s.1)) (l:=l),rD] at hsplit
 obtain⟨h1,h2,h3⟩:=hsplit
 obtain⟨m1,m2,m3,m4,m5⟩:=yp (l.dropWhile fun a=>decide (a.2<s.1)) s hs h2 (Cx h)
 unfold kQ
 refine⟨rD.2 ⟨h1,?_,fun a ha t ht=>?_⟩,fun x=>?_⟩
 ·rw [ij]
  have h4: ∀c∈cV (jG s (l.dropWhile fun a=>decide (a.2<s.1))).2,(jG s (l.dropWhile fun a=>decide (a.2<s.1))).1.2<c:=fun c hc=>by
   obtain⟨t,ht,hc⟩:=xW hc
   have:=m4 t ht
   have:=tS m3 t ht
   rcases hc with rfl | rfl <;> omega
  exact mg.2 ⟨fun c hc=>by
   rcases cT.1 hc with rfl | hc
   ·exact m1
   ·have:=h4 c hc;omega,mg.2 ⟨h4,m3⟩⟩
 ·have ha1:=Cy l s.1 a ha
  rcases cT.1 ht with rfl | ht
  ·rcases m2 with m2 | ⟨b,hb,m2⟩
   ·rw [m2];exact ha1
   ·rw [m2];exact h3 a ha b hb
  ·have h5:=m4 t ht
   rcases m2 with m2 | ⟨b,hb,m2⟩
   ·rw [m2] at m1;omega
   ·have:=h3 a ha b hb;rw [m2] at m1;omega
 ·rw [yo,m5]
  conv=>rhs;rw [<-List.takeWhile_append_dropWhile (p:=fun a:Int×Int=>decide (a.2<s.1)) (l:=l),yo]
  rw [Bool.or_left_comm]
end Go.Gk
namespace Go.Gk
open Go
def jq:List Int->List (Int×Int)
 | a::b::l=>(a,b)::jq (b::l)
 | _=>[]
theorem pE: ∀{xs:List Int},iV xs->∀s∈jq xs,s.1∈xs/\s.2∈xs/\s.1<s.2/\∀c∈xs,c<=s.1\/s.2<=c
 | [],_,s,hs=>by cases hs
 | [a],_,s,hs=>by cases hs
 | a::b::l,h,s,hs=>by
  have hab:=h.head b (by simp)
  rcases cT.1 hs with rfl | hs
  ·refine⟨by simp,by simp,hab,fun c hc=>?_⟩
   rcases cT.1 hc with rfl | hc
   ·exact .inl (Int.le_refl _)
   ·rcases cT.1 hc with rfl | hc
    ·exact .inr (Int.le_refl _)
    ·exact .inr (by have:=h.tail.head c hc;show b<=c;omega)
  ·obtain⟨h1,h2,h3,h4⟩:=pE h.tail s hs
   refine⟨gh _ h1,gh _ h2,h3,fun c hc=>?_⟩
   rcases cT.1 hc with rfl | hc
   ·exact .inl (by have:=h.head s.1 h1;omega)
   ·exact h4 c hc
theorem vR: ∀{xs:List Int},iV xs->∀x,(∃s∈jq xs,s.1<=x/\x<s.2)\/(∀c∈xs,x<c)\/(∀c∈xs,c<=x)
 | [],_,x=> .inr (.inl fun c hc=>by cases hc)
 | [a],_,x=>by
  by_cases h:x<a
  ·exact .inr (.inl fun c hc=>by simp at hc;omega)
  ·exact .inr (.inr fun c hc=>by simp at hc;omega)
 | a::b::l,h,x=>by
  have hab:=h.head b (by simp)
  rcases vR h.tail x with ⟨s,hs,h1⟩ | h1 | h1
  ·exact .inl ⟨s,gh _ hs,h1⟩
  ·by_cases h2:x<a
   ·exact .inr (.inl fun c hc=>by
     rcases cT.1 hc with rfl | hc
     ·exact h2
     ·exact h1 c hc)
   ·exact .inl ⟨(a,b),by simp [jq],by show a<=x;omega,h1 b (by simp)⟩
  ·exact .inr (.inr fun c hc=>by
    rcases cT.1 hc with rfl | hc
    ·have:=h1 b (by simp);omega
    ·exact h1 c hc)
def Ends (a:List (Int×Int)) (xs:List Int):Prop:=∀s∈a,s.1∈xs/\s.2∈xs
theorem yX {a:List (Int×Int)} {xs:List Int} (he:Ends a xs) (hx:iV xs) {s:Int×Int} (hs:s∈jq xs) {x:Int} (h1:s.1<=x) (h2:x<s.2):ig a x=ig a s.1:=by
 obtain⟨_,_,h3,h4⟩:=pE hx s hs
 rw [eI,rB,rB]
 constructor
 ·rintro⟨t,ht,h5,h6⟩
  have:=h4 _ (he t ht).1
  exact⟨t,ht,by omega,by omega⟩
 ·rintro⟨t,ht,h5,h6⟩
  have:=h4 _ (he t ht).2
  exact⟨t,ht,by omega,by omega⟩
theorem Ge {a:List (Int×Int)} {xs:List Int} (he:Ends a xs) {x:Int} (h: (∀c∈xs,x<c)\/(∀c∈xs,c<=x)):ig a x=false:=by
 rw [<-kb,rB]
 rintro⟨t,ht,h5,h6⟩
 obtain⟨e1,e2⟩:=he t ht
 rcases h with h | h
 ·have:=h _ e1;omega
 ·have:=h _ e2;omega
def lC (fS:Bool->Bool->Bool) (a b:List (Int×Int)) (ss:List (Int×Int)) (out:List (Int×Int)):List (Int×Int):=
 ss.foldl (fun out s=>if fS (ig a s.1) (ig b s.1)=true then kQ out s else out) out
theorem tT (fS:Bool->Bool->Bool) (a b:List (Int×Int)): ∀(ss out:List (Int×Int)),iV (cV out)->(∀s∈ss,s.1<s.2)->
  iV (cV (lC fS a b ss out))/\∀x,ig (lC fS a b ss out) x= (ig out x||ss.any fun s=>fS (ig a s.1) (ig b s.1)&&(decide (s.1<=x)&&decide (x<s.2)))
 | [],out,h,_=>⟨h,fun x=>by simp [lC]⟩
 | s::ss,out,h,hs=>by
  have h0:=hs s (by simp)
  unfold lC
  rw [List.foldl_cons]
  by_cases hk:fS (ig a s.1) (ig b s.1)=true
  ·rw [aC hk]
   obtain⟨j1,j2⟩:=wW h h0
   obtain⟨m1,m2⟩:=tT fS a b ss (kQ out s) j1 (fun t ht=>hs t (gh _ ht))
   refine⟨m1,fun x=>?_⟩
   rw [show ig (List.foldl _ (kQ out s) ss) x=_ from m2 x,j2,List.any_cons,hk,Bool.true_and]
   cases ig out x <;> simp
  ·rw [aD hk]
   obtain⟨m1,m2⟩:=tT fS a b ss out h (fun t ht=>hs t (gh _ ht))
   refine⟨m1,fun x=>?_⟩
   rw [show ig (List.foldl _ out ss) x=_ from m2 x,List.any_cons,eq_false_of_ne_true hk,Bool.false_and,Bool.false_or]
theorem DX {fS:Bool->Bool->Bool} (hk:fS false false=false) {a b:List (Int×Int)} {xs:List Int} (hx:iV xs) (ha:Ends a xs) (hb:Ends b xs):
  iV (cV (lC fS a b (jq xs) []))/\∀x,ig (lC fS a b (jq xs) []) x=fS (ig a x) (ig b x):=by
 obtain⟨m1,m2⟩:=tT fS a b (jq xs) [] iG (fun s hs=>(pE hx s hs).2.2.1)
 refine⟨m1,fun x=>?_⟩
 rw [m2,show ig [] x=false from rfl,Bool.false_or]
 rcases vR hx x with ⟨s,hs,h1,h2⟩ | h
 ·rw [eI,iZ]
  constructor
  ·rintro⟨t,ht,h3⟩
   rw [bR,bR,bB,bB] at h3
   rw [yX ha hx ht h3.2.1 h3.2.2,yX hb hx ht h3.2.1 h3.2.2];exact h3.1
  ·intro h3
   rw [yX ha hx hs h1 h2,yX hb hx hs h1 h2] at h3
   exact⟨s,hs,by rw [h3,bG h1,bG h2];rfl⟩
 ·rw [Ge ha h,Ge hb h,hk,<-kb,iZ]
  rintro⟨t,ht,h3⟩
  rw [bR,bR,bB,bB] at h3
  obtain⟨e1,e2,_⟩:=pE hx t ht
  rcases h with h | h
  ·have:=h _ e1;omega
  ·have:=h _ e2;omega
def lD (f:Int->List Int) (ss:List (Int×Int)) (out:List Bd):List Bd:=ss.foldl (fun out s=>iJ out ⟨s.1,s.2,f s.1⟩) out
theorem yq (f:Int->List Int) (hf: ∀y,iV (f y)/\(f y).length % 2=0): ∀(ys:List Int) (out:List Bd),iV ys->eA out->(∀c∈out,∀y∈ys,c.y1<=y)->
  eA (lD f (jq ys) out)/\∀y,rowAt (lD f (jq ys) out) y=match (jq ys).find? (fun s=>decide (s.1<=y)&&decide (y<s.2)) with | some s=>f s.1 | none=>rowAt out y
 | [],out,_,h,_=>⟨h,fun y=>rfl⟩
 | [a],out,_,h,_=>⟨h,fun y=>rfl⟩
 | a::b::l,out,hi,h,ho=>by
  have hab:=hi.head b (by simp)
  have ho1: ∀c∈out,c.y1<=(⟨a,b,f a⟩:Bd).y0:=fun c hc=>ho c hc a (by simp)
  have hc:=uD (b:=⟨a,b,f a⟩) h ho1 (hf a).1 (hf a).2
  have htop:=uE (b:=⟨a,b,f a⟩) ho1 (by show a<=b;omega)
  obtain⟨m1,m2⟩:=yq f hf (b::l) (iJ out ⟨a,b,f a⟩) hi.tail hc (fun c hc' y hy=>by
   have h1:=htop c hc'
   have h2:b<=y:=by
    rcases cT.1 hy with rfl | hy
    ·exact Int.le_refl _
    ·have:=hi.tail.head y hy;omega
   have h3:c.y1<=b:=h1
   omega)
  refine⟨m1,fun y=>?_⟩
  show rowAt (lD f (jq (b::l)) (iJ out ⟨a,b,f a⟩)) y=_
  rw [m2 y,show jq (a::b::l)= (a,b)::jq (b::l) from rfl,List.find?_cons]
  have hrow:=uC (s:=out) (b:=⟨a,b,f a⟩) ho1 (fun c hc=>(h.each c hc).1) (fun h=>absurd h (by show ¬b<=a;omega)) y
  by_cases hy:a<=y/\y<b
  ·have e: (decide (a<=y)&&decide (y<b))=true:=by rw [bG hy.1,bG hy.2];rfl
   have hn: (jq (b::l)).find? (fun s=>decide (s.1<=y)&&decide (y<s.2))=none:=by
    rw [List.find?_eq_none]
    intro s hs
    have:=(pE hi.tail s hs).1
    have h5:b<=s.1:=by
     rcases cT.1 this with h6 | h6
     ·omega
     ·have:=hi.tail.head _ h6;omega
    simp;omega
   rw [hn]
   show rowAt (iJ out ⟨a,b,f a⟩) y=_
   rw [hrow,aC hy,e]
  ·have e: (decide (a<=y)&&decide (y<b))=false:=by
    rw [Bool.and_eq_false_iff,decide_eq_false_iff_not,decide_eq_false_iff_not];omega
   rw [e]
   cases (jq (b::l)).find? (fun s=>decide (s.1<=y)&&decide (y<s.2)) with
   | some s=>rfl
   | none=>
    show rowAt (iJ out ⟨a,b,f a⟩) y=rowAt out y
    rw [hrow,aD hy]
theorem yr {f:Int->List Int} (hf: ∀y,iV (f y)/\(f y).length % 2=0) {ys:List Int} (hy:iV ys) (h1: ∀s∈jq ys,∀y,s.1<=y->y<s.2->f y=f s.1) (h2: ∀y,((∀c∈ys,y<c)\/(∀c∈ys,c<=y))->f y= []):
  eA (lD f (jq ys) [])/\∀y,rowAt (lD f (jq ys) []) y=f y:=by
 obtain⟨m1,m2⟩:=yq f hf ys [] hy eA.nil (fun c hc=>by cases hc)
 refine⟨m1,fun y=>?_⟩
 rw [m2 y]
 cases Mg: (jq ys).find? (fun s=>decide (s.1<=y)&&decide (y<s.2)) with
 | some s=>
  have h3:=List.find?_some Mg
  rw [bR,bB,bB] at h3
  exact(h1 s (List.mem_of_find?_eq_some Mg) y h3.1 h3.2).symm
 | none=>
  show rowAt [] y=f y
  rcases vR hy y with ⟨s,hs,h3,h4⟩ | h3
  ·have:=List.find?_eq_none.1 Mg s hs
   rw [bG h3,bG h4] at this
   exact absurd rfl this
  ·rw [h2 y h3];rfl
end Go.Gk
namespace Go.Gk
open Go
def Ok {β:Type} (o:Option β) (P:β->Prop):Prop:=∃r,o=some r/\P r
section
variable {α β S R:Type} {P:α->Prop} {Q:β->Prop}
theorem Ok.ret {x:β} (h:Q x):Ok (some x) Q:=⟨x,rfl,h⟩
theorem Ok.of {o:Option β} {x:β} (h:o=some x) (hq:Q x):Ok o Q:=⟨x,h,hq⟩
theorem Ok.mono {o:Option α} {P':α->Prop} (h:Ok o P) (k: ∀x,P x->P' x):Ok o P':=by obtain⟨x,h1,h2⟩:=h;exact⟨x,h1,k x h2⟩
theorem Ok.bind {o:Option α} {f:α->Option β} (h:Ok o P) (k: ∀x,P x->Ok (f x) Q):Ok (o.bind f) Q:=by
 obtain⟨x,h1,h2⟩:=h;rw [h1];exact k x h2
theorem Ok.eq {o:Option α} {f:α->Option β} {x:α} (h:o=some x) (k:Ok (f x) Q):Ok (o.bind f) Q:=by rw [h];exact k
theorem Ok.bif {b:Bool} {x y:Option β} (ht:b=true->Ok x Q) (hf:b=false->Ok y Q):Ok (bif b then x else y) Q:=by
 cases b with
 | true=>exact ht rfl
 | false=>exact hf rfl
theorem Ok.get {o:Option β} {x:β} (h:Ok o (fun r=>r=x)):o=some x:=by obtain⟨r,h1,h2⟩:=h;rw [h1,h2]
def NL (Go:S->Prop) (Rt:R->Prop):Fo S R->Prop | .go s=>Go s | .rt r=>Rt r
def Jx (Nx Br:S->Prop) (Rt:R->Prop):Fl S R->Prop | .nx s=>Nx s | .br s=>Br s | .rt r=>Rt r
theorem Ok.nx {Nx Br:S->Prop} {Rt:R->Prop} {s:S} (h:Nx s):Ok (some (Fl.nx s)) (Jx Nx Br Rt):=⟨_,rfl,h⟩
theorem Ok.br {Nx Br:S->Prop} {Rt:R->Prop} {s:S} (h:Br s):Ok (some (Fl.br s)) (Jx Nx Br Rt):=⟨_,rfl,h⟩
theorem Ok.rt {Nx Br:S->Prop} {Rt:R->Prop} {r:R} (h:Rt r):Ok (some (Fl.rt r:Fl S R)) (Jx Nx Br Rt):=⟨_,rfl,h⟩
theorem Ok.cs {Go:S->Prop} {Rt:R->Prop} {o:Fo S R} {f:S->Option β} {g:R->Option β} (h:NL Go Rt o) (hf: ∀s,Go s->Ok (f s) Q) (hg: ∀r,Rt r->Ok (g r) Q):Ok (o.cs f g) Q:=by
 cases o with
 | go s=>exact hf s h
 | rt r=>exact hg r h
theorem Ok.lF {body:Nat->S->Option S} {m:Nat} {s:S} (Inv:Nat->S->Prop) (hm:m<=4611686018427387904) (h0:Inv 0 s) (h: ∀k s,k<m->Inv k s->Ok (body k s) (Inv (k+1))):Ok (lF m body s) (Inv m):=
 yW Inv hm h0 h
theorem Ok.qX {body:Nat->S->Option (Fl S R)} {m:Nat} {s:S} (Inv:Nat->S->Prop) {Go:S->Prop} {Rt:R->Prop} (hm:m<=4611686018427387904) (h0:Inv 0 s)
  (h: ∀k s,k<m->Inv k s->Ok (body k s) (Jx (Inv (k+1)) Go Rt)) (hg: ∀s,Inv m s->Go s):Ok (qX m body s) (NL Go Rt):=by
 obtain⟨o,h1,h2⟩:=JY (R:=R) Inv Go Rt hm h0 (fun k s hk hi=>by
  obtain⟨fl,a1,a2⟩:=h k s hk hi
  exact⟨fl,a1,by cases fl <;> exact a2⟩) hg
 exact⟨o,h1,by cases o <;> exact h2⟩
theorem Ok.jB {body:S->Option (Fl S R)} {N:Nat} {s:S} (Inv:S->Prop) (μ:S->Nat) {Go:S->Prop} {Rt:R->Prop}
  (h: ∀s,Inv s->Ok (body s) (Jx (fun s'=>Inv s'/\μ s'<μ s) Go Rt)) (hi:Inv s) (hn:μ s<N):Ok (jB body N s) (NL Go Rt):=by
 obtain⟨o,h1,h2⟩:=wF (R:=R) Inv μ Go Rt (fun s hi=>by
  obtain⟨fl,a1,a2⟩:=h s hi
  exact⟨fl,a1,by cases fl <;> exact a2⟩) N s hi hn
 exact⟨o,h1,by cases o <;> exact h2⟩
theorem Ok.app {b:Nat} {l ys:List α} {f:List α->Option β} (h: (l.length+ys.length)*b<=140737488355328) (k:Ok (f (l++ys)) Q):Ok ((Go.Gk.app b l ys).bind f) Q:=by rw [jX h];exact k
theorem Ok.idx {l:List α} {i:Nat} {f:α->Option β} (h:i<l.length) (k:Ok (f l[i]) Q):Ok ((Go.Gk.idx l ((i:Nat):Int)).bind f) Q:=by rw [ke l i h];exact k
theorem Ok.ix {l:List α} {i:Nat} {x:α} {f:α->Option β} (h:l[i]? =some x) (k:Ok (f x) Q):Ok ((Go.Gk.idx l ((i:Nat):Int)).bind f) Q:=by rw [dY h];exact k
end
theorem DY {n:Nat} (h:n<=4611686018427387904):IntKind.wrap .i64 ((n:Nat):Int)= ((n:Nat):Int):=eE (by omega) (by omega)
theorem wrap_add {n m:Nat} (h:n+m<=4611686018427387904):IntKind.wrap .i64 (((n:Nat):Int)+ ((m:Nat):Int))= ((n+m:Nat):Int):=by rw [eE (by omega) (by omega)];simp
theorem bP {n:Nat} (h:n+1<=4611686018427387904):IntKind.wrap .i64 (((n:Nat):Int)+1)= ((n+1:Nat):Int):=by rw [eE (by omega) (by omega)];simp
theorem Bv {n:Nat} (h:n+2<=4611686018427387904):IntKind.wrap .i64 (((n:Nat):Int)+2)= ((n+2:Nat):Int):=by rw [eE (by omega) (by omega)];simp
theorem eZ {α:Type} [DecidableEq α]: ∀{l m:List α},l.Nodup->(∀x∈l,x∈m)->l.length<=m.length
 | [],m,_,_=>eL _
 | a::l,m,hn,hs=>by
  have ha:a∈m:=hs a (by simp)
  have hn':=List.nodup_cons.1 hn
  have:=eZ (l:=l) (m:=m.erase a) hn'.2 (fun x hx=>by
   rw [List.mem_erase_of_ne (fun e=>hn'.1 (by rw [<-e];exact hx))]
   exact hs x (gh _ hx))
  rw [List.length_erase_of_mem ha] at this
  have:=List.length_pos_of_mem ha
  simp;omega
section
variable {α:Type} {N:Nat}
def NM (z:α) (N:Nat) (p0:List α) (p1:α->Option Bool):Option (List α):=
 (r9 p0 p1).bind fun x31=>bif (x31==(-1)) then (some p0) else ((jB (fun(s33: (List α)×Int×Int)=>(bif (decide (s33.2.2< (s33.1.length:Int))) then ((idx s33.1 s33.2.2).bind fun x54=>(p1 x54).bind fun x58=>(bif (!x58) then ((idx s33.1 s33.2.1).bind fun x63=>some ((s33.1.set (Int.toNat s33.2.1) x54),(IntKind.wrap .i64 (s33.2.1+1)))) else (some (s33.1,s33.2.1))).bind fun s61=>some (.nx (s61.1,s61.2,(IntKind.wrap .i64 (s33.2.2+1))))) else (some (.br (s33.1,s33.2.1,s33.2.2))):Option (Fl ((List α)×Int×Int) Empty))) N (p0,x31,(IntKind.wrap .i64 (x31+1)))).bind fun o67=>o67.cs (fun(s33: (List α)×Int×Int)=>(sO s33.1 s33.2.1 (s33.1.length:Int)).bind fun x64=>(sO (s33.1.take (Int.toNat s33.2.1)++List.replicate (s33.1.length - Int.toNat s33.2.1) z) 0 s33.2.1).bind fun x65=>some x65) (fun r=>r.elim))
theorem IJ {z:α} {l:List α} {φ:α->Option Bool} (p:α->Bool) (hφ: ∀x∈l,φ x=some (p x)) (hl:l.length<=4611686018427387000) (hN:l.length<N):NM z N l φ=some (l.filter (fun x=> !p x)):=by
 unfold NM
 rw [vk p (by omega) hφ,aB]
 rcases uA l p with ⟨h1,h2⟩ | ⟨k,x,h1,h2,h3,h4⟩
 ·rw [h1]
  have:l.filter (fun x=> !p x)=l:=List.filter_eq_self.2 fun a ha=>by rw [h2 a ha];rfl
  rw [this];rfl
 ·rw [h1,show (((k:Nat):Int)== -1)=false by simp,aN]
  have hk:=(aW.1 h2).1
  have hpre: (l.take k).filter (fun x=> !p x)=l.take k:=List.filter_eq_self.2 fun a ha=>by
   obtain⟨j,hj⟩:=dV ha
   have hjk:j<k:=by have:=(aW.1 hj).1;rw [cI] at this;omega
   rw [List.getElem?_take_of_lt hjk] at hj
   rw [h4 j a hjk hj];rfl
  have hst:l.take (k+1)=l.take k++[x]:=by
   rw [eF hk];congr 1
   have:=(aW.1 h2).2;rw [this]
  have hk1:IntKind.wrap .i64 (((k:Nat):Int)+1)= ((k+1:Nat):Int):=by rw [eE (by omega) (by omega)];omega
  rw [hk1]
  obtain⟨o,a1,a2⟩:=wF (S:=(List α)×Int×Int) (R:=Empty) (body:=fun(s33: (List α)×Int×Int)=>(bif (decide (s33.2.2< (s33.1.length:Int))) then ((idx s33.1 s33.2.2).bind fun x54=>(φ x54).bind fun x58=>(bif (!x58) then ((idx s33.1 s33.2.1).bind fun x63=>some ((s33.1.set (Int.toNat s33.2.1) x54),(IntKind.wrap .i64 (s33.2.1+1)))) else (some (s33.1,s33.2.1))).bind fun s61=>some (.nx (s61.1,s61.2,(IntKind.wrap .i64 (s33.2.2+1))))) else (some (.br (s33.1,s33.2.1,s33.2.2))):Option (Fl ((List α)×Int×Int) Empty)))
   (fun s=>∃i j:Nat,s.2.1= ((i:Nat):Int)/\s.2.2= ((j:Nat):Int)/\i<j/\j<=l.length/\s.1.length=l.length/\s.1.take i= (l.take j).filter (fun x=> !p x)/\∀m,j<=m->s.1[m]? =l[m]?)
   (fun s=>l.length - s.2.2.toNat) (fun s=>∃i:Nat,s.2.1= ((i:Nat):Int)/\i<=l.length/\s.1.length=l.length/\s.1.take i=l.filter (fun x=> !p x)) (fun _=>True) (fun s ⟨i,j,e1,e2,hij,hj,hlen,ht,hd⟩=>by
    obtain⟨s,a,b⟩:=s
    dsimp only at e1 e2 hlen ht hd ⊢
    subst e1;subst e2
    by_cases hlt:j<l.length
    ·rw [bG (by rw [hlen];omega),aO]
     have hx:s[j]? =some l[j]:=by rw [hd j (bJ _)];exact aL hlt
     have w1:IntKind.wrap .i64 (((j:Nat):Int)+1)= ((j+1:Nat):Int):=by rw [eE (by omega) (by omega)];omega
     have w2:IntKind.wrap .i64 (((i:Nat):Int)+1)= ((i+1:Nat):Int):=by rw [eE (by omega) (by omega)];omega
     have hs2:l.take (j+1)=l.take j++[l[j]]:=eF hlt
     rw [dY hx,aB,hφ _ (cO hlt),aB,w1]
     cases hp:p l[j] with
     | true=>
      refine⟨.nx (s,((i:Nat):Int),((j+1:Nat):Int)),by rw [mi,aN,aB],⟨i,j+1,rfl,rfl,by omega,by omega,hlen,?_,fun m hm=>hd m (by omega)⟩,?_⟩
      ·rw [hs2,jL,ht];simp [hp]
      ·simp only [bX];omega
     | false=>
      refine⟨.nx (s.set i l[j],((i+1:Nat):Int),((j+1:Nat):Int)),by rw [ot,aO,ke _ _ (by omega),aB,bX,w2,aB],⟨i+1,j+1,rfl,rfl,by omega,by omega,by simp [hlen],?_,fun m hm=>?_⟩,?_⟩
      ·rw [hs2,jL,<-ht]
       have: (s.set i l[j]).take (i+1)=s.take i++[l[j]]:=by
        rw [eF (by simp;omega),List.take_set_of_le (bJ _)];simp
       rw [this];simp [hp]
      ·rw [fB,aD (by omega)];exact hd m (by omega)
      ·simp only [bX];omega
    ·rw [bI (by rw [hlen];omega),aN]
     have hje:j=l.length:=by omega
     subst hje
     rw [fw] at ht
     exact⟨.br (s,((i:Nat):Int),((l.length:Nat):Int)),rfl,i,rfl,by omega,hlen,ht⟩)
   N (l,((k:Nat):Int),((k+1:Nat):Int)) ⟨k,k+1,rfl,rfl,by omega,by omega,rfl,by rw [hst,jL,hpre];simp [h3],fun _ _=>rfl⟩ (by simp only [bX];omega)
  rw [a1,aB]
  cases o with
  | rt r=>exact r.elim
  | go s=>
   obtain⟨i,e1,hi,hlen,ht⟩:=a2
   obtain⟨s,a,b⟩:=s
   dsimp only at e1 hlen ht
   subst e1
   simp only [Fo.cs]
   rw [pS _ _ (by omega),aB,bX,rm _ _ (by simp;omega),aB,List.take_append_of_le_length (by simp;omega),List.take_take,Nat.min_self,ht]
end
section
variable {κ ν:Type} [DecidableEq κ]
theorem og (m:List (κ×ν)) (k k':κ) (x z:ν):eJ (oO m k x) k' z=if k'=k then x else eJ m k' z:=by
 induction m with
 | nil=>unfold oO eJ;by_cases h:k'=k <;> simp [h]
 | cons p m ih=>
  unfold oO
  by_cases h:k=p.1
  ·rw [aC h]
   by_cases h':k'=k
   ·subst h';simp [eJ]
   ·simp only [eJ,List.find?_cons,aD h',bI h']
    rw [bI (fun e=>h' (e.trans h.symm))]
  ·rw [aD h]
   by_cases h':k'=p.1
   ·have:k'≠k:=fun e=>h (e.symm.trans h')
    simp only [eJ,List.find?_cons,bG h',aD this]
   ·unfold eJ at ih ⊢
    simp only [List.find?_cons,bI h']
    exact ih
theorem rE (m:List (κ×ν)) (k k':κ) (x:ν):kD (oO m k x) k'= (decide (k'=k)||kD m k'):=by
 induction m with
 | nil=>unfold oO kD;simp
 | cons p m ih=>
  unfold oO
  by_cases h:k=p.1
  ·rw [aC h]
   by_cases h':k'=k
   ·simp [kD,h']
   ·simp only [kD,List.any_cons,bI h',Bool.false_or]
    rw [bI (fun e=>h' (e.trans h.symm)),Bool.false_or]
  ·rw [aD h]
   unfold kD at ih ⊢
   simp only [List.any_cons]
   rw [ih]
   cases decide (k'=p.1) <;> cases decide (k'=k) <;> simp
end
end Go.Gk
namespace Go.Gk
open Go
section
variable {N:Nat}
theorem zQ (l:List Int) (a b:Nat) (h:a+b<l.length):EO l ((a:Nat):Int) ((b:Nat):Int)=some l[a+b]:=by
 unfold EO
 rw [aC (by omega),show ((a:Nat):Int)+ ((b:Nat):Int)= ((a+b:Nat):Int) by omega,ke _ _ h]
theorem iV.IK {l:List Int} {a:Int} (h:iV l) (hl: ∀c∈l,c<a):iV (l++[a]):=by
 unfold iV
 rw [mh]
 exact⟨h,List.pairwise_singleton _ _,fun c hc d hd=>by simp at hd;subst hd;exact hl c hc⟩
theorem iV.last {l:List Int} {a:Int} (h:iV l) (hl:l.getLast? =some a): ∀c∈l,c<=a:=by
 intro c hc
 have hs:=pY hl
 rw [hs] at h hc
 rcases cY.1 hc with h1 | h1
 ·have:=(mh.1 h).2.2 c h1 a (by simp);omega
 ·simp at h1;omega
theorem Cz {l:List Int} (hs:l.Pairwise (fun x y=>x<=y)) (hl:l.length<=4611686018427387000) (hN:l.length<N):
  Ok (gr N l) (fun m=>iV m/\∀c,c∈m↔c∈l):=by
 unfold gr
 refine Ok.bif (fun h2=>Ok.ret ⟨?_,fun c=>Iff.rfl⟩) (fun h2=>?_)
 ·have h2:=of_decide_eq_true h2
  match l,h2 with
  | [],_=>exact iG
  | [a],_=>exact List.pairwise_singleton _ _
  | a::b::l,h2=>simp at h2;omega
 ·have h2:=of_decide_eq_false h2
  have le: ∀(i j:Nat) (x y:Int),i<j->l[i]? =some x->l[j]? =some y->x<=y:=fun i j x y hij hx hy=>by
   have:=kE.1 hs i j (aW.1 hx).1 (aW.1 hy).1 hij
   rw [(aW.1 hx).2,(aW.1 hy).2] at this;exact this
  refine Ok.bind (Ok.jB (Go:=fun _=>iV l) (Rt:=fun m=>iV m/\∀c,c∈m↔c∈l) (fun s=>∃k:Nat,s= ((k:Nat):Int)/\1<=k/\k<=l.length/\iV (l.take k)) (fun s=>l.length - s.toNat) ?_ ⟨1,rfl,bJ _,by omega,?_⟩ (by simp;omega)) ?_
  ·rintro s ⟨k,rfl,hk1,hkl,hinc⟩
   refine Ok.bif (fun h=>?_) (fun h=>Ok.br ?_)
   ·have hk:k<l.length:=by have:=of_decide_eq_true h;omega
    refine Ok.idx hk ?_
    rw [fN hk1 (by omega)]
    refine Ok.idx (by omega) ?_
    refine Ok.bif (fun he=>?_) (fun he=>?_)
    ·have he:l[k]=l[k - 1]:=by simpa using he
     refine Ok.eq (pS l k hkl) ?_
     refine Ok.bind (Ok.jB (Go:=fun s=>∃i:Nat,s.2.1= ((i:Nat):Int)/\i<=l.length/\s.1.length=l.length/\iV (s.1.take i)/\∀c,c∈s.1.take i↔c∈l) (Rt:=fun _=>True)
      (fun s=>∃i j:Nat,s.2.1= ((i:Nat):Int)/\s.2.2= ((j:Nat):Int)/\1<=j/\k+j<=l.length/\i<=k+j - 1/\s.1.length=l.length/\iV (s.1.take i)/\(s.1.take i).getLast? =l[k+j - 1]? /\
       (∀c,c∈s.1.take i↔c∈l.take (k+j))/\∀m,k+j - 1<=m->s.1[m]? =l[m]?) (fun s=>l.length - s.2.2.toNat) ?_ ?_ (by simp;omega)) ?_
     ·rintro⟨u,a,b⟩ ⟨i,j,e1,e2,hj,hjl,hij,hlen,hi,hlast,hmem,hrest⟩
      dsimp only at e1 e2 hlen hi hlast hmem hrest ⊢
      subst e1;subst e2
      rw [bX]
      refine Ok.bif (fun h=>?_) (fun h=>Ok.br ?_)
      ·have hlt:k+j<l.length:=by have:=of_decide_eq_true h;omega
       have hx:u[k+j]'(by omega)=l[k+j]:=by have:=hrest (k+j) (by omega);rw [aL (by omega),aL hlt] at this;injection this
       have hy:u[k+ (j - 1)]'(by omega)=l[k+ (j - 1)]:=by have:=hrest (k+ (j - 1)) (by omega);rw [aL (by omega),aL (by omega)] at this;injection this
       refine Ok.eq (zQ u k j (by omega)) ?_
       rw [fN hj (by omega)]
       refine Ok.eq (zQ u k (j - 1) (by omega)) ?_
       rw [hx,hy]
       have hts:l.take (k+j+1)=l.take (k+j)++[l[k+j]]:=eF hlt
       have hlast': (u.take i).getLast? =some l[k+ (j - 1)]:=by rw [hlast,show k+j - 1=k+ (j - 1) by omega,aL (by omega)]
       have hxy:l[k+ (j - 1)]<=l[k+j]:=le (k+ (j - 1)) (k+j) _ _ (by omega) (aL _) (aL _)
       refine Ok.bind (P:=fun s'=>s'.1.length=l.length/\∃i':Nat,s'.2= ((i':Nat):Int)/\i'<=k+j/\iV (s'.1.take i')/\(s'.1.take i').getLast? =l[k+j]? /\(∀c,c∈s'.1.take i'↔c∈l.take (k+j+1))/\∀m,k+j<=m->s'.1[m]? =l[m]?) ?_ ?_
       ·refine Ok.bif (fun hne=>?_) (fun hne=>Ok.ret ?_)
        ·have hne:l[k+j]≠l[k+ (j - 1)]:=by simpa using hne
         refine Ok.eq (zQ u k j (by omega)) ?_
         rw [hx]
         refine Ok.idx (by omega) (Ok.ret ⟨by simp [hlen],i+1,?_,by omega,?_⟩)
         ·rw [bP (by omega)]
         ·dsimp only
          rw [bX]
          have ht: (u.set i l[k+j]).take (i+1)=u.take i++[l[k+j]]:=by
           rw [eF (by simp;omega),List.take_set_of_le (bJ _)];simp
          rw [ht]
          refine⟨hi.IK fun c hc=>?_,by simp [aL hlt],fun c=>?_,fun m hm=>?_⟩
          ·have:=hi.last hlast' c hc;omega
          ·rw [hts,cY,cY,hmem]
          ·rw [fB,aD (by omega)];exact hrest m (by omega)
        ·have he:l[k+j]=l[k+ (j - 1)]:=by simpa using hne
         refine⟨hlen,i,rfl,by omega,hi,?_,fun c=>?_,fun m hm=>hrest m (by omega)⟩
         ·dsimp only;rw [hlast',aL hlt,he]
         ·rw [hts,cY,<-hmem]
          constructor
          ·exact .inl
          ·rintro(h | h)
           ·exact h
           ·simp at h;subst h
            rw [he];exact List.mem_of_getLast? hlast'
       ·rintro⟨v,a⟩ ⟨g1,i',g2,g3,g4,g5,g6,g7⟩
        dsimp only at g1 g2 g4 g5 g6 g7 ⊢
        refine Ok.nx ⟨⟨i',j+1,g2,?_,by omega,by omega,by omega,g1,g4,?_,g6,fun m hm=>g7 m (by omega)⟩,?_⟩
        ·rw [bP (by omega)]
        ·rw [show k+ (j+1) - 1=k+j by omega];exact g5
        ·rw [bP (by omega)];simp only [bX];omega
      ·have hge:k+j=l.length:=by have:=of_decide_eq_false h;omega
       refine⟨i,rfl,by omega,hlen,hi,fun c=>?_⟩
       rw [hmem,hge,fw]
     ·refine⟨k,1,rfl,rfl,bJ _,by omega,by omega,rfl,hinc,?_,fun c=>?_,fun m _=>rfl⟩
      ·dsimp only
       rw [show k+1 - 1=k by omega,aL hk,he,List.getLast?_eq_getElem?,cI,Nat.min_eq_left hkl,List.getElem?_take_of_lt (by omega),aL (by omega)]
      ·dsimp only
       rw [eF hk,cY]
       constructor
       ·exact .inl
       ·rintro(h | h)
        ·exact h
        ·simp at h;subst h;rw [he]
         refine eW (i:=k - 1) ?_
         rw [List.getElem?_take_of_lt (by omega),aL (by omega)]
     ·rintro o ho
      refine Ok.cs ho ?_ (fun r=>r.elim)
      rintro⟨u,a,b⟩ ⟨i,e1,hi,hlen,hinc',hmem⟩
      dsimp only at e1 hlen hinc' hmem ⊢
      subst e1
      refine Ok.eq (pS u i (by omega)) ?_
      rw [bX]
      refine Ok.eq (rm _ i (by simp;omega)) (Ok.rt ?_)
      rw [List.take_append_of_le_length (by simp;omega),List.take_take,Nat.min_self]
      exact⟨hinc',hmem⟩
    ·have he:l[k]≠l[k - 1]:=by simpa using he
     refine Ok.nx ⟨⟨k+1,by rw [bP (by omega)],by omega,by omega,?_⟩,by rw [bP (by omega)];simp only [bX];omega⟩
     rw [eF hk]
     refine hinc.IK fun c hc=>?_
     have hlast: (l.take k).getLast? =some l[k - 1]:=by
      rw [List.getLast?_eq_getElem?,cI,Nat.min_eq_left hkl,List.getElem?_take_of_lt (by omega),aL (by omega)]
     have h3:=hinc.last hlast c hc
     have h4:=le (k - 1) k _ _ (by omega) (aL (by omega:k - 1<l.length)) (aL hk)
     omega
   ·have hge:k=l.length:=by have:=of_decide_eq_false h;omega
    subst hge;rw [fw] at hinc;exact hinc
  ·match l,h2 with
   | [],h2=>simp at h2
   | a::l,_=>exact List.pairwise_singleton _ _
  ·rintro o ho
   exact Ok.cs ho (fun s h=>Ok.ret ⟨h,fun c=>Iff.rfl⟩) (fun r h=>Ok.ret h)
def rF (l:List aH):List Int:=l.flatMap fun r=>[r.X0,r.X1]
def iu (l:List aH):List Int:=l.flatMap fun r=>[r.Y0,r.Y1]
theorem rG {l:List aH} {c:Int}:c∈rF l↔∃r∈l,c=r.X0\/c=r.X1:=by unfold rF;simp [List.mem_flatMap]
theorem ky {l:List aH} {c:Int}:c∈iu l↔∃r∈l,c=r.Y0\/c=r.Y1:=by unfold iu;simp [List.mem_flatMap]
theorem k6 (l:List aH): (rF l).length=2*l.length:=by
 induction l with
 | nil=>rfl
 | cons r l ih=>unfold rF at *;simp [List.flatMap_cons,ih];omega
theorem iD (l:List aH): (iu l).length=2*l.length:=by
 induction l with
 | nil=>rfl
 | cons r l ih=>unfold iu at *;simp [List.flatMap_cons,ih];omega
def v9 (X Y:List Int) (s:List Bd):Prop:=∀b∈s,b.y0∈Y/\b.y1∈Y/\∀c∈b.xs,c∈X
theorem v9.push {X Y:List Int} {s:List Bd} {b:Bd} (h:v9 X Y s) (h0:b.y0∈Y) (h1:b.y1∈Y) (h2: ∀c∈b.xs,c∈X):v9 X Y (iJ s b):=by
 intro c hc
 unfold iJ at hc
 split at hc
 ·exact h c hc
 ·split at hc
  ·rename_i d hd
   have hdm:d∈s:=List.mem_of_getLast? hd
   split at hc
   ·rcases cY.1 hc with hc | hc
    ·exact h c (List.dropLast_subset _ hc)
    ·simp at hc;subst hc;exact⟨(h d hdm).1,h1,(h d hdm).2.2⟩
   ·rcases cY.1 hc with hc | hc
    ·exact h c hc
    ·simp at hc;subst hc;exact⟨h0,h1,h2⟩
  ·simp at hc;subst hc;exact⟨h0,h1,h2⟩
theorem iV.nodup {l:List Int} (h:iV l):l.Nodup:=List.Pairwise.imp (fun h=>by omega) h
theorem v9.row {X Y:List Int} {s:List Bd} (h:v9 X Y s) (hc:eA s) {b:Bd} (hb:b∈s):b.xs.length<=X.length:=eZ (hc.each b hb).2.2.1.nodup (h b hb).2.2
theorem v9.len {X Y:List Int} {s:List Bd} (h:v9 X Y s) (hc:eA s):s.length<=Y.length:=by
 have hn: (s.map Bd.y0).Nodup:=by
  unfold List.Nodup
  rw [List.pairwise_map]
  refine List.Pairwise.imp_of_mem (fun{a b} ha hb hab=>?_) hc.ord
  have:=(hc.each a ha).1
  have:=hab.1
  omega
 have:=eZ hn (m:=Y) (fun x hx=>by
  obtain⟨b,hb,rfl⟩:=cS.1 hx
  exact(h b hb).1)
 rwa [dN] at this
theorem v9.mono {X Y X' Y':List Int} {s:List Bd} (h:v9 X Y s) (hx: ∀c∈X,c∈X') (hy: ∀c∈Y,c∈Y'):v9 X' Y' s:=fun b hb=>⟨hy _ (h b hb).1,hy _ (h b hb).2.1,fun c hc=>hx c ((h b hb).2.2 c hc)⟩
theorem G4 (s:List Bd) (b:Bd): (iJ s b).length<=s.length+1:=by
 unfold iJ
 split
 ·omega
 ·split
  ·rename_i d hd
   have hsp:=pY hd
   have:s.length=s.dropLast.length+1:=by
    conv=>lhs;rw [hsp]
    simp
   split <;> simp <;> omega
  ·simp
theorem iV.lt {l:List Int} (h:iV l) {i j:Nat} {x y:Int} (hij:i<j) (hx:l[i]? =some x) (hy:l[j]? =some y):x<y:=by
 have:=kE.1 h i j (aW.1 hx).1 (aW.1 hy).1 hij
 rw [(aW.1 hx).2,(aW.1 hy).2] at this;exact this
theorem iV.next {l:List Int} (h:iV l) {k:Nat} {x y c:Int} (hx:l[k]? =some x) (hy:l[k+1]? =some y) (hc:c∈l) (hxc:x<c):y<=c:=by
 obtain⟨j,hj⟩:=dV hc
 rcases Nat.lt_trichotomy j (k+1) with h1 | h1 | h1
 ·exfalso
  by_cases e:j=k
  ·subst e;rw [hx] at hj;injection hj with hj;omega
  ·have:=h.lt (show j<k by omega) hj hx;omega
 ·subst h1;rw [hy] at hj;injection hj with hj;omega
 ·have:=h.lt h1 hy hj;omega
theorem vS {l:List aH} {φ:aH->Option Bool} (p:aH->Bool) (hφ: ∀x∈l,φ x=some (p x)) (hl:l.length<=4611686018427387000) (hN:l.length<N):gL N l φ=some (l.filter (fun x=> !p x)):=
 IJ (z:=(⟨0,0,0,0⟩:aH)) p hφ hl hN
theorem AR {l:List aH} (hl:l.length<=268435456):iH N l=some l:=by
 unfold iH;rw [jX (by simp;omega),aB,List.nil_append]
structure NN (l m:List aH) (ys:List Int) (k:Nat) (out:List aA) (now:List aH) (nx:Nat):Prop where
 can:eA (out.map bT)
 top: ∀c∈out,∀y,ys[k]? =some y->c.Y1<=y
 cover: ∀x y,th (out.map bT) x y= (te l x y&&decide (∀a,ys[k]? =some a->y<a))
 lim:v9 (rF l) (iu l) (out.map bT)
 PM: ∀r∈now,r∈m.take nx
 PN: ∀r∈m.take nx,∀y,ys[k]? =some y->y<r.Y1->r∈now
 len:now.length<=nx
 Pf:nx<=m.length
 rest: ∀(j:Nat) r y,nx<=j->m[j]? =some r->ys[k]? =some y->y<=r.Y0
 low: ∀r∈now,∀y,ys[k]? =some y->r.Y0<=y
theorem J8 {l m:List aH} (h: ∀r,r∈l↔r∈m) (x y:Int):te l x y=te m x y:=by
 rw [eI,ir,ir]
 constructor
 ·rintro⟨r,hr,h1⟩;exact⟨r,(h r).1 hr,h1⟩
 ·rintro⟨r,hr,h1⟩;exact⟨r,(h r).2 hr,h1⟩
structure pZ (l:List aH) (s:List aA):Prop where
 can:eA (s.map bT)
 cover: ∀x y,th (s.map bT) x y=te l x y
 lim:v9 (rF l) (iu l) (s.map bT)
theorem oh {l:List aH} (hl:l.length<=134217728) (hok: ∀r∈l,Bs r) (hN:4294967296<=N):Ok (gz N l) (pZ l):=by
 unfold gz
 refine Ok.eq (AR (by omega)) ?_
 obtain⟨m,h1,h2,h3⟩:=zI (φ:=jh N) (l:=l) (fun a b=>a.Y0 - b.Y0) (fun a ha b hb=>by
  unfold jh;rw [wrap_small (hok a ha).s3 (hok b hb).s3]) (fun a _=>by omega) (fun a _ b _ c _ h1 h2=>by omega) (fun a _ b _ c _ h1 h2=>by omega) (by omega)
 refine Ok.eq h1 ?_
 have hml:m.length=l.length:=h2.length_eq
 have hmem: ∀r,r∈m↔r∈l:=fun r=>h2.mem_iff
 refine Ok.bind (Ok.lF (fun k s=>s=iu (m.take k)) (by omega) rfl (fun k s hk e=>?_)) ?_
 ·subst e
  refine Ok.idx hk (Ok.app ?_ (Ok.ret ?_))
  ·rw [iD];simp;omega
  ·rw [eF hk]
   unfold iu;rw [List.flatMap_append];rfl
 rintro s rfl
 rw [fw]
 have hgs:tp (iu m)=some ((iu m).mergeSort (fun x y=>decide (x<=y))):=by unfold tp;rw [aC (by rw [iD];omega)]
 refine Ok.eq hgs ?_
 have hsp: ((iu m).mergeSort (fun x y=>decide (x<=y))).Pairwise (fun x y=>x<=y):=by
  have:=List.pairwise_mergeSort (le:=fun(x y:Int)=>decide (x<=y)) (fun a b c h1 h2=>by simp at *;omega) (fun a b=>by simp;omega) (iu m)
  exact List.Pairwise.imp (fun h=>by simpa using h) this
 have hsm: ∀c,c∈(iu m).mergeSort (fun x y=>decide (x<=y))↔c∈iu m:=fun c=>List.mem_mergeSort
 have hsl: ((iu m).mergeSort (fun x y=>decide (x<=y))).length=2*m.length:=by rw [List.length_mergeSort,iD]
 generalize (iu m).mergeSort (fun x y=>decide (x<=y))=sy at hsp hsm hsl
 refine Ok.bind (Cz (N:=N) hsp (by omega) (by omega)) ?_
 rintro ys ⟨hy,hym⟩
 have hyl:ys.length<=2*m.length:=by
  have:=eZ hy.nodup (m:=sy) (fun c hc=>(hym c).1 hc)
  omega
 have y0m: ∀r∈m,r.Y0∈ys:=fun r hr=>(hym _).2 ((hsm _).2 (ky.2 ⟨r,hr, .inl rfl⟩))
 have y1m: ∀r∈m,r.Y1∈ys:=fun r hr=>(hym _).2 ((hsm _).2 (ky.2 ⟨r,hr, .inr rfl⟩))
 have yml: ∀c∈ys,c∈iu l:=fun c hc=>by
  obtain⟨r,hr,h⟩:=ky.1 ((hsm _).1 ((hym _).1 hc))
  exact ky.2 ⟨r,(hmem r).1 hr,h⟩
 refine Ok.bind (Ok.jB (Go:=fun s=>pZ l s.1) (Rt:=fun _=>True) (fun s=>∃k nx:Nat,s.2.2.2= ((k:Nat):Int)/\s.2.2.1= ((nx:Nat):Int)/\(k<ys.length\/k=0)/\NN l m ys k s.1 s.2.1 nx) (fun s=>ys.length - s.2.2.2.toNat) ?_ ?_ (by simp;omega)) ?_
 ·rintro⟨out,now,a,b⟩ ⟨k,nx,e1,e2,hk,I⟩
  dsimp only at e1 e2 I ⊢
  subst e1;subst e2
  rw [bP (by omega)]
  refine Ok.bif (fun h=>?_) (fun h=>Ok.br ?_)
  ·have hk1:k+1<ys.length:=by have:=of_decide_eq_true h;omega
   have hyk:ys[k]? =some ys[k]:=aL _
   have hyk1:ys[k+1]? =some ys[k+1]:=aL hk1
   have hlt:=hy.lt (Nat.lt_succ_self k) hyk hyk1
   have hcov:=I.cover
   simp only [hyk,Option.some.injEq,forall_eq'] at hcov
   refine Ok.eq (vS (fun r=>decide (r.Y1<=ys[k])) (fun r _=>by unfold nu;rw [ke ys k (by omega),aB]) (by have:=I.len;have:=I.Pf;omega) (by have:=I.len;have:=I.Pf;omega)) ?_
   have hfl:=nn (fun r:aH=> !decide (r.Y1<=ys[k])) now
   have hIl:=I.len
   have hIn:=I.Pf
   refine Ok.bind (Ok.jB (Go:=fun s=>∃nx':Nat,s.2= ((nx':Nat):Int)/\nx'<=m.length/\s.1.length<=nx'/\(∀r∈s.1,r∈m.take nx')/\(∀r∈m.take nx',ys[k]<r.Y1->r∈s.1)/\(∀r∈s.1,r.Y0<=ys[k]/\ys[k]<r.Y1)/\(∀(j:Nat) r,nx'<=j->m[j]? =some r->ys[k]<r.Y0)) (Rt:=fun _=>True)
    (fun s=>∃nx':Nat,s.2= ((nx':Nat):Int)/\nx<=nx'/\nx'<=m.length/\s.1.length<=nx'/\(∀r∈s.1,r∈m.take nx')/\(∀r∈m.take nx',ys[k]<r.Y1->r∈s.1)/\(∀r∈s.1,r.Y0<=ys[k]/\ys[k]<r.Y1)) (fun s=>m.length - s.2.toNat) ?_ ?_ (by simp;omega)) ?_
   ·rintro⟨nw,b⟩ ⟨nx',e1,g0,g1,g2,g3,g4,g5⟩
    dsimp only at e1 g2 g3 g4 g5 ⊢
    subst e1
    refine Ok.bind (P:=fun b=>b=true↔∃h:nx'<m.length,m[nx'].Y0<=ys[k]) ?_ ?_
    ·refine Ok.bif (fun h=>?_) (fun h=>Ok.ret ?_)
     ·have hlt:nx'<m.length:=by have:=of_decide_eq_true h;omega
      refine Ok.idx hlt (Ok.idx (by omega) (Ok.ret ?_))
      rw [bB];exact⟨fun h=>⟨hlt,h⟩,fun⟨_,h⟩=>h⟩
     ·have:=of_decide_eq_false h
      constructor
      ·intro h;cases h
      ·rintro⟨h,_⟩;omega
    ·intro bb hbb
     refine Ok.bif (fun h=>?_) (fun h=>Ok.br ?_)
     ·obtain⟨hlt,h0⟩:=hbb.1 h
      have hts:m.take (nx'+1)=m.take nx'++[m[nx']]:=eF hlt
      refine Ok.idx hlt (Ok.app (by simp;omega) (Ok.nx ⟨⟨nx'+1,by rw [bP (by omega)],by omega,by omega,by simp;omega,fun r hr=>?_,fun r hr hr2=>?_,fun r hr=>?_⟩,by rw [bP (by omega)];simp only [bX];omega⟩))
      ·rw [hts]
       rcases cY.1 hr with h | h
       ·exact List.mem_append_left _ (g3 r h)
       ·exact List.mem_append_right _ h
      ·rw [hts] at hr
       rcases cY.1 hr with h | h
       ·exact List.mem_append_left _ (g4 r h hr2)
       ·exact List.mem_append_right _ h
      ·rcases cY.1 hr with h | h
       ·exact g5 r h
       ·simp at h;subst h
        refine⟨h0,?_⟩
        have:=(hok m[nx'] ((hmem _).1 (cO hlt))).y
        have:=I.rest nx' _ ys[k] g0 (aL hlt) hyk
        omega
     ·refine⟨nx',rfl,g1,g2,g3,g4,g5,fun j r hj hr=>?_⟩
      have hjl:=(aW.1 hr).1
      have hlt:nx'<m.length:=by omega
      have h0: ¬m[nx'].Y0<=ys[k]:=fun h0=>by rw [hbb.2 ⟨hlt,h0⟩] at h;cases h
      by_cases e:nx'=j
      ·subst e;rw [aL hlt] at hr;injection hr with hr;subst hr;omega
      ·have:=kE.1 h3 nx' j hlt hjl (by omega)
       have hr':=(aW.1 hr).2
       rw [hr'] at this;omega
   ·refine⟨nx,rfl,bJ _,hIn,by dsimp only;omega,fun r hr=>I.PM r (ka.1 hr).1,fun r hr h=>ka.2 ⟨I.PN r hr ys[k] hyk h,by simpa using h⟩,fun r hr=>?_⟩
    have hr:=ka.1 hr
    have hr2:ys[k]<r.Y1:=by simpa using hr.2
    exact⟨I.low r hr.1 ys[k] hyk,hr2⟩
   ·rintro o ho
    refine Ok.cs ho ?_ (fun r=>r.elim)
    rintro⟨nw,b⟩ ⟨nx',e1,g1,g2,g3,g4,g5,g6⟩
    dsimp only at e1 g2 g3 g4 g5 ⊢
    subst e1
    refine Ok.idx (by omega) (Ok.idx hk1 ?_)
    have hnm: ∀r∈nw,r∈l:=fun r hr=>(hmem r).1 (List.take_subset _ _ (g3 r hr))
    obtain⟨row,nw',s1,s2,s3,s4,s5,s6,s7⟩:=Cw (N:=N) (l:=nw) (by omega) (fun r hr=>hok r (hnm r hr))
    refine Ok.eq s1 ?_
    have hlimx: ∀c∈row,c∈rF l:=fun c hc=>by
     obtain⟨r,hr,h⟩:=s7 c hc
     exact rG.2 ⟨r,hnm r hr,h⟩
    have hol:out.length<=2*l.length:=by have:=I.lim.len I.can;rw [iD,dN] at this;exact this
    have hox: ∀c∈out,c.Xs.length<=2*l.length:=fun c hc=>by
     have:=I.lim.row I.can (b:=bT c) (cS.2 ⟨c,hc,rfl⟩)
     rw [k6] at this;exact this
    obtain⟨out',p1,p2⟩:=Gd (N:=N) (s:=out) (b:=⟨ys[k],ys[k+1],row⟩) (by omega) (fun c hc=>by have:=hox c hc;omega)
    refine Ok.eq p1 ?_
    have htop: ∀c∈out.map bT,c.y1<=(bT ⟨ys[k],ys[k+1],row⟩).y0:=fun c hc=>by
     obtain⟨d,hd,rfl⟩:=cS.1 hc
     exact I.top d hd ys[k] hyk
    have hcan:=uD I.can htop s3 s4
    refine Ok.nx ⟨⟨k+1,nx',rfl,rfl, .inl hk1,⟨by dsimp only;rw [p2];exact hcan,fun c hc y hy1=>?_,fun x y=>?_,?_,fun r hr=>g3 r (s2.subset hr),fun r hr y hy1 h=>?_,by rw [s2.length_eq];exact g2,g1,fun j r y hj hr hy1=>?_,fun r hr y hy1=>?_⟩⟩,by simp only [bX];omega⟩
    ·rw [hyk1] at hy1;injection hy1 with hy1;subst hy1
     have hm':bT c∈iJ (out.map bT) (bT ⟨ys[k],ys[k+1],row⟩):=by rw [<-p2];exact cS.2 ⟨c,hc,rfl⟩
     exact uE htop (by show ys[k]<=ys[k+1];omega) _ hm'
    ·simp only [hyk1,Option.some.injEq,forall_eq']
     unfold th
     rw [p2,uC htop (fun c hc=>(I.can.each c hc).1) (fun h=>absurd h (by show ¬ys[k+1]<=ys[k];omega))]
     by_cases hyy:ys[k]<=y/\y<ys[k+1]
     ·rw [aC (show (bT ⟨ys[k],ys[k+1],row⟩).y0<=y/\y< (bT ⟨ys[k],ys[k+1],row⟩).y1 from hyy),bG hyy.2,Bool.and_true]
      show nK row x=_
      rw [s5,eI,zO,ir]
      constructor
      ·rintro⟨r,hr,h⟩
       have hrm:=List.take_subset _ _ (g3 r hr)
       have h5:=g5 r hr
       have:=hy.next hyk hyk1 (y1m r hrm) h5.2
       exact⟨r,hnm r hr,h,by omega,by omega⟩
      ·rintro⟨r,hr,h,h7,h8⟩
       have hrm:=(hmem r).2 hr
       have h9:r.Y0<=ys[k]:=by
        by_cases h10:r.Y0<=ys[k]
        ·exact h10
        ·have:=hy.next hyk hyk1 (y0m r hrm) (by omega);omega
       have h11:r∈m.take nx':=by
        obtain⟨j,hj⟩:=dV hrm
        by_cases h12:j<nx'
        ·exact eW (i:=j) (by rw [List.getElem?_take_of_lt h12];exact hj)
        ·have:=g6 j r (by omega) hj;omega
       exact⟨r,g4 r h11 (by omega),h⟩
     ·rw [aD (show ¬((bT ⟨ys[k],ys[k+1],row⟩).y0<=y/\y< (bT ⟨ys[k],ys[k+1],row⟩).y1) from hyy)]
      show th (out.map bT) x y=_
      rw [hcov]
      by_cases h1:y<ys[k]
      ·rw [bG h1,bG (show y<ys[k+1] by omega)]
      ·rw [bI h1,bI (show ¬y<ys[k+1] by omega)]
    ·show v9 (rF l) (iu l) (out'.map bT)
     rw [p2]
     exact I.lim.push (yml _ (cO _)) (yml _ (cO _)) hlimx
    ·rw [hyk1] at hy1;injection hy1 with hy1;subst hy1
     exact s2.symm.subset (g4 r hr (by omega))
    ·rw [hyk1] at hy1;injection hy1 with hy1;subst hy1
     exact hy.next hyk hyk1 (y0m r (eW hr)) (g6 j r hj hr)
    ·rw [hyk1] at hy1;injection hy1 with hy1;subst hy1
     have:=(g5 r (s2.subset hr)).1;omega
  ·have hge: ¬k+1<ys.length:=by have:=of_decide_eq_false h;omega
   refine⟨I.can,fun x y=>?_,I.lim⟩
   rw [I.cover]
   by_cases hyn:ys= []
   ·have:te l x y=false:=by
     rw [<-kb,ir]
     rintro⟨r,hr,_⟩
     have:=y0m r ((hmem r).2 hr)
     rw [hyn] at this;cases this
    rw [this];rfl
   ·have hkl:k<ys.length:=by
     rcases hk with h | h
     ·exact h
     ·subst h;exact List.length_pos_iff.2 hyn
    rw [aL hkl]
    simp only [Option.some.injEq,forall_eq']
    cases hc:te l x y with
    | false=>rfl
    | true=>
     obtain⟨r,hr,_,h7,h8⟩:=ir.1 hc
     have:=y1m r ((hmem r).2 hr)
     obtain⟨j,hj⟩:=dV this
     have hjl:=(aW.1 hj).1
     have:r.Y1<=ys[k]:=by
      by_cases e:j=k
      ·subst e;rw [aL hkl] at hj;injection hj with hj;omega
      ·have:=hy.lt (show j<k by omega) hj (aL hkl);omega
     rw [bG (show y<ys[k] by omega)];rfl
 ·refine⟨0,0,rfl,rfl, .inr rfl,?_⟩
  show NN l m ys 0 [] [] 0
  refine⟨eA.nil,fun c hc=>(by cases hc),fun x y=>?_,fun b hb=>(by cases hb),fun r hr=>(by cases hr),fun r hr=>(by rw [List.take_zero] at hr;cases hr),bJ _,eL _,fun j r y _ hr hy0=>?_,fun r hr=>(by cases hr)⟩
  ·show false=_
   symm
   rw [Bool.and_eq_false_iff]
   cases hc:te l x y with
   | false=>exact .inl rfl
   | true=>
    right
    obtain⟨r,hr,_,h7,h8⟩:=ir.1 hc
    have hr0:=y0m r ((hmem r).2 hr)
    have hpos:0<ys.length:=List.length_pos_of_mem hr0
    rw [decide_eq_false_iff_not]
    intro h
    have h:=h ys[0] (aL hpos)
    obtain⟨j,hj⟩:=dV hr0
    by_cases e:j=0
    ·subst e;rw [aL hpos] at hj;injection hj with hj;omega
    ·have:=hy.lt (show 0<j by omega) (aL hpos) hj;omega
  ·obtain⟨j',hj'⟩:=dV (y0m r (eW hr))
   by_cases e:j'=0
   ·subst e;rw [hy0] at hj';injection hj' with hj';omega
   ·have:=hy.lt (show 0<j' by omega) hy0 hj';omega
 ·rintro o ho
  refine Ok.cs ho (fun s h=>Ok.ret h) (fun r=>r.elim)
end
end Go.Gk
namespace Go.Gk
open Go
section
variable {N:Nat}
def zR:List Int->List (Int×Int)
 | a::b::l=>(a,b)::zR l
 | _=>[]
theorem yY: ∀(xs:List Int),(zR xs).length=xs.length / 2
 | []=>rfl
 | [a]=>by simp [zR]
 | a::b::l=>by unfold zR;rw [dK,yY l];simp only [dK];omega
theorem wX: ∀(xs:List Int) (j:Nat) (h:2*j+1<xs.length),(zR xs)[j]? =some (xs[2*j],xs[2*j+1])
 | [],j,h=>by simp at h
 | [a],j,h=>by simp at h
 | a::b::l,0,h=>rfl
 | a::b::l,j+1,h=>by
  have:=wX l j (by simp at h;omega)
  unfold zR
  rw [List.getElem?_cons_succ,this]
  have e1: (a::b::l)[2* (j+1)]=l[2*j]'(by simp at h;omega):=by simp [show 2* (j+1)=2*j+1+1 by omega]
  have e2: (a::b::l)[2* (j+1)+1]=l[2*j+1]'(by simp at h;omega):=by simp [show 2* (j+1)+1=2*j+1+1+1 by omega]
  rw [e1,e2]
theorem wY: ∀{xs:List Int},xs.length % 2=0->cV (zR xs)=xs
 | [],_=>rfl
 | [a],h=>by simp at h
 | a::b::l,h=>by unfold zR;rw [ij,wY (by simp at h;omega)]
theorem J9 {xs:List Int} (h:iV xs) (he:xs.length % 2=0) (x:Int):nK xs x=ig (zR xs) x:=by
 have:=rC (l:=zR xs) (by rw [wY he];exact h) x
 rwa [wY he] at this
theorem CA {xs:List Int}: ∀p∈zR xs,p.1∈xs/\p.2∈xs:=by
 intro p hp
 obtain⟨j,hj⟩:=dV hp
 have hjl:=(aW.1 hj).1
 rw [yY] at hjl
 rw [wX xs j (by omega)] at hj
 injection hj with hj;subst hj
 exact⟨cO _,cO _⟩
theorem E5 {xs:List Int} (h:iV xs): ∀p∈zR xs,p.1<p.2:=by
 intro p hp
 obtain⟨j,hj⟩:=dV hp
 have hjl:=(aW.1 hj).1
 rw [yY] at hjl
 rw [wX xs j (by omega)] at hj
 injection hj with hj;subst hj
 exact h.lt (show 2*j<2*j+1 by omega) (aL _) (aL _)
def l9 (b:aA):List aH:=(zR b.Xs).map fun p=>⟨p.1,b.Y0,p.2,b.Y1⟩
def aP (s:List aA):List aH:=s.flatMap l9
theorem ma (b:aA) (s:List aA):aP (b::s)=l9 b++aP s:=rfl
theorem mA (b:aA): (l9 b).length=b.Xs.length / 2:=by unfold l9;rw [dN,yY]
theorem mS (s t:List aA):aP (s++t)=aP s++aP t:=List.flatMap_append
theorem xX (s:List aA) (k:Nat): (aP (s.take k)).length<=(aP s).length:=by
 conv=>rhs;rw [<-List.take_append_drop k s,mS,cR]
 omega
theorem zS {s:List aA} {A B:Nat} (h1:s.length<=A) (h2: ∀b∈s,b.Xs.length<=B): (aP s).length<=A*B:=by
 induction s generalizing A with
 | nil=>simp [aP]
 | cons b s ih=>
  rw [ma,cR,mA]
  simp at h1
  obtain⟨A',rfl⟩: ∃A',A=A'+1:=⟨A - 1,by omega⟩
  have:=ih (A:=A') (by omega) (fun c hc=>h2 c (gh _ hc))
  have:=h2 b (by simp)
  rw [Nat.add_mul];omega
theorem zT {s:List aA} (he: ∀b∈s,b.Xs.length % 2=0) (h1:s.length<=1099511627776) (h2: ∀b∈s,b.Xs.length<=1099511627776/\b.Xs.length<N) (h3: (aP s).length<=1099511627776):iQ N s=some (aP s):=by
 refine Ok.get ?_
 unfold iQ
 refine Ok.bind (Ok.lF (fun k t=>t=aP (s.take k)) (by omega) rfl (fun k t hk e=>?_)) (fun t e=>Ok.ret (by rw [e,fw]))
 subst e
 refine Ok.idx hk ?_
 have hm:=cO hk
 generalize hb:s[k]=b at hm ⊢
 have heb:=he b hm
 have hbl:=h2 b hm
 have hts:aP (s.take (k+1))=aP (s.take k)++l9 b:=by
  rw [eF hk,mS,hb];simp [aP]
 have hle:=xX s (k+1)
 rw [hts,cR,mA] at hle
 refine Ok.bind (Ok.jB (Go:=fun s'=>s'.1=aP (s.take (k+1))) (Rt:=fun _=>True) (fun s'=>∃j:Nat,s'.2= ((2*j:Nat):Int)/\2*j<=b.Xs.length/\s'.1=aP (s.take k)++(l9 b).take j) (fun s'=>b.Xs.length - s'.2.toNat) ?_ ⟨0,rfl,by omega,by simp⟩ (by simp;omega)) ?_
 ·rintro⟨acc,i⟩ ⟨j,e1,hj,e2⟩
  dsimp only at e1 e2 ⊢
  subst e1;subst e2
  refine Ok.bif (fun h=>?_) (fun h=>Ok.br ?_)
  ·have hlt:2*j+1<b.Xs.length:=by have:=of_decide_eq_true h;omega
   refine Ok.idx (by omega) ?_
   rw [bP (by omega)]
   refine Ok.idx hlt (Ok.app ?_ (Ok.nx ⟨⟨j+1,?_,by omega,?_⟩,?_⟩))
   ·simp;rw [mA];omega
   ·rw [Bv (by omega)];congr 1
   ·rw [jK]
    congr 1
    have hg: (l9 b)[j]? =some ⟨b.Xs[2*j],b.Y0,b.Xs[2*j+1],b.Y1⟩:=by
     unfold l9;rw [gJ,wX _ _ hlt];rfl
    have hjl:=(aW.1 hg).1
    rw [eF hjl,(aW.1 hg).2]
   ·rw [Bv (by omega)];simp only [bX];omega
  ·have hge:2*j=b.Xs.length:=by have:=of_decide_eq_false h;omega
   show aP (s.take k)++(l9 b).take j=_
   rw [hts,lE (l:=l9 b) (by rw [mA];omega)]
 ·rintro o ho
  exact Ok.cs ho (fun s' h=>Ok.ret h) (fun r=>r.elim)
theorem Ka {s:List aA} (h1:s.length<=1099511627776) (h2: ∀b∈s,b.Xs.length<=1099511627776) (h3: (aP s).length<=1099511627776):lT N s=some (((aP s).length:Nat):Int):=by
 refine Ok.get ?_
 unfold lT
 refine Ok.bind (Ok.lF (fun k t=>t= (((aP (s.take k)).length:Nat):Int)) (by omega) rfl (fun k t hk e=>?_)) (fun t e=>Ok.ret (by rw [e,fw]))
 subst e
 refine Ok.idx hk (Ok.ret ?_)
 have hm:=cO hk
 have hbl:=h2 _ hm
 have hts:aP (s.take (k+1))=aP (s.take k)++l9 s[k]:=by
  rw [eF hk,mS];simp [aP]
 have hle:=xX s (k+1)
 rw [hts,cR,mA] at hle
 have e:Int.tdiv ((s[k].Xs.length:Nat):Int) 2= ((s[k].Xs.length / 2:Nat):Int):=by
  rw [show (2:Int)= ((2:Nat):Int) by rfl,<-Int.ofNat_tdiv]
 rw [e,DY (by omega),wrap_add (by omega),hts,cR,mA]
theorem E6 (l m:List aH) (x y:Int):te (l++m) x y= (te l x y||te m x y):=List.any_append
theorem IL {b:aA} (h:iV b.Xs) (he:b.Xs.length % 2=0) (x y:Int):te (l9 b) x y= (nK b.Xs x&&(decide (b.Y0<=y)&&decide (y<b.Y1))):=by
 rw [J9 h he,eI,ir,bR,rB,bR,bB,bB]
 unfold l9
 constructor
 ·rintro⟨r,hr,h1,h2⟩
  obtain⟨p,hp,rfl⟩:=cS.1 hr
  exact⟨⟨p,hp,h1⟩,h2⟩
 ·rintro⟨⟨p,hp,h1⟩,h2⟩
  exact⟨_,cS.2 ⟨p,hp,rfl⟩,h1,h2⟩
theorem oj: ∀{s:List aA},eA (s.map bT)->∀x y,te (aP s) x y=th (s.map bT) x y
 | [],_,x,y=>rfl
 | b::s,h,x,y=>by
  rw [ma,E6,oj h.tail x y]
  have hb:=h.each (bT b) (by simp)
  rw [IL hb.2.2.1 hb.2.2.2]
  unfold th
  rw [dI,l7]
  by_cases hy:b.Y0<=y/\y<b.Y1
  ·rw [aC (show (bT b).y0<=y/\y< (bT b).y1 from hy),kP (fun c hc=> .inl (by have:=h.zM c hc;have e: (bT b).y1=b.Y1:=rfl;omega)),bG hy.1,bG hy.2]
   show (nK b.Xs x&&true||false)=nK b.Xs x
   simp
  ·rw [aD (show ¬((bT b).y0<=y/\y< (bT b).y1) from hy)]
   have: (decide (b.Y0<=y)&&decide (y<b.Y1))=false:=by rw [Bool.and_eq_false_iff,decide_eq_false_iff_not,decide_eq_false_iff_not];omega
   rw [this];simp
theorem pF {s:List aA} {r:aH} (h:r∈aP s): ∃b∈s,∃p∈zR b.Xs,r= ⟨p.1,b.Y0,p.2,b.Y1⟩:=by
 unfold aP l9 at h
 obtain⟨b,hb,h⟩:=List.mem_flatMap.1 h
 obtain⟨p,hp,rfl⟩:=cS.1 h
 exact⟨b,hb,p,hp,rfl⟩
theorem zU {s:List aA} {X Y:List Int} (h:eA (s.map bT)) (hl:v9 X Y (s.map bT)) (hx: ∀c∈X,small c) (hy: ∀c∈Y,small c): ∀r∈aP s,Bs r/\(r.X0∈X/\r.X1∈X)/\r.Y0∈Y/\r.Y1∈Y:=by
 intro r hr
 obtain⟨b,hb,p,hp,rfl⟩:=pF hr
 have hm:bT b∈s.map bT:=cS.2 ⟨b,hb,rfl⟩
 have hc:=h.each _ hm
 have hll:=hl _ hm
 have h1:=CA p hp
 have h2:=hll.2.2 p.1 h1.1
 have h3:=hll.2.2 p.2 h1.2
 exact⟨⟨E5 hc.2.2.1 p hp,hc.1,hx _ h2,hx _ h3,hy _ hll.1,hy _ hll.2.1⟩,⟨h2,h3⟩,hll.1,hll.2.1⟩
theorem vT {l:List Int} {x:Int} (h: ∀c∈l,c<=x):nK l x= (l.length % 2==1):=by unfold nK;rw [Gb h]
theorem xY {l:List Int} {a x:Int} (h:x<a):nK (l++[a]) x=nK l x:=by unfold nK;rw [zJ,mR,aD (by omega),Cv];rfl
def G5 (l:List Int):Bool:=l.length % 2==1
theorem zV (l:List Int) (a:Int):G5 (l++[a]) = !G5 l:=by
 unfold G5
 rw [cR,eI,Bool.not_eq_true',beq_iff_eq,beq_eq_false_iff_ne]
 simp;omega
structure DZ (fS:Bool->Bool->Bool) (a b a' b' out:List Int) (inA inB is:Bool) (pa pb:List Int):Prop where
 ea:a=pa++a'
 eb:b=pb++b'
 oa:inA=G5 pa
 ob:inB=G5 pb
 oo:is=G5 out
 ok:is=fS inA inB
 low: ∀c,(c∈pa\/c∈pb\/c∈out)->∀d,(d∈a'\/d∈b')->c<d
 inc:iV out
 NO: ∀x,(∀d,(d∈a'\/d∈b')->x<d)->nK out x=fS (nK pa x) (nK pb x)
 mem: ∀c∈out,c∈pa\/c∈pb
 len:out.length<=pa.length+pb.length
theorem DZ.step {fS:Bool->Bool->Bool} {a b a' b' out:List Int} {inA inB is:Bool} {pa pb:List Int} (I:DZ fS a b a' b' out inA inB is pa pb) (ha:iV a) (hb:iV b) (x:Int) (ta tb:List Int) (wa wb:Bool)
  (h1:a'= (if wa then x::ta else ta)) (h2:b'= (if wb then x::tb else tb)) (hw:wa=true\/wb=true) (hx: ∀d,(d∈ta\/d∈tb)->x<d):
  DZ fS a b ta tb (if fS (inA ^^ wa) (inB ^^ wb)=is then out else out++[x]) (inA ^^ wa) (inB ^^ wb) (fS (inA ^^ wa) (inB ^^ wb)) (if wa then pa++[x] else pa) (if wb then pb++[x] else pb):=by
 have hxm:x∈a'\/x∈b':=by
  rcases hw with h | h
  ·left;rw [h1,aC h];simp
  ·right;rw [h2,aC h];simp
 have hsub: ∀d,(d∈ta\/d∈tb)->d∈a'\/d∈b':=fun d hd=>by
  rcases hd with h | h
  ·left;rw [h1];split
   ·exact gh _ h
   ·exact h
  ·right;rw [h2];split
   ·exact gh _ h
   ·exact h
 have hlow: ∀c,(c∈pa\/c∈pb\/c∈out)->c<x:=fun c hc=>I.low c hc x hxm
 have hpa: ∀c∈(if wa then pa++[x] else pa),c∈pa\/(wa=true/\c=x):=fun c hc=>by
  split at hc
  ·rename_i h
   rcases cY.1 hc with h' | h'
   ·exact .inl h'
   ·simp at h';exact .inr ⟨h,h'⟩
  ·exact .inl hc
 have hpb: ∀c∈(if wb then pb++[x] else pb),c∈pb\/(wb=true/\c=x):=fun c hc=>by
  split at hc
  ·rename_i h
   rcases cY.1 hc with h' | h'
   ·exact .inl h'
   ·simp at h';exact .inr ⟨h,h'⟩
  ·exact .inl hc
 have hout: ∀c∈(if fS (inA ^^ wa) (inB ^^ wb)=is then out else out++[x]),c∈out\/c=x:=fun c hc=>by
  split at hc
  ·exact .inl hc
  ·rcases cY.1 hc with h' | h'
   ·exact .inl h'
   ·simp at h';exact .inr h'
 have ooA: (inA ^^ wa)=G5 (if wa then pa++[x] else pa):=by
  rw [I.oa];cases wa <;> simp [zV]
 have ooB: (inB ^^ wb)=G5 (if wb then pb++[x] else pb):=by
  rw [I.ob];cases wb <;> simp [zV]
 have ooO:fS (inA ^^ wa) (inB ^^ wb)=G5 (if fS (inA ^^ wa) (inB ^^ wb)=is then out else out++[x]):=by
  split
  ·rename_i h;rw [h];exact I.oo
  ·rename_i h
   rw [zV,<-I.oo]
   cases hk:fS (inA ^^ wa) (inB ^^ wb) <;> cases his:is <;> simp_all
 refine⟨?_,?_,ooA,ooB,ooO,rfl,?_,?_,?_,?_,?_⟩
 ·rw [I.ea,h1];split <;> simp
 ·rw [I.eb,h2];split <;> simp
 ·intro c hc d hd
  have hd':=hx d hd
  have hdd:=hsub d hd
  rcases hc with h | h | h
  ·rcases hpa c h with h' | ⟨_,rfl⟩
   ·exact I.low c (.inl h') d hdd
   ·exact hd'
  ·rcases hpb c h with h' | ⟨_,rfl⟩
   ·exact I.low c (.inr (.inl h')) d hdd
   ·exact hd'
  ·rcases hout c h with h' | rfl
   ·exact I.low c (.inr (.inr h')) d hdd
   ·exact hd'
 ·split
  ·exact I.inc
  ·exact I.inc.IK fun c hc=>hlow c (.inr (.inr hc))
 ·intro y hy
  by_cases hxy:y<x
  ·have e1:nK (if wa then pa++[x] else pa) y=nK pa y:=by split;exact xY hxy;rfl
   have e2:nK (if wb then pb++[x] else pb) y=nK pb y:=by split;exact xY hxy;rfl
   have e3:nK (if fS (inA ^^ wa) (inB ^^ wb)=is then out else out++[x]) y=nK out y:=by split;rfl;exact xY hxy
   rw [e1,e2,e3]
   refine I.NO y fun d hd=>?_
   have:x<=d:=by
    rcases hd with h | h
    ·rw [h1] at h
     split at h
     ·rcases cT.1 h with rfl | h
      ·exact Int.le_refl _
      ·have:=hx d (.inl h);omega
     ·have:=hx d (.inl h);omega
    ·rw [h2] at h
     split at h
     ·rcases cT.1 h with rfl | h
      ·exact Int.le_refl _
      ·have:=hx d (.inr h);omega
     ·have:=hx d (.inr h);omega
   omega
  ·rw [vT (l:=if wa then pa++[x] else pa),vT (l:=if wb then pb++[x] else pb),vT]
   ·have e1:=ooA;have e2:=ooB;have e3:=ooO
    unfold G5 at e1 e2 e3
    rw [<-e1,<-e2,<-e3]
   ·intro c hc
    rcases hout c hc with h | rfl
    ·have:=hlow c (.inr (.inr h));omega
    ·omega
   ·intro c hc
    rcases hpb c hc with h | ⟨_,rfl⟩
    ·have:=hlow c (.inr (.inl h));omega
    ·omega
   ·intro c hc
    rcases hpa c hc with h | ⟨_,rfl⟩
    ·have:=hlow c (.inl h);omega
    ·omega
 ·intro c hc
  have m1: ∀c,c∈pa->c∈(if wa then pa++[x] else pa):=fun c h=>by split;exact List.mem_append_left _ h;exact h
  have m2: ∀c,c∈pb->c∈(if wb then pb++[x] else pb):=fun c h=>by split;exact List.mem_append_left _ h;exact h
  rcases hout c hc with h | rfl
  ·rcases I.mem c h with h | h
   ·exact .inl (m1 c h)
   ·exact .inr (m2 c h)
  ·rcases hw with h | h
   ·left;rw [aC h];simp
   ·right;rw [aC h];simp
 ·have:=I.len
  have h3: (if wa then pa++[x] else pa).length+ (if wb then pb++[x] else pb).length>=pa.length+pb.length+1:=by
   rcases hw with h | h
   ·subst h;cases wb <;> simp <;> omega
   ·subst h;cases wa <;> simp <;> omega
  split
  ·omega
  ·simp at h3 ⊢;omega
end
end Go.Gk
namespace Go.Gk
open Go
section
variable {N:Nat}
theorem iW (x:Int) (l:List Int):idx (x::l) 0=some x:=rfl
theorem rH {α:Type} (x:α) (l:List α):sO (x::l) 1 (((x::l).length:Nat):Int)=some l:=pS (x::l) 1 (by simp)
theorem jZ {α:Type} (x:α) (l:List α):decide ((((x::l).length:Nat):Int)>0)=true:=bG (by simp)
theorem uF {α:Type} (x:α) (l:List α): ((((x::l).length:Nat):Int)==0)=false:=by rw [beq_eq_false_iff_ne];simp;omega
theorem E7 {a b:List Int} (ha:iV a) (hb:iV b) (h:a≠[]\/b≠[]): ∃x ta tb wa wb,a= (if wa then x::ta else ta)/\b= (if wb then x::tb else tb)/\(wa=true\/wb=true)/\(∀d,(d∈ta\/d∈tb)->x<d):=by
 match a,b,ha,hb,h with
 | [],[],_,_,h=>rcases h with h | h <;> exact absurd rfl h
 | x::ta,[],ha,_,_=>exact⟨x,ta,[],true,false,rfl,rfl, .inl rfl,fun d hd=>by rcases hd with h | h;exact ha.head d h;cases h⟩
 | [],y::tb,_,hb,_=>exact⟨y,[],tb,false,true,rfl,rfl, .inr rfl,fun d hd=>by rcases hd with h | h;cases h;exact hb.head d h⟩
 | x::ta,y::tb,ha,hb,_=>
  rcases Int.lt_trichotomy x y with h | h | h
  ·refine⟨x,ta,y::tb,true,false,rfl,rfl, .inl rfl,fun d hd=>?_⟩
   rcases hd with h1 | h1
   ·exact ha.head d h1
   ·rcases cT.1 h1 with rfl | h1
    ·exact h
    ·have:=hb.head d h1;omega
  ·subst h
   exact⟨x,ta,tb,true,true,rfl,rfl, .inl rfl,fun d hd=>by rcases hd with h | h;exact ha.head d h;exact hb.head d h⟩
  ·refine⟨y,x::ta,tb,false,true,rfl,rfl, .inr rfl,fun d hd=>?_⟩
   rcases hd with h1 | h1
   ·rcases cT.1 h1 with rfl | h1
    ·exact h
    ·have:=ha.head d h1;omega
   ·exact hb.head d h1
theorem G6 {φ:Bool->Bool->Option Bool} {fS:Bool->Bool->Bool} (hφ: ∀p q,φ p q=some (fS p q)) (hk:fS false false=false) {a b:List Int} (ha:iV a) (hb:iV b) (hae:a.length % 2=0) (hbe:b.length % 2=0)
  (gq:a.length<=1099511627776) (hbl:b.length<=1099511627776) (hN:a.length+b.length<N):
  Ok (pG N a b φ) (fun m=>iV m/\m.length % 2=0/\(∀x,nK m x=fS (nK a x) (nK b x))/\∀c∈m,c∈a\/c∈b):=by
 unfold pG
 refine Ok.bind (Ok.jB (Go:=fun s=>iV s.2.2.1/\s.2.2.1.length % 2=0/\(∀x,nK s.2.2.1 x=fS (nK a x) (nK b x))/\∀c∈s.2.2.1,c∈a\/c∈b) (Rt:=fun _=>True)
  (fun s=>∃pa pb,DZ fS a b s.1 s.2.1 s.2.2.1 s.2.2.2.1 s.2.2.2.2.1 s.2.2.2.2.2 pa pb) (fun s=>s.1.length+s.2.1.length) ?_ ?_ hN) ?_
 ·rintro⟨a',b',out,inA,inB,is⟩ ⟨pa,pb,I⟩
  dsimp only at I ⊢
  have ha':iV a':=by have:=ha;rw [I.ea] at this;exact(mh.1 this).2.1
  have hb':iV b':=by have:=hb;rw [I.eb] at this;exact(mh.1 this).2.1
  have hle:pa.length+a'.length=a.length:=by rw [I.ea];simp
  have hlb:pb.length+b'.length=b.length:=by rw [I.eb];simp
  have hlo:=I.len
  by_cases hne:a'≠[]\/b'≠[]
  ·obtain⟨x,ta,tb,wa,wb,h1,h2,hw,hx⟩:=E7 ha' hb' hne
   have J:=I.step ha hb x ta tb wa wb h1 h2 hw hx
   have fin: ∀(sa sb:List Int×Bool),sa= (ta,inA ^^ wa)->sb= (tb,inB ^^ wb)->
     Ok ((φ sa.2 sb.2).bind fun x220=>(bif (x220 != is) then ((app 8 out ([x]: (List Int))).bind fun x227=>some (x227,x220)) else (some (out,is))).bind fun s224=>some (Fl.nx (sa.1,sb.1,s224.1,sa.2,sb.2,s224.2)))
      (Jx (fun s':List Int×List Int×List Int×Bool×Bool×Bool=>(∃pa pb,DZ fS a b s'.1 s'.2.1 s'.2.2.1 s'.2.2.2.1 s'.2.2.2.2.1 s'.2.2.2.2.2 pa pb)/\s'.1.length+s'.2.1.length<a'.length+b'.length) (fun s=>iV s.2.2.1/\s.2.2.1.length % 2=0/\(∀x,nK s.2.2.1 x=fS (nK a x) (nK b x))/\∀c∈s.2.2.1,c∈a\/c∈b) (fun _:Empty=>True)):=by
    rintro _ _ rfl rfl
    refine Ok.eq (hφ _ _) ?_
    have hlt:ta.length+tb.length<a'.length+b'.length:=by
     rw [h1,h2]
     rcases hw with h | h
     ·subst h;cases wb <;> simp <;> omega
     ·subst h;cases wa <;> simp <;> omega
    by_cases he:fS (inA ^^ wa) (inB ^^ wb)=is
    ·rw [aC he] at J
     refine Ok.eq (x:=(out,is)) (by rw [he,show (is != is)=false by simp,aN]) ?_
     rw [he] at J
     exact Ok.nx ⟨⟨_,_,J⟩,hlt⟩
    ·rw [aD he] at J
     refine Ok.eq (x:=(out++[x],fS (inA ^^ wa) (inB ^^ wb))) (by rw [show (fS (inA ^^ wa) (inB ^^ wb) != is)=true by simp [he],aO,jX (by simp;omega),aB]) (Ok.nx ⟨⟨_,_,J⟩,hlt⟩)
   rcases hw with rfl | rfl
   ·rw [aC rfl] at h1
    subst h1
    refine Ok.eq (x:=true) (by rw [jZ,aO]) ?_
    rw [aO]
    have hle2: (bif (((b'.length:Nat):Int)==0) then (some true) else (bif (decide ((((x::ta).length:Nat):Int)>0)) then ((idx (x::ta) 0).bind fun x181=>(idx b' 0).bind fun x183=>some (decide (x181<=x183))) else (some false)))=some true:=by
     cases b' with
     | nil=>rfl
     | cons y b''=>
      rw [uF,aN,jZ,aO,iW,aB,iW,aB]
      have:x<=y:=by
       cases wb with
       | true=>simp at h2;omega
       | false=>have:=hx y (.inr (by simp at h2;rw [<-h2];simp));omega
      rw [bG this]
    refine Ok.eq hle2 ?_
    rw [aO]
    refine Ok.eq (x:=x) (by rw [iW,aB]) ?_
    refine Ok.eq (x:=true) (by rw [jZ,aO,iW,aB];simp) ?_
    refine Ok.eq (x:=(ta,!inA)) (by rw [aO,rH,aB]) ?_
    cases wb with
    | true=>
     rw [aC rfl] at h2
     subst h2
     refine Ok.eq (x:=true) (by rw [jZ,aO,iW,aB];simp) ?_
     refine Ok.eq (x:=(tb,!inB)) (by rw [aO,rH,aB]) ?_
     exact fin _ _ (by simp) (by simp)
    | false=>
     have h2:b'=tb:=h2
     subst h2
     refine Ok.eq (x:=false) ?_ ?_
     ·cases b' with
      | nil=>rfl
      | cons y b''=>
       have:=hx y (.inr (by simp))
       rw [jZ,aO,iW,aB,show (y==x)=false by rw [beq_eq_false_iff_ne];omega]
     ·refine Ok.eq (x:=(b',inB)) (by rw [aN]) ?_
      exact fin _ _ (by simp) (by simp)
   ·cases wa with
    | true=>
     rw [aC rfl] at h1 h2
     subst h1;subst h2
     refine Ok.eq (x:=true) (by rw [jZ,aO]) ?_
     rw [aO]
     refine Ok.eq (x:=true) (by rw [uF,aN,jZ,aO,iW,aB,iW,aB];simp) ?_
     rw [aO]
     refine Ok.eq (x:=x) (by rw [iW,aB]) ?_
     refine Ok.eq (x:=true) (by rw [jZ,aO,iW,aB];simp) ?_
     refine Ok.eq (x:=(ta,!inA)) (by rw [aO,rH,aB]) ?_
     refine Ok.eq (x:=true) (by rw [jZ,aO,iW,aB];simp) ?_
     refine Ok.eq (x:=(tb,!inB)) (by rw [aO,rH,aB]) ?_
     exact fin _ _ (by simp) (by simp)
    | false=>
     have h1:a'=ta:=h1
     rw [aC rfl] at h2
     subst h1;subst h2
     refine Ok.eq (x:=true) (by rw [jZ,J0];simp) ?_
     rw [aO]
     refine Ok.eq (x:=false) ?_ ?_
     ·rw [uF,aN]
      cases a' with
      | nil=>rfl
      | cons y a''=>
       have:=hx y (.inl (by simp))
       rw [jZ,aO,iW,aB,iW,aB,bI (by omega)]
     ·rw [aN]
      refine Ok.eq (x:=x) (by rw [iW,aB]) ?_
      refine Ok.eq (x:=false) ?_ ?_
      ·cases a' with
       | nil=>rfl
       | cons y a''=>
        have:=hx y (.inl (by simp))
        rw [jZ,aO,iW,aB,show (y==x)=false by rw [beq_eq_false_iff_ne];omega]
      ·refine Ok.eq (x:=(a',inA)) (by rw [aN]) ?_
       refine Ok.eq (x:=true) (by rw [jZ,aO,iW,aB];simp) ?_
       refine Ok.eq (x:=(tb,!inB)) (by rw [aO,rH,aB]) ?_
       exact fin _ _ (by simp) (by simp)
  ·have ea:a'= []:=Classical.byContradiction fun h=>hne (.inl h)
   have eb:b'= []:=Classical.byContradiction fun h=>hne (.inr h)
   subst ea;subst eb
   refine Ok.eq (x:=false) rfl ?_
   refine Ok.br ⟨I.inc,?_,fun x=>?_,fun c hc=>?_⟩
   ·have h1:=I.ea;have h2:=I.eb
    rw [mT] at h1 h2
    have h3:G5 out=false:=by
     rw [<-I.oo,I.ok,I.oa,I.ob,<-h1,<-h2]
     unfold G5;rw [hae,hbe];exact hk
    unfold G5 at h3
    rw [beq_eq_false_iff_ne] at h3
    dsimp only;omega
   ·have:=I.NO x (fun d hd=>by rcases hd with h | h <;> cases h)
    have h1:=I.ea;have h2:=I.eb
    rw [mT] at h1 h2
    rw [h1,h2];exact this
   ·have h1:=I.ea;have h2:=I.eb
    rw [mT] at h1 h2
    rw [h1,h2];exact I.mem c hc
 ·exact⟨[],[],rfl,rfl,rfl,rfl,rfl,hk.symm,fun c hc=>(by rcases hc with h | h | h <;> cases h),iG,fun x _=>hk.symm,fun c hc=>(by cases hc),bJ _⟩
 ·rintro o ho
  exact Ok.cs ho (fun s h=>Ok.ret h) (fun r=>r.elim)
theorem eA.app {s t:List Bd} (h:eA (s++t)):eA t:=⟨fun b hb=>h.each b (List.mem_append_right _ hb),(mh.1 h.ord).2.1⟩
theorem eA.low {b:Bd} {s:List Bd} (h:eA (b::s)): ∀c∈b::s,b.y0<=c.y0:=fun c hc=>by
 rcases cT.1 hc with rfl | hc
 ·exact Int.le_refl _
 ·have:=h.zM c hc;have:=(h.each b (by simp)).1;omega
theorem eA.high {s:List Bd} {b:Bd} (h:eA (s++[b])): ∀c∈s++[b],c.y1<=b.y1:=fun c hc=>by
 rcases cY.1 hc with hc | hc
 ·have:=((mh.1 h.ord).2.2 c hc b (by simp)).1
  have:=(h.each b (by simp)).1;omega
 ·simp at hc;subst hc;exact Int.le_refl _
def EF (s:List aA) (y e:Int):List Int×Int:=match s with
 | []=>([],e)
 | b::_=>if y<b.Y0 then ([],if b.Y0<e then b.Y0 else e) else (b.Xs,if b.Y1<e then b.Y1 else e)
theorem IM {α:Type} (x:α) (l:List α):idx (x::l) 0=some x:=rfl
theorem KW (s:List aA) (y e:Int):mu N s y e=some (EF s y e):=by
 unfold mu EF
 cases s with
 | nil=>rfl
 | cons b s=>
  dsimp only
  rw [uF,aN,IM,aB,aB,aB,aB]
  by_cases h:y<b.Y0
  ·rw [bG h,aO,aC h]
  ·rw [bI h,aN,aD h]
theorem Gf {s:List aA} {y e:Int} {X Y:List Int} (hc:eA (s.map bT)) (hl:v9 X Y (s.map bT)) (hh: ∀b t,s=b::t->y<b.Y1) (hy:y<e):
  y< (EF s y e).2/\(EF s y e).2<=e/\(∀y',y<=y'->y'< (EF s y e).2->rowAt (s.map bT) y'= (EF s y e).1)/\iV (EF s y e).1/\(EF s y e).1.length % 2=0/\((EF s y e).2=e\/(EF s y e).2∈Y)/\∀c∈(EF s y e).1,c∈X:=by
 cases s with
 | nil=>exact⟨hy,Int.le_refl _,fun y' _ _=>rfl,iG,rfl, .inl rfl,fun c hc=>(by cases hc)⟩
 | cons b t=>
  have hb:=hc.each (bT b) (by simp)
  have hlb:=hl (bT b) (by simp)
  have h1:=hh b t rfl
  unfold EF
  dsimp only
  by_cases h:y<b.Y0
  ·rw [aC h]
   dsimp only
   refine⟨by split <;> omega,by split <;> omega,fun y' h2 h3=>?_,iG,rfl,?_,fun c hc=>(by cases hc)⟩
   ·exact hc.uB (by show y'<b.Y0;split at h3 <;> omega)
   ·split
    ·exact .inr hlb.1
    ·exact .inl rfl
  ·rw [aD h]
   dsimp only
   refine⟨by split <;> omega,by split <;> omega,fun y' h2 h3=>?_,hb.2.2.1,hb.2.2.2,?_,hlb.2.2⟩
   ·exact eA.l8 (b:=bT b) (by show b.Y0<=y';omega) (by show y'<b.Y1;split at h3 <;> omega)
   ·split
    ·exact .inr hlb.2.1
    ·exact .inl rfl
theorem Bw {y:Int} {a:List aA} (hN:a.length<N) {body:List aA->Option (Fl (List aA) Empty)}
  (hb:body=fun(s373: (List aA))=>((bif (decide ((s373.length:Int)>0)) then ((idx s373 0).bind fun x407=>some (decide (x407.Y1<=y))) else (some false)).bind fun s405=>bif s405 then ((sO s373 1 (s373.length:Int)).bind fun x410=>some (.nx x410)) else (some (.br s373)):Option (Fl ((List aA)) Empty))):
  Ok (jB body N a) (NL (fun a'=>∃p,a=p++a'/\(∀c∈p,c.Y1<=y)/\∀b t,a'=b::t->y<b.Y1) (fun _=>True)):=by
 subst hb
 refine Ok.jB (fun a'=>∃p,a=p++a'/\∀c∈p,c.Y1<=y) List.length ?_ ⟨[],rfl,fun c hc=>(by cases hc)⟩ hN
 rintro a' ⟨p,e,hp⟩
 cases a' with
 | nil=>exact Ok.eq (x:=false) rfl (Ok.br ⟨p,e,hp,fun b t h=>(by cases h)⟩)
 | cons b t=>
  refine Ok.eq (x:=decide (b.Y1<=y)) (by rw [jZ,aO,IM,aB]) ?_
  refine Ok.bif (fun h=>?_) (fun h=>Ok.br ⟨p,e,hp,fun b' t' h'=>?_⟩)
  ·have h:=of_decide_eq_true h
   refine Ok.eq (rH b t) (Ok.nx ⟨⟨p++[b],by rw [e];simp,fun c hc=>?_⟩,by simp⟩)
   rcases cY.1 hc with hc | hc
   ·exact hp c hc
   ·simp at hc;subst hc;exact h
  ·have h:=of_decide_eq_false h
   injection h' with h1 h2;subst h1;omega
theorem D0 {p a':List Bd} {y y':Int} (hp: ∀c∈p,c.y1<=y) (h:y<=y'):rowAt (p++a') y'=rowAt a' y':=by
 rw [pz,aD]
 rintro⟨b,hb,h1⟩
 have:=hp b hb;omega
structure CB (fS:Bool->Bool->Bool) (X Y:List Int) (a b s:List aA):Prop where
 can:eA (s.map bT)
 cover: ∀x y,th (s.map bT) x y=fS (th (a.map bT) x y) (th (b.map bT) x y)
 lim:v9 X Y (s.map bT)
theorem zW {s:List aA} (hs:s≠[]) (hl:s.length<=1099511627776) (hc:eA (s.map bT)): ∃f l,idx s 0=some f/\idx s (IntKind.wrap .i64 (((s.length:Nat):Int) - 1))=some l/\f∈s/\l∈s/\∀c∈s,f.Y0<=c.Y0/\c.Y1<=l.Y1:=by
 cases s with
 | nil=>exact absurd rfl hs
 | cons f t=>
  rw [fN (by simp) (by omega)]
  have hlt: (f::t).length - 1< (f::t).length:=by simp
  refine⟨f,(f::t)[(f::t).length - 1],rfl,ke _ _ hlt,by simp,cO _,fun c hcm=>⟨?_,?_⟩⟩
  ·exact hc.low (bT c) (cS.2 ⟨c,hcm,rfl⟩)
  ·have e: (f::t)= (f::t).dropLast++[(f::t)[(f::t).length - 1]]:=by
    have:=List.dropLast_concat_getLast (show f::t≠[] by simp)
    rw [<-List.getLast_eq_getElem (h:=by simp)];exact this.symm
   generalize (f::t)[(f::t).length - 1]=l at e
   have hc2:=hc
   rw [e,dU] at hc2
   have hm:bT c∈(List.map bT (f::t).dropLast++[bT l]):=by
    have:bT c∈(f::t).map bT:=cS.2 ⟨c,hcm,rfl⟩
    rw [e,dU] at this;exact this
   exact eA.high hc2 (bT c) hm
theorem E8 {φ:Bool->Bool->Option Bool} {fS:Bool->Bool->Bool} (hφ: ∀p q,φ p q=some (fS p q)) (hk:fS false false=false) {a b:List aA} {X Y:List Int} (ca:eA (a.map bT)) (cb:eA (b.map bT))
  (la:v9 X Y (a.map bT)) (lb:v9 X Y (b.map bT)) (hX:X.length<=1048576000) (hY:Y.length<=1048576000) (hs: ∀c∈Y,small c) (hN:4398046511104<=N):Ok (oF N a b φ) (CB fS X Y a b):=by
 have gq:a.length<=Y.length:=by have:=la.len ca;rwa [dN] at this
 have hbl:b.length<=Y.length:=by have:=lb.len cb;rwa [dN] at this
 unfold oF
 rw [wrap_add (by omega)]
 refine Ok.bif (fun h=>Ok.ret ?_) (fun h=>?_)
 ·have h:a.length+b.length=0:=by have:=beq_iff_eq.1 h;omega
  have e1:a= []:=List.eq_nil_of_length_eq_zero (by omega)
  have e2:b= []:=List.eq_nil_of_length_eq_zero (by omega)
  subst e1;subst e2
  exact⟨eA.nil,fun x y=>hk.symm,fun c hc=>(by cases hc)⟩
 have h0:a≠[]\/b≠[]:=by
  rw [beq_eq_false_iff_ne] at h
  by_cases e:a= []
  ·right;intro e2;subst e;subst e2;exact h rfl
  ·exact .inl e
 refine Ok.bind (Ok.lF (fun k s=>match k with | 0=>True | 1=>a= []\/((∀c∈a,s.1<=c.Y0/\c.Y1<=s.2)/\s.1∈Y/\s.2∈Y) | _=>((∀c∈a,s.1<=c.Y0/\c.Y1<=s.2)/\(∀c∈b,s.1<=c.Y0/\c.Y1<=s.2)/\s.1∈Y/\s.2∈Y)) (by simp) trivial (fun k s hk hI=>?_)) ?_
 ·obtain⟨y,e⟩:=s
  have hk:k=0\/k=1:=by simp at hk;omega
  rcases hk with rfl | rfl
  ·refine Ok.ix (x:=a) rfl ?_
   by_cases ea:a= []
   ·subst ea
    exact Ok.eq (x:=(y,e)) rfl (Ok.ret (.inl rfl))
   ·obtain⟨f,l,f1,f2,f3,f4,f5⟩:=zW ea (by omega) ca
    have hpos:decide (((a.length:Nat):Int)>0)=true:=bG (by have:=List.length_pos_iff.2 ea;omega)
    refine Ok.eq (x:=(f.Y0,l.Y1)) ?_ (Ok.ret (.inr ⟨f5,(la _ (cS.2 ⟨f,f3,rfl⟩)).1,(la _ (cS.2 ⟨l,f4,rfl⟩)).2.1⟩))
    rw [hpos,aO]
    show ((some true).bind _)=_
    rw [aB,aO,f1,aB,f2,aB,aB,aB,aB]
    simp
  ·refine Ok.ix (x:=b) rfl ?_
   have hI:a= []\/((∀c∈a,y<=c.Y0/\c.Y1<=e)/\y∈Y/\e∈Y):=hI
   by_cases eb:b= []
   ·subst eb
    refine Ok.eq (x:=(y,e)) rfl (Ok.ret ?_)
    rcases hI with h | ⟨h1,h2,h3⟩
    ·rcases h0 with h' | h'
     ·exact absurd h h'
     ·exact absurd rfl h'
    ·exact⟨h1,fun c hc=>(by cases hc),h2,h3⟩
   ·obtain⟨f,l,f1,f2,f3,f4,f5⟩:=zW eb (by omega) cb
    have hpos:decide (((b.length:Nat):Int)>0)=true:=bG (by have:=List.length_pos_iff.2 eb;omega)
    have g1:f.Y0∈Y:=(lb _ (cS.2 ⟨f,f3,rfl⟩)).1
    have g2:l.Y1∈Y:=(lb _ (cS.2 ⟨l,f4,rfl⟩)).2.1
    by_cases ea:a= []
    ·subst ea
     refine Ok.eq (x:=(f.Y0,l.Y1)) ?_ (Ok.ret ⟨fun c hc=>(by cases hc),f5,g1,g2⟩)
     rw [hpos,aO]
     show ((some true).bind _)=_
     rw [aB,aO,f1,aB,f2,aB,aB,aB,aB]
     simp
    ·obtain⟨h1,h2,h3⟩:=hI.resolve_left ea
     refine Ok.eq (x:=(if f.Y0<y then f.Y0 else y,if e<l.Y1 then l.Y1 else e)) ?_ (Ok.ret ⟨fun c hc=>?_,fun c hc=>?_,?_,?_⟩)
     ·rw [hpos,aO]
      have ez: (((a.length:Nat):Int)==0)=false:=by rw [beq_eq_false_iff_ne];have:=List.length_pos_iff.2 ea;omega
      rw [ez]
      show ((some false).bind _)=_
      rw [aB,aN,aB,f1,aB,f2,aB]
     ·have:=h1 c hc;dsimp only;split <;> split <;> omega
     ·have:=f5 c hc;dsimp only;split <;> split <;> omega
     ·dsimp only;split
      ·exact g1
      ·exact h2
     ·dsimp only;split
      ·exact g2
      ·exact h3
 ·rintro⟨y0,e0⟩ hI
  have hI: (∀c∈a,y0<=c.Y0/\c.Y1<=e0)/\(∀c∈b,y0<=c.Y0/\c.Y1<=e0)/\y0∈Y/\e0∈Y:=hI
  obtain⟨ia,ib,iy,ie⟩:=hI
  have sy:=hs _ iy
  have se:=hs _ ie
  unfold small at sy se
  dsimp only
  refine Ok.bind (Ok.jB (Go:=fun s=>CB fS X Y a b s.2.2.1) (Rt:=fun _=>True)
   (fun s=>∃pa pb,a=pa++s.1/\b=pb++s.2.1/\(∀c∈pa,c.Y1<=s.2.2.2)/\(∀c∈pb,c.Y1<=s.2.2.2)/\y0<=s.2.2.2/\s.2.2.2<=max y0 e0/\s.2.2.2∈Y/\eA (s.2.2.1.map bT)/\v9 X Y (s.2.2.1.map bT)/\(∀c∈s.2.2.1,c.Y1<=s.2.2.2)/\
    ∀x y,th (s.2.2.1.map bT) x y= (fS (th (a.map bT) x y) (th (b.map bT) x y)&&decide (y<s.2.2.2)))
   (fun s=>(e0 - s.2.2.2).toNat) ?_ ?_ (by dsimp only;omega)) ?_
  ·rintro⟨a',b',out,y⟩ ⟨pa,pb,ea,eb,hpa,hpb,hy0,hye,hyY,hcan,hlim,htop,hcov⟩
   dsimp only at ea eb hpa hpb hy0 hye hyY hcan hlim htop hcov ⊢
   refine Ok.bif (fun h=>?_) (fun h=>Ok.br ?_)
   ·have hlt:y<e0:=of_decide_eq_true h
    have hsl: ∀(p s t:List aA),t=p++s->s.length<=t.length:=fun p s t e=>by rw [e];simp
    have hal':=hsl _ _ _ ea
    have hbl':=hsl _ _ _ eb
    refine Ok.bind (Bw (y:=y) (a:=a') (by omega) rfl) (fun o ho=>Ok.cs ho ?_ (fun r=>r.elim))
    rintro a2 ⟨qa,ea2,hqa,hha⟩
    refine Ok.bind (Bw (y:=y) (a:=b') (by omega) rfl) (fun o ho=>Ok.cs ho ?_ (fun r=>r.elim))
    rintro b2 ⟨qb,eb2,hqb,hhb⟩
    have ea3:a= (pa++qa)++a2:=by rw [ea,ea2];simp
    have eb3:b= (pb++qb)++b2:=by rw [eb,eb2];simp
    have hPa: ∀c∈pa++qa,c.Y1<=y:=fun c hc=>by rcases cY.1 hc with h | h;exact hpa c h;exact hqa c h
    have hPb: ∀c∈pb++qb,c.Y1<=y:=fun c hc=>by rcases cY.1 hc with h | h;exact hpb c h;exact hqb c h
    have ca2:eA (a2.map bT):=by have:=ca;rw [ea3,dU] at this;exact this.app
    have cb2:eA (b2.map bT):=by have:=cb;rw [eb3,dU] at this;exact this.app
    have la2:v9 X Y (a2.map bT):=fun c hc=>la c (by rw [ea3,dU];exact List.mem_append_right _ hc)
    have lb2:v9 X Y (b2.map bT):=fun c hc=>lb c (by rw [eb3,dU];exact List.mem_append_right _ hc)
    refine Ok.eq (KW a2 y e0) (Ok.eq (KW b2 y e0) ?_)
    obtain⟨a1,a3,a4,a5,a6,a7,a8⟩:=Gf ca2 la2 hha hlt
    obtain⟨b1,b3,b4,b5,b6,b7,b8⟩:=Gf cb2 lb2 hhb hlt
    have hal2: (EF a2 y e0).1.length<=X.length:=eZ a5.nodup a8
    have hbl2: (EF b2 y e0).1.length<=X.length:=eZ b5.nodup b8
    generalize EF a2 y e0=pa2 at *
    generalize EF b2 y e0=pb2 at *
    obtain⟨xa,n⟩:=pa2
    obtain⟨xb,m⟩:=pb2
    dsimp only at *
    refine Ok.bind (G6 hφ hk a5 b5 a6 b6 (by omega) (by omega) (by omega)) ?_
    rintro row ⟨r1,r2,r3,r4⟩
    have hnx: ∃nx,nx= (if m<n then m else n)/\y<nx/\nx<=e0/\nx<=n/\nx<=m/\nx∈Y:=by
     refine⟨_,rfl,by split <;> omega,by split <;> omega,by split <;> omega,by split <;> omega,?_⟩
     split
     ·rcases b7 with h | h
      ·rw [h];exact ie
      ·exact h
     ·rcases a7 with h | h
      ·rw [h];exact ie
      ·exact h
    obtain⟨nx,hnx,n1,n2,n3,n4,n5⟩:=hnx
    rw [<-hnx]
    have hol:out.length<=Y.length:=by have:=hlim.len hcan;rwa [dN] at this
    obtain⟨out',p1,p2⟩:=Gd (N:=N) (s:=out) (b:=⟨y,nx,row⟩) (by omega) (fun c hc=>by
     have:=hlim.row hcan (b:=bT c) (cS.2 ⟨c,hc,rfl⟩)
     have e: (bT c).xs=c.Xs:=rfl
     rw [e] at this;omega)
    refine Ok.eq p1 ?_
    have htop': ∀c∈out.map bT,c.y1<=(bT ⟨y,nx,row⟩).y0:=fun c hc=>by
     obtain⟨d,hd,rfl⟩:=cS.1 hc
     exact htop d hd
    refine Ok.nx ⟨⟨pa++qa,pb++qb,ea3,eb3,fun c hc=>by have:=hPa c hc;dsimp only;omega,fun c hc=>by have:=hPb c hc;dsimp only;omega,by dsimp only;omega,by dsimp only;omega,n5,by dsimp only;rw [p2];exact uD hcan htop' r1 r2,?_,fun c hc=>?_,fun x y'=>?_⟩,by dsimp only;omega⟩
    ·dsimp only;rw [p2]
     refine hlim.push hyY n5 (fun c hc=>?_)
     rcases r4 c hc with h | h
     ·exact a8 c h
     ·exact b8 c h
    ·have hm':bT c∈iJ (out.map bT) (bT ⟨y,nx,row⟩):=by rw [<-p2];exact cS.2 ⟨c,hc,rfl⟩
     exact uE htop' (by show y<=nx;omega) _ hm'
    ·show nK (rowAt (out'.map bT) y') x=_
     rw [p2,uC htop' (fun c hc=>(hcan.each c hc).1) (fun h=>absurd h (by show ¬nx<=y;omega))]
     by_cases hyy:y<=y'/\y'<nx
     ·rw [aC (show (bT ⟨y,nx,row⟩).y0<=y'/\y'< (bT ⟨y,nx,row⟩).y1 from hyy),bG hyy.2,Bool.and_true]
      show nK row x=_
      have mp: ∀p q:List aA,(∀c∈p++q,c.Y1<=y)->∀c∈(p++q).map bT,c.y1<=y:=fun p q h c hc=>by
       obtain⟨d,hd,rfl⟩:=cS.1 hc
       exact h d hd
      have q1:th (a.map bT) x y'=nK xa x:=by
       unfold th
       rw [ea3,dU,D0 (mp _ _ hPa) hyy.1,a4 y' hyy.1 (by omega)]
      have q2:th (b.map bT) x y'=nK xb x:=by
       unfold th
       rw [eb3,dU,D0 (mp _ _ hPb) hyy.1,b4 y' hyy.1 (by omega)]
      rw [r3,q1,q2]
     ·rw [aD (show ¬((bT ⟨y,nx,row⟩).y0<=y'/\y'< (bT ⟨y,nx,row⟩).y1) from hyy)]
      show th (out.map bT) x y'=_
      rw [hcov]
      by_cases h1:y'<y
      ·rw [bG h1,bG (show y'<nx by omega)]
      ·rw [bI h1,bI (show ¬y'<nx by omega)]
   ·have hge:e0<=y:=by have:=of_decide_eq_false h;omega
    refine⟨hcan,fun x y'=>?_,hlim⟩
    dsimp only
    rw [hcov]
    by_cases h1:y'<y
    ·rw [bG h1,Bool.and_true]
    ·have z: ∀s:List aA,(∀c∈s,y0<=c.Y0/\c.Y1<=e0)->th (s.map bT) x y'=false:=fun s h=>by
      unfold th
      rw [kP fun c hc=>?_]
      ·rfl
      ·obtain⟨d,hd,rfl⟩:=cS.1 hc
       exact .inr (by have:=(h d hd).2;show d.Y1<=y';omega)
     rw [z a ia,z b ib,hk];rfl
  ·refine⟨[],[],rfl,rfl,fun c hc=>(by cases hc),fun c hc=>(by cases hc),Int.le_refl _,by dsimp only;omega,iy,eA.nil,fun c hc=>(by cases hc),fun c hc=>(by cases hc),fun x y=>?_⟩
   dsimp only
   show false=_
   by_cases h1:y<y0
   ·have z: ∀s:List aA,(∀c∈s,y0<=c.Y0/\c.Y1<=e0)->th (s.map bT) x y=false:=fun s h=>by
     unfold th
     rw [kP fun c hc=>?_]
     ·rfl
     ·obtain⟨d,hd,rfl⟩:=cS.1 hc
      exact .inl (by have:=(h d hd).1;show y<d.Y0;omega)
    rw [z a ia,z b ib,hk];rfl
   ·rw [bI h1,Bool.and_false]
  ·rintro o ho
   exact Ok.cs ho (fun s h=>Ok.ret h) (fun r=>r.elim)
theorem G7 {a b:List aA} {X Y:List Int} (ca:eA (a.map bT)) (cb:eA (b.map bT)) (la:v9 X Y (a.map bT)) (lb:v9 X Y (b.map bT)) (hX:X.length<=1048576000) (hY:Y.length<=1048576000) (hs: ∀c∈Y,small c) (hN:4398046511104<=N):
  Ok (kn N a b) (CB (fun p q=>p&& !q) X Y a b):=by
 unfold kn
 exact Ok.bind (E8 (fS:=fun p q=>p&& !q) (fun p q=>rfl) rfl ca cb la lb hX hY hs hN) (fun s h=>Ok.ret h)
end
end Go.Gk
namespace Go.Gk
open Go
section
variable {N:Nat}
structure UF (n:Nat) (up:List Int) (r:Nat->Nat):Prop where
 len:up.length=n
 rt: ∀i,i<n->∃u:Nat,up[i]? =some ((u:Nat):Int)/\u<=i/\r u=r i/\(u=i↔r i=i)
theorem UF.le {n:Nat} {up:List Int} {r:Nat->Nat} (h:UF n up r): ∀i,i<n->r i<=i:=by
 intro i
 induction i using Nat.strongRecOn with
 | ind i ih=>
  intro hi
  obtain⟨u,_,h2,h3,h4⟩:=h.rt i hi
  by_cases e:u=i
  ·rw [h4.1 e];exact bJ _
  ·rw [<-h3];have:=ih u (by omega) (by omega);omega
theorem UF.rr {n:Nat} {up:List Int} {r:Nat->Nat} (h:UF n up r): ∀i,i<n->r (r i)=r i:=by
 intro i
 induction i using Nat.strongRecOn with
 | ind i ih=>
  intro hi
  obtain⟨u,_,h2,h3,h4⟩:=h.rt i hi
  by_cases e:u=i
  ·rw [h4.1 e,h4.1 e]
  ·rw [<-h3];exact ih u (by omega) (by omega)
theorem mY {l:List Int} {j:Nat} {v:Int} {i:Nat} (hj:j<l.length): (l.set j v)[i]? =if i=j then some v else l[i]? :=by
 rw [fB]
 by_cases e:j=i
 ·rw [aC e,aC e.symm,aC hj]
 ·rw [aD e,aD (fun h=>e h.symm)]
theorem UF.init (n:Nat) (up:List Int) (h1:up.length=n) (h2: ∀i,i<n->up[i]? =some ((i:Nat):Int)):UF n up (fun i=>i):=
 ⟨h1,fun i hi=>⟨i,h2 i hi,bJ _,rfl,by simp⟩⟩
theorem yt {n:Nat} (hn:n<=1048576000): ∃up,jc N ((n:Nat):Int)=some up/\UF n up (fun i=>i):=by
 unfold jc
 rw [nC 0 (by omega),aB]
 have h0: (List.replicate n (0:Int)).length=n:=by simp
 obtain⟨s',h1,h2⟩:=yW (m:=(List.replicate n (0:Int)).length) (s:=List.replicate n (0:Int)) (body:=fun(k34:Nat) (s35: (List Int))=>((idx s35 (k34:Int)).bind fun x38=>some (s35.set (Int.toNat (k34:Int)) (k34:Int)):Option ((List Int))))
  (fun k s=>s.length=n/\∀i,i<k->s[i]? =some ((i:Nat):Int)) (by omega) ⟨h0,fun i hi=>by omega⟩ (fun k s hk ⟨hs,hi⟩=>by
   refine⟨s.set k ((k:Nat):Int),?_,by simp [hs],fun i hi'=>?_⟩
   ·rw [ke _ _ (by omega),aB,bX]
   ·rw [mY (by omega)]
    split
    ·rename_i e;rw [e]
    ·exact hi i (by omega))
 rw [h1,aB]
 exact⟨s',rfl,UF.init n s' h2.1 (fun i hi=>h2.2 i (by omega))⟩
theorem tU {n:Nat} {up:List Int} {r:Nat->Nat} (h:UF n up r) {i:Nat} (hi:i<n) (hn:n<N): ∃up',dX N up ((i:Nat):Int)=some (((r i:Nat):Int),up')/\UF n up' r:=by
 unfold dX
 obtain⟨o,h1,h2⟩:=wF (R:=Empty) (body:=fun(s32: (List Int)×Int)=>((idx s32.1 s32.2).bind fun x43=>bif (x43 != s32.2) then ((idx s32.1 s32.2).bind fun x44=>(idx s32.1 x44).bind fun x45=>(idx s32.1 s32.2).bind fun x46=>(idx (s32.1.set (Int.toNat s32.2) x45) s32.2).bind fun x47=>some (.nx ((s32.1.set (Int.toNat s32.2) x45),x47))) else (some (.br (s32.1,s32.2))):Option (Fl ((List Int)×Int) Empty)))
  (fun s=>UF n s.1 r/\∃j:Nat,s.2= ((j:Nat):Int)/\j<n/\r j=r i) (fun s=>s.2.toNat) (fun s=>s.2= ((r i:Nat):Int)/\UF n s.1 r) (fun _=>True) (fun s ⟨hu,j,hj,hjn,hr⟩=>by
   obtain⟨l,y⟩:=s
   dsimp only at hu hj ⊢
   subst hj
   obtain⟨u,a1,a2,a3,a4⟩:=hu.rt j hjn
   rw [dY a1,aB]
   by_cases e:u=j
   ·subst e
    refine⟨.br (l,((u:Nat):Int)),by rw [show (((u:Nat):Int) != ((u:Nat):Int))=false by simp,aN],?_,hu⟩
    show ((u:Nat):Int)=_
    rw [<-hr,a4.1 rfl]
   ·obtain⟨v,b1,b2,b3,b4⟩:=hu.rt u (by omega)
    have hl:=hu.len
    refine⟨.nx (l.set j ((v:Nat):Int),((v:Nat):Int)),by
     rw [show (((u:Nat):Int) != ((j:Nat):Int))=true by simp;omega,aO,aB,dY b1,aB,aB,bX,
      dY (x:=((v:Nat):Int)) (by rw [mY (by omega),aC rfl]),aB],⟨⟨by simp [hl],fun k hk=>?_⟩,v,rfl,by omega,?_⟩,?_⟩
    ·rw [mY (by omega)]
     by_cases e2:k=j
     ·subst e2
      rw [aC rfl]
      refine⟨v,rfl,by omega,by rw [b3,a3],?_⟩
      constructor
      ·intro h;omega
      ·intro h;exact absurd (a4.2 h) e
     ·rw [aD e2];exact hu.rt k hk
    ·rw [b3,a3,hr]
    ·simp only [bX];omega)
  N (up,((i:Nat):Int)) ⟨h,i,rfl,hi,rfl⟩ (by simp only [bX];omega)
 rw [h1,aB]
 cases o with
 | go s'=>exact⟨s'.1,by rw [<-h2.1];rfl,h2.2⟩
 | rt r=>exact r.elim
def nP (r:Nat->Nat) (a b:Nat):Nat->Nat:=fun x=>if r x=max a b then min a b else r x
theorem IP (a b:Nat): (if ((a:Nat):Int)< ((b:Nat):Int) then ((b:Nat):Int) else ((a:Nat):Int))= ((max a b:Nat):Int):=by
 rw [Nat.max_def];split <;> split <;> omega
theorem IQ (a b:Nat): (if ((b:Nat):Int)< ((a:Nat):Int) then ((b:Nat):Int) else ((a:Nat):Int))= ((min a b:Nat):Int):=by
 rw [Nat.min_def];split <;> split <;> omega
theorem Kb {n:Nat} {up:List Int} {r:Nat->Nat} (h:UF n up r) {i k:Nat} (hi:i<n) (hk:k<n) (hn:n<N):
  ∃up',dQ N up ((i:Nat):Int) ((k:Nat):Int)=some up'/\UF n up' (nP r (r i) (r k)):=by
 obtain⟨u1,a1,a2⟩:=tU h hi hn
 obtain⟨u2,b1,b2⟩:=tU a2 hk hn
 have hri:=h.le i hi
 have hrk:=h.le k hk
 have rri:=h.rr i hi
 have rrk:=h.rr k hk
 unfold dQ
 rw [a1,aB,b1,aB]
 dsimp only
 rw [IP,IQ]
 have hm:max (r i) (r k)<n:=by omega
 have hl:=b2.len
 rw [ke _ _ (by omega),aB,bX]
 refine⟨_,rfl,by simp [hl],fun x hx=>?_⟩
 have rmax:r (max (r i) (r k))=max (r i) (r k):=by rcases Nat.le_total (r i) (r k) with e | e <;> simp [Nat.max_def] <;> split <;> omega
 have rmin:r (min (r i) (r k))=min (r i) (r k):=by rcases Nat.le_total (r i) (r k) with e | e <;> simp [Nat.min_def] <;> split <;> omega
 rw [mY (by omega)]
 by_cases e:x=max (r i) (r k)
 ·subst e
  rw [aC rfl]
  refine⟨min (r i) (r k),rfl,by omega,?_,?_⟩
  ·unfold nP;rw [rmin,rmax,aC rfl];split <;> rfl
  ·unfold nP;rw [rmax,aC rfl]
 ·rw [aD e]
  obtain⟨u,c1,c2,c3,c4⟩:=b2.rt x hx
  refine⟨u,c1,c2,?_,?_⟩
  ·unfold nP;rw [c3]
  ·unfold nP
   split
   ·rename_i e2
    constructor
    ·intro hu;have:=c4.1 hu;omega
    ·intro hu
     have h1:=b2.le x hx
     have:min (r i) (r k)=max (r i) (r k)\/x<max (r i) (r k):=by omega
     have h3:x=max (r i) (r k):=by omega
     exact absurd h3 e
   ·exact c4
def oV (r:Nat->Nat) (E:List (Nat×Nat)):Prop:=∀p∈E,r p.1=r p.2
def yN (n:Nat) (r:Nat->Nat) (E:List (Nat×Nat)):Prop:=∀S:Nat->Prop,(∀p∈E,S p.1↔S p.2)->∀i j,i<n->j<n->r i=r j->S i->S j
theorem oV.join {r:Nat->Nat} {E:List (Nat×Nat)} (h:oV r E) (i k:Nat) (_h2:r (r i)=r i):oV (nP r (r i) (r k)) (E++[(i,k)]):=fun p hp=>by
 rcases cY.1 hp with hp | hp
 ·unfold nP;rw [h p hp]
 ·simp at hp;subst hp
  unfold nP
  dsimp only
  split <;> split <;> omega
theorem yN.join {n:Nat} {r:Nat->Nat} {E:List (Nat×Nat)} (h:yN n r E) {i k:Nat} (hi:i<n) (hk:k<n):yN n (nP r (r i) (r k)) (E++[(i,k)]):=fun S hS x y hx hy hr hSx=>by
 have hE: ∀p∈E,S p.1↔S p.2:=fun p hp=>hS p (List.mem_append_left _ hp)
 have hik:S i↔S k:=hS (i,k) (by simp)
 have key:=h S hE
 unfold nP at hr
 by_cases h1:r x=r y
 ·exact key x y hx hy h1 hSx
 ·have: (r x=r i/\r y=r k)\/(r x=r k/\r y=r i):=by
   split at hr <;> split at hr <;> omega
  rcases this with ⟨e1,e2⟩ | ⟨e1,e2⟩
  ·exact key k y hk hy e2.symm (hik.1 (key x i hx hi e1 hSx))
  ·exact key i y hi hy e2.symm (hik.2 (key x k hx hk e1 hSx))
theorem yN.id (n:Nat):yN n (fun i=>i) []:=fun S _ i j _ _ h hs=>by
 have h:i=j:=h
 subst h;exact hs
theorem oV.id:oV (fun i=>i) []:=fun p hp=>by simp at hp
def bQ (n:Nat) (r:Nat->Nat):List Nat:=(List.range n).filter (fun k=>decide (r k=k))
def cls (n:Nat) (r:Nat->Nat) (k:Nat):List Nat:=(List.range n).filter (fun i=>decide (r i=k))
theorem gQ (n:Nat) (r:Nat->Nat):bQ (n+1) r=if r n=n then bQ n r++[n] else bQ n r:=by
 unfold bQ
 rw [List.range_succ,jL]
 by_cases h:r n=n
 ·rw [aC h];simp [h]
 ·rw [aD h];simp [h]
theorem tV (n:Nat) (r:Nat->Nat) (k:Nat):cls (n+1) r k=if r n=k then cls n r k++[n] else cls n r k:=by
 unfold cls
 rw [List.range_succ,jL]
 by_cases h:r n=k
 ·rw [aC h];simp [h]
 ·rw [aD h];simp [h]
theorem om (n:Nat) (r:Nat->Nat): (bQ n r).length<=n:=by
 have:=nn (fun k=>decide (r k=k)) (List.range n)
 rw [List.length_range] at this;exact this
theorem CC (n:Nat) (r:Nat->Nat) (k:Nat): (cls n r k).length<=n:=by
 have:=nn (fun i=>decide (r i=k)) (List.range n)
 rw [List.length_range] at this;exact this
theorem iK {n k:Nat} {r:Nat->Nat}:k∈bQ n r↔k<n/\r k=k:=by unfold bQ;simp
theorem ni (n:Nat) (r:Nat->Nat): (bQ n r).Nodup:=List.Nodup.sublist List.filter_sublist List.nodup_range
def qc (n:Nat) (r:Nat->Nat):List (List Int):=(bQ n r).map (fun k=>(cls n r k).map (fun i=>((i:Nat):Int)))
theorem Gg {n k:Nat} {r:Nat->Nat} (h: ∀i,i<n->r i<=i) (hk:n<=k):cls n r k= []:=by
 unfold cls
 rw [List.filter_eq_nil_iff]
 intro i hi
 have h1:=mf.1 hi
 have:=h i h1
 simp;omega
theorem tW {α β:Type} (f g:α->β) (l:List α) (j:Nat) (a:α) (hn:l.Nodup) (hj:l[j]? =some a) (hf: ∀b,b∈l->b≠a->f b=g b): (l.map f).set j (g a)=l.map g:=by
 apply List.ext_getElem?
 intro i
 have hjl:=(aW.1 hj).1
 rw [fB,dN,gJ,gJ]
 by_cases e:j=i
 ·subst e;rw [aC rfl,aC hjl,hj];rfl
 ·rw [aD e]
  cases hb:l[i]? with
  | none=>rfl
  | some b=>
   have hne:b≠a:=fun he=>by
    subst he
    have hil:=(aW.1 hb).1
    exact e ((List.getElem_inj hn).1 (by rw [(aW.1 hb).2,(aW.1 hj).2]) |>.symm)
   show some (f b)=some (g b)
   rw [hf b (eW hb) hne]
def NP (n:Nat) (r:Nat->Nat) (m:List (Int×Int)):Prop:=∀(j k:Nat),(bQ n r)[j]? =some k->eJ m ((k:Nat):Int) 0= ((j:Nat):Int)
theorem Kc {n:Nat} {up:List Int} {r:Nat->Nat} (h:UF n up r) (hn:n<N) (hn2:n<=1048576000): ∃up',jl N up=some (qc n r,up')/\UF n up' r:=by
 unfold jl
 have hlen:=h.len
 have hle:=h.le
 have hrr:=h.rr
 obtain⟨s',h1,h2⟩:=yW (m:=up.length) (s:=(up,([]: (List (List Int))),([]: (List (Int×Int)))))
  (body:=fun(k32:Nat) (s33: (List Int)×(List (List Int))×(List (Int×Int)))=>((dX N s33.1 (k32:Int)).bind fun x117=>(bif (x117.1==(k32:Int)) then ((app 24 s33.2.1 [([]: (List Int))]).bind fun x126=>some (x126,(oO s33.2.2 (k32:Int) (s33.2.1.length:Int)))) else (some (s33.2.1,s33.2.2))).bind fun s122=>(idx s122.1 (eJ s122.2 x117.1 (0:Int))).bind fun x128=>(app 8 x128 ([(k32:Int)]: (List Int))).bind fun x134=>(idx s122.1 (eJ s122.2 x117.1 (0:Int))).bind fun x136=>some (x117.2,(s122.1.set (Int.toNat (eJ s122.2 x117.1 (0:Int))) x134),s122.2):Option ((List Int)×(List (List Int))×(List (Int×Int)))))
  (fun k s=>UF n s.1 r/\s.2.1=qc k r/\NP k r s.2.2) (by omega) ⟨h,rfl,fun j k hj=>by simp [bQ] at hj⟩ (fun k s hk ⟨hu,hs,hm⟩=>by
   obtain⟨l,ss,m⟩:=s
   dsimp only at hu hs hm ⊢
   subst hs
   rw [hlen] at hk
   obtain⟨u',a1,a2⟩:=tU hu hk hn
   rw [a1,aB]
   dsimp only
   have hhl:=om k r
   have hsl: (qc k r).length= (bQ k r).length:=by unfold qc;simp
   have hrk:=hle k hk
   by_cases e:r k=k
   ·
    rw [show (((r k:Nat):Int)==((k:Nat):Int))=true by rw [e];simp,aO,jX (by rw [hsl];simp;omega),aB,aB]
    dsimp only
    rw [e,og,aC rfl,hsl]
    have hi: (qc k r++[([]:List Int)])[(bQ k r).length]? =some []:=by rw [<-hsl,fT (bJ _),Nat.sub_self];rfl
    rw [dY hi,aB,jX (by simp),aB,aB,bX]
    refine⟨_,rfl,a2,?_,fun j q hj=>?_⟩
    ·dsimp only
     rw [<-hsl,List.set_append_right _ _ (bJ _),Nat.sub_self]
     unfold qc
     rw [gQ,aC e,dU]
     congr 1
     ·apply List.map_congr_left
      intro a ha
      have:=(iK.1 ha).1
      rw [tV,aD (by omega)]
     ·simp only [List.set_cons_zero,dI,List.map_nil,List.nil_append]
      rw [tV,aC e,Gg (fun i hi=>hle i (by omega)) (bJ _)];rfl
    ·dsimp only
     rw [gQ,aC e] at hj
     rw [og]
     by_cases e2:j< (bQ k r).length
     ·rw [fL e2] at hj
      have:=(iK.1 (eW hj)).1
      rw [aD (by omega)];exact hm j q hj
     ·rw [fT (by omega)] at hj
      have hj0:j - (bQ k r).length=0:=by
       have:=(aW.1 hj).1;simp at this;omega
      rw [hj0] at hj;simp at hj;subst hj
      rw [aC rfl];congr 1;omega
   ·rw [show (((r k:Nat):Int)==((k:Nat):Int))=false by simp;omega,aN,aB]
    dsimp only
    have hh:r k∈bQ k r:=iK.2 ⟨by omega,hrr k hk⟩
    obtain⟨j,hj⟩:=dV hh
    rw [hm j (r k) hj]
    have hcl:=CC k r (r k)
    have hi: (qc k r)[j]? =some ((cls k r (r k)).map (fun i=>((i:Nat):Int))):=by unfold qc;rw [gJ,hj];rfl
    rw [dY hi,aB,jX (by simp;omega),aB,aB,bX]
    refine⟨_,rfl,a2,?_,fun j' q hj'=>?_⟩
    ·unfold qc
     rw [gQ,aD e]
     have:=tW (fun a=>(cls k r a).map (fun i=>((i:Nat):Int))) (fun a=>(cls (k+1) r a).map (fun i=>((i:Nat):Int))) (bQ k r) j (r k) (ni k r) hj (fun b hb hne=>by
      rw [tV,aD (fun h=>hne h.symm)])
     rw [tV,aC rfl,dU] at this
     exact this
    ·rw [gQ,aD e] at hj';exact hm j' q hj')
 rw [h1,aB]
 obtain⟨l,ss,m⟩:=s'
 dsimp only at h2
 rw [hlen] at h2
 refine⟨l,?_,h2.1⟩
 rw [<-h2.2.1]
end
end Go.Gk
namespace Go.Gk
open Go
section
variable {N:Nat}
theorem CD {n:Nat} {up:List Int} {r:Nat->Nat} (h:UF n up r) {i:Nat} (hi:i<n) (hn:n<N): ∃up',eQ N ((i:Nat):Int) up=some (((r i:Nat):Int),up')/\UF n up' r:=by
 unfold eQ
 have:=Ok.bind (β:=Int×List Int) (Q:=fun x=>x.1= ((r i:Nat):Int)/\UF n x.2 r) (Ok.jB (body:=fun(s32:Int×(List Int))=>((idx s32.2 s32.1).bind fun x43=>bif (x43 != s32.1) then ((idx s32.2 s32.1).bind fun x44=>(idx s32.2 x44).bind fun x45=>(idx s32.2 s32.1).bind fun x46=>(idx (s32.2.set (Int.toNat s32.1) x45) s32.1).bind fun x47=>some (.nx (x47,(s32.2.set (Int.toNat s32.1) x45)))) else (some (.br (s32.1,s32.2))):Option (Fl (Int×(List Int)) Empty)))
  (N:=N) (s:=(((i:Nat):Int),up)) (Go:=fun s=>s.1= ((r i:Nat):Int)/\UF n s.2 r) (Rt:=fun _=>True) (fun s=>UF n s.2 r/\∃j:Nat,s.1= ((j:Nat):Int)/\j<n/\r j=r i) (fun s=>s.1.toNat) (by
   rintro⟨y,l⟩ ⟨hu,j,hj,hjn,hr⟩
   dsimp only at hu hj ⊢
   subst hj
   obtain⟨u,a1,a2,a3,a4⟩:=hu.rt j hjn
   refine Ok.ix a1 ?_
   by_cases e:u=j
   ·subst e
    rw [show (((u:Nat):Int) != ((u:Nat):Int))=false by simp,aN]
    refine Ok.br ⟨?_,hu⟩
    show ((u:Nat):Int)=_
    rw [<-hr,a4.1 rfl]
   ·obtain⟨v,b1,b2,b3,b4⟩:=hu.rt u (by omega)
    have hl:=hu.len
    rw [show (((u:Nat):Int) != ((j:Nat):Int))=true by simp;omega,aO]
    refine Ok.ix a1 (Ok.ix b1 (Ok.ix a1 (Ok.ix (x:=((v:Nat):Int)) (by rw [bX,mY (by omega),aC rfl]) (Ok.nx ⟨⟨⟨by simp [hl],fun k hk=>?_⟩,v,rfl,by omega,?_⟩,?_⟩))))
    ·rw [bX,mY (by omega)]
     by_cases e2:k=j
     ·subst e2
      rw [aC rfl]
      refine⟨v,rfl,by omega,by rw [b3,a3],?_⟩
      constructor
      ·intro h;omega
      ·intro h;exact absurd (a4.2 h) e
     ·rw [aD e2];exact hu.rt k hk
    ·rw [b3,a3,hr]
    ·simp only [bX];omega)
  ⟨h,i,rfl,hi,rfl⟩ (by simp only [bX];omega))
  (fun o ho=>Ok.cs (f:=fun(s32:Int×(List Int))=>some (s32.1,s32.2)) (g:=fun r:Empty=>r.elim) ho (fun s h=>Ok.ret h) (fun r=>r.elim))
 obtain⟨⟨x,up'⟩,h1,h2,h3⟩:=this
 exact⟨up',by rw [<-h2];exact h1,h3⟩
theorem IU {n:Nat} {up:List Int} {r:Nat->Nat} (h:UF n up r) {i k:Nat} (hi:i<n) (hk:k<n) {f:List Int->Option (List Int)} (hn:n<N):
  ∃up',((eQ N ((i:Nat):Int) up).bind fun x840=>(eQ N ((k:Nat):Int) x840.2).bind fun x842=>(idx x842.2 (if x840.1<x842.1 then x842.1 else x840.1)).bind fun x844=>some (x842.2.set (Int.toNat (if x840.1<x842.1 then x842.1 else x840.1)) (if x842.1<x840.1 then x842.1 else x840.1)))=some up'/\UF n up' (nP r (r i) (r k)):=by
 obtain⟨u1,a1,a2⟩:=CD h hi hn
 obtain⟨u2,b1,b2⟩:=CD a2 hk hn
 obtain⟨v1,c1,c2⟩:=tU h hi hn
 have hri:=h.le i hi
 have hrk:=h.le k hk
 have rri:=h.rr i hi
 have rrk:=h.rr k hk
 rw [a1,aB,b1,aB]
 dsimp only
 rw [IP,IQ]
 have hm:max (r i) (r k)<n:=by omega
 have hl:=b2.len
 rw [ke _ _ (by omega),aB,bX]
 refine⟨_,rfl,by simp [hl],fun x hx=>?_⟩
 have rmax:r (max (r i) (r k))=max (r i) (r k):=by rcases Nat.le_total (r i) (r k) with e | e <;> simp [Nat.max_def] <;> split <;> omega
 have rmin:r (min (r i) (r k))=min (r i) (r k):=by rcases Nat.le_total (r i) (r k) with e | e <;> simp [Nat.min_def] <;> split <;> omega
 rw [mY (by omega)]
 by_cases e:x=max (r i) (r k)
 ·subst e
  rw [aC rfl]
  refine⟨min (r i) (r k),rfl,by omega,?_,?_⟩
  ·unfold nP;rw [rmin,rmax,aC rfl];split <;> rfl
  ·unfold nP;rw [rmax,aC rfl]
 ·rw [aD e]
  obtain⟨u,c1,c2,c3,c4⟩:=b2.rt x hx
  refine⟨u,c1,c2,?_,?_⟩
  ·unfold nP;rw [c3]
  ·unfold nP
   split
   ·rename_i e2
    constructor
    ·intro hu;have:=c4.1 hu;omega
    ·intro hu
     have h1:=b2.le x hx
     have h3:x=max (r i) (r k):=by omega
     exact absurd h3 e
   ·exact c4
def g9 (s:List aA) (k:Nat):Nat:=(aP (s.take k)).length
theorem xZ {s:List aA} {k:Nat} (h:k<s.length):g9 s (k+1)=g9 s k+s[k].Xs.length / 2:=by
 unfold g9
 rw [eF h,mS,cR]
 show _+ (aP [s[k]]).length=_
 rw [show aP [s[k]]=l9 s[k] by simp [aP],mA]
theorem x3 {s:List aA} {k m:Nat} (h:k<=m):g9 s k<=g9 s m:=by
 unfold g9
 have:=xX (s.take m) k
 rwa [List.take_take,Nat.min_eq_left h] at this
theorem D1 (s:List aA):g9 s s.length= (aP s).length:=by unfold g9;rw [fw]
theorem Kd {s:List aA} {k t:Nat} (h:k<s.length) (ht:2*t+1<s[k].Xs.length): (aP s)[g9 s k+t]? =some ⟨s[k].Xs[2*t],s[k].Y0,s[k].Xs[2*t+1],s[k].Y1⟩:=by
 have e:aP s=aP (s.take k)++(l9 s[k]++aP (s.drop (k+1))):=by
  conv=>lhs;rw [<-List.take_append_drop k s,po h]
  rw [mS,ma]
 rw [e]
 unfold g9
 rw [fT (by omega),Nat.add_sub_cancel_left,fL (by rw [mA];omega)]
 unfold l9
 rw [gJ,wX _ _ ht];rfl
theorem Gh {s:List aA} {i:Nat} (h:i< (aP s).length): ∃k,k<s.length/\g9 s k<=i/\i<g9 s (k+1):=by
 have key: ∀m,m<=s.length->i<g9 s m->∃k,k<m/\g9 s k<=i/\i<g9 s (k+1):=by
  intro m
  induction m with
  | zero=>intro _ h;unfold g9 at h;simp [aP] at h
  | succ m ih=>
   intro hm hi
   by_cases h1:i<g9 s m
   ·obtain⟨k,hk,h2⟩:=ih (by omega) h1
    exact⟨k,by omega,h2⟩
   ·exact⟨m,by omega,by omega,hi⟩
 exact key s.length (bJ _) (by rw [D1];exact h)
def CE (a c:aH):Prop:=a.Y1=c.Y0/\a.X0<c.X1/\c.X0<a.X1
def xv (all:List aH) (i j:Nat):Prop:=∃a c,all[i]? =some a/\all[j]? =some c/\CE a c
theorem uG {s:List aA} (he: ∀b∈s,b.Xs.length % 2=0) {k i:Nat} (hk:k<s.length) (h1:g9 s k<=i) (h2:i<g9 s (k+1)): ∃t,i=g9 s k+t/\∃h:2*t+1<s[k].Xs.length,(aP s)[i]? =some ⟨s[k].Xs[2*t],s[k].Y0,s[k].Xs[2*t+1],s[k].Y1⟩:=by
 rw [xZ hk] at h2
 have:=he _ (cO hk)
 refine⟨i - g9 s k,by omega,by omega,?_⟩
 have h3:=Kd (t:=i - g9 s k) hk (by omega)
 rwa [show g9 s k+ (i - g9 s k)=i by omega] at h3
theorem zX {s:List aA} (hc:eA (s.map bT)) {p q:Nat} (hp:p<s.length) (hq:q<s.length) (h:p<q):s[p].Y1<=s[q].Y0:=by
 have:=kE.1 hc.ord p q (by simp;omega) (by simp;omega) h
 simp only [List.getElem_map] at this
 exact this.1
theorem zY {s:List aA} (hc:eA (s.map bT)) {p:Nat} (hp:p<s.length):s[p].Y0<s[p].Y1:=(hc.each (bT s[p]) (cS.2 ⟨_,cO hp,rfl⟩)).1
theorem rI {s:List aA} (hc:eA (s.map bT)): ∀b∈s,b.Xs.length % 2=0:=fun b hb=>(hc.each (bT b) (cS.2 ⟨b,hb,rfl⟩)).2.2.2
theorem Gi {s:List aA} (hc:eA (s.map bT)): ∀b∈s,iV b.Xs:=fun b hb=>(hc.each (bT b) (cS.2 ⟨b,hb,rfl⟩)).2.2.1
theorem D2 {s:List aA} (hc:eA (s.map bT)) {i j q:Nat} (hq:q<s.length) (h1:g9 s q<=j) (h2:j<g9 s (q+1)) (ht:xv (aP s) i j): ∃hq0:0<q,s[q - 1].Y1=s[q].Y0/\g9 s (q - 1)<=i/\i<g9 s q:=by
 obtain⟨a,c,ha,hb,e1,e2,e3⟩:=ht
 obtain⟨t,e4,ht,hj⟩:=uG (rI hc) hq h1 h2
 rw [hj] at hb;injection hb with hb;subst hb
 have hil:=(aW.1 ha).1
 obtain⟨p,hp,p1,p2⟩:=Gh hil
 obtain⟨u,e5,hu,hi⟩:=uG (rI hc) hp p1 p2
 rw [hi] at ha;injection ha with ha;subst ha
 have e1:s[p].Y1=s[q].Y0:=e1
 have hpp:=zY hc hp
 have hqq:=zY hc hq
 have hpq:p+1=q:=by
  rcases Nat.lt_trichotomy p q with h | h | h
  ·by_cases h':p+1=q
   ·exact h'
   ·have h3:=zX hc hp (show p+1<s.length by omega) (by omega)
    have h4:=zX hc (show p+1<s.length by omega) hq (by omega)
    have h5:=zY hc (show p+1<s.length by omega)
    omega
  ·subst h;omega
  ·have:=zX hc hq hp h;omega
 subst hpq
 exact⟨by omega,e1,p1,p2⟩
structure PJ (all:List aH) (n:Nat) (up:List Int) (r:Nat->Nat) (E:List (Nat×Nat)):Prop where
 uf:UF n up r
 co:oV r E
 fi:yN n r E
 so: ∀p∈E,xv all p.1 p.2
theorem PJ.join {all:List aH} {n:Nat} {up up':List Int} {r:Nat->Nat} {E:List (Nat×Nat)} (h:PJ all n up r E) {i j:Nat} (hi:i<n) (hj:j<n) (hu:UF n up' (nP r (r i) (r j))) (ht:xv all i j):PJ all n up' (nP r (r i) (r j)) (E++[(i,j)]):=
 ⟨hu,h.co.join i j (h.uf.rr i hi),h.fi.join hi hj,fun p hp=>by
  rcases cY.1 hp with hp | hp
  ·exact h.so p hp
  ·simp at hp;subst hp;exact ht⟩
structure Joined (all:List aH) (r:Nat->Nat):Prop where
 le: ∀i,i<all.length->r i<=i
 rr: ∀i,i<all.length->r (r i)=r i
 co: ∀i j,xv all i j->r i=r j
 fi: ∀S:Nat->Prop,(∀i j,xv all i j->(S i↔S j))->∀i j,i<all.length->j<all.length->r i=r j->S i->S j
def mH (all:List aH) (n:Nat) (r:Nat->Nat) (h:Nat):List aH:=(cls n r h).filterMap (fun i=>all[i]?)
theorem zZ (all:List aH) (n:Nat) (r:Nat->Nat) (h:Nat): (mH all n r h).length<=n:=by
 have h1:=List.length_filterMap_le (fun i=>all[i]?) (cls n r h)
 have h2:=CC n r h
 unfold mH;omega
theorem uH {all:List aH} {n:Nat} {r:Nat->Nat} (h:Nat) {x:aH} (hx:all[n]? =some x):mH all (n+1) r h=if r n=h then mH all n r h++[x] else mH all n r h:=by
 unfold mH
 rw [tV]
 split
 ·rw [List.filterMap_append];simp [hx]
 ·rfl
theorem k7 {all:List aH} {n:Nat} {r:Nat->Nat} {h:Nat} {x:aH}:x∈mH all n r h↔∃i,i<n/\r i=h/\all[i]? =some x:=by
 unfold mH cls
 rw [List.mem_filterMap]
 constructor
 ·rintro⟨i,hi,h⟩
  have:=ka.1 hi
  exact⟨i,mf.1 this.1,by simpa using this.2,h⟩
 ·rintro⟨i,h1,h2,h3⟩
  exact⟨i,ka.2 ⟨mf.2 h1,by simpa using h2⟩,h3⟩
structure qF (s:List aA) (r:Nat->Nat) (ps:List (List aA)):Prop where
 join:Joined (aP s) r
 len:ps.length= (bQ (aP s).length r).length
 each: ∀(j h:Nat) (p:List aA),(bQ (aP s).length r)[j]? =some h->ps[j]? =some p->pZ (mH (aP s) (aP s).length r h) p
def Pg (n:Nat) (r:Nat->Nat) (m:List (Int×Int)):Prop:=(∀(j k:Nat),(bQ n r)[j]? =some k->eJ m ((k:Nat):Int) 0= ((j:Nat):Int))/\∀k:Nat,kD m ((k:Nat):Int)=decide (k∈bQ n r)
theorem E9 {s:List aA} {X Y:List Int} (hc:eA (s.map bT)) (hl:v9 X Y (s.map bT)) (hX: ∀c∈X,small c) (hY: ∀c∈Y,small c) (h1:s.length<=1073741824) (h2: ∀b∈s,b.Xs.length<=1073741824) (h3: (aP s).length<=134217728) (hN:4398046511104<=N):
  Ok (kV N s) (fun ps=>∃r,qF s r ps):=by
 unfold kV
 have hev:=rI hc
 have hinc:=Gi hc
 refine Ok.eq (zT hev (by omega) (fun b hb=>by have:=h2 b hb;omega) (by omega)) ?_
 have hok:=zU hc hl hX hY
 have hall:g9 s s.length= (aP s).length:=D1 s
 generalize hn: (aP s).length=n at *
 refine Ok.eq (nC 0 (by omega)) ?_
 rw [show ((List.replicate n (0:Int)).length)=n by simp]
 refine Ok.bind (Ok.lF (fun k up=>up.length=n/\∀i,i<k->up[i]? =some ((i:Nat):Int)) (by omega) ⟨by simp,fun i hi=>by omega⟩ (fun k up hk hI=>?_)) ?_
 ·obtain⟨hs,hi⟩:=hI
  refine Ok.idx (by omega) (Ok.ret ⟨by simp [hs],fun i hi'=>?_⟩)
  rw [bX,mY (by omega)]
  split
  ·rename_i e;rw [e]
  ·exact hi i (by omega)
 rintro up0 ⟨hu1,hu2⟩
 refine Ok.bind (Ok.lF (fun k st=>st.2.1= ((g9 s k:Nat):Int)/\(0<k->st.2.2= ((g9 s (k - 1):Nat):Int))/\∃r E,PJ (aP s) n st.1 r E/\∀q,q<k->∀i j,g9 s q<=j->j<g9 s (q+1)->xv (aP s) i j->(i,j)∈E) (by omega)
  ⟨rfl,fun h=>by omega,_,_,⟨UF.init n up0 hu1 hu2,oV.id,yN.id n,fun p hp=>(by cases hp)⟩,fun q hq=>by omega⟩ (fun k st hk hI=>?_)) ?_
 ·obtain⟨up,a,b⟩:=st
  obtain⟨e1,e2,r,E,hP,hE⟩:=hI
  dsimp only at e1 e2 hP ⊢
  subst e1
  refine Ok.idx hk ?_
  have hoff:=xZ hk
  have hoffle:g9 s (k+1)<=n:=by rw [<-hall];exact x3 hk
  have hkm:=cO hk
  have hlen:IntKind.wrap .i64 (Int.tdiv ((s[k].Xs.length:Nat):Int) 2)= ((s[k].Xs.length / 2:Nat):Int):=by
   have:=h2 _ hkm
   rw [show (2:Int)= ((2:Nat):Int) by rfl,<-Int.ofNat_tdiv,DY (by omega)]
  rw [hlen,wrap_add (by omega),<-hoff]
  refine Ok.bind (P:=fun c=>c=true↔∃h0:0<k,s[k - 1].Y1=s[k].Y0) ?_ (fun c hcc=>?_)
  ·refine Ok.bif (fun h=>?_) (fun h=>Ok.ret ?_)
   ·have hpos:0<k:=by have:=of_decide_eq_true h;omega
    rw [fN hpos (by omega)]
    refine Ok.idx (by omega) (Ok.ret ?_)
    rw [beq_iff_eq]
    exact⟨fun h=>⟨hpos,h⟩,fun⟨_,h⟩=>h⟩
   ·have:=of_decide_eq_false h
    constructor
    ·intro h;cases h
    ·rintro⟨h0,_⟩;omega
  refine Ok.bind (P:=fun up'=>∃r E,PJ (aP s) n up' r E/\∀q,q<k+1->∀i j,g9 s q<=j->j<g9 s (q+1)->xv (aP s) i j->(i,j)∈E) ?_ (fun up' hI=>Ok.ret ⟨rfl,fun _=>rfl,hI⟩)
  refine Ok.bif (fun h=>?_) (fun h=>Ok.ret ⟨r,E,hP,fun q hq i j q1 q2 ht=>?_⟩)
  ·obtain⟨hpos,hyy⟩:=hcc.1 h
   rw [e2 hpos]
   have hoffp:=xZ (show k - 1<s.length by omega)
   rw [show k - 1+1=k by omega] at hoffp
   refine Ok.bind (Ok.jB (Go:=fun st=>∃r E,PJ (aP s) n st.1 r E/\∀q,q<k+1->∀i j,g9 s q<=j->j<g9 s (q+1)->xv (aP s) i j->(i,j)∈E) (Rt:=fun _=>True)
    (fun st=>∃i j:Nat,st.2.1= ((i:Nat):Int)/\st.2.2= ((j:Nat):Int)/\g9 s (k - 1)<=i/\i<=g9 s k/\g9 s k<=j/\j<=g9 s (k+1)/\∃r E,PJ (aP s) n st.1 r E/\(∀q,q<k->∀i j,g9 s q<=j->j<g9 s (q+1)->xv (aP s) i j->(i,j)∈E)/\
     ∀i' j',g9 s (k - 1)<=i'->i'<g9 s k->g9 s k<=j'->j'<g9 s (k+1)->(i'<i\/j'<j)->xv (aP s) i' j'->(i',j')∈E)
    (fun st=>(n - st.2.1.toNat)+ (n - st.2.2.toNat)) ?_ ?_ (by simp only [bX];omega)) (fun o ho=>Ok.cs ho (fun st h=>Ok.ret h) (fun r=>r.elim))
   ·rintro⟨up,a,b⟩ ⟨i,j,e3,e4,i1,i2,j1,j2,r,E,hP,hE,hE2⟩
    dsimp only at e3 e4 hP ⊢
    subst e3;subst e4
    refine Ok.bif (fun h=>?_) (fun h=>Ok.br ?_)
    ·rw [bR,bB,bB] at h
     have hi:i<g9 s k:=by omega
     have hj:j<g9 s (k+1):=by omega
     obtain⟨t,et,_,hri⟩:=uG hev (show k - 1<s.length by omega) i1 (by rw [show k - 1+1=k by omega];exact hi)
     obtain⟨u,eu,_,hrj⟩:=uG hev hk j1 hj
     have xi:=hinc _ (cO (show k - 1<s.length by omega))
     have xj:=hinc _ hkm
     have farI: ∀i' a,i<i'->i'<g9 s k->(aP s)[i']? =some a->s[k - 1].Xs[2*t+1]<a.X0:=fun i' a h4 h5 h6=>by
      obtain⟨t',et',ht',hr'⟩:=uG hev (show k - 1<s.length by omega) (show g9 s (k - 1)<=i' by omega) (by rw [show k - 1+1=k by omega];exact h5)
      rw [hr'] at h6;injection h6 with h6;subst h6
      exact xi.lt (show 2*t+1<2*t' by omega) (aL _) (aL _)
     have farJ: ∀j' a,j<j'->j'<g9 s (k+1)->(aP s)[j']? =some a->s[k].Xs[2*u+1]<a.X0:=fun j' a h4 h5 h6=>by
      obtain⟨u',eu',hu',hr'⟩:=uG hev hk (show g9 s k<=j' by omega) h5
      rw [hr'] at h6;injection h6 with h6;subst h6
      exact xj.lt (show 2*u+1<2*u' by omega) (aL _) (aL _)
     refine Ok.bind (P:=fun c=>c=true↔xv (aP s) i j) ?_ (fun c hct=>?_)
     ·refine Ok.ix hri (Ok.ix hrj (Ok.bif (fun h=>Ok.ix hrj (Ok.ix hri (Ok.ret ?_))) (fun h=>Ok.ret ?_)))
      ·rw [bB] at h ⊢
       constructor
       ·intro h';exact⟨_,_,hri,hrj,hyy,h,h'⟩
       ·rintro⟨a,c,ha,hc',_,_,h'⟩
        rw [hri] at ha;injection ha with ha;subst ha
        rw [hrj] at hc';injection hc' with hc';subst hc'
        exact h'
      ·constructor
       ·intro h;cases h
       ·rintro⟨a,c,ha,hc',_,h',_⟩
        rw [hri] at ha;injection ha with ha;subst ha
        rw [hrj] at hc';injection hc' with hc';subst hc'
        rw [decide_eq_false_iff_not] at h;exact absurd h' h
     refine Ok.bind (P:=fun up'=>∃r E',PJ (aP s) n up' r E'/\(∀p∈E,p∈E')/\(xv (aP s) i j->(i,j)∈E')) ?_ ?_
     ·refine Ok.bif (fun h=>?_) (fun h=>Ok.ret ⟨r,E,hP,fun p hp=>hp,fun ht=>by rw [hct.2 ht] at h;cases h⟩)
      obtain⟨up',u1,u2⟩:=IU (N:=N) (f:=fun x=>some x) hP.uf (i:=i) (k:=j) (by omega) (by omega) (by omega)
      refine⟨up',u1,_,_,hP.join (by omega) (by omega) u2 (hct.1 h),fun p hp=>List.mem_append_left _ hp,fun _=>by simp⟩
     ·rintro up' ⟨r',E',hP',hsub,hij⟩
      refine Ok.ix hri (Ok.ix hrj ?_)
      dsimp only
      by_cases hx:s[k - 1].Xs[2*t+1]<s[k].Xs[2*u+1]
      ·rw [bG hx,aO]
       refine Ok.eq (x:=(((i+1:Nat):Int),((j:Nat):Int))) (by rw [bP (by omega)]) (Ok.nx ⟨⟨i+1,j,rfl,rfl,by omega,by omega,j1,j2,r',E',hP',fun q hq i j q1 q2 ht=>hsub _ (hE q hq i j q1 q2 ht),fun i' j' g1 g2 g3 g4 g5 ht=>?_⟩,by simp only [bX];omega⟩)
       by_cases h5:i'<i\/j'<j
       ·exact hsub _ (hE2 i' j' g1 g2 g3 g4 h5 ht)
       ·have:i'=i:=by omega
        subst this
        by_cases h6:j'=j
        ·subst h6;exact hij ht
        ·exfalso
         obtain⟨a,c,ha,hc',_,_,h'⟩:=ht
         rw [hri] at ha;injection ha with ha;subst ha
         have:=farJ j' c (by omega) g4 hc'
         dsimp only at h';omega
      ·rw [bI hx,aN]
       refine Ok.eq (x:=(((i:Nat):Int),((j+1:Nat):Int))) (by rw [bP (by omega)]) (Ok.nx ⟨⟨i,j+1,rfl,rfl,i1,i2,by omega,by omega,r',E',hP',fun q hq i j q1 q2 ht=>hsub _ (hE q hq i j q1 q2 ht),fun i' j' g1 g2 g3 g4 g5 ht=>?_⟩,by simp only [bX];omega⟩)
       by_cases h5:i'<i\/j'<j
       ·exact hsub _ (hE2 i' j' g1 g2 g3 g4 h5 ht)
       ·have:j'=j:=by omega
        subst this
        by_cases h6:i'=i
        ·subst h6;exact hij ht
        ·exfalso
         obtain⟨a,c,ha,hc',_,h',_⟩:=ht
         rw [hrj] at hc';injection hc' with hc';subst hc'
         have:=farI i' a (by omega) g2 ha
         dsimp only at h';omega
    ·refine⟨r,E,hP,fun q hq i' j' q1 q2 ht=>?_⟩
     by_cases hqk:q<k
     ·exact hE q hqk i' j' q1 q2 ht
     ·have:q=k:=by omega
      subst this
      obtain⟨_,_,g1,g2⟩:=D2 hc hk q1 q2 ht
      refine hE2 i' j' g1 g2 q1 q2 ?_ ht
      rw [Bool.and_eq_false_iff,decide_eq_false_iff_not,decide_eq_false_iff_not] at h
      omega
   ·exact⟨g9 s (k - 1),g9 s k,rfl,rfl,bJ _,x3 (by omega),bJ _,x3 (by omega),r,E,hP,hE,fun i' j' g1 g2 g3 g4 g5=>by omega⟩
  ·by_cases hqk:q<k
   ·exact hE q hqk i j q1 q2 ht
   ·have:q=k:=by omega
    subst this
    obtain⟨g0,g1,_⟩:=D2 hc hk q1 q2 ht
    rw [hcc.2 ⟨g0,g1⟩] at h;cases h
 ·rintro⟨up,a,b⟩ ⟨_,_,r,E,hP,hE⟩
  dsimp only at hP ⊢
  have hEq: ∀i j,xv (aP s) i j->(i,j)∈E:=fun i j ht=>by
   have hjl:j< (aP s).length:=by obtain⟨a,c,_,hb,_⟩:=ht;exact(aW.1 hb).1
   obtain⟨q,hq,q1,q2⟩:=Gh hjl
   exact hE q hq i j q1 q2 ht
  have hJ:Joined (aP s) r:=⟨by rw [hn];exact hP.uf.le,by rw [hn];exact hP.uf.rr,fun i j ht=>hP.co (i,j) (hEq i j ht),fun S hS i j hi hj=>by
   rw [hn] at hi hj
   exact hP.fi S (fun p hp=>hS p.1 p.2 (hP.so p hp)) i j hi hj⟩
  refine Ok.bind (Ok.lF (fun k st=>UF n st.1 r/\Pg k r st.2.1/\st.2.2= (bQ k r).map (mH (aP s) k r)) (by omega) ⟨hP.uf,⟨fun j k hj=>by simp [bQ] at hj,fun k=>rfl⟩,rfl⟩ (fun k st hk hI=>?_)) ?_
  ·obtain⟨l,m,ls⟩:=st
   obtain⟨hu,⟨hm1,hm2⟩,hs⟩:=hI
   dsimp only at hu hm1 hm2 hs ⊢
   subst hs
   have hkx: (aP s)[k]? =some ((aP s)[k]'(by omega)):=aL (by omega)
   refine Ok.ix hkx ?_
   obtain⟨u',a1,a2⟩:=CD (N:=N) hu hk (by omega)
   refine Ok.eq a1 ?_
   dsimp only
   have hhl:=om k r
   have hrk:=hP.uf.le k hk
   have hrr:=hP.uf.rr k hk
   have hcl:=zZ (aP s) k r (r k)
   have hmap: ((bQ k r).map (mH (aP s) k r)).length= (bQ k r).length:=by simp
   rw [hm2]
   by_cases e:r k=k
   ·have hnot:r k∉bQ k r:=fun h=>by have:=(iK.1 h).1;omega
    refine Ok.eq (x:=(oO m ((r k:Nat):Int) (((bQ k r).length:Nat):Int),(bQ k r).map (mH (aP s) k r)++[([]:List aH)],(((bQ k r).length:Nat):Int))) ?_ ?_
    ·rw [bI hnot,ot,aO,jX (by simp;omega),aB,hmap]
    ·dsimp only
     have hi: ((bQ k r).map (mH (aP s) k r)++[([]:List aH)])[(bQ k r).length]? =some []:=by rw [<-hmap,fT (bJ _),Nat.sub_self];rfl
     refine Ok.ix hi (Ok.app (by simp) (Ok.ix hi (Ok.ret ⟨a2,⟨fun j q hj=>?_,fun q=>?_⟩,?_⟩)))
     ·dsimp only
      rw [gQ,aC e] at hj
      rw [og]
      by_cases e2:j< (bQ k r).length
      ·rw [fL e2] at hj
       have:=(iK.1 (eW hj)).1
       rw [aD (by omega)];exact hm1 j q hj
      ·rw [fT (by omega)] at hj
       have hj0:j - (bQ k r).length=0:=by
        have:=(aW.1 hj).1;simp at this;omega
       rw [hj0] at hj;simp at hj;subst hj
       rw [aC (by rw [e])];congr 1;omega
     ·dsimp only
      rw [rE,hm2,gQ,aC e,eI]
      rw [cX,bB,bB,bB,cY,List.mem_singleton,e]
      constructor
      ·rintro(h | h)
       ·exact .inr (by omega)
       ·exact .inl h
      ·rintro(h | h)
       ·exact .inr h
       ·exact .inl (by omega)
     ·dsimp only
      rw [bX,<-hmap,List.set_append_right _ _ (bJ _),Nat.sub_self,gQ,aC e,dU]
      congr 1
      ·apply List.map_congr_left
       intro a ha
       have:=(iK.1 ha).1
       rw [uH a hkx,aD (by omega)]
      ·simp only [List.set_cons_zero,dI,List.map_nil,List.nil_append]
       rw [uH k hkx,aC e]
       have:mH (aP s) k r k= []:=by unfold mH;rw [Gg (fun i hi=>hP.uf.le i (by omega)) (bJ _)];rfl
       rw [this];rfl
   ·have hh:r k∈bQ k r:=iK.2 ⟨by omega,hrr⟩
    obtain⟨j,hj⟩:=dV hh
    refine Ok.eq (x:=(m,(bQ k r).map (mH (aP s) k r),((j:Nat):Int))) ?_ ?_
    ·rw [bG hh,mi,aN,hm1 j (r k) hj]
    ·dsimp only
     have hi: ((bQ k r).map (mH (aP s) k r))[j]? =some (mH (aP s) k r (r k)):=by rw [gJ,hj];rfl
     refine Ok.ix hi (Ok.app (by simp;omega) (Ok.ix hi (Ok.ret ⟨a2,⟨fun j' q hj'=>?_,fun q=>?_⟩,?_⟩)))
     ·rw [gQ,aD e] at hj';exact hm1 j' q hj'
     ·rw [gQ,aD e];exact hm2 q
     ·dsimp only
      rw [bX,gQ,aD e]
      have:=tW (mH (aP s) k r) (mH (aP s) (k+1) r) (bQ k r) j (r k) (ni k r) hj (fun b hb hne=>by
       rw [uH b hkx,aD (fun h=>hne h.symm)])
      rw [uH (r k) hkx,aC rfl] at this
      exact this
  ·rintro⟨l,m,ls⟩ ⟨_,_,hs⟩
   dsimp only at hs ⊢
   subst hs
   have hhl:=om n r
   refine Ok.bind (Ok.lF (fun k ps=>ps.length=k/\∀(j h:Nat) (p:List aA),j<k->(bQ n r)[j]? =some h->ps[j]? =some p->pZ (mH (aP s) n r h) p) (by simp;omega) ⟨rfl,fun j h p hj=>by omega⟩ (fun k ps hk hI=>?_)) ?_
   ·obtain⟨hp1,hp2⟩:=hI
    have hk':k< (bQ n r).length:=by simpa using hk
    refine Ok.ix (x:=mH (aP s) n r (bQ n r)[k]) (by rw [gJ,aL hk'];rfl) ?_
    have hcl:=zZ (aP s) n r (bQ n r)[k]
    refine Ok.bind (oh (N:=N) (by omega) (fun x hx=>?_) (by omega)) ?_
    ·obtain⟨i,_,_,h⟩:=k7.1 hx
     exact(hok x (eW h)).1
    ·intro p hp
     refine Ok.app (by rw [hp1];simp;omega) (Ok.ret ⟨by simp [hp1],fun j h q hj hh hq=>?_⟩)
     by_cases hjk:j<k
     ·rw [fL (by omega)] at hq
      exact hp2 j h q hjk hh hq
     ·have:j=k:=by omega
      subst this
      rw [fT (by omega),hp1,Nat.sub_self] at hq
      simp at hq;subst hq
      rw [aL hk'] at hh;injection hh with hh;subst hh
      exact hp
   ·rintro ps ⟨hp1,hp2⟩
    refine Ok.ret ⟨r,hJ,?_,fun j h p hh hp=>?_⟩
    ·rw [hp1,hn];simp
    ·rw [hn] at hh ⊢
     exact hp2 j h p (by have:=(aW.1 hp).1;omega) hh hp
end
end Go.Gk
namespace Go.Gk
open Go
section
variable {N:Nat}
theorem iL {n:Int} (h: -9223372036854775808<=n/\n<=9223372036854775807):IntKind.wrap .i64 n=n:=by rw [IntKind.wrap_i64];omega
def eT (n lo hi:Int):Bool:=decide (n>=lo)&&decide (n<=hi)
def kz (n:Int):Bool:=eT n (-1000000) 1000000
def pd (p:bH):Bool:=kz p.X&&kz p.Y
def eU (r:aH):Bool:=kz r.X0&&(kz r.Y0&&(kz r.X1&&kz r.Y1))
theorem z5 (n:Int):kI N n=some (kz n):=rfl
theorem yu (p:bH):i7 N p=some (pd p):=by
 unfold i7 pd
 rw [z5,aB,z5]
 cases kz p.X <;> rfl
theorem yv (p:bH):gY N p=some (pd p):=by
 have e: ∀n,cL N n=some (kz n):=fun _=>rfl
 unfold gY pd
 rw [e,aB,e]
 cases kz p.X <;> rfl
theorem z6 (r:aH):mm N r=some (eU r):=by
 unfold mm eU
 simp only [z5,aB]
 cases kz r.X0 <;> cases kz r.Y0 <;> cases kz r.X1 <;> rfl
theorem D3 {a b:Int} (h:a≠b):gr (N+4) [a,b]=some [a,b]:=by
 have e: (b==a)=false:=by rw [beq_eq_false_iff_ne];exact fun e=>h e.symm
 have w1:IntKind.wrap .i64 ((1:Int) - 1)=0:=by decide
 have w2:IntKind.wrap .i64 ((1:Int)+1)=2:=by decide
 unfold gr
 have e1:idx [a,b] 1=some b:=rfl
 have e2:idx [a,b] 0=some a:=rfl
 have l2: (([a,b]:List Int).length:Int)=2:=rfl
 rw [l2,show decide ((2:Int)<2)=false by decide,aN]
 rw [jB.eq_def]
 dsimp only
 rw [show decide ((1:Int)<2)=true by decide,aO,e1,aB,w1,e2,aB,e,aN,aB,w2]
 dsimp only
 rw [jB.eq_def]
 dsimp only
 rw [show decide ((2:Int)<2)=false by decide,aN,aB]
 rfl
theorem KX (x:Int):IntKind.wrap .i64 (x - x)=0:=by rw [Int.sub_self];decide
theorem G8 {r:aH} (hx:r.X0<r.X1) (hy:r.Y0<r.Y1):gz (N+16) [r]=some [⟨r.Y0,r.Y1,[r.X0,r.X1]⟩]:=by
 have s1:wk (jh (N+16)) [r]=some [r]:=Bp (by unfold jh;rw [KX])
 have s2:wk (gu (N+16)) [r]=some [r]:=Bp (by unfold gu;rw [KX])
 have s3:tp [r.Y0,r.Y1]=some [r.Y0,r.Y1]:=AQ (by simp;omega) (by simp)
 have c1:iH (N+16) [r]=some [r]:=rfl
 have f1: ∀φ,gL (N+16) [] φ=some []:=fun φ=>rfl
 have st:iP (N+16) [r]=some ([r.X0,r.X1],[r]):=by
  unfold iP
  rw [s2,aB]
  rfl
 have pu: ∀b:aA,b.Xs= [r.X0,r.X1]->b.Y0<b.Y1->iv (N+16) [] b=some [b]:=fun b h1 h2=>by
  unfold iv
  rw [h1,bI (show ¬b.Y1<=b.Y0 by omega)]
  rfl
 unfold gz
 rw [c1,aB,s1,aB]
 have ys: (lF ([r]:List aH).length (fun(k35:Nat) (s36: (List Int))=>((idx [r] (k35:Int)).bind fun x54=>(app 8 s36 ([x54.Y0,x54.Y1]: (List Int))).bind fun x58=>some x58:Option ((List Int)))) ([]: (List Int)))=some [r.Y0,r.Y1]:=rfl
 rw [ys,aB,s3,aB,D3 (N:=N+12) (by omega),aB]
 have l2: (([r.Y0,r.Y1]:List Int).length:Int)=2:=rfl
 have l1: (([r]:List aH).length:Int)=1:=rfl
 have w1:IntKind.wrap .i64 ((0:Int)+1)=1:=by decide
 have w2:IntKind.wrap .i64 ((1:Int)+1)=2:=by decide
 have i0:idx [r.Y0,r.Y1] 0=some r.Y0:=rfl
 have i1:idx [r.Y0,r.Y1] 1=some r.Y1:=rfl
 have j0:idx [r] 0=some r:=rfl
 have a1:app 32 ([]:List aH) [r]=some [r]:=rfl
 rw [l2,l1]
 rw [jB.eq_def]
 dsimp only
 rw [w1,show decide ((1:Int)<2)=true by decide,aO,f1,aB]
 rw [jB.eq_def]
 dsimp only
 rw [show decide ((0:Int)<1)=true by decide,aO,j0,aB,i0,aB,aB,show decide (r.Y0<=r.Y0)=true by simp,aO,aB,a1,aB,w1,aB]
 dsimp only
 rw [jB.eq_def]
 dsimp only
 rw [show decide ((1:Int)<1)=false by decide,aN,aB,aN,aB,aB]
 unfold Fo.cs
 dsimp only
 rw [aB,i1,aB,st,aB,pu _ rfl hy,aB,aB]
 dsimp only
 rw [jB.eq_def]
 dsimp only
 rw [w2,show decide ((2:Int)<2)=false by decide,aN,aB]
 rfl
theorem IV {r:aH} (hx:r.X0<r.X1):lR N [⟨r.Y0,r.Y1,[r.X0,r.X1]⟩]=some (eU r):=by
 have ar:mo N [⟨r.Y0,r.Y1,[r.X0,r.X1]⟩]=some r:=by
  have e1: (if r.X0<r.X0 then r.X0 else r.X0)=r.X0:=by split <;> rfl
  have e2: (if r.X1<r.X1 then r.X1 else r.X1)=r.X1:=by split <;> rfl
  show some ({X0:=(if r.X0<r.X0 then r.X0 else r.X0),Y0:=r.Y0,X1:=(if r.X1<r.X1 then r.X1 else r.X1),Y1:=r.Y1}:aH)=some r
  rw [e1,e2]
 unfold lR
 rw [ar,aB,z6]
 rfl
def tX (b:cD):aH:=⟨b.At.X - b.eP / 2,b.At.Y - b.eP / 2,b.At.X - b.eP / 2+b.eP,b.At.Y - b.eP / 2+b.eP⟩
def pf (b:cD):Bool:=eT b.eP 1 10000&&pd b.At
def lJ (b:cD):aH×Int:=if pf b&&eU (tX b) then (tX b,0) else (⟨0,0,0,0⟩,1)
theorem qG {b:cD} (h:pf b=true): (1<=b.eP/\b.eP<=10000)/\(-1000000<=b.At.X/\b.At.X<=1000000)/\(-1000000<=b.At.Y/\b.At.Y<=1000000):=by
 simp only [pf,eT,pd,kz,bR,decide_eq_true_iff] at h
 omega
theorem mb {b:cD} (h:pf b=true):fH N b=some (tX b):=by
 obtain⟨h1,h2,h3⟩:=qG h
 have t:Int.tdiv b.eP 2=b.eP / 2:=Int.tdiv_eq_ediv_of_nonneg (by omega)
 unfold fH tX
 rw [t,iL (n:=b.eP / 2) (by omega),iL (n:=b.At.X - b.eP / 2) (by omega),iL (n:=b.At.Y - b.eP / 2) (by omega),iL (by omega),iL (by omega)]
theorem x4 {b:cD}:lj (N+16) b=some (lJ b):=by
 have e0:gI (N+16) b.eP 1 10000=some (eT b.eP 1 10000):=rfl
 have e1: (bif (!(eT b.eP 1 10000)) then (some true) else (some (!(pd b.At))))=some (!pf b):=by unfold pf;cases eT b.eP 1 10000 <;> rfl
 unfold lj lJ
 rw [e0,aB,yu,aB,e1,aB]
 cases hf:pf b with
 | false=>rfl
 | true=>
  obtain⟨h1,h2,h3⟩:=qG hf
  have hx: (tX b).X0< (tX b).X1:=by simp only [tX];omega
  have hy: (tX b).Y0< (tX b).Y1:=by simp only [tX];omega
  rw [mi,aN,mb hf,aB,G8 hx hy,aB,IV hx,aB]
  cases eU (tX b) <;> rfl
end
end Go.Gk
namespace Go.Gk
open Go
section
variable {N:Nat}
def D4 (c:UInt8):Bool:=
 ((((decide (((c.toNat:Nat):Int)<65))||(decide (((c.toNat:Nat):Int)>90)))&&((decide (((c.toNat:Nat):Int)<97))||(decide (((c.toNat:Nat):Int)>122))))&&((decide (((c.toNat:Nat):Int)<48))||(decide (((c.toNat:Nat):Int)>57))))&&decide (Lib.indexByte [95,43,45,35] c<0)
def isWord (s:dO):Bool:= !s.cP.any D4&&(decide (1<=s.cP.length)&&decide (s.cP.length<=40))
theorem sg (s:dO) (c:UInt8):fV N s ((c.toNat:Nat):Int)=some (Lib.indexByte s.cP c):=by
 show some (Lib.indexByte s.cP (Int.toNat ((c.toNat:Nat):Int)).toUInt8)=_
 rw [bX];simp
theorem Fa {R:Type} (b1:Bool) (c:UInt8) (r:R):
  ((bif b1 then ((fV N (⟨[95,43,45,35]⟩) ((c.toNat:Nat):Int)).bind fun x14=>some (decide (x14<0))) else (some false)).bind fun s12=>bif s12 then (some (.rt r)) else (some (.nx ())):Option (Fl Unit R))=some (if (b1&&decide (Lib.indexByte [95,43,45,35] c<0))=true then .rt r else .nx ()):=by
 rw [sg,aB]
 cases b1
 ·rfl
 ·rw [aO,aB,Bool.true_and]
  cases decide (Lib.indexByte [95,43,45,35] c<0) <;> rfl
theorem qH {s:dO} (h:s.cP.length<=1048576):iw N s=some (isWord s):=by
 unfold iw
 rw [JZ D4 false (by omega) (fun k x hx=>by
  have hk:=(aW.1 hx).1
  have e:EJ s ((k:Nat):Int)=some x:=by rw [DT s k hk,<-aL hk,hx]
  rw [e,aB]
  exact Fa (R:=Bool) _ x false),aB]
 unfold isWord
 cases s.cP.any D4
 ·simp only [Fo.cs,ot,Bool.true_and,Bool.false_eq_true,if_false,Option.some.injEq]
  rw [eI,bR,bR]
  simp only [bB]
  omega
 ·simp [Fo.cs]
def cutAt (c:UInt8):List UInt8->List (List UInt8)
 | []=>[[]]
 | b::l=>if b==c then []::cutAt c l else match cutAt c l with | h::t=>(b::h)::t | []=>[[b]]
theorem z7 {c:UInt8}: ∀{l:List UInt8},c∉l->cutAt c l= [l]
 | [],_=>rfl
 | b::l,h=>by
  unfold cutAt
  have hb: (b==c)=false:=by rw [beq_eq_false_iff_ne];rintro rfl;exact h (by simp)
  rw [hb,z7 (fun h'=>h (by simp [h']))];rfl
theorem D5 {c:UInt8}: ∀{a b:List UInt8},c∉a->cutAt c (a++c::b)=a::cutAt c b
 | [],b,_=>by rw [List.nil_append];show (if (c==c)=true then _ else _)=_;simp
 | x::a,b,h=>by
  have hb: (x==c)=false:=by rw [beq_eq_false_iff_ne];rintro rfl;exact h (by simp)
  have ih:=D5 (c:=c) (a:=a) (b:=b) (fun h'=>h (by simp [h']))
  show (if (x==c)=true then []::cutAt c (a++c::b) else match cutAt c (a++c::b) with | h::t=>(x::h)::t | []=>[[x]])=_
  rw [hb,ih];rfl
theorem tY: ∀(l:List UInt8) (c:UInt8),(Lib.indexByte l c = -1/\c∉l)\/∃a b,l=a++c::b/\c∉a/\Lib.indexByte l c= ((a.length:Nat):Int)
 | [],c=> .inl ⟨rfl,by simp⟩
 | x::l,c=>by
  unfold Lib.indexByte
  by_cases hx:x=c
  ·subst hx;exact .inr ⟨[],l,rfl,by simp,by simp⟩
  ·have hb: (x==c)=false:=by rw [beq_eq_false_iff_ne];exact hx
   rcases tY l c with ⟨h1,h2⟩ | ⟨a,b,h1,h2,h3⟩
   ·left;rw [hb,h1];refine⟨by simp,?_⟩;simp [h2];exact fun h=>hx h.symm
   ·right
    refine⟨x::a,b,by rw [h1];rfl,by simp [h2];exact fun h=>hx h.symm,?_⟩
    rw [hb,h3]
    have: (((a.length:Nat):Int)== -1)=false:=by rw [beq_eq_false_iff_ne];omega
    rw [this];simp
theorem IW (s:dO) (c:UInt8):lk N s ⟨[c]⟩=some (Lib.indexByte s.cP c):=by
 show (jQ N s ⟨[c]⟩).bind _=_
 unfold jQ
 by_cases h:dO.BO ⟨[c]⟩ s=true
 ·have:s= ⟨[c]⟩:=(Cp.1 h).symm
  subst this
  rw [h];simp [Lib.indexByte]
 ·rw [kb] at h
  rw [h]
  show ((gW N s ((c.toNat:Nat):Int)).bind _).bind _=_
  have:=sg (N:=N) s c
  simp only [fV] at this
  rw [this];rfl
theorem IX (s:dO) (c:UInt8):mL N s ⟨[c]⟩=some ((s.cP.count c:Nat):Int):=by
 unfold mL
 show (some _:Option Int)=_
 simp [Lib.countByte]
theorem G9 {s:dO} {k:Nat} (h:k<=s.cP.length):vx s 0 ((k:Nat):Int)=some ⟨s.cP.take k⟩:=by
 unfold vx;rw [aC ⟨by omega,by omega,by omega⟩]
 simp only [Int.toNat_zero,List.drop_zero,Int.sub_zero,bX]
theorem Ha {s:dO} {k:Nat} (h:k<=s.cP.length):vx s ((k:Nat):Int) ((s.cP.length:Nat):Int)=some ⟨s.cP.drop k⟩:=by
 unfold vx;rw [aC ⟨by omega,by omega,by omega⟩]
 simp only [bX]
 rw [lE];rw [ga];omega
def m7 (s:dO) (c:UInt8):List dO:=(cutAt c s.cP).map dO.mk
theorem D6 {s:dO} (c:UInt8) (h:s.cP.length<=1048576) (hN:4194304<=N):ll N s ⟨[c]⟩=some (m7 s c):=by
 have hc:s.cP.count c<=s.cP.length:=List.count_le_length
 unfold ll mq
 rw [show ((-1:Int)==0)=false by decide,aN,show dO.BO ⟨[c]⟩ ⟨[]⟩=false by simp [dO.BO],aN,IX,aB]
 rw [eE (x:=((s.cP.count c:Nat):Int)+1) (by omega) (by omega),show decide ((-1:Int)<0)=true by decide,aO,aB]
 rw [eE (x:=((s.cP.length:Nat):Int)+1) (by omega) (by omega)]
 have e1: (if ((s.cP.length:Nat):Int)+1< ((s.cP.count c:Nat):Int)+1 then ((s.cP.length:Nat):Int)+1 else ((s.cP.count c:Nat):Int)+1)= ((s.cP.count c+1:Nat):Int):=by
  rw [aD (by omega)];omega
 rw [e1,nC _ (by omega),aB]
 rw [eE (x:=((s.cP.count c+1:Nat):Int) - 1) (by omega) (by omega)]
 have key:=wF (S:=dO×List dO×Int) (R:=Empty) (body:=(fun(s7:dO×(List dO)×Int)=>(bif (decide (s7.2.2< ((s.cP.count c+1:Nat):Int) - 1)) then ((lk N s7.1 ⟨[c]⟩).bind fun x23=>bif (decide (x23<0)) then (some (.br (s7.1,s7.2.1,s7.2.2))) else ((vx s7.1 0 (IntKind.wrap .i64 (x23+0))).bind fun x24=>(idx s7.2.1 s7.2.2).bind fun x25=>(vx s7.1 (IntKind.wrap .i64 (x23+ (((⟨[c]⟩:dO).cP.length:Nat):Int))) ((s7.1.cP.length:Nat):Int)).bind fun x27=>some (.nx (x27,(s7.2.1.set (Int.toNat s7.2.2) x24),(IntKind.wrap .i64 (s7.2.2+1)))))) else (some (.br (s7.1,s7.2.1,s7.2.2))):Option (Fl (dO×(List dO)×Int) Empty))))
  (fun st=>∃ws:List (List UInt8),st.2.2= ((ws.length:Nat):Int)/\cutAt c s.cP=ws++cutAt c st.1.cP/\ws.length+st.1.cP.count c=s.cP.count c/\st.1.cP.length<=s.cP.length/\st.2.1=ws.map dO.mk++List.replicate (s.cP.count c+1 - ws.length) ⟨[]⟩)
  (fun st=>s.cP.count c+1 - st.2.2.toNat)
  (fun st=>∃ws:List (List UInt8),st.2.2= ((ws.length:Nat):Int)/\cutAt c s.cP=ws++[st.1.cP]/\ws.length=s.cP.count c/\st.2.1=ws.map dO.mk++[⟨[]⟩])
  (fun _=>True) (by
   rintro⟨r,arr,i⟩ ⟨ws,h1,h2,h3,h4,h5⟩
   simp only at h1 h2 h3 h4 h5
   subst h1 h5
   by_cases hlt:ws.length<s.cP.count c
   ·have hd:decide (((ws.length:Nat):Int)< ((s.cP.count c+1:Nat):Int) - 1)=true:=by rw [bB];omega
    simp only [hd,aO,IW,aB]
    rcases tY r.cP c with ⟨_,hn⟩ | ⟨a,b,hr,ha,hi⟩
    ·rw [List.count_eq_zero_of_not_mem hn] at h3;omega
    ·have hrl:r.cP.length=a.length+ (b.length+1):=by rw [hr];simp
     rw [hi,bI (by omega),aN]
     rw [show ((a.length:Nat):Int)+0= ((a.length:Nat):Int) by omega,eE (x:=((a.length:Nat):Int)) (by omega) (by omega),G9 (by omega),aB]
     rw [ke _ _ (by simp;omega),aB]
     rw [show ((a.length:Nat):Int)+ (((⟨[c]⟩:dO).cP.length:Nat):Int)= ((a.length+1:Nat):Int) by simp,eE (x:=((a.length+1:Nat):Int)) (by omega) (by omega),Ha (by omega),aB]
     refine⟨_,rfl,⟨ws++[a],?_,?_,?_,?_,?_⟩,?_⟩
     ·simp only;rw [eE (by omega) (by omega)];simp
     ·simp only
      rw [h2,hr,D5 ha];simp
     ·simp only
      rw [hr] at h3 ⊢
      simp [List.count_eq_zero_of_not_mem ha] at h3 ⊢;omega
     ·simp;omega
     ·simp only [bX]
      rw [List.set_append_right _ _ (by simp)]
      simp only [dN,Nat.sub_self]
      obtain⟨d,hd'⟩: ∃d,s.cP.count c+1 - ws.length=d+1:=⟨s.cP.count c - ws.length,by omega⟩
      rw [hd',List.replicate_succ,List.set_cons_zero,show s.cP.count c+1 - (ws++[a]).length=d by simp;omega]
      simp [hr]
     ·simp only;rw [eE (by omega) (by omega)];omega
   ·have hd:decide (((ws.length:Nat):Int)< ((s.cP.count c+1:Nat):Int) - 1)=false:=by rw [decide_eq_false_iff_not];omega
    simp only [hd,aN]
    refine⟨_,rfl,ws,rfl,?_,by omega,?_⟩
    ·have h0:r.cP.count c=0:=by omega
     rw [h2,z7 (List.count_eq_zero.1 h0)]
    ·rw [show s.cP.count c+1 - ws.length=1 by omega];rfl)
  N (s,List.replicate (s.cP.count c+1) ⟨[]⟩,0) ⟨[],rfl,rfl,by simp,bJ _,by simp⟩ (by simp only;omega)
 obtain⟨o,ho,hgo⟩:=key
 rw [ho,aB]
 cases o with
 | rt r=>exact r.elim
 | go st=>
  obtain⟨r,arr,i⟩:=st
  obtain⟨ws,h1,h2,h3,h4⟩:=hgo
  simp only at h1 h2 h3 h4
  subst h1 h4
  simp only [Fo.cs]
  rw [ke _ _ (by simp),aB,eE (by omega) (by omega)]
  rw [show ((ws.length:Nat):Int)+1= ((ws.length+1:Nat):Int) by omega,rm _ _ (by simp),aB,aB]
  unfold m7
  rw [h2]
  rw [bX,List.set_append_right _ _ (by simp),lE (by simp)]
  simp
def mI (s:dO):Bool:=decide (s.cP.length<=200)&&(m7 s 47).all isWord
theorem uI {c:UInt8}: ∀{l x:List UInt8},x∈cutAt c l->x.length<=l.length
 | [],x,h=>by simp [cutAt] at h;subst h;simp
 | b::l,x,h=>by
  unfold cutAt at h
  split at h
  ·rcases cT.1 h with h | h
   ·subst h;simp
   ·have:=uI h;simp;omega
  ·split at h
   ·rename_i t e
    rcases cT.1 h with h | h
    ·subst h;have:=uI (c:=c) (l:=l) (by rw [e];exact List.mem_cons_self);simp;omega
    ·have:=uI (c:=c) (l:=l) (by rw [e];exact gh _ h);simp;omega
   ·simp at h;subst h;simp
theorem Bx (c:UInt8): ∀(l:List UInt8),(cutAt c l).length<=l.length+1
 | []=>by simp [cutAt]
 | b::l=>by
  have:=Bx c l
  unfold cutAt
  split
  ·simp;omega
  ·split
   ·rename_i e;rw [e] at this;simp at this ⊢;omega
   ·simp
theorem Bz {s x:dO} {c:UInt8} (h:x∈m7 s c):x.cP.length<=s.cP.length:=by
 obtain⟨y,hy,rfl⟩:=cS.1 h
 exact uI hy
theorem BA (s:dO) (c:UInt8): (m7 s c).length<=s.cP.length+1:=by unfold m7;rw [dN];exact Bx c _
theorem wZ {s:dO} (h:s.cP.length<=1048576) (hN:4194304<=N):lS N s=some (mI s):=by
 unfold lS mI
 by_cases hl:s.cP.length<=200
 ·rw [bG (by omega),aO,D6 47 h hN,aB]
  have e:=rn (l:=m7 s 47) (φ:=gN N) (fun x=> !isWord x) (by have:=BA s 47;omega) (fun x hx=>by
   unfold gN
   rw [qH (by have:=Bz hx;omega)];rfl)
  have e2:gM N (m7 s 47) (gN N)=qP (m7 s 47) (gN N):=rfl
  rw [e2,e,aB,aB,bG hl,Bool.true_and]
  congr 1
  rw [eI]
  simp
 ·rw [bI (by omega),aN,aB,bI hl,Bool.false_and]
end
end Go.Gk
namespace Go.Gk
open Go Classical
section
variable {N:Nat}
theorem IY {a b:aA} (h:bT a=bT b):a=b:=by cases a;cases b;unfold bT at h;simp at h;obtain⟨h1,h2,h3⟩:=h;subst h1;subst h2;subst h3;rfl
theorem w3: ∀{s t:List aA},s.map bT=t.map bT->s=t
 | [],[],_=>rfl
 | [],_::_,h=>by cases h
 | _::_,[],h=>by cases h
 | a::s,b::t,h=>by
  rw [dI,dI] at h
  injection h with h1 h2
  rw [IY h1,w3 h2]
theorem D7 {s t:List aA} (hs:eA (s.map bT)) (ht:eA (t.map bT)) (h: ∀x y,th (s.map bT) x y=th (t.map bT) x y):s=t:=w3 (sd hs ht h)
theorem pZ.unique {l:List aH} {s t:List aA} (hs:pZ l s) (ht:pZ l t):s=t:=D7 hs.can ht.can fun x y=>by rw [hs.cover,ht.cover]
theorem pZ.D8 {l:List aH} {s:List aA} (h:pZ l s):s.length<=2*l.length/\(∀b∈s,b.Xs.length<=2*l.length)/\(aP s).length<=2*l.length* (2*l.length):=by
 have h1:s.length<=2*l.length:=by have:=h.lim.len h.can;rwa [dN,iD] at this
 have h2: ∀b∈s,b.Xs.length<=2*l.length:=fun b hb=>by
  have:=h.lim.row h.can (b:=bT b) (cS.2 ⟨b,hb,rfl⟩)
  rwa [k6] at this
 exact⟨h1,h2,zS h1 h2⟩
theorem uJ {n:Int} (h:kz n=true): -1000000<=n/\n<=1000000:=by
 unfold kz eT at h
 rw [bR,bB,bB] at h;omega
theorem mc {r:aH} (h:eU r=true): (-1000000<=r.X0/\r.X0<=1000000)/\(-1000000<=r.Y0/\r.Y0<=1000000)/\(-1000000<=r.X1/\r.X1<=1000000)/\(-1000000<=r.Y1/\r.Y1<=1000000):=by
 unfold eU at h
 simp only [bR] at h
 exact⟨uJ h.1,uJ h.2.1,uJ h.2.2.1,uJ h.2.2.2⟩
theorem z8 {r:aH} (h: (-1000000<=r.X0/\r.X0<=1000000)/\(-1000000<=r.Y0/\r.Y0<=1000000)/\(-1000000<=r.X1/\r.X1<=1000000)/\(-1000000<=r.Y1/\r.Y1<=1000000)):eU r=true:=by
 unfold eU kz eT
 simp only [bR,bB]
 omega
theorem Fb {r:aH} (h:eU r=true) (hx:r.X0<r.X1) (hy:r.Y0<r.Y1):Bs r:=by
 have:=mc h
 refine⟨hx,hy,?_,?_,?_,?_⟩ <;> unfold small <;> omega
def j3 (r:aH):Option Int:=if eU r=true then (if r.X1<=r.X0\/r.Y1<=r.Y0 then some 13 else none) else some 1
def kA (l:List aH):Int:=if 2000<l.length then 2 else (l.findSome? j3).getD 0
theorem AU {l:List aH} (hl:l.length<=4611686018427387904):kj N l=some (kA l):=by
 unfold kj kA
 by_cases h:2000<l.length
 ·rw [bG (by omega),aO,aC h]
 ·rw [bI (by omega),aN,aD h,wG j3 hl (fun k x hx=>by
   rw [dY hx,aB,z6,aB]
   unfold j3
   cases hr:eU x with
   | false=>rfl
   | true=>
    rw [mi,aN,aC rfl]
    by_cases h2:x.X1<=x.X0\/x.Y1<=x.Y0
    ·rw [aC h2,show (decide (x.X1<=x.X0)||decide (x.Y1<=x.Y0))=true by rw [cX,bB,bB];exact h2];rfl
    ·rw [aD h2,show (decide (x.X1<=x.X0)||decide (x.Y1<=x.Y0))=false by rw [<-kb,cX,bB,bB];exact h2];rfl),aB]
  cases l.findSome? j3 <;> rfl
theorem w4 {r:aH}:j3 r=none↔eU r=true/\r.X0<r.X1/\r.Y0<r.Y1:=by
 unfold j3
 by_cases h:eU r=true
 ·rw [aC h]
  by_cases h2:r.X1<=r.X0\/r.Y1<=r.Y0
  ·rw [aC h2]
   constructor
   ·intro h;cases h
   ·rintro⟨_,h3,h4⟩;omega
  ·rw [aD h2]
   exact⟨fun _=>⟨h,by omega,by omega⟩,fun _=>rfl⟩
 ·rw [aD h]
  constructor
  ·intro h;cases h
  ·rintro⟨h3,_⟩;exact absurd h3 h
theorem D9 {r:aH} {e:Int} (h:j3 r=some e):e≠0:=by
 unfold j3 at h
 split at h
 ·split at h
  ·injection h with h;omega
  ·cases h
 ·injection h with h;omega
theorem qV {l:List aH}:kA l=0↔l.length<=2000/\∀r∈l,eU r=true/\r.X0<r.X1/\r.Y0<r.Y1:=by
 unfold kA
 by_cases h:2000<l.length
 ·rw [aC h];constructor
  ·intro h;omega
  ·intro h;omega
 ·rw [aD h]
  cases hf:l.findSome? j3 with
  | none=>
   rw [List.findSome?_eq_none_iff] at hf
   exact⟨fun _=>⟨by omega,fun r hr=>w4.1 (hf r hr)⟩,fun _=>rfl⟩
  | some e=>
   obtain⟨r,hr,he⟩:=List.exists_of_findSome?_eq_some hf
   constructor
   ·intro h0;exact absurd h0 (D9 he)
   ·rintro⟨_,h2⟩
    rw [w4.2 (h2 r hr)] at he;cases he
def LS (l:List aH):Prop:=∀(k:Nat) a b,l[k]? =some a->l[k+1]? =some b->¬(b.Y0<a.Y0\/(b.Y0=a.Y0/\b.X0<=a.X0))
def z9 (l:List aH):Prop:=∃s,pZ l s/\aP s=l
noncomputable def gU (l:List aH):Int:=if kA l≠0 then kA l else if LS l then (if z9 l then 0 else 3) else 8
theorem CF {l:List aH} (h:kA l=0):l.length<=2000/\∀r∈l,Bs r:=⟨(qV.1 h).1,fun r hr=>by have:=(qV.1 h).2 r hr;exact Fb this.1 this.2.1 this.2.2⟩
theorem Fc {l m:List aH} (hl:l.length<=4611686018427387904):jO N l m=some (decide (l=m)):=by
 have:=Bn (l:=l) (m:=m) hl
 unfold E0 at this
 unfold jO
 rw [show (decide (l=m)) = @decide (l=m) (instDecidableEqList l m) from decide_eq_decide.2 Iff.rfl]
 exact this
theorem tZ {l:List aH} (hl:l.length<=1073741824) (hN:4398046511104<=N):iI N l=some (gU l):=by
 refine Ok.get ?_
 unfold iI
 refine Ok.eq (AU (by omega)) ?_
 unfold gU
 refine Ok.bif (fun h=>Ok.ret ?_) (fun h=>?_)
 ·rw [aC (by simpa using h)]
 ·have h0:kA l=0:=by simpa using h
  rw [aD (by simpa using h0)]
  obtain⟨hlen,hok⟩:=CF h0
  refine Ok.bind (Ok.jB (Go:=fun _=>LS l) (Rt:=fun r=>r=8/\¬LS l) (fun s=>∃k:Nat,s= ((k:Nat):Int)/\1<=k/\∀(j:Nat) a b,j+1<k->l[j]? =some a->l[j+1]? =some b->¬(b.Y0<a.Y0\/(b.Y0=a.Y0/\b.X0<=a.X0))) (fun s=>l.length - s.toNat) ?_ ⟨1,rfl,bJ _,fun j a b hj=>by omega⟩ (by simp;omega)) ?_
  ·rintro s ⟨k,rfl,hk,hI⟩
   refine Ok.bif (fun h=>?_) (fun h=>Ok.br fun j a b ha hb=>hI j a b ?_ ha hb)
   ·have hk2:k<l.length:=by have:=of_decide_eq_true h;omega
    rw [fN hk (by omega)]
    refine Ok.idx (by omega) (Ok.idx hk2 (Ok.bif (fun hb=>Ok.rt ⟨rfl,fun hu=>?_⟩) (fun hb=>Ok.nx ⟨⟨k+1,by rw [bP (by omega)],by omega,fun j a b hj ha hb'=>?_⟩,by rw [bP (by omega)];simp only [bX];omega⟩)))
    ·refine hu (k - 1) l[k - 1] l[k] (aL _) (by rw [show k - 1+1=k by omega];exact aL _) ?_
     rw [cX,bR,bB,bB,beq_iff_eq] at hb;exact hb
    ·by_cases e:j+1<k
     ·exact hI j a b e ha hb'
     ·have:j+1=k:=by omega
      subst this
      rw [aL (by omega)] at ha hb'
      injection ha with ha;injection hb' with hb'
      subst ha;subst hb'
      rw [<-kb,cX,bR,bB,bB,beq_iff_eq] at hb;exact hb
   ·have:=of_decide_eq_false h
    have:=(aW.1 hb).1;omega
  ·rintro o ho
   refine Ok.cs ho (fun s hu=>?_) (fun r hr=>Ok.ret (by rw [hr.1,aD hr.2]))
   rw [aC hu]
   refine Ok.bind (oh (N:=N) (by omega) hok (by omega)) ?_
   intro s hs
   obtain⟨z1,z2,z3⟩:=hs.D8
   have z4:2*l.length* (2*l.length)<=4000*4000:=Nat.mul_le_mul (by omega) (by omega)
   refine Ok.eq (zT (rI hs.can) (by omega) (fun b hb=>by have:=z2 b hb;omega) (by omega)) (Ok.eq (Fc (by omega)) ?_)
   have hiff:z9 l↔aP s=l:=⟨fun⟨t,h1,h2⟩=>by rw [hs.unique h1];exact h2,fun h=>⟨s,hs,h⟩⟩
   refine Ok.bif (fun h=>Ok.ret ?_) (fun h=>Ok.ret ?_)
   ·have h: ¬aP s=l:=by simpa using h
    rw [aD (fun h'=>h (hiff.1 h'))]
   ·have h:aP s=l:=by simpa using h
    rw [aC (hiff.2 h)]
theorem qI {l:List aH}:gU l=0↔kA l=0/\LS l/\z9 l:=by
 unfold gU
 by_cases h:kA l=0
 ·rw [aD (by simpa using h)]
  by_cases h2:LS l
  ·rw [aC h2]
   by_cases h3:z9 l
   ·rw [aC h3];exact⟨fun _=>⟨h,h2,h3⟩,fun _=>rfl⟩
   ·rw [aD h3];constructor
    ·intro h;omega
    ·rintro⟨_,_,h4⟩;exact absurd h4 h3
  ·rw [aD h2];constructor
   ·intro h;omega
   ·rintro⟨_,h4,_⟩;exact absurd h4 h2
 ·rw [aC h]
  constructor
  ·intro h2;exact absurd h2 h
  ·rintro⟨h2,_⟩;exact absurd h2 h
theorem vU (n lo hi:Int):gI N n lo hi=some (eT n lo hi):=rfl
theorem Hb {b:cD} (hN:16<=N):lj N b=some (lJ b):=by
 have:=x4 (N:=N - 16) (b:=b)
 rwa [show N - 16+16=N by omega] at this
def kR (n:Nat) (b:cD):Option Int:=if (lJ b).2≠0 then some (lJ b).2 else if eT b.cZ 0 (((n:Nat):Int) - 1)=true/\eT b.To b.cZ (((n:Nat):Int) - 1)=true then none else some 1
def gR (a:fz):Int:=if 500<a.aQ.length then 2 else (a.aQ.findSome? (kR a.aI.length)).getD 0
theorem AV {a:fz} (h1:a.aI.length<=4611686018427387904) (h2:a.aQ.length<=4611686018427387904) (hN:16<=N):jP N a=some (gR a):=by
 unfold jP gR
 by_cases h:500<a.aQ.length
 ·rw [bG (by omega),aO,aC h]
 ·have hw:IntKind.wrap .i64 (((a.aI.length:Nat):Int) - 1)= ((a.aI.length:Nat):Int) - 1:=eE (by omega) (by omega)
  rw [bI (by omega),aN,aD h,wG (kR a.aI.length) h2 (fun k x hx=>by
   rw [dY hx,aB,Hb hN,aB]
   unfold kR
   by_cases h0: (lJ x).2=0
   ·rw [aD (by simpa using h0),h0,show ((0:Int) != 0)=false by rfl,aN,hw,vU,aB,vU,aB]
    cases h3:eT x.cZ 0 (((a.aI.length:Nat):Int) - 1) <;> cases h4:eT x.To x.cZ (((a.aI.length:Nat):Int) - 1) <;> rfl
   ·rw [aC h0,show ((lJ x).2 != 0)=true by simpa using h0];rfl),aB]
  cases a.aQ.findSome? (kR a.aI.length) <;> rfl
theorem Ea {b:cD} (h: (lJ b).2=0):pf b=true/\eU (tX b)=true:=by
 unfold lJ at h
 split at h
 ·rename_i h';rwa [bR] at h'
 ·cases h
theorem lv {a:fz} (h:gR a=0):a.aQ.length<=500/\∀b∈a.aQ,pf b=true/\eU (tX b)=true/\0<=b.cZ/\b.cZ<=b.To/\b.To< ((a.aI.length:Nat):Int):=by
 unfold gR at h
 split at h
 ·omega
 ·refine⟨by omega,fun b hb=>?_⟩
  have hn:kR a.aI.length b=none:=by
   cases hf:a.aQ.findSome? (kR a.aI.length) with
   | none=>exact List.findSome?_eq_none_iff.1 hf b hb
   | some e=>
    rw [hf] at h
    obtain⟨c,hc,he⟩:=List.exists_of_findSome?_eq_some hf
    have h:e=0:=h
    subst h
    unfold kR at he
    split at he
    ·rename_i h';injection he with he;exact absurd he h'
    ·split at he
     ·cases he
     ·injection he with he;omega
  unfold kR at hn
  split at hn
  ·cases hn
  ·rename_i h0
   split at hn
   ·rename_i h1
    have h0: (lJ b).2=0:=by simpa using h0
    have:=Ea h0
    unfold eT at h1
    simp only [bR,bB] at h1
    exact⟨this.1,this.2,by omega,by omega,by omega⟩
   ·cases hn
theorem NQ {b:cD} (h1:pf b=true) (h2:eU (tX b)=true):Bs (tX b):=by
 have hf:=qG h1
 refine Fb h2 ?_ ?_
 ·show b.At.X - b.eP / 2<b.At.X - b.eP / 2+b.eP;omega
 ·show b.At.Y - b.eP / 2<b.At.Y - b.eP / 2+b.eP;omega
def gk (p q:fE):Int:=if Lib.compareBytes p.Part.cP q.Part.cP≠0 then Lib.compareBytes p.Part.cP q.Part.cP else Lib.compareBytes p.fE.cP q.fE.cP
theorem k8 (p q:fE):dT N p q=some (gk p q):=by
 unfold dT gk
 show (bif (Lib.compareBytes p.Part.cP q.Part.cP != 0) then _ else _)=_
 by_cases h:Lib.compareBytes p.Part.cP q.Part.cP=0
 ·rw [h,aD (by simp)];rfl
 ·rw [aC h,show (Lib.compareBytes p.Part.cP q.Part.cP != 0)=true by simpa using h];rfl
def jw (l:dD):fE:=⟨l.Part,l.fE⟩
theorem x5 (l:dD):kJ N l=some (jw l):=rfl
def iM (a:fz) (k:Nat):Option Int:=(a.bL[k]?).bind fun x=>
 if (mI x.Part&&isWord x.fE)=true then
  if (eT x.eV 0 (((a.aI.length:Nat):Int) - 1)&&pd x.At)=true then
   if 0<k/\(∃y,a.bL[k - 1]? =some y/\gk (jw x) (jw y)<=0) then some 8 else none
  else some 1
 else some 5
noncomputable def kB (a:fz):Int:=if 1000<a.bL.length then 2 else (px a.bL.length (iM a)).getD 0
end
end Go.Gk
namespace Go.Gk
open Go Classical
section
variable {N:Nat}
def Aa (a:fz):Prop:=∀x∈a.bL,x.Part.cP.length<=1048576/\x.fE.cP.length<=1048576
theorem AW {a:fz} (h1:a.aI.length<=1073741824) (h2:a.bL.length<=1073741824) (h3:Aa a) (hN:4194304<=N):jR N a=some (kB a):=by
 unfold jR kB
 by_cases h:1000<a.bL.length
 ·rw [bG (by omega),aO,aC h]
 ·have hw:IntKind.wrap .i64 (((a.aI.length:Nat):Int) - 1)= ((a.aI.length:Nat):Int) - 1:=eE (by omega) (by omega)
  rw [bI (by omega),aN,aD h,pR (iM a) (by omega) (fun k hk _=>by
   have hx:a.bL[k]? =some a.bL[k]:=aL hk
   have hs:=h3 _ (cO hk)
   rw [dY hx,aB,wZ hs.1 hN,aB]
   have hle:iM a k= (if (mI a.bL[k].Part&&isWord a.bL[k].fE)=true then
     if (eT a.bL[k].eV 0 (((a.aI.length:Nat):Int) - 1)&&pd a.bL[k].At)=true then
      if 0<k/\(∃y,a.bL[k - 1]? =some y/\gk (jw a.bL[k]) (jw y)<=0) then some 8 else none
     else some 1
    else some 5):=by unfold iM;rw [hx];rfl
   rw [hle]
   have e1: ((bif (!mI a.bL[k].Part) then (some true) else ((iw N a.bL[k].fE).bind fun x225=>some (!x225))):Option Bool)=some (!(mI a.bL[k].Part&&isWord a.bL[k].fE)):=by
    rw [qH hs.2,aB]
    cases mI a.bL[k].Part <;> rfl
   have e2: ((gI N a.bL[k].eV 0 (IntKind.wrap .i64 (((a.aI.length:Nat):Int) - 1))).bind fun x318=>bif (!x318) then (some true) else ((i7 N a.bL[k].At).bind fun x321=>some (!x321)))=some (!(eT a.bL[k].eV 0 (((a.aI.length:Nat):Int) - 1)&&pd a.bL[k].At)):=by
    rw [hw,vU,aB,yu,aB]
    cases eT a.bL[k].eV 0 (((a.aI.length:Nat):Int) - 1) <;> rfl
   show ((bif (!mI a.bL[k].Part) then (some true) else ((iw N a.bL[k].fE).bind fun x225=>some (!x225))):Option Bool).bind _=_
   rw [e1,aB]
   cases h4: (mI a.bL[k].Part&&isWord a.bL[k].fE) with
   | false=>rfl
   | true=>
    rw [mi,aN,aC rfl]
    show (((gI N a.bL[k].eV 0 (IntKind.wrap .i64 (((a.aI.length:Nat):Int) - 1))).bind fun x318=>bif (!x318) then (some true) else ((i7 N a.bL[k].At).bind fun x321=>some (!x321)))).bind _=_
    rw [e2,aB]
    cases h5: (eT a.bL[k].eV 0 (((a.aI.length:Nat):Int) - 1)&&pd a.bL[k].At) with
    | false=>rfl
    | true=>
     rw [mi,aN,aC rfl]
     by_cases h0:0<k
     ·rw [bG (by omega),aO,fN h0 (by omega),ke _ _ (by omega:k - 1<a.bL.length)]
      simp only [x5,aB,k8]
      by_cases h6:gk (jw a.bL[k]) (jw a.bL[k - 1])<=0
      ·rw [bG h6,aC ⟨h0,_,aL (by omega:k - 1<a.bL.length),h6⟩];rfl
      ·rw [bI h6,aD (by
        rintro⟨_,y,hy,h7⟩
        rw [aL (by omega:k - 1<a.bL.length)] at hy;injection hy with hy
        rw [<-hy] at h7;exact h6 h7)];rfl
     ·rw [bI (by omega),aD (fun h=>h0 h.1)];rfl),aB]
  cases px a.bL.length (iM a) <;> rfl
def j4 (b:cD) (k:Int):Bool:=decide (b.cZ<=k)&&decide (k<=b.To)
theorem Ab (b:cD) (k:Int):km N b k=some (j4 b k):=rfl
def j5 (bs:List cD) (k:Int):List aH:=(bs.filter (fun b=>j4 b k)).map tX
structure mB (bs:List cD):Prop where
 len:bs.length<=500
 ok: ∀b∈bs,pf b=true/\eU (tX b)=true
structure si (r hs:List aH) (s:List aA):Prop where
 can:eA (s.map bT)
 cover: ∀x y,th (s.map bT) x y= (te r x y&& !te hs x y)
 lim:v9 (rF r++rF hs) (iu r++iu hs) (s.map bT)
theorem x6 {bs:List cD} (h:mB bs) (k:Int): (j5 bs k).length<=500:=by
 unfold j5
 rw [dN]
 have:=nn (fun b=>j4 b k) bs
 have:=h.len;omega
theorem t7 {bs:List cD} (h:mB bs) (k:Int): ∀r∈j5 bs k,Bs r/\eU r=true:=by
 intro r hr
 unfold j5 at hr
 obtain⟨b,hb,rfl⟩:=cS.1 hr
 have:=h.ok b (ka.1 hb).1
 exact⟨NQ this.1 this.2,this.2⟩
theorem si.small {r hs:List aH} {s:List aA} (h:si r hs s) (h1: ∀x∈r,Bs x) (h2: ∀x∈hs,Bs x): (∀c∈rF r++rF hs,small c)/\∀c∈iu r++iu hs,small c:=by
 constructor
 ·intro c hc
  rcases cY.1 hc with h | h
  ·obtain⟨x,hx,rfl | rfl⟩:=rG.1 h
   ·exact(h1 x hx).s1
   ·exact(h1 x hx).s2
  ·obtain⟨x,hx,rfl | rfl⟩:=rG.1 h
   ·exact(h2 x hx).s1
   ·exact(h2 x hx).s2
 ·intro c hc
  rcases cY.1 hc with h | h
  ·obtain⟨x,hx,rfl | rfl⟩:=ky.1 h
   ·exact(h1 x hx).s3
   ·exact(h1 x hx).s4
  ·obtain⟨x,hx,rfl | rfl⟩:=ky.1 h
   ·exact(h2 x hx).s3
   ·exact(h2 x hx).s4
theorem uK {s:List aA} {X Y:List Int} {A:Nat} (hc:eA (s.map bT)) (h:v9 X Y (s.map bT)) (hX:X.length<=A) (hY:Y.length<=A):s.length<=A/\(∀b∈s,b.Xs.length<=A)/\(aP s).length<=A*A:=by
 have h1:s.length<=A:=by have:=h.len hc;rw [dN] at this;omega
 have h2: ∀b∈s,b.Xs.length<=A:=fun b hb=>by
  have:=h.row hc (b:=bT b) (cS.2 ⟨b,hb,rfl⟩)
  have e: (bT b).xs=b.Xs:=rfl
  rw [e] at this;omega
 exact⟨h1,h2,zS h1 h2⟩
theorem AX {r hs:List aH} (h1:r.length<=2000) (h2: ∀x∈r,Bs x) (h3:hs.length<=500) (h4: ∀x∈hs,Bs x) (hN:4398046511104<=N) {β:Type} {f:List aA->Option β} {Q:β->Prop} (k: ∀s,si r hs s->Ok (f s) Q):
  Ok ((gz N r).bind fun x378=>(gz N hs).bind fun x380=>(kn N x378 x380).bind f) Q:=by
 refine Ok.bind (oh (N:=N) (by omega) h2 (by omega)) (fun s hs1=>?_)
 refine Ok.bind (oh (N:=N) (by omega) h4 (by omega)) (fun t ht=>?_)
 have hz: ∀c∈iu r++iu hs,small c:=by
  intro c hc
  rcases cY.1 hc with h | h
  ·obtain⟨x,hx,rfl | rfl⟩:=ky.1 h
   ·exact(h2 x hx).s3
   ·exact(h2 x hx).s4
  ·obtain⟨x,hx,rfl | rfl⟩:=ky.1 h
   ·exact(h4 x hx).s3
   ·exact(h4 x hx).s4
 refine Ok.bind (G7 (X:=rF r++rF hs) (Y:=iu r++iu hs) hs1.can ht.can (hs1.lim.mono (fun c h=>List.mem_append_left _ h) (fun c h=>List.mem_append_left _ h)) (ht.lim.mono (fun c h=>List.mem_append_right _ h) (fun c h=>List.mem_append_right _ h))
  (by rw [cR,k6,k6];omega) (by rw [cR,iD,iD];omega) hz hN) (fun u hu=>?_)
 exact k u ⟨hu.can,fun x y=>by rw [hu.cover,hs1.cover,ht.cover],hu.lim⟩
def dR:Nat->List (List (List aA))->List aJ
 | _,[]=>[]
 | k,ps::r=>ps.map (fun p=>⟨((k:Nat):Int),p,aP p⟩)++dR (k+1) r
theorem vV (ps:List (List aA)): ∀(r:List (List (List aA))) (k:Nat),dR k (r++[ps])=dR k r++ps.map (fun p=>⟨((k+r.length:Nat):Int),p,aP p⟩)
 | [],k=>by unfold dR;simp [dR]
 | q::r,k=>by
  show _++dR (k+1) (r++[ps])= (_++dR (k+1) r)++_
  rw [vV ps r (k+1),jK]
  congr 3
  simp only [dK]
  rw [show k+ (r.length+1)=k+1+r.length by omega]
theorem Ac {s p:List aA} {ps:List (List aA)} {r:Nat->Nat} {X Y:List Int} (h:qF s r ps) (hc:eA (s.map bT)) (hl:v9 X Y (s.map bT)) (hX: ∀c∈X,small c) (hY: ∀c∈Y,small c) (hp:p∈ps):
  ∃j k:Nat,ps[j]? =some p/\(bQ (aP s).length r)[j]? =some k/\pZ (mH (aP s) (aP s).length r k) p/\v9 X Y (p.map bT):=by
 obtain⟨j,hj⟩:=dV hp
 have hjl:=(aW.1 hj).1
 rw [h.len] at hjl
 have hh: (bQ (aP s).length r)[j]? =some (bQ (aP s).length r)[j]:=aL hjl
 have hs:=h.each j _ p hh hj
 refine⟨j,_,hj,hh,hs,hs.lim.mono (fun c hcx=>?_) (fun c hcx=>?_)⟩
 ·obtain⟨x,hx,hxc⟩:=rG.1 hcx
  obtain⟨i,_,_,hi⟩:=k7.1 hx
  have:=zU hc hl hX hY x (eW hi)
  rcases hxc with rfl | rfl
  ·exact this.2.1.1
  ·exact this.2.1.2
 ·obtain⟨x,hx,hxc⟩:=ky.1 hcx
  obtain⟨i,_,_,hi⟩:=k7.1 hx
  have:=zU hc hl hX hY x (eW hi)
  rcases hxc with rfl | rfl
  ·exact this.2.2.1
  ·exact this.2.2.2
structure t8 (cs:List (List aH)) (bs:List cD) (k:Nat) (k9:List (List aA)) (fP:List (List (List aA))):Prop where
 len:k9.length=k
 AY:fP.length=k
 dr: ∀(i:Nat) r s,i<k->cs[i]? =some r->k9[i]? =some s->si r (j5 bs ((i:Nat):Int)) s
 pt: ∀(i:Nat) s ps,i<k->k9[i]? =some s->fP[i]? =some ps->∃u,qF s u ps
 AZ: (dR 0 fP).length<=k*25000000
theorem qF.AZ {s:List aA} {u:Nat->Nat} {ps:List (List aA)} (h:qF s u ps):ps.length<=(aP s).length:=by
 rw [h.len];exact om _ _
theorem Fe {cs:List (List aH)} {bs:List cD} (hcs:cs.length<=16) (hc: ∀r∈cs,r.length<=2000/\∀x∈r,Bs x) (hb:mB bs) (hN:4398046511104<=N):
  Ok (ji N cs bs [] []) (fun x=>∃fP,t8 cs bs cs.length x.2.1 fP/\x.2.2=dR 0 fP/\(x.1=true↔(∀s∈x.2.1,(aP s).length<=2000)/\x.2.2.length<=2000)):=by
 unfold ji
 refine Ok.bind (P:=fun(st:List (List aA)×List aJ×Bool)=>∃fP,t8 cs bs cs.length st.1 fP/\st.2.1=dR 0 fP/\(st.2.2=true↔∀s∈st.1,(aP s).length<=2000)) (Ok.lF (fun(k:Nat) (st:List (List aA)×List aJ×Bool)=>∃fP,t8 cs bs k st.1 fP/\st.2.1=dR 0 fP/\(st.2.2=true↔∀s∈st.1,(aP s).length<=2000)) (by omega)
  ⟨[],⟨rfl,rfl,fun i r s hi=>by omega,fun i s ps hi=>by omega,by simp [dR]⟩,rfl,by simp⟩ (fun k st hk hI=>?_)) ?_
 ·obtain⟨k9,pcs,okk⟩:=st
  obtain⟨fP,D,e1,e2⟩:=hI
  dsimp only at D e1 e2 ⊢
  subst e1
  have hkx:cs[k]? =some cs[k]:=aL hk
  obtain⟨hr1,hr2⟩:=hc _ (cO hk)
  refine Ok.ix hkx ?_
  refine Ok.bind (P:=fun t=>t=j5 bs ((k:Nat):Int)) (Ok.mono (Ok.lF (fun j t=>t=j5 (bs.take j) ((k:Nat):Int)) (by have:=hb.len;omega) rfl (fun j t hj e=>?_)) (fun t e=>by rw [e,fw])) (fun t e=>?_)
  ·subst e
   refine Ok.idx hj (Ok.eq (Ab _ _) ?_)
   have hts:bs.take (j+1)=bs.take j++[bs[j]]:=eF hj
   have hgb:=hb.ok _ (cO hj)
   have hl: (j5 (bs.take j) ((k:Nat):Int)).length<=500:=by
    unfold j5
    rw [dN]
    have:=nn (fun b=>j4 b ((k:Nat):Int)) (bs.take j)
    rw [cI] at this
    have:=hb.len;omega
   cases ht:j4 bs[j] ((k:Nat):Int) with
   | false=>
    rw [aN]
    refine Ok.eq rfl (Ok.ret ?_)
    unfold j5
    rw [hts,jL];simp [ht]
   | true=>
    rw [aO]
    refine Ok.eq (x:=j5 (bs.take j) ((k:Nat):Int)++[tX bs[j]]) (by rw [mb hgb.1,aB,jX (by simp;omega),aB]) (Ok.ret ?_)
    unfold j5
    rw [hts,jL,dU];simp [ht]
  ·subst e
   have hho:=t7 hb ((k:Nat):Int)
   have hhl:=x6 hb ((k:Nat):Int)
   refine AX hr1 hr2 hhl (fun x hx=>(hho x hx).1) hN (fun s hs=>?_)
   obtain⟨sx,sy⟩:=hs.small hr2 (fun x hx=>(hho x hx).1)
   obtain⟨z1,z2,z3⟩:=uK (A:=5000) hs.can hs.lim (by rw [cR,k6,k6];omega) (by rw [cR,iD,iD];omega)
   have hmany:=Ka (N:=N) (s:=s) (by omega) (fun b hb=>by have:=z2 b hb;omega) (by omega)
   refine Ok.eq (x:=(okk&&decide ((aP s).length<=2000),s)) ?_ ?_
   ·cases okk with
    | false=>rfl
    | true=>
     rw [aO,hmany,aB,Bool.true_and]
     rw [show decide ((((aP s).length:Nat):Int)<=2000)=decide ((aP s).length<=2000) from decide_eq_decide.2 (by omega)]
   dsimp only
   refine Ok.app (by rw [D.len];simp;omega) ?_
   refine Ok.bind (E9 (N:=N) hs.can hs.lim sx sy (by omega) (fun b hb=>by have:=z2 b hb;omega) (by omega) hN) ?_
   rintro ps ⟨u,hu⟩
   have hfew:=hu.AZ
   have hk16:k*25000000<=16*25000000:=Nat.mul_le_mul_right _ (by omega)
   have hDf:=D.AZ
   refine Ok.bind (P:=fun t=>t=dR 0 fP++ps.map (fun p=>(⟨((k:Nat):Int),p,aP p⟩:aJ))) (Ok.mono (Ok.lF (fun j t=>t=dR 0 fP++(ps.take j).map (fun p=>(⟨((k:Nat):Int),p,aP p⟩:aJ))) (by omega) (by simp) (fun j t hj e=>?_)) (fun t e=>by rw [e,fw])) (fun t e=>Ok.ret ?_)
   ·subst e
    have hjx:ps[j]? =some ps[j]:=aL hj
    refine Ok.ix hjx ?_
    obtain⟨_,_,_,_,mj,hpl⟩:=Ac hu hs.can hs.lim sx sy (cO hj)
    obtain⟨y1,y2,y3⟩:=uK (A:=5000) mj.can hpl (by rw [cR,k6,k6];omega) (by rw [cR,iD,iD];omega)
    refine Ok.eq (zT (rI mj.can) (by omega) (fun b hb=>by have:=y2 b hb;omega) (by omega)) (Ok.app ?_ (Ok.ret ?_))
    ·simp only [cR,dN,cI,List.length_singleton];omega
    ·rw [eF hj,dU,jK];rfl
   ·subst e
    refine⟨fP++[ps],⟨by simp [D.len],by simp [D.AY],fun i r s' hi hr hs'=>?_,fun i s' ps' hi hs' hps'=>?_,?_⟩,?_,?_⟩
    ·dsimp only at hs'
     by_cases hik:i<k
     ·rw [fL (by rw [D.len];exact hik)] at hs'
      exact D.dr i r s' hik hr hs'
     ·have:i=k:=by omega
      subst this
      rw [fT (by rw [D.len];omega),D.len,Nat.sub_self] at hs'
      simp at hs';subst hs'
      rw [hkx] at hr;injection hr with hr;subst hr
      exact hs
    ·dsimp only at hs'
     by_cases hik:i<k
     ·rw [fL (by rw [D.len];exact hik)] at hs'
      rw [fL (by rw [D.AY];exact hik)] at hps'
      exact D.pt i s' ps' hik hs' hps'
     ·have:i=k:=by omega
      subst this
      rw [fT (by rw [D.len];omega),D.len,Nat.sub_self] at hs'
      rw [fT (by rw [D.AY];omega),D.AY,Nat.sub_self] at hps'
      simp at hs' hps';subst hs';subst hps'
      exact⟨u,hu⟩
    ·rw [vV,cR,dN];omega
    ·dsimp only
     rw [vV,D.AY,fM]
    ·dsimp only
     rw [bR,e2,bB]
     constructor
     ·rintro⟨h1,h2⟩ s' hs'
      rcases cY.1 hs' with h | h
      ·exact h1 s' h
      ·simp at h;subst h;exact h2
     ·intro h
      exact⟨fun s' hs'=>h s' (List.mem_append_left _ hs'),h s (by simp)⟩
 ·rintro⟨k9,pcs,okk⟩ ⟨fP,D,e1,e2⟩
  dsimp only at D e1 e2 ⊢
  subst e1
  refine Ok.bind (P:=fun b=>b=true↔(∀s∈k9,(aP s).length<=2000)/\(dR 0 fP).length<=2000) (Ok.bif (fun h=>Ok.ret ?_) (fun h=>Ok.ret ?_)) (fun b hb=>Ok.ret ⟨fP,D,rfl,hb⟩)
  ·rw [bB]
   constructor
   ·intro h';exact⟨e2.1 h,by omega⟩
   ·rintro⟨_,h'⟩;omega
  ·constructor
   ·intro h';cases h'
   ·rintro⟨h',_⟩;rw [e2.2 h'] at h;cases h
end
end Go.Gk
