/-
  Helping texts: plain functions and plain laws. No statement of the seed is proved here.
-/
import Derived.Test.YtllecmpemokbfaaGreatDoorA1
import Derived.ChangeShapes
import Derived.ChangeSame
import Derived.Carry
import Derived.RowKit
import Derived.Test.YtllecmpemokbfaaGreatDoorA2
set_option linter.unusedVariables false
set_option linter.unusedSimpArgs false
set_option linter.unusedSectionVars false
namespace Go.Gk
open Go
noncomputable section
structure aG where
 X0:Int
 Y0:Int
 X1:Int
 Y1:Int
 deriving DecidableEq,Inhabited
structure jy where
 X:Int
 Y:Int
 deriving DecidableEq,Inhabited
structure bJ where
 At:jy
 cZ:Int
 cH:Int
 To:Int
 kx:Bool
 deriving DecidableEq,Inhabited
structure cU where
 Part:dY
 ik:dY
 eU:Int
 At:jy
 deriving DecidableEq,Inhabited
structure fu where
 aI: (List (List aG))
 bZ: (List aG)
 aR: (List bJ)
 bI: (List cU)
 deriving DecidableEq,Inhabited
structure aA where
 Y0:Int
 Y1:Int
 Xs: (List Int)
 deriving DecidableEq,Inhabited
structure ik where
 Part:dY
 ik:dY
 deriving DecidableEq,Inhabited
structure aN where
 eU:Int
 Set: (List aA)
 pj: (List aG)
 deriving DecidableEq,Inhabited
structure eB where
 oW: (List Int)
 aR: (List Int)
 j4: (List ik)
 deriving DecidableEq,Inhabited
structure lT where
 bJ:Bool
 Number:Int
 deriving DecidableEq,Inhabited
structure aF where
 from_:Int
 to:Int
 deriving DecidableEq,Inhabited
structure aK where
 from_:Int
 to:Int
 iK: (List aF)
 deriving DecidableEq,Inhabited
def sf (N:Nat) (p0 p1 p2:Int):Option (Bool):=
 some ((decide (p0>=p1))&&(decide (p0<=p2)))
def lh (N:Nat) (p0:Int):Option (Bool):=
 (sf N p0 (-1000000) 1000000).bind fun j=>some j
def mD (N:Nat) (p0:aG):Option (Bool):=
 ((lh N p0.X0).bind fun j=>bif j then ((lh N p0.Y0).bind fun o=>bif o then ((lh N p0.X1).bind fun aa=>bif aa then ((lh N p0.Y1).bind fun ab=>some ab) else (some false)) else (some false)) else (some false)).bind fun ad=>some ad
def kK (N:Nat) (p0: (List aG)):Option (Int):=
 bif (decide ((p0.length:Int)>2000)) then (some 2) else ((sW p0.length (fun(o:Nat) (aa:Unit)=>((idx p0 (o:Int)).bind fun j=>(mD N j).bind fun ab=>bif (!ab) then (some (.rt 1)) else (bif ((decide (j.X1<=j.X0))||(decide (j.Y1<=j.Y0))) then (some (.rt 13)) else (some (.nx ()))):Option (Fl (Unit) Int))) ()).bind fun ad=>ad.cs (fun(aa:Unit)=>some 0) (fun r=>some r))
def gx (N:Nat) (p0: (List aG)):Option ((List aG)):=
 (app 32 ([]: (List aG)) p0).bind fun j=>some j
def jF (N:Nat) (p0 p1:aG):Option (Int):=
 some (IntKind.wrap .i64 (p0.Y0 - p1.Y0))
def gS (N:Nat) (p0: (List Int)):Option ((List Int)):=
 bif (decide ((p0.length:Int)<2)) then (some p0) else ((kD (fun(o:Int)=>(bif (decide (o< (p0.length:Int))) then ((idx p0 o).bind fun ab=>(idx p0 (IntKind.wrap .i64 (o - 1))).bind fun ad=>bif (ab==ad) then ((tt p0 o (p0.length:Int)).bind fun ak=>(kD (fun(j: (List Int)×Int×Int)=>(bif (decide (j.2.2< (((j.1.length - Int.toNat o):Nat):Int))) then ((Dq j.1 o j.2.2).bind fun ae=>(Dq j.1 o (IntKind.wrap .i64 (j.2.2 - 1))).bind fun af=>(bif (ae != af) then ((Dq j.1 o j.2.2).bind fun ag=>(idx j.1 j.2.1).bind fun al=>some ((j.1.set (Int.toNat j.2.1) ag),(IntKind.wrap .i64 (j.2.1+1)))) else (some (j.1,j.2.1))).bind fun aa=>some (.nx (aa.1,aa.2,(IntKind.wrap .i64 (j.2.2+1))))) else (some (.br (j.1,j.2.1,j.2.2))):Option (Fl ((List Int)×Int×Int) Empty))) N (p0,o,1)).bind fun ah=>ah.cs (fun(j: (List Int)×Int×Int)=>(tt j.1 j.2.1 (j.1.length:Int)).bind fun an=>(tt (j.1.take (Int.toNat j.2.1)++List.replicate (j.1.length - Int.toNat j.2.1) (0:Int)) 0 j.2.1).bind fun ai=>some (.rt ai)) (fun r=>r.elim)) else (some (.nx (IntKind.wrap .i64 (o+1))))) else (some (.br o)):Option (Fl (Int) (List Int)))) N 1).bind fun aj=>aj.cs (fun(o:Int)=>some p0) (fun r=>some r))
def nT (N:Nat) (p0:aG) (p1: (List Int)) (p2:Int):Option (Bool):=
 (idx p1 p2).bind fun j=>some (decide (p0.Y1<=j))
def lN (N:Nat) (p0: (List aG)) (p1:aG->Option Bool):Option (Int):=
 (sW p0.length (fun(j:Nat) (o:Unit)=>((idx p0 (j:Int)).bind fun aa=>(p1 aa).bind fun ab=>bif ab then (some (.rt (j:Int))) else (some (.nx ())):Option (Fl (Unit) Int))) ()).bind fun ad=>ad.cs (fun(o:Unit)=>some (-1)) (fun r=>some r)
def ky (N:Nat) (p0: (List aG)) (p1:aG->Option Bool):Option (Int):=
 (sW p0.length (fun(j:Nat) (o:Unit)=>((idx p0 (j:Int)).bind fun aa=>(p1 aa).bind fun ab=>bif ab then (some (.rt (j:Int))) else (some (.nx ())):Option (Fl (Unit) Int))) ()).bind fun ad=>ad.cs (fun(o:Unit)=>some (-1)) (fun r=>some r)
def iz (N:Nat) (p0: (List aG)) (p1:aG->Option Bool):Option ((List aG)):=
 (ky N p0 p1).bind fun o=>bif (o==(-1)) then (some p0) else ((kD (fun(j: (List aG)×Int×Int)=>(bif (decide (j.2.2< (j.1.length:Int))) then ((idx j.1 j.2.2).bind fun aa=>(p1 aa).bind fun ad=>(bif (!ad) then ((idx j.1 j.2.1).bind fun ag=>some ((j.1.set (Int.toNat j.2.1) aa),(IntKind.wrap .i64 (j.2.1+1)))) else (some (j.1,j.2.1))).bind fun ab=>some (.nx (ab.1,ab.2,(IntKind.wrap .i64 (j.2.2+1))))) else (some (.br (j.1,j.2.1,j.2.2))):Option (Fl ((List aG)×Int×Int) Empty))) N (p0,o,(IntKind.wrap .i64 (o+1)))).bind fun ae=>ae.cs (fun(j: (List aG)×Int×Int)=>(tt j.1 j.2.1 (j.1.length:Int)).bind fun ah=>(tt (j.1.take (Int.toNat j.2.1)++List.replicate (j.1.length - Int.toNat j.2.1) (⟨0,0,0,0⟩:aG)) 0 j.2.1).bind fun af=>some af) (fun r=>r.elim))
def gT (N:Nat) (p0 p1:aG):Option (Int):=
 some (IntKind.wrap .i64 (p0.X0 - p1.X0))
def jk (N:Nat) (p0: (List aG)):Option ((List Int)×(List aG)):=
 (v9 (gT N) p0).bind fun aa=>(mN aa.length (fun(ad:Nat) (j: (List Int))=>((idx aa (ad:Int)).bind fun o=>(bif (decide ((IntKind.wrap .i64 ((j.length:Int) - 1))>=0)) then ((idx j (IntKind.wrap .i64 ((j.length:Int) - 1))).bind fun ae=>some (decide (o.X0<=ae))) else (some false)).bind fun af=>(bif af then ((idx j (IntKind.wrap .i64 ((j.length:Int) - 1))).bind fun ab=>(idx j (IntKind.wrap .i64 ((j.length:Int) - 1))).bind fun ai=>some (j.set (Int.toNat (IntKind.wrap .i64 ((j.length:Int) - 1))) (if ab<o.X1 then o.X1 else ab))) else ((app 8 j ([o.X0,o.X1]: (List Int))).bind fun ag=>some ag)).bind fun ah=>some ah:Option ((List Int)))) ([]: (List Int))).bind fun j=>some (j,aa)
def mE (N:Nat) (p0: (List Int)) (p1: (List Int)):Option (Bool):=
 bif ((p0.length:Int) != (p1.length:Int)) then (some false) else ((sW p0.length (fun(j:Nat) (o:Unit)=>((idx p0 (j:Int)).bind fun aa=>(idx p1 (j:Int)).bind fun ab=>bif (aa != ab) then (some (.rt false)) else (some (.nx ())):Option (Fl (Unit) Bool))) ()).bind fun ad=>ad.cs (fun(o:Unit)=>some true) (fun r=>some r))
def i6 (N:Nat) (p0: (List aA)) (p1:aA):Option ((List aA)):=
 bif (((p1.Xs.length:Int)==0)||(decide (p1.Y1<=p1.Y0))) then (some p0) else ((bif (decide ((IntKind.wrap .i64 ((p0.length:Int) - 1))>=0)) then ((idx p0 (IntKind.wrap .i64 ((p0.length:Int) - 1))).bind fun j=>bif (j.Y1==p1.Y0) then ((idx p0 (IntKind.wrap .i64 ((p0.length:Int) - 1))).bind fun o=>(mE N o.Xs p1.Xs).bind fun aa=>some aa) else (some false)) else (some false)).bind fun ab=>bif ab then ((idx p0 (IntKind.wrap .i64 ((p0.length:Int) - 1))).bind fun ad=>some (p0.set (Int.toNat (IntKind.wrap .i64 ((p0.length:Int) - 1))) ({ad with Y1:=p1.Y1}))) else ((app 40 p0 ([p1]: (List aA))).bind fun ae=>some ae))
def dN (N:Nat) (p0: (List aG)):Option ((List aA)):=
 (gx N p0).bind fun ag=>(v9 (jF N) ag).bind fun aa=>(mN aa.length (fun(ah:Nat) (ad: (List Int))=>((idx aa (ah:Int)).bind fun ae=>(app 8 ad ([ae.Y0,ae.Y1]: (List Int))).bind fun ai=>some ai:Option ((List Int)))) ([]: (List Int))).bind fun ad=>(tA ad).bind fun aj=>(gS N aj).bind fun ab=>(kD (fun(j: (List aA)×(List aG)×Int×Int)=>(bif (decide ((IntKind.wrap .i64 (j.2.2.2+1))< (ab.length:Int))) then ((iz N j.2.1 (fun y0=>nT N y0 ab j.2.2.2)).bind fun ak=>(kD (fun(o: (List aG)×Int)=>((bif (decide (o.2< (aa.length:Int))) then ((idx aa o.2).bind fun al=>(idx ab j.2.2.2).bind fun an=>some (decide (al.Y0<=an))) else (some false)).bind fun ao=>bif ao then ((idx aa o.2).bind fun aq=>(app 32 o.1 ([aq]: (List aG))).bind fun ar=>some (.nx (ar,(IntKind.wrap .i64 (o.2+1))))) else (some (.br (o.1,o.2))):Option (Fl ((List aG)×Int) Empty))) N (ak,j.2.2.1)).bind fun au=>au.cs (fun(o: (List aG)×Int)=>(idx ab j.2.2.2).bind fun av=>(idx ab (IntKind.wrap .i64 (j.2.2.2+1))).bind fun aw=>(jk N o.1).bind fun af=>(i6 N j.1 (⟨av,aw,af.1⟩:aA)).bind fun ax=>some (.nx (ax,af.2,o.2,(IntKind.wrap .i64 (j.2.2.2+1))))) (fun r=>r.elim)) else (some (.br (j.1,j.2.1,j.2.2.1,j.2.2.2))):Option (Fl ((List aA)×(List aG)×Int×Int) Empty))) N (([]: (List aA)),([]: (List aG)),0,0)).bind fun ay=>ay.cs (fun(j: (List aA)×(List aG)×Int×Int)=>some j.1) (fun r=>r.elim)
def iL (N:Nat) (p0: (List aA)):Option ((List aG)):=
 (mN p0.length (fun(ab:Nat) (aa: (List aG))=>((idx p0 (ab:Int)).bind fun o=>(kD (fun(j: (List aG)×Int)=>(bif (decide (j.2< (o.Xs.length:Int))) then ((idx o.Xs j.2).bind fun ad=>(idx o.Xs (IntKind.wrap .i64 (j.2+1))).bind fun ae=>(app 32 j.1 ([(⟨ad,o.Y0,ae,o.Y1⟩:aG)]: (List aG))).bind fun af=>some (.nx (af,(IntKind.wrap .i64 (j.2+2))))) else (some (.br (j.1,j.2))):Option (Fl ((List aG)×Int) Empty))) N (aa,0)).bind fun ag=>ag.cs (fun(j: (List aG)×Int)=>some j.1) (fun r=>r.elim):Option ((List aG)))) ([]: (List aG))).bind fun aa=>some aa
def kb (N:Nat) (p0: (List aG)) (p1: (List aG)):Option (Bool):=
 bif ((p0.length:Int) != (p1.length:Int)) then (some false) else ((sW p0.length (fun(j:Nat) (o:Unit)=>((idx p0 (j:Int)).bind fun aa=>(idx p1 (j:Int)).bind fun ab=>bif (!(decide (aa=ab))) then (some (.rt false)) else (some (.nx ())):Option (Fl (Unit) Bool))) ()).bind fun ad=>ad.cs (fun(o:Unit)=>some true) (fun r=>some r))
def fT (N:Nat) (p0: (List aG)):Option (Int):=
 (kK N p0).bind fun ab=>bif (ab != 0) then (some ab) else ((kD (fun(j:Int)=>(bif (decide (j< (p0.length:Int))) then ((idx p0 (IntKind.wrap .i64 (j - 1))).bind fun o=>(idx p0 j).bind fun aa=>bif ((decide (aa.Y0<o.Y0))||((aa.Y0==o.Y0)&&(decide (aa.X0<=o.X0)))) then (some (.rt 8)) else (some (.nx (IntKind.wrap .i64 (j+1))))) else (some (.br j)):Option (Fl (Int) Int))) N 1).bind fun ad=>ad.cs (fun(j:Int)=>(dN N p0).bind fun ae=>(iL N ae).bind fun af=>(kb N af p0).bind fun ag=>bif (!ag) then (some 3) else (some 0)) (fun r=>some r))
def eV (N:Nat) (p0 p1 p2:Int):Option (Bool):=
 some ((decide (p0>=p1))&&(decide (p0<=p2)))
def jz (N:Nat) (p0:jy):Option (Bool):=
 ((lh N p0.X).bind fun j=>bif j then ((lh N p0.Y).bind fun o=>some o) else (some false)).bind fun aa=>some aa
def ga (N:Nat) (p0:bJ):Option (aG):=
 some (⟨(IntKind.wrap .i64 (p0.At.X - (IntKind.wrap .i64 (Int.tdiv p0.cZ 2)))),(IntKind.wrap .i64 (p0.At.Y - (IntKind.wrap .i64 (Int.tdiv p0.cZ 2)))),(IntKind.wrap .i64 ((IntKind.wrap .i64 (p0.At.X - (IntKind.wrap .i64 (Int.tdiv p0.cZ 2))))+p0.cZ)),(IntKind.wrap .i64 ((IntKind.wrap .i64 (p0.At.Y - (IntKind.wrap .i64 (Int.tdiv p0.cZ 2))))+p0.cZ))⟩:aG)
def mF (N:Nat) (p0: (List aA)):Option (aG):=
 (idx p0 0).bind fun ad=>(idx ad.Xs 0).bind fun ae=>(idx p0 0).bind fun af=>(idx p0 0).bind fun ag=>(idx ag.Xs 1).bind fun ah=>(idx p0 (IntKind.wrap .i64 ((p0.length:Int) - 1))).bind fun ai=>(mN p0.length (fun(aj:Nat) (j:aG)=>((idx p0 (aj:Int)).bind fun o=>(idx o.Xs 0).bind fun aa=>(idx o.Xs (IntKind.wrap .i64 ((o.Xs.length:Int) - 1))).bind fun ab=>some ({{j with X0:=(if aa<j.X0 then aa else j.X0)} with X1:=(if j.X1<ab then ab else j.X1)}):Option (aG))) (⟨ae,af.Y0,ah,ai.Y1⟩:aG)).bind fun j=>some j
def l9 (N:Nat) (p0: (List aA)):Option (Bool):=
 (bif ((p0.length:Int)==0) then (some true) else ((mF N p0).bind fun j=>(mD N j).bind fun o=>some o)).bind fun aa=>some aa
def kz (N:Nat) (p0:bJ):Option (aG×Int):=
 ((eV N p0.cZ 1 10000).bind fun o=>bif (!o) then (some true) else ((jz N p0.At).bind fun aa=>some (!aa))).bind fun ab=>bif ab then (some ((⟨0,0,0,0⟩:aG),1)) else ((ga N p0).bind fun j=>(dN N ([j]: (List aG))).bind fun ad=>(l9 N ad).bind fun ae=>bif (!ae) then (some ((⟨0,0,0,0⟩:aG),1)) else (some (j,0)))
def kc (N:Nat) (p0:fu):Option (Int):=
 bif (decide ((p0.aR.length:Int)>500)) then (some 2) else ((sW p0.aR.length (fun(aa:Nat) (ab:Unit)=>((idx p0.aR (aa:Int)).bind fun j=>(kz N j).bind fun o=>bif (o.2 != 0) then (some (.rt o.2)) else (((eV N j.cH 0 (IntKind.wrap .i64 ((p0.aI.length:Int) - 1))).bind fun ad=>bif (!ad) then (some true) else ((eV N j.To j.cH (IntKind.wrap .i64 ((p0.aI.length:Int) - 1))).bind fun ae=>some (!ae))).bind fun af=>bif af then (some (.rt 1)) else (some (.nx ()))):Option (Fl (Unit) Int))) ()).bind fun ag=>ag.cs (fun(ab:Unit)=>some 0) (fun r=>some r))
def iP (N:Nat) (p0:dY) (p1:Int):Option (Int):=
 some (Lib.indexByte p0.cQ (Int.toNat p1).toUInt8)
def kd (N:Nat) (p0 p1:dY):Option (Int):=
 bif (((p1.cQ.length:Int)==0)||(p1.rW p0)) then (some 0) else (bif ((p1.cQ.length:Int)==1) then ((Dm p1 0).bind fun j=>(iP N p0 (j.toNat:Int)).bind fun o=>some o) else (bif (decide ((p1.cQ.length:Int)>=(p0.cQ.length:Int))) then (some (-1)) else (none)))
def lG (N:Nat) (p0 p1:dY):Option (Int):=
 (kd N p0 p1).bind fun j=>some j
def mW (N:Nat) (p0 p1:dY):Option (Int):=
 bif ((p1.cQ.length:Int)==0) then (none) else (bif ((p1.cQ.length:Int)==1) then ((Dm p1 0).bind fun aa=>some ((Lib.countByte p0.cQ (Int.toNat (aa.toNat:Int)).toUInt8:Nat):Int)) else ((kD (fun(j:dY×Int)=>((lG N j.1 p1).bind fun o=>bif (o==(-1)) then (some (.rt j.2)) else ((vr j.1 (IntKind.wrap .i64 (o+ (p1.cQ.length:Int))) (j.1.cQ.length:Int)).bind fun ab=>some (.nx (ab,(IntKind.wrap .i64 (j.2+1))))):Option (Fl (dY×Int) Int))) N (p0,0)).bind fun ad=>ad.cs (fun(j:dY×Int)=>some 0) (fun r=>some r)))
def mG (N:Nat) (p0 p1:dY) (p2 p3:Int):Option ((List dY)):=
 bif (p3==0) then (some ([]: (List dY))) else (bif (p1.rW (⟨[]⟩)) then (none) else ((bif (decide (p3<0)) then ((mW N p0 p1).bind fun ab=>some (IntKind.wrap .i64 (ab+1))) else (some p3)).bind fun o=>(mk 16 (⟨[]⟩:dY) (if (IntKind.wrap .i64 ((p0.cQ.length:Int)+1))<o then (IntKind.wrap .i64 ((p0.cQ.length:Int)+1)) else o)).bind fun ad=>(kD (fun(j:dY×(List dY)×Int)=>(bif (decide (j.2.2< (IntKind.wrap .i64 ((if (IntKind.wrap .i64 ((p0.cQ.length:Int)+1))<o then (IntKind.wrap .i64 ((p0.cQ.length:Int)+1)) else o) - 1)))) then ((lG N j.1 p1).bind fun aa=>bif (decide (aa<0)) then (some (.br (j.1,j.2.1,j.2.2))) else ((vr j.1 0 (IntKind.wrap .i64 (aa+p2))).bind fun ae=>(idx j.2.1 j.2.2).bind fun ai=>(vr j.1 (IntKind.wrap .i64 (aa+ (p1.cQ.length:Int))) (j.1.cQ.length:Int)).bind fun af=>some (.nx (af,(j.2.1.set (Int.toNat j.2.2) ae),(IntKind.wrap .i64 (j.2.2+1)))))) else (some (.br (j.1,j.2.1,j.2.2))):Option (Fl (dY×(List dY)×Int) Empty))) N (p0,ad,0)).bind fun ag=>ag.cs (fun(j:dY×(List dY)×Int)=>(idx j.2.1 j.2.2).bind fun aj=>(tt (j.2.1.set (Int.toNat j.2.2) j.1) 0 (IntKind.wrap .i64 (j.2.2+1))).bind fun ah=>some ah) (fun r=>r.elim)))
def lH (N:Nat) (p0 p1:dY):Option ((List dY)):=
 (mG N p0 p1 0 (-1)).bind fun j=>some j
def kL (N:Nat) (p0: (List dY)) (p1:dY->Option Bool):Option (Int):=
 (sW p0.length (fun(j:Nat) (o:Unit)=>((idx p0 (j:Int)).bind fun aa=>(p1 aa).bind fun ab=>bif ab then (some (.rt (j:Int))) else (some (.nx ())):Option (Fl (Unit) Int))) ()).bind fun ad=>ad.cs (fun(o:Unit)=>some (-1)) (fun r=>some r)
def iA (N:Nat) (p0: (List dY)) (p1:dY->Option Bool):Option (Bool):=
 (kL N p0 p1).bind fun j=>some (decide (j>=0))
def gz (N:Nat) (p0:dY) (p1:Int):Option (Int):=
 (iP N p0 p1).bind fun j=>some j
def i7 (N:Nat) (p0:dY):Option (Bool):=
 (sW p0.cQ.length (fun(o:Nat) (aa:Unit)=>((Dm p0 (o:Int)).bind fun j=>(bif ((((decide ((j.toNat:Int)<65))||(decide ((j.toNat:Int)>90)))&&((decide ((j.toNat:Int)<97))||(decide ((j.toNat:Int)>122))))&&((decide ((j.toNat:Int)<48))||(decide ((j.toNat:Int)>57)))) then ((gz N (⟨[95,43,45,35]⟩) (j.toNat:Int)).bind fun ab=>some (decide (ab<0))) else (some false)).bind fun ad=>bif ad then (some (.rt false)) else (some (.nx ())):Option (Fl (Unit) Bool))) ()).bind fun ae=>ae.cs (fun(aa:Unit)=>some ((decide ((p0.cQ.length:Int)>=1))&&(decide ((p0.cQ.length:Int)<=40)))) (fun r=>some r)
def iB (N:Nat) (p0:dY):Option (Bool):=
 (i7 N p0).bind fun j=>some (!j)
def ma (N:Nat) (p0:dY):Option (Bool):=
 (bif (decide ((p0.cQ.length:Int)<=200)) then ((lH N p0 (⟨[47]⟩)).bind fun j=>(iA N j (iB N)).bind fun o=>some (!o)) else (some false)).bind fun aa=>some aa
def mH (N:Nat) (p0:cU):Option (ik):=
 some (⟨p0.Part,p0.ik⟩:ik)
def lO (N:Nat) (p0 p1:dY):Option (Int):=
 some (Lib.compareBytes p0.cQ p1.cQ)
def ng (N:Nat) (p0 p1:dY):Option (Int):=
 (lO N p0 p1).bind fun j=>some j
def jq (N:Nat) (p0 p1:ik):Option (Int):=
 (ng N p0.Part p1.Part).bind fun j=>bif (j != 0) then (some j) else ((ng N p0.ik p1.ik).bind fun o=>some o)
def ke (N:Nat) (p0:fu):Option (Int):=
 bif (decide ((p0.bI.length:Int)>1000)) then (some 2) else ((sW p0.bI.length (fun(o:Nat) (aa:Unit)=>((idx p0.bI (o:Int)).bind fun j=>((ma N j.Part).bind fun ab=>bif (!ab) then (some true) else ((i7 N j.ik).bind fun ad=>some (!ad))).bind fun ae=>bif ae then (some (.rt 5)) else (((eV N j.eU 0 (IntKind.wrap .i64 ((p0.aI.length:Int) - 1))).bind fun af=>bif (!af) then (some true) else ((jz N j.At).bind fun ag=>some (!ag))).bind fun ah=>bif ah then (some (.rt 1)) else ((bif (decide ((o:Int)>0)) then ((idx p0.bI (IntKind.wrap .i64 ((o:Int) - 1))).bind fun ai=>(mH N j).bind fun aj=>(mH N ai).bind fun ak=>(jq N aj ak).bind fun al=>some (decide (al<=0))) else (some false)).bind fun an=>bif an then (some (.rt 8)) else (some (.nx ())))):Option (Fl (Unit) Int))) ()).bind fun ao=>ao.cs (fun(aa:Unit)=>some 0) (fun r=>some r))
def lI (N:Nat) (p0 p1:Int) (p2 p3:Int):Option (Int):=
 some (if (if 0< (IntKind.wrap .i64 ((IntKind.wrap .i64 (p2 - p1))+1)) then (IntKind.wrap .i64 ((IntKind.wrap .i64 (p2 - p1))+1)) else 0)< (IntKind.wrap .i64 ((IntKind.wrap .i64 (p0 - p3))+1)) then (IntKind.wrap .i64 ((IntKind.wrap .i64 (p0 - p3))+1)) else (if 0< (IntKind.wrap .i64 ((IntKind.wrap .i64 (p2 - p1))+1)) then (IntKind.wrap .i64 ((IntKind.wrap .i64 (p2 - p1))+1)) else 0))
def re (N:Nat) (p0 p1:aG):Option (Int):=
 (lI N p0.X0 p0.X1 p1.X0 p1.X1).bind fun j=>(lI N p0.Y0 p0.Y1 p1.Y0 p1.Y1).bind fun o=>some (if j<o then o else j)
def kM (N:Nat) (p0:bJ) (p1:Int):Option (Bool):=
 some ((decide (p0.cH<=p1))&&(decide (p1<=p0.To)))
def mI (N:Nat) (p0: (List aA)) (p1 p2:Int):Option ((List Int)×Int):=
 bif ((p0.length:Int)==0) then (some (([]: (List Int)),p2)) else ((idx p0 0).bind fun aa=>bif (decide (p1<aa.Y0)) then ((idx p0 0).bind fun j=>some (([]: (List Int)),(if j.Y0<p2 then j.Y0 else p2))) else ((idx p0 0).bind fun ab=>(idx p0 0).bind fun o=>some (ab.Xs,(if o.Y1<p2 then o.Y1 else p2))))
def pQ (N:Nat) (p0: (List Int)) (p1: (List Int)) (p2:Bool->Bool->Option Bool):Option ((List Int)):=
 (kD (fun(j: (List Int)×(List Int)×(List Int)×Bool×Bool×Bool)=>((bif (decide ((j.1.length:Int)>0)) then (some true) else (some (decide ((j.2.1.length:Int)>0)))).bind fun af=>bif af then ((bif ((j.2.1.length:Int)==0) then (some true) else (bif (decide ((j.1.length:Int)>0)) then ((idx j.1 0).bind fun ag=>(idx j.2.1 0).bind fun ah=>some (decide (ag<=ah))) else (some false))).bind fun ai=>(bif ai then ((idx j.1 0).bind fun aj=>some aj) else ((idx j.2.1 0).bind fun ak=>some ak)).bind fun o=>(bif (decide ((j.1.length:Int)>0)) then ((idx j.1 0).bind fun al=>some (al==o)) else (some false)).bind fun an=>(bif an then ((tt j.1 1 (j.1.length:Int)).bind fun ao=>some (ao,(!j.2.2.2.1))) else (some (j.1,j.2.2.2.1))).bind fun aa=>(bif (decide ((j.2.1.length:Int)>0)) then ((idx j.2.1 0).bind fun aq=>some (aq==o)) else (some false)).bind fun ar=>(bif ar then ((tt j.2.1 1 (j.2.1.length:Int)).bind fun au=>some (au,(!j.2.2.2.2.1))) else (some (j.2.1,j.2.2.2.2.1))).bind fun ab=>(p2 aa.2 ab.2).bind fun ad=>(bif (ad != j.2.2.2.2.2) then ((app 8 j.2.2.1 ([o]: (List Int))).bind fun av=>some (av,ad)) else (some (j.2.2.1,j.2.2.2.2.2))).bind fun ae=>some (.nx (aa.1,ab.1,ae.1,aa.2,ab.2,ae.2))) else (some (.br (j.1,j.2.1,j.2.2.1,j.2.2.2.1,j.2.2.2.2.1,j.2.2.2.2.2))):Option (Fl ((List Int)×(List Int)×(List Int)×Bool×Bool×Bool) Empty))) N (p0,p1,([]: (List Int)),false,false,false)).bind fun aw=>aw.cs (fun(j: (List Int)×(List Int)×(List Int)×Bool×Bool×Bool)=>some j.2.2.1) (fun r=>r.elim)
def kY (N:Nat) (p0: (List aA)) (p1: (List aA)) (p2:Bool->Bool->Option Bool):Option ((List aA)):=
 bif ((IntKind.wrap .i64 ((p0.length:Int)+ (p1.length:Int)))==0) then (some ([]: (List aA))) else ((mN (([p0,p1]: (List (List aA))).length) (fun(ah:Nat) (o:Int×Int)=>((idx ([p0,p1]: (List (List aA))) (ah:Int)).bind fun ad=>(bif (decide ((ad.length:Int)>0)) then ((bif ((ah:Int)==0) then (some true) else (some ((p0.length:Int)==0))).bind fun al=>(bif al then ((idx ad 0).bind fun an=>(idx ad (IntKind.wrap .i64 ((ad.length:Int) - 1))).bind fun ao=>some (an.Y0,ao.Y1)) else (some (o.1,o.2))).bind fun ag=>(idx ad 0).bind fun ai=>(idx ad (IntKind.wrap .i64 ((ad.length:Int) - 1))).bind fun aj=>some ((if ai.Y0<ag.1 then ai.Y0 else ag.1),(if ag.2<aj.Y1 then aj.Y1 else ag.2))) else (some (o.1,o.2))).bind fun ak=>some (ak.1,ak.2):Option (Int×Int))) (0,0)).bind fun o=>(kD (fun(j: (List aA)×(List aA)×(List aA)×Int)=>(bif (decide (j.2.2.2<o.2)) then ((kD (fun(aa: (List aA))=>((bif (decide ((aa.length:Int)>0)) then ((idx aa 0).bind fun aq=>some (decide (aq.Y1<=j.2.2.2))) else (some false)).bind fun ar=>bif ar then ((tt aa 1 (aa.length:Int)).bind fun au=>some (.nx au)) else (some (.br aa)):Option (Fl ((List aA)) Empty))) N j.1).bind fun av=>av.cs (fun(aa: (List aA))=>(kD (fun(ab: (List aA))=>((bif (decide ((ab.length:Int)>0)) then ((idx ab 0).bind fun aw=>some (decide (aw.Y1<=j.2.2.2))) else (some false)).bind fun ax=>bif ax then ((tt ab 1 (ab.length:Int)).bind fun ay=>some (.nx ay)) else (some (.br ab)):Option (Fl ((List aA)) Empty))) N j.2.1).bind fun az=>az.cs (fun(ab: (List aA))=>(mI N aa j.2.2.2 o.2).bind fun ae=>(mI N ab j.2.2.2 o.2).bind fun af=>(pQ N ae.1 af.1 p2).bind fun a0=>(i6 N j.2.2.1 (⟨j.2.2.2,(if af.2<ae.2 then af.2 else ae.2),a0⟩:aA)).bind fun a1=>some (.nx (aa,ab,a1,(if af.2<ae.2 then af.2 else ae.2)))) (fun r=>r.elim)) (fun r=>r.elim)) else (some (.br (j.1,j.2.1,j.2.2.1,j.2.2.2))):Option (Fl ((List aA)×(List aA)×(List aA)×Int) Empty))) N (p0,p1,([]: (List aA)),o.1)).bind fun a2=>a2.cs (fun(j: (List aA)×(List aA)×(List aA)×Int)=>some j.2.2.1) (fun r=>r.elim))
def lU (N:Nat) (p0 p1:Bool):Option (Bool):=
 some (p0&&(!p1))
def i9 (N:Nat) (p0: (List aA)) (p1: (List aA)):Option ((List aA)):=
 (kY N p0 p1 (lU N)).bind fun j=>some j
def kN (N:Nat) (p0: (List aA)):Option (Int):=
 (mN p0.length (fun(o:Nat) (j:Int)=>((idx p0 (o:Int)).bind fun aa=>some (IntKind.wrap .i64 (j+ (IntKind.wrap .i64 (Int.tdiv (aa.Xs.length:Int) 2)))):Option (Int))) 0).bind fun j=>some j
def fz (N:Nat) (p0:Int) (p1_0: (List Int)):Option (Int×(List Int)):=
 (kD (fun(j:Int×(List Int))=>((idx j.2 j.1).bind fun aa=>bif (aa != j.1) then ((idx j.2 j.1).bind fun ab=>(idx j.2 ab).bind fun o=>(idx j.2 j.1).bind fun af=>(idx (j.2.set (Int.toNat j.1) o) j.1).bind fun ad=>some (.nx (ad,(j.2.set (Int.toNat j.1) o)))) else (some (.br (j.1,j.2))):Option (Fl (Int×(List Int)) Empty))) N (p0,p1_0)).bind fun ae=>ae.cs (fun(j:Int×(List Int))=>some (j.1,j.2)) (fun r=>r.elim)
def lB (N:Nat) (p0: (List aA)):Option ((List (List aA))):=
 (iL N p0).bind fun ab=>(mk 8 (0:Int) (ab.length:Int)).bind fun an=>(mN an.length (fun(ai:Nat) (ag: (List Int))=>((idx ag (ai:Int)).bind fun bd=>some (ag.set (Int.toNat (ai:Int)) (ai:Int)):Option ((List Int)))) an).bind fun ag=>(mN p0.length (fun(aj:Nat) (aa: (List Int)×Int×Int)=>((idx p0 (aj:Int)).bind fun ak=>(bif (decide ((aj:Int)>0)) then ((idx p0 (IntKind.wrap .i64 ((aj:Int) - 1))).bind fun ar=>some (ar.Y1==ak.Y0)) else (some false)).bind fun au=>(bif au then ((kD (fun(j: (List Int)×Int×Int)=>(bif ((decide (j.2.1<aa.2.1))&&(decide (j.2.2< (IntKind.wrap .i64 (aa.2.1+ (IntKind.wrap .i64 (Int.tdiv (ak.Xs.length:Int) 2))))))) then (((idx ab j.2.1).bind fun av=>(idx ab j.2.2).bind fun aw=>bif (decide (av.X0<aw.X1)) then ((idx ab j.2.2).bind fun ax=>(idx ab j.2.1).bind fun ay=>some (decide (ax.X0<ay.X1))) else (some false)).bind fun az=>(bif az then ((fz N j.2.1 j.1).bind fun ae=>(fz N j.2.2 ae.2).bind fun ad=>(idx ad.2 (if ae.1<ad.1 then ad.1 else ae.1)).bind fun bf=>some (ad.2.set (Int.toNat (if ae.1<ad.1 then ad.1 else ae.1)) (if ad.1<ae.1 then ad.1 else ae.1))) else (some j.1)).bind fun a0=>(idx ab j.2.1).bind fun a1=>(idx ab j.2.2).bind fun a2=>(bif (decide (a1.X1<a2.X1)) then (some ((IntKind.wrap .i64 (j.2.1+1)),j.2.2)) else (some (j.2.1,(IntKind.wrap .i64 (j.2.2+1))))).bind fun ao=>some (.nx (a0,ao.1,ao.2))) else (some (.br (j.1,j.2.1,j.2.2))):Option (Fl ((List Int)×Int×Int) Empty))) N (aa.1,aa.2.2,aa.2.1)).bind fun a3=>a3.cs (fun(j: (List Int)×Int×Int)=>some j.1) (fun r=>r.elim)) else (some aa.1)).bind fun a4=>some (a4,(IntKind.wrap .i64 (aa.2.1+ (IntKind.wrap .i64 (Int.tdiv (ak.Xs.length:Int) 2)))),aa.2.1):Option ((List Int)×Int×Int))) (ag,0,0)).bind fun aa=>(mN ab.length (fun(aq:Nat) (o: (List Int)×(List (Int×Int))×(List (List aG)))=>((idx ab (aq:Int)).bind fun a5=>(fz N (aq:Int) o.1).bind fun ah=>(bif (!(te o.2.1 ah.1)) then ((app 24 o.2.2 [([]: (List aG))]).bind fun a6=>some ((uK o.2.1 ah.1 (o.2.2.length:Int)),a6,(o.2.2.length:Int))) else (some (o.2.1,o.2.2,(i5 o.2.1 ah.1 (0:Int))))).bind fun af=>(idx af.2.1 af.2.2).bind fun a7=>(app 32 a7 ([a5]: (List aG))).bind fun a8=>(idx af.2.1 af.2.2).bind fun bg=>some (ah.2,af.1,(af.2.1.set (Int.toNat af.2.2) a8)):Option ((List Int)×(List (Int×Int))×(List (List aG))))) (aa.1,([]: (List (Int×Int))),([]: (List (List aG))))).bind fun o=>(mN o.2.2.length (fun(a9:Nat) (al: (List (List aA)))=>((idx o.2.2 (a9:Int)).bind fun ba=>(dN N ba).bind fun bb=>(app 24 al ([bb]: (List (List aA)))).bind fun bc=>some bc:Option ((List (List aA))))) ([]: (List (List aA)))).bind fun al=>some al
def jG (N:Nat) (p0_0: (List (List aG))) (p0_2: (List bJ)) (p0_4: (List (List aA))) (p0_5: (List aN)):Option (Bool×(List (List aA))×(List aN)):=
 (mN p0_0.length (fun(aa:Nat) (j: (List (List aA))×(List aN)×Bool)=>((idx p0_0 (aa:Int)).bind fun ai=>(mN p0_2.length (fun(aj:Nat) (o: (List aG))=>((idx p0_2 (aj:Int)).bind fun af=>(kM N af (aa:Int)).bind fun ak=>(bif ak then ((ga N af).bind fun al=>(app 32 o ([al]: (List aG))).bind fun an=>some an) else (some o)).bind fun ao=>some ao:Option ((List aG)))) ([]: (List aG))).bind fun o=>(dN N ai).bind fun aq=>(dN N o).bind fun ar=>(i9 N aq ar).bind fun ab=>(bif j.2.2 then ((kN N ab).bind fun au=>some ((decide (au<=2000)),ab)) else (some (false,ab))).bind fun ad=>(app 24 j.1 ([ad.2]: (List (List aA)))).bind fun av=>(lB N ad.2).bind fun ag=>(mN ag.length (fun(aw:Nat) (ae: (List aN))=>((idx ag (aw:Int)).bind fun ah=>(iL N ah).bind fun ax=>(app 56 ae ([(⟨(aa:Int),ah,ax⟩:aN)]: (List aN))).bind fun ay=>some ay:Option ((List aN)))) j.2.1).bind fun ae=>some (av,ae,ad.1):Option ((List (List aA))×(List aN)×Bool))) (p0_4,p0_5,true)).bind fun j=>(bif j.2.2 then (some (decide ((j.2.1.length:Int)<=2000))) else (some false)).bind fun az=>some (az,j.1,j.2.1)
def qN (N:Nat) (p0 p1:aG):Option (Bool):=
 some ((((decide (p0.X0<p1.X1))&&(decide (p1.X0<p0.X1)))&&((p0.Y1==p1.Y0)||(p1.Y1==p0.Y0)))||(((decide (p0.Y0<p1.Y1))&&(decide (p1.Y0<p0.Y1)))&&((p0.X1==p1.X0)||(p1.X1==p0.X0))))
def jV (N:Nat) (p0:aG) (p1:bJ):Option (Bool):=
 (ga N p1).bind fun j=>(qN N p0 j).bind fun o=>some o
def gH (N:Nat) (p0: (List aG)) (p1:aG->Option Bool):Option (Bool):=
 (lN N p0 p1).bind fun j=>some (decide (j>=0))
def jH (N:Nat) (p0_2: (List bJ)) (p0_5: (List aN)) (p0_6: (List (List Int))):Option ((List (List Int))):=
 (mN p0_2.length (fun(ae:Nat) (o: (List (List Int)))=>((idx p0_2 (ae:Int)).bind fun aa=>(mN p0_5.length (fun(ab:Nat) (j: (List Int))=>((idx p0_5 (ab:Int)).bind fun ad=>(bif aa.kx then ((kM N aa ad.eU).bind fun af=>bif af then ((gH N ad.pj (fun y0=>jV N y0 aa)).bind fun ag=>some ag) else (some false)) else (some false)).bind fun ah=>(bif ah then ((app 8 j ([(ab:Int)]: (List Int))).bind fun ai=>some ai) else (some j)).bind fun aj=>some aj:Option ((List Int)))) ([]: (List Int))).bind fun j=>(app 24 o ([j]: (List (List Int)))).bind fun ak=>some ak:Option ((List (List Int))))) p0_6).bind fun o=>some o
def kO (N:Nat) (p0:Int):Option (((List Int))):=
 (mk 8 (0:Int) p0).bind fun aa=>(mN aa.length (fun(o:Nat) (j: (List Int))=>((idx j (o:Int)).bind fun ab=>some (j.set (Int.toNat (o:Int)) (o:Int)):Option ((List Int)))) aa).bind fun j=>some j
def gA (N:Nat) (p0_0: (List Int)) (p1:Int):Option (Int×(List Int)):=
 (kD (fun(j: (List Int)×Int)=>((idx j.1 j.2).bind fun aa=>bif (aa != j.2) then ((idx j.1 j.2).bind fun ab=>(idx j.1 ab).bind fun o=>(idx j.1 j.2).bind fun af=>(idx (j.1.set (Int.toNat j.2) o) j.2).bind fun ad=>some (.nx ((j.1.set (Int.toNat j.2) o),ad))) else (some (.br (j.1,j.2))):Option (Fl ((List Int)×Int) Empty))) N (p0_0,p1)).bind fun ae=>ae.cs (fun(j: (List Int)×Int)=>some (j.2,j.1)) (fun r=>r.elim)
def gU (N:Nat) (p0_0: (List Int)) (p1 p2:Int):Option ((List Int)):=
 (gA N p0_0 p1).bind fun o=>(gA N o.2 p2).bind fun j=>(idx j.2 (if o.1<j.1 then j.1 else o.1)).bind fun aa=>some (j.2.set (Int.toNat (if o.1<j.1 then j.1 else o.1)) (if j.1<o.1 then j.1 else o.1))
def jI (N:Nat) (p0_0: (List Int)):Option ((List (List Int))×(List Int)):=
 (mN p0_0.length (fun(ab:Nat) (j: (List Int)×(List (List Int))×(List (Int×Int)))=>((gA N j.1 (ab:Int)).bind fun aa=>(bif (aa.1==(ab:Int)) then ((app 24 j.2.1 [([]: (List Int))]).bind fun ad=>some (ad,(uK j.2.2 (ab:Int) (j.2.1.length:Int)))) else (some (j.2.1,j.2.2))).bind fun o=>(idx o.1 (i5 o.2 aa.1 (0:Int))).bind fun ae=>(app 8 ae ([(ab:Int)]: (List Int))).bind fun af=>(idx o.1 (i5 o.2 aa.1 (0:Int))).bind fun ag=>some (aa.2,(o.1.set (Int.toNat (i5 o.2 aa.1 (0:Int))) af),o.2):Option ((List Int)×(List (List Int))×(List (Int×Int))))) (p0_0,([]: (List (List Int))),([]: (List (Int×Int))))).bind fun j=>some (j.2.1,j.1)
def lj (N:Nat) (p0:aG) (p1:jy):Option (Bool):=
 (bif (decide (p1.X>=p0.X0)) then (bif (decide (p1.X<p0.X1)) then (bif (decide (p1.Y>=p0.Y0)) then (some (decide (p1.Y<p0.Y1))) else (some false)) else (some false)) else (some false)).bind fun j=>some j
def j7 (N:Nat) (p0: (List aG)) (p1:jy):Option (Bool):=
 (gH N p0 (fun y0=>lj N y0 p1)).bind fun j=>some j
def jJ (N:Nat) (p0_2: (List bJ)) (p0_5: (List aN)) (p1:cU):Option (lT×Bool):=
 (sW p0_2.length (fun(o:Nat) (ad:Unit)=>((idx p0_2 (o:Int)).bind fun j=>(bif j.kx then ((kM N j p1.eU).bind fun ae=>bif ae then ((ga N j).bind fun af=>(j7 N ([af]: (List aG)) p1.At).bind fun ag=>some ag) else (some false)) else (some false)).bind fun ah=>bif ah then (some (.rt ((⟨true,(o:Int)⟩:lT),true))) else (some (.nx ())):Option (Fl (Unit) (lT×Bool)))) ()).bind fun ai=>ai.cs (fun(ad:Unit)=>(sW p0_5.length (fun(aa:Nat) (aj:Unit)=>((idx p0_5 (aa:Int)).bind fun ab=>(bif (ab.eU==p1.eU) then ((j7 N ab.pj p1.At).bind fun ak=>some ak) else (some false)).bind fun al=>bif al then (some (.rt ((⟨false,(aa:Int)⟩:lT),true))) else (some (.nx ())):Option (Fl (Unit) (lT×Bool)))) ()).bind fun an=>an.cs (fun(aj:Unit)=>some ((⟨false,0⟩:lT),false)) (fun r=>some r)) (fun r=>some r)
def gX (N:Nat) (p0_8: (List Int)) (p0_9: (List Int)) (p1:lT):Option (Int):=
 bif p1.bJ then ((idx p0_9 p1.Number).bind fun j=>some j) else ((idx p0_8 p1.Number).bind fun o=>some o)
def f0 (N:Nat) (p0_2: (List bJ)) (p0_3: (List cU)) (p0_5: (List aN)) (p0_6: (List (List Int))) (p0_8: (List Int)) (p0_9: (List Int)) (p0_10: (List Int)) (p0_11: (List lT)):Option ((List eB)×(List Int)×(List Int)×(List Int)×(List lT)):=
 (kO N (IntKind.wrap .i64 ((p0_5.length:Int)+ (p0_2.length:Int)))).bind fun ar=>(mN p0_6.length (fun(ai:Nat) (af: (List Int))=>((idx p0_6 (ai:Int)).bind fun aj=>(mN aj.length (fun(au:Nat) (ag: (List Int))=>((idx aj (au:Int)).bind fun av=>(gU N ag av (IntKind.wrap .i64 ((p0_5.length:Int)+ (ai:Int)))).bind fun aw=>some aw:Option ((List Int)))) af).bind fun ag=>some ag:Option ((List Int)))) ar).bind fun af=>(mk 8 (0:Int) (p0_5.length:Int)).bind fun ax=>(mk 8 (0:Int) (p0_2.length:Int)).bind fun ay=>(jI N af).bind fun ak=>(mN ak.1.length (fun(az:Nat) (aa: (List eB)×(List Int)×(List Int))=>((idx ak.1 (az:Int)).bind fun al=>(mN al.length (fun(a0:Nat) (j: (List Int)×(List Int)×(List Int)×(List Int))=>((idx al (a0:Int)).bind fun ab=>(bif (decide (ab< (p0_5.length:Int))) then ((idx j.1 ab).bind fun bd=>(app 8 j.2.2.1 ([ab]: (List Int))).bind fun a1=>some ((j.1.set (Int.toNat ab) (aa.1.length:Int)),j.2.1,a1,j.2.2.2)) else ((idx p0_2 (IntKind.wrap .i64 (ab - (p0_5.length:Int)))).bind fun a2=>(bif a2.kx then ((idx j.2.1 (IntKind.wrap .i64 (ab - (p0_5.length:Int)))).bind fun bf=>(app 8 j.2.2.2 ([(IntKind.wrap .i64 (ab - (p0_5.length:Int)))]: (List Int))).bind fun a3=>some ((j.2.1.set (Int.toNat (IntKind.wrap .i64 (ab - (p0_5.length:Int)))) (aa.1.length:Int)),a3)) else ((idx j.2.1 (IntKind.wrap .i64 (ab - (p0_5.length:Int)))).bind fun bg=>some ((j.2.1.set (Int.toNat (IntKind.wrap .i64 (ab - (p0_5.length:Int)))) (-1)),j.2.2.2))).bind fun an=>some (j.1,an.1,j.2.2.1,an.2))).bind fun ad=>some (ad.1,ad.2.1,ad.2.2.1,ad.2.2.2):Option ((List Int)×(List Int)×(List Int)×(List Int)))) (aa.2.1,aa.2.2,([]: (List Int)),([]: (List Int)))).bind fun j=>(bif (decide ((IntKind.wrap .i64 ((j.2.2.1.length:Int)+ (j.2.2.2.length:Int)))>0)) then ((app 72 aa.1 [(⟨j.2.2.1,j.2.2.2,([]: (List ik))⟩:eB)]).bind fun a4=>some a4) else (some aa.1)).bind fun a5=>some (a5,j.1,j.2.1):Option ((List eB)×(List Int)×(List Int)))) (([]: (List eB)),ax,ay)).bind fun aa=>(mN p0_3.length (fun(a6:Nat) (o: (List eB)×(List Int)×(List Int)×(List Int)×(List lT))=>((idx p0_3 (a6:Int)).bind fun ao=>(jJ N p0_2 p0_5 ao).bind fun ah=>(bif ah.2 then ((gX N o.2.1 o.2.2.1 ah.1).bind fun ae=>(idx o.1 ae).bind fun a7=>(mH N ao).bind fun a8=>(app 32 a7.j4 ([a8]: (List ik))).bind fun a9=>(idx o.1 ae).bind fun ba=>some ((o.1.set (Int.toNat ae) {ba with j4:=a9}),ae)) else (some (o.1,(-1)))).bind fun aq=>(app 8 o.2.2.2.1 ([aq.2]: (List Int))).bind fun bb=>(app 16 o.2.2.2.2 ([ah.1]: (List lT))).bind fun bc=>some (aq.1,o.2.1,o.2.2.1,bb,bc):Option ((List eB)×(List Int)×(List Int)×(List Int)×(List lT)))) (aa.1,aa.2.1,aa.2.2,p0_10,p0_11)).bind fun o=>some (o.1,o.2.1,o.2.2.1,o.2.2.2.1,o.2.2.2.2)
def kf (N:Nat) (p0:fu):Option (Option ((List (List aG))×(List aG)×(List bJ)×(List cU)×(List (List aA))×(List aN)×(List (List Int))×(List eB)×(List Int)×(List Int)×(List Int)×(List lT))×Int):=
 bif ((p0.aI.length:Int)==0) then (some (none,9)) else (bif (decide ((p0.aI.length:Int)>16)) then (some (none,2)) else ((sW p0.aI.length (fun(an:Nat) (aa:Int)=>((idx p0.aI (an:Int)).bind fun ae=>(fT N ae).bind fun af=>bif (af != 0) then (some (.rt (none,af))) else (some (.nx (IntKind.wrap .i64 (aa+ (ae.length:Int))))):Option (Fl (Int) (Option ((List (List aG))×(List aG)×(List bJ)×(List cU)×(List (List aA))×(List aN)×(List (List Int))×(List eB)×(List Int)×(List Int)×(List Int)×(List lT))×Int)))) (p0.bZ.length:Int)).bind fun ao=>ao.cs (fun(aa:Int)=>(fT N p0.bZ).bind fun ag=>bif (ag != 0) then (some (none,ag)) else (bif (decide (aa>2000)) then (some (none,2)) else ((kc N p0).bind fun ah=>bif (ah != 0) then (some (none,ah)) else ((ke N p0).bind fun ai=>bif (ai != 0) then (some (none,ai)) else ((sW p0.aR.length (fun(aj:Nat) (aq:Unit)=>((idx p0.aR (aj:Int)).bind fun ab=>(tt p0.aR 0 (aj:Int)).bind fun ak=>(sW ak.length (fun(ar:Nat) (au:Unit)=>((idx ak (ar:Int)).bind fun ad=>(bif ((decide (ab.cH<=ad.To))&&(decide (ad.cH<=ab.To))) then ((ga N ab).bind fun av=>(ga N ad).bind fun aw=>(re N av aw).bind fun ax=>some (ax==0)) else (some false)).bind fun ay=>bif ay then (some (.rt (none,12))) else (some (.nx ())):Option (Fl (Unit) (Option ((List (List aG))×(List aG)×(List bJ)×(List cU)×(List (List aA))×(List aN)×(List (List Int))×(List eB)×(List Int)×(List Int)×(List Int)×(List lT))×Int)))) ()).bind fun az=>az.cs (fun(au:Unit)=>some (.nx ())) (fun r=>some (.rt r)):Option (Fl (Unit) (Option ((List (List aG))×(List aG)×(List bJ)×(List cU)×(List (List aA))×(List aN)×(List (List Int))×(List eB)×(List Int)×(List Int)×(List Int)×(List lT))×Int)))) ()).bind fun a0=>a0.cs (fun(aq:Unit)=>(jG N p0.aI p0.aR ([]: (List (List aA))) ([]: (List aN))).bind fun j=>bif (!j.1) then (some (none,2)) else ((jH N p0.aR j.2.2 ([]: (List (List Int)))).bind fun al=>(f0 N p0.aR p0.bI j.2.2 al ([]: (List Int)) ([]: (List Int)) ([]: (List Int)) ([]: (List lT))).bind fun o=>some (some (p0.aI,p0.bZ,p0.aR,p0.bI,j.2.1,j.2.2,al,o.1,o.2.1,o.2.2.1,o.2.2.2.1,o.2.2.2.2),0))) (fun r=>some r)))))) (fun r=>some r)))
def eO (N:Nat) (p0:fu):Option (Int):=
 (kf N p0).bind fun j=>Jf j.1 (some j.2) (fun(o: ((List (List aG))×(List aG)×(List bJ)×(List cU)×(List (List aA))×(List aN)×(List (List Int))×(List eB)×(List Int)×(List Int)×(List Int)×(List lT)))=>some j.2)
def ni (N:Nat) (p0 p1:Bool):Option (Bool):=
 some (p0||p1)
def py (N:Nat) (p0: (List aA)) (p1: (List aA)):Option ((List aA)):=
 (kY N p0 p1 (ni N)).bind fun j=>some j
def jK (N:Nat) (p0: (List aA)):Option ((List aG)×Int):=
 (kN N p0).bind fun j=>bif (decide (j>2000)) then (some (([]: (List aG)),2)) else ((iL N p0).bind fun o=>some (o,0))
def kg (N:Nat) (p0: (List (List aG))):Option ((List (List aG))):=
 (app 24 ([]: (List (List aG))) p0).bind fun j=>some j
def lV (N:Nat) (p0: (List bJ)):Option ((List bJ)):=
 (app 48 ([]: (List bJ)) p0).bind fun j=>some j
def lW (N:Nat) (p0: (List cU)):Option ((List cU)):=
 (app 56 ([]: (List cU)) p0).bind fun j=>some j
def np (N:Nat) (p0:fu):Option (((List (List aG))×(List aG)×(List bJ)×(List cU))):=
 (kg N p0.aI).bind fun aa=>(mN aa.length (fun(o:Nat) (j: (List (List aG)))=>((idx j (o:Int)).bind fun ab=>(gx N ab).bind fun ad=>(idx j (o:Int)).bind fun ah=>some (j.set (Int.toNat (o:Int)) ad):Option ((List (List aG))))) aa).bind fun j=>(gx N p0.bZ).bind fun ae=>(lV N p0.aR).bind fun af=>(lW N p0.bI).bind fun ag=>some (j,ae,af,ag)
def kh (N:Nat) (p0:fu) (p1:Int) (p2: (List aG)):Option (fu×Int):=
 (eO N p0).bind fun aa=>bif (aa != 0) then (some ((⟨([]: (List (List aG))),([]: (List aG)),([]: (List bJ)),([]: (List cU))⟩:fu),aa)) else ((eV N p1 0 (IntKind.wrap .i64 ((p0.aI.length:Int) - 1))).bind fun ae=>bif (!ae) then (some ((⟨([]: (List (List aG))),([]: (List aG)),([]: (List bJ)),([]: (List cU))⟩:fu),9)) else ((fT N p2).bind fun ab=>bif (ab != 0) then (some ((⟨([]: (List (List aG))),([]: (List aG)),([]: (List bJ)),([]: (List cU))⟩:fu),ab)) else ((idx p0.aI p1).bind fun af=>(dN N af).bind fun ag=>(dN N p2).bind fun ah=>(py N ag ah).bind fun ai=>(jK N ai).bind fun o=>bif (o.2 != 0) then (some ((⟨([]: (List (List aG))),([]: (List aG)),([]: (List bJ)),([]: (List cU))⟩:fu),o.2)) else ((np N p0).bind fun j=>(idx j.1 p1).bind fun aj=>(eO N (⟨(j.1.set (Int.toNat p1) o.1),j.2.1,j.2.2.1,j.2.2.2⟩:fu)).bind fun ad=>bif (ad != 0) then (some ((⟨([]: (List (List aG))),([]: (List aG)),([]: (List bJ)),([]: (List cU))⟩:fu),ad)) else (some ((⟨(j.1.set (Int.toNat p1) o.1),j.2.1,j.2.2.1,j.2.2.2⟩:fu),0))))))
def oI (N:Nat) (p0:fu) (p1:Int) (p2: (List aG)):Option (fu×Int):=
 (kh N p0 p1 p2).bind fun j=>some (j.1,j.2)
def mb (N:Nat) (p0 p1 p2:Int):Option (Bool):=
 some ((decide (p0>=p1))&&(decide (p0<=p2)))
def cJ (N:Nat) (p0:Int):Option (Bool):=
 (mb N p0 (-1000000) 1000000).bind fun j=>some j
def gI (N:Nat) (p0: (List aG)):Option (Int):=
 bif (decide ((p0.length:Int)>2000)) then (some 2) else ((kD (fun(o:Int)=>(bif (decide (o< (p0.length:Int))) then ((idx p0 o).bind fun j=>((cJ N j.X0).bind fun aa=>bif (!aa) then (some true) else ((cJ N j.Y0).bind fun ab=>bif (!ab) then (some true) else ((cJ N j.X1).bind fun ad=>bif (!ad) then (some true) else ((cJ N j.Y1).bind fun ae=>some (!ae))))).bind fun af=>bif af then (some (.rt 1)) else (bif ((decide (j.X1<=j.X0))||(decide (j.Y1<=j.Y0))) then (some (.rt 13)) else (some (.nx (IntKind.wrap .i64 (o+1)))))) else (some (.br o)):Option (Fl (Int) Int))) N 0).bind fun ag=>ag.cs (fun(o:Int)=>some 0) (fun r=>some r))
def gY (N:Nat) (p0 p1:aG):Option (Bool):=
 some ((decide (p0.Y0<p1.Y0))||((p0.Y0==p1.Y0)&&(decide (p0.X0<p1.X0))))
def eW (N:Nat) (p0: (List Int)) (p1:Int):Option ((List Int)):=
 (kD (fun(j:Int×Int)=>(bif (decide (j.1<j.2)) then ((idx p0 (IntKind.wrap .i64 (Int.tdiv (IntKind.wrap .i64 (j.1+j.2)) 2))).bind fun aa=>(bif (decide (aa<p1)) then (some ((IntKind.wrap .i64 ((IntKind.wrap .i64 (Int.tdiv (IntKind.wrap .i64 (j.1+j.2)) 2))+1)),j.2)) else (some (j.1,(IntKind.wrap .i64 (Int.tdiv (IntKind.wrap .i64 (j.1+j.2)) 2))))).bind fun o=>some (.nx (o.1,o.2))) else (some (.br (j.1,j.2))):Option (Fl (Int×Int) Empty))) N (0,(p0.length:Int))).bind fun ab=>ab.cs (fun(j:Int×Int)=>(bif (decide (j.1< (p0.length:Int))) then ((idx p0 j.1).bind fun ad=>some (ad==p1)) else (some false)).bind fun ae=>bif ae then (some p0) else ((tt p0 0 j.1).bind fun af=>(app 8 ([]: (List Int)) af).bind fun ag=>(app 8 ag ([p1]: (List Int))).bind fun ah=>(tt p0 j.1 (p0.length:Int)).bind fun ai=>(app 8 ah ai).bind fun aj=>some aj)) (fun r=>r.elim)
def gE (N:Nat) (p0: (List aG)):Option ((List Int)):=
 (kD (fun(j: (List Int)×Int)=>(bif (decide (j.2< (p0.length:Int))) then ((idx p0 j.2).bind fun o=>(idx p0 j.2).bind fun aa=>(eW N j.1 o.Y0).bind fun ab=>(eW N ab aa.Y1).bind fun ad=>some (.nx (ad,(IntKind.wrap .i64 (j.2+1))))) else (some (.br (j.1,j.2))):Option (Fl ((List Int)×Int) Empty))) N (([]: (List Int)),0)).bind fun ae=>ae.cs (fun(j: (List Int)×Int)=>some j.1) (fun r=>r.elim)
def gZ (N:Nat) (p0: (List aF)) (p1:aF):Option ((List aF)):=
 (kD (fun(o: (List aF)×Int)=>((bif (decide (o.2< (p0.length:Int))) then ((idx p0 o.2).bind fun ad=>some (decide (ad.to<p1.from_))) else (some false)).bind fun ae=>bif ae then ((idx p0 o.2).bind fun af=>(app 16 o.1 ([af]: (List aF))).bind fun ag=>some (.nx (ag,(IntKind.wrap .i64 (o.2+1))))) else (some (.br (o.1,o.2))):Option (Fl ((List aF)×Int) Empty))) N (([]: (List aF)),0)).bind fun ah=>ah.cs (fun(o: (List aF)×Int)=>(kD (fun(j:aF×Int)=>((bif (decide (j.2< (p0.length:Int))) then ((idx p0 j.2).bind fun ai=>some (decide (ai.from_<=j.1.to))) else (some false)).bind fun aj=>bif aj then ((idx p0 j.2).bind fun aa=>(idx p0 j.2).bind fun ab=>some (.nx ({{j.1 with from_:=(if aa.from_<j.1.from_ then aa.from_ else j.1.from_)} with to:=(if j.1.to<ab.to then ab.to else j.1.to)},(IntKind.wrap .i64 (j.2+1))))) else (some (.br (j.1,j.2))):Option (Fl (aF×Int) Empty))) N (p1,o.2)).bind fun ak=>ak.cs (fun(j:aF×Int)=>(app 16 o.1 ([j.1]: (List aF))).bind fun al=>(tt p0 j.2 (p0.length:Int)).bind fun an=>(app 16 al an).bind fun ao=>some ao) (fun r=>r.elim)) (fun r=>r.elim)
def iC (N:Nat) (p0: (List aG)) (p1:Int):Option ((List aF)):=
 (kD (fun(j: (List aF)×Int)=>(bif (decide (j.2< (p0.length:Int))) then (((idx p0 j.2).bind fun o=>bif (decide (o.Y0<=p1)) then ((idx p0 j.2).bind fun aa=>some (decide (p1<aa.Y1))) else (some false)).bind fun ab=>(bif ab then ((idx p0 j.2).bind fun ad=>(idx p0 j.2).bind fun ae=>(gZ N j.1 (⟨ad.X0,ae.X1⟩:aF)).bind fun af=>some af) else (some j.1)).bind fun ag=>some (.nx (ag,(IntKind.wrap .i64 (j.2+1))))) else (some (.br (j.1,j.2))):Option (Fl ((List aF)×Int) Empty))) N (([]: (List aF)),0)).bind fun ah=>ah.cs (fun(j: (List aF)×Int)=>some j.1) (fun r=>r.elim)
def jf (N:Nat) (p0: (List aF)) (p1: (List aF)):Option (Bool):=
 bif ((p0.length:Int) != (p1.length:Int)) then (some false) else ((kD (fun(j:Int)=>(bif (decide (j< (p0.length:Int))) then ((idx p0 j).bind fun o=>(idx p1 j).bind fun aa=>bif (!(decide (o=aa))) then (some (.rt false)) else (some (.nx (IntKind.wrap .i64 (j+1))))) else (some (.br j)):Option (Fl (Int) Bool))) N 0).bind fun ab=>ab.cs (fun(j:Int)=>some true) (fun r=>some r))
def fO (N:Nat) (p0: (List aK)) (p1:aK):Option ((List aK)):=
 bif ((p1.iK.length:Int)==0) then (some p0) else ((bif (decide ((p0.length:Int)>0)) then ((idx p0 (IntKind.wrap .i64 ((p0.length:Int) - 1))).bind fun j=>bif (j.to==p1.from_) then ((idx p0 (IntKind.wrap .i64 ((p0.length:Int) - 1))).bind fun o=>(jf N o.iK p1.iK).bind fun aa=>some aa) else (some false)) else (some false)).bind fun ab=>bif ab then ((idx p0 (IntKind.wrap .i64 ((p0.length:Int) - 1))).bind fun ad=>some (p0.set (Int.toNat (IntKind.wrap .i64 ((p0.length:Int) - 1))) ({ad with to:=p1.to}))) else ((app 40 p0 ([p1]: (List aK))).bind fun ae=>some ae))
def iU (N:Nat) (p0: (List aK)):Option ((List aG)):=
 (kD (fun(j: (List aG)×Int)=>(bif (decide (j.2< (p0.length:Int))) then ((kD (fun(o: (List aG)×Int)=>((idx p0 j.2).bind fun aa=>bif (decide (o.2< (aa.iK.length:Int))) then ((idx p0 j.2).bind fun ab=>(idx ab.iK o.2).bind fun ad=>(idx p0 j.2).bind fun ae=>(idx p0 j.2).bind fun af=>(idx af.iK o.2).bind fun ag=>(idx p0 j.2).bind fun ah=>(app 32 o.1 ([(⟨ad.from_,ae.from_,ag.to,ah.to⟩:aG)]: (List aG))).bind fun ai=>some (.nx (ai,(IntKind.wrap .i64 (o.2+1))))) else (some (.br (o.1,o.2))):Option (Fl ((List aG)×Int) Empty))) N (j.1,0)).bind fun aj=>aj.cs (fun(o: (List aG)×Int)=>some (.nx (o.1,(IntKind.wrap .i64 (j.2+1))))) (fun r=>r.elim)) else (some (.br (j.1,j.2))):Option (Fl ((List aG)×Int) Empty))) N (([]: (List aG)),0)).bind fun ak=>ak.cs (fun(j: (List aG)×Int)=>some j.1) (fun r=>r.elim)
def eP (N:Nat) (p0: (List aG)):Option ((List aG)):=
 (gE N p0).bind fun o=>(kD (fun(j: (List aK)×Int)=>(bif (decide (j.2< (o.length:Int))) then ((idx o (IntKind.wrap .i64 (j.2 - 1))).bind fun aa=>(idx o j.2).bind fun ab=>(idx o (IntKind.wrap .i64 (j.2 - 1))).bind fun ad=>(iC N p0 ad).bind fun ae=>(fO N j.1 (⟨aa,ab,ae⟩:aK)).bind fun af=>some (.nx (af,(IntKind.wrap .i64 (j.2+1))))) else (some (.br (j.1,j.2))):Option (Fl ((List aK)×Int) Empty))) N (([]: (List aK)),1)).bind fun ag=>ag.cs (fun(j: (List aK)×Int)=>(iU N j.1).bind fun ah=>some ah) (fun r=>r.elim)
def dL (N:Nat) (p0: (List aG)) (p1: (List aG)):Option (Bool):=
 bif ((p0.length:Int) != (p1.length:Int)) then (some false) else ((kD (fun(j:Int)=>(bif (decide (j< (p0.length:Int))) then ((idx p0 j).bind fun o=>(idx p1 j).bind fun aa=>bif (!(decide (o=aa))) then (some (.rt false)) else (some (.nx (IntKind.wrap .i64 (j+1))))) else (some (.br j)):Option (Fl (Int) Bool))) N 0).bind fun ab=>ab.cs (fun(j:Int)=>some true) (fun r=>some r))
def eA (N:Nat) (p0: (List aG)):Option (Int):=
 (gI N p0).bind fun o=>bif (o != 0) then (some o) else ((kD (fun(j:Int)=>(bif (decide (j< (p0.length:Int))) then ((idx p0 (IntKind.wrap .i64 (j - 1))).bind fun aa=>(idx p0 j).bind fun ab=>(gY N aa ab).bind fun ad=>bif (!ad) then (some (.rt 8)) else (some (.nx (IntKind.wrap .i64 (j+1))))) else (some (.br j)):Option (Fl (Int) Int))) N 1).bind fun ae=>ae.cs (fun(j:Int)=>(eP N p0).bind fun af=>(dL N p0 af).bind fun ag=>bif (!ag) then (some 3) else (some 0)) (fun r=>some r))
def cP (N:Nat) (p0 p1 p2:Int):Option (Bool):=
 some ((decide (p0>=p1))&&(decide (p0<=p2)))
def fP (N:Nat) (p0:jy):Option (Bool):=
 ((cJ N p0.X).bind fun j=>bif j then ((cJ N p0.Y).bind fun o=>some o) else (some false)).bind fun aa=>some aa
def cV (N:Nat) (p0:bJ):Option (aG):=
 some (⟨(IntKind.wrap .i64 (p0.At.X - (IntKind.wrap .i64 (Int.tdiv p0.cZ 2)))),(IntKind.wrap .i64 (p0.At.Y - (IntKind.wrap .i64 (Int.tdiv p0.cZ 2)))),(IntKind.wrap .i64 ((IntKind.wrap .i64 (p0.At.X - (IntKind.wrap .i64 (Int.tdiv p0.cZ 2))))+p0.cZ)),(IntKind.wrap .i64 ((IntKind.wrap .i64 (p0.At.Y - (IntKind.wrap .i64 (Int.tdiv p0.cZ 2))))+p0.cZ))⟩:aG)
def gq (N:Nat) (p0:bJ):Option (Int):=
 ((cP N p0.cZ 1 10000).bind fun o=>bif (!o) then (some true) else ((fP N p0.At).bind fun aa=>some (!aa))).bind fun ab=>bif ab then (some 1) else ((cV N p0).bind fun j=>((cJ N j.X0).bind fun ad=>bif (!ad) then (some true) else ((cJ N j.Y0).bind fun ae=>bif (!ae) then (some true) else ((cJ N j.X1).bind fun af=>bif (!af) then (some true) else ((cJ N j.Y1).bind fun ag=>some (!ag))))).bind fun ah=>bif ah then (some 1) else (some 0))
def f9 (N:Nat) (p0:dY):Option (Bool):=
 (kD (fun(o:Int)=>(bif (decide (o< (p0.cQ.length:Int))) then ((Dm p0 o).bind fun j=>(bif (!((((decide ((j.toNat:Int)>=97))&&(decide ((j.toNat:Int)<=122)))||((decide ((j.toNat:Int)>=65))&&(decide ((j.toNat:Int)<=90))))||((decide ((j.toNat:Int)>=48))&&(decide ((j.toNat:Int)<=57))))) then ((gz N (⟨[95,43,45,35]⟩) (j.toNat:Int)).bind fun aa=>some (decide (aa<0))) else (some false)).bind fun ab=>bif ab then (some (.rt false)) else (some (.nx (IntKind.wrap .i64 (o+1))))) else (some (.br o)):Option (Fl (Int) Bool))) N 0).bind fun ad=>ad.cs (fun(o:Int)=>(cP N (p0.cQ.length:Int) 1 40).bind fun ae=>some ae) (fun r=>some r)
def ja (N:Nat) (p0:dY):Option (Bool):=
 (lH N p0 (⟨[47]⟩)).bind fun o=>(kD (fun(j:Int)=>(bif (decide (j< (o.length:Int))) then ((idx o j).bind fun aa=>(f9 N aa).bind fun ab=>bif (!ab) then (some (.rt false)) else (some (.nx (IntKind.wrap .i64 (j+1))))) else (some (.br j)):Option (Fl (Int) Bool))) N 0).bind fun ad=>ad.cs (fun(j:Int)=>some (decide ((p0.cQ.length:Int)<=200))) (fun r=>some r)
def g8 (N:Nat) (p0:fu) (p1:Int):Option (Int):=
 (idx p0.bI p1).bind fun j=>((ja N j.Part).bind fun aa=>bif (!aa) then (some true) else ((f9 N j.ik).bind fun ab=>some (!ab))).bind fun ad=>bif ad then (some 5) else (((cP N j.eU 0 (IntKind.wrap .i64 ((p0.aI.length:Int) - 1))).bind fun ae=>bif (!ae) then (some true) else ((fP N j.At).bind fun af=>some (!af))).bind fun ag=>bif ag then (some 1) else (bif (decide (p1>0)) then ((idx p0.bI (IntKind.wrap .i64 (p1 - 1))).bind fun o=>bif ((j.Part.rX o.Part)||((j.Part.rW o.Part)&&(j.ik.rX o.ik||j.ik.rW o.ik))) then (some 8) else (some 0)) else (some 0)))
def gJ (N:Nat) (p0:fu):Option (Int):=
 bif ((p0.aI.length:Int)==0) then (some 9) else (bif (decide ((p0.aI.length:Int)>16)) then (some 2) else ((kD (fun(j:Int×Int)=>(bif (decide (j.2< (p0.aI.length:Int))) then ((idx p0.aI j.2).bind fun ah=>(eA N ah).bind fun ad=>bif (ad != 0) then (some (.rt ad)) else ((idx p0.aI j.2).bind fun ai=>some (.nx ((IntKind.wrap .i64 (j.1+ (ai.length:Int))),(IntKind.wrap .i64 (j.2+1)))))) else (some (.br (j.1,j.2))):Option (Fl (Int×Int) Int))) N ((p0.bZ.length:Int),0)).bind fun aj=>aj.cs (fun(j:Int×Int)=>(eA N p0.bZ).bind fun ae=>bif (ae != 0) then (some ae) else ((bif (decide (j.1>2000)) then (some true) else (some (decide ((p0.aR.length:Int)>500)))).bind fun ak=>bif ak then (some 2) else ((kD (fun(o:Int)=>(bif (decide (o< (p0.aR.length:Int))) then ((idx p0.aR o).bind fun ab=>(gq N ab).bind fun af=>bif (af != 0) then (some (.rt af)) else (((cP N ab.cH 0 (IntKind.wrap .i64 ((p0.aI.length:Int) - 1))).bind fun al=>bif (!al) then (some true) else ((cP N ab.To ab.cH (IntKind.wrap .i64 ((p0.aI.length:Int) - 1))).bind fun an=>some (!an))).bind fun ao=>bif ao then (some (.rt 1)) else (some (.nx (IntKind.wrap .i64 (o+1)))))) else (some (.br o)):Option (Fl (Int) Int))) N 0).bind fun aq=>aq.cs (fun(o:Int)=>bif (decide ((p0.bI.length:Int)>1000)) then (some 2) else ((kD (fun(aa:Int)=>(bif (decide (aa< (p0.bI.length:Int))) then ((g8 N p0 aa).bind fun ag=>bif (ag != 0) then (some (.rt ag)) else (some (.nx (IntKind.wrap .i64 (aa+1))))) else (some (.br aa)):Option (Fl (Int) Int))) N 0).bind fun ar=>ar.cs (fun(aa:Int)=>some 0) (fun r=>some r))) (fun r=>some r)))) (fun r=>some r)))
def g9 (N:Nat) (p0 p1:bJ):Option (Bool):=
 some ((decide (p0.cH<=p1.To))&&(decide (p1.cH<=p0.To)))
def fQ (N:Nat) (p0 p1:aG):Option (Bool):=
 (bif (decide ((if p1.X1<p0.X1 then p1.X1 else p0.X1)> (if p0.X0<p1.X0 then p1.X0 else p0.X0))) then (some (decide ((if p1.Y1<p0.Y1 then p1.Y1 else p0.Y1)> (if p0.Y0<p1.Y0 then p1.Y0 else p0.Y0)))) else (some false)).bind fun j=>some j
def jW (N:Nat) (p0:bJ) (p1:Int):Option (Bool):=
 some ((decide (p0.cH<=p1))&&(decide (p1<=p0.To)))
def hG (N:Nat) (p0: (List aF)) (p1:Int):Option (Bool):=
 (kD (fun(j:Int)=>(bif (decide (j< (p0.length:Int))) then (((idx p0 j).bind fun o=>bif (decide (o.from_<=p1)) then ((idx p0 j).bind fun aa=>some (decide (p1<aa.to))) else (some false)).bind fun ab=>bif ab then (some (.rt true)) else (some (.nx (IntKind.wrap .i64 (j+1))))) else (some (.br j)):Option (Fl (Int) Bool))) N 0).bind fun ad=>ad.cs (fun(j:Int)=>some false) (fun r=>some r)
def jr (N:Nat) (p0: (List aF)) (p1: (List aF)) (p2:Int):Option ((List aF)):=
 (kD (fun(aa: (List Int)×Int)=>(bif (decide (aa.2< (p0.length:Int))) then ((idx p0 aa.2).bind fun ae=>(idx p0 aa.2).bind fun af=>(eW N aa.1 ae.from_).bind fun ag=>(eW N ag af.to).bind fun ah=>some (.nx (ah,(IntKind.wrap .i64 (aa.2+1))))) else (some (.br (aa.1,aa.2))):Option (Fl ((List Int)×Int) Empty))) N (([]: (List Int)),0)).bind fun ai=>ai.cs (fun(aa: (List Int)×Int)=>(kD (fun(j: (List Int)×Int)=>(bif (decide (j.2< (p1.length:Int))) then ((idx p1 j.2).bind fun aj=>(idx p1 j.2).bind fun ak=>(eW N j.1 aj.from_).bind fun al=>(eW N al ak.to).bind fun an=>some (.nx (an,(IntKind.wrap .i64 (j.2+1))))) else (some (.br (j.1,j.2))):Option (Fl ((List Int)×Int) Empty))) N (aa.1,0)).bind fun ao=>ao.cs (fun(j: (List Int)×Int)=>(kD (fun(o: (List aF)×Int)=>(bif (decide (o.2< (j.1.length:Int))) then ((idx j.1 (IntKind.wrap .i64 (o.2 - 1))).bind fun aq=>(idx j.1 (IntKind.wrap .i64 (o.2 - 1))).bind fun ar=>(hG N p0 aq).bind fun ab=>(hG N p1 ar).bind fun ad=>(bif ((((p2==1)&&(ab||ad))||(((p2==2)&&ab)&&ad))||(((p2==3)&&ab)&&(!ad))) then ((idx j.1 (IntKind.wrap .i64 (o.2 - 1))).bind fun au=>(idx j.1 o.2).bind fun av=>(gZ N o.1 (⟨au,av⟩:aF)).bind fun aw=>some aw) else (some o.1)).bind fun ax=>some (.nx (ax,(IntKind.wrap .i64 (o.2+1))))) else (some (.br (o.1,o.2))):Option (Fl ((List aF)×Int) Empty))) N (([]: (List aF)),1)).bind fun ay=>ay.cs (fun(o: (List aF)×Int)=>some o.1) (fun r=>r.elim)) (fun r=>r.elim)) (fun r=>r.elim)
def eC (N:Nat) (p0: (List aG)) (p1: (List aG)) (p2:Int):Option ((List aG)):=
 (app 32 ([]: (List aG)) p0).bind fun aa=>(app 32 aa p1).bind fun ab=>(gE N ab).bind fun o=>(kD (fun(j: (List aK)×Int)=>(bif (decide (j.2< (o.length:Int))) then ((idx o (IntKind.wrap .i64 (j.2 - 1))).bind fun ad=>(idx o j.2).bind fun ae=>(idx o (IntKind.wrap .i64 (j.2 - 1))).bind fun af=>(idx o (IntKind.wrap .i64 (j.2 - 1))).bind fun ag=>(iC N p0 af).bind fun ah=>(iC N p1 ag).bind fun ai=>(jr N ah ai p2).bind fun aj=>(fO N j.1 (⟨ad,ae,aj⟩:aK)).bind fun ak=>some (.nx (ak,(IntKind.wrap .i64 (j.2+1))))) else (some (.br (j.1,j.2))):Option (Fl ((List aK)×Int) Empty))) N (([]: (List aK)),1)).bind fun al=>al.cs (fun(j: (List aK)×Int)=>(iU N j.1).bind fun an=>some an) (fun r=>r.elim)
def eK (N:Nat) (p0: (List aG)) (p1: (List aG)):Option ((List aG)):=
 (eC N p0 p1 3).bind fun j=>some j
def hQ (N:Nat) (p0:fu) (p1:Int):Option ((List aG)):=
 (kD (fun(j: (List aG)×Int)=>(bif (decide (j.2< (p0.aR.length:Int))) then ((idx p0.aR j.2).bind fun o=>(jW N o p1).bind fun aa=>(bif aa then ((idx p0.aR j.2).bind fun ab=>(cV N ab).bind fun ad=>(app 32 j.1 ([ad]: (List aG))).bind fun ae=>some ae) else (some j.1)).bind fun af=>some (.nx (af,(IntKind.wrap .i64 (j.2+1))))) else (some (.br (j.1,j.2))):Option (Fl ((List aG)×Int) Empty))) N (([]: (List aG)),0)).bind fun ag=>ag.cs (fun(j: (List aG)×Int)=>(idx p0.aI p1).bind fun ah=>(eP N j.1).bind fun ai=>(eK N ah ai).bind fun aj=>some aj) (fun r=>r.elim)
def iH (N:Nat) (p0 p1:aG):Option (Bool):=
 some (((decide ((IntKind.wrap .i64 ((if p1.X1<p0.X1 then p1.X1 else p0.X1) - (if p0.X0<p1.X0 then p1.X0 else p0.X0)))>0))&&(decide ((IntKind.wrap .i64 ((if p1.Y1<p0.Y1 then p1.Y1 else p0.Y1) - (if p0.Y0<p1.Y0 then p1.Y0 else p0.Y0)))>=0)))||((decide ((IntKind.wrap .i64 ((if p1.X1<p0.X1 then p1.X1 else p0.X1) - (if p0.X0<p1.X0 then p1.X0 else p0.X0)))>=0))&&(decide ((IntKind.wrap .i64 ((if p1.Y1<p0.Y1 then p1.Y1 else p0.Y1) - (if p0.Y0<p1.Y0 then p1.Y0 else p0.Y0)))>0))))
def jc (N:Nat) (p0: (List (List aG))) (p1: (List aG)):Option ((List (List aG))):=
 (kD (fun(j:Int)=>((bif (decide (j>0)) then ((idx p1 0).bind fun o=>(idx p0 (IntKind.wrap .i64 (j - 1))).bind fun aa=>(idx aa 0).bind fun ab=>(gY N o ab).bind fun ad=>some ad) else (some false)).bind fun ae=>bif ae then (some (.nx (IntKind.wrap .i64 (j - 1)))) else (some (.br j)):Option (Fl (Int) Empty))) N (p0.length:Int)).bind fun af=>af.cs (fun(j:Int)=>(tt p0 0 j).bind fun ag=>(app 24 ([]: (List (List aG))) ag).bind fun ah=>(app 24 ah ([p1]: (List (List aG)))).bind fun ai=>(tt p0 j (p0.length:Int)).bind fun aj=>(app 24 ai aj).bind fun ak=>some ak) (fun r=>r.elim)
def gk (N:Nat) (p0: (List aG)):Option ((List (List aG))):=
 (mk 1 (false:Bool) (p0.length:Int)).bind fun ad=>(kD (fun(o: (List Bool)×(List (List aG))×Int)=>(bif (decide (o.2.2< (p0.length:Int))) then ((idx o.1 o.2.2).bind fun ae=>bif ae then (some (.nx (o.1,o.2.1,(IntKind.wrap .i64 (o.2.2+1))))) else ((idx o.1 o.2.2).bind fun aw=>(idx p0 o.2.2).bind fun af=>(kD (fun(aa: (List Bool)×(List aG)×Int)=>(bif (decide (aa.2.2< (aa.2.1.length:Int))) then ((kD (fun(j: (List Bool)×(List aG)×Int)=>(bif (decide (j.2.2< (p0.length:Int))) then (((idx j.1 j.2.2).bind fun ag=>bif (!ag) then ((idx j.2.1 aa.2.2).bind fun ah=>(idx p0 j.2.2).bind fun ai=>(iH N ah ai).bind fun aj=>some aj) else (some false)).bind fun ak=>(bif ak then ((idx j.1 j.2.2).bind fun ax=>(idx p0 j.2.2).bind fun al=>(app 32 j.2.1 ([al]: (List aG))).bind fun an=>some ((j.1.set (Int.toNat j.2.2) true),an)) else (some (j.1,j.2.1))).bind fun ab=>some (.nx (ab.1,ab.2,(IntKind.wrap .i64 (j.2.2+1))))) else (some (.br (j.1,j.2.1,j.2.2))):Option (Fl ((List Bool)×(List aG)×Int) Empty))) N (aa.1,aa.2.1,0)).bind fun ao=>ao.cs (fun(j: (List Bool)×(List aG)×Int)=>some (.nx (j.1,j.2.1,(IntKind.wrap .i64 (aa.2.2+1))))) (fun r=>r.elim)) else (some (.br (aa.1,aa.2.1,aa.2.2))):Option (Fl ((List Bool)×(List aG)×Int) Empty))) N ((o.1.set (Int.toNat o.2.2) true),([af]: (List aG)),0)).bind fun aq=>aq.cs (fun(aa: (List Bool)×(List aG)×Int)=>(eP N aa.2.1).bind fun ar=>(jc N o.2.1 ar).bind fun au=>some (.nx (aa.1,au,(IntKind.wrap .i64 (o.2.2+1))))) (fun r=>r.elim))) else (some (.br (o.1,o.2.1,o.2.2))):Option (Fl ((List Bool)×(List (List aG))×Int) Empty))) N (ad,([]: (List (List aG))),0)).bind fun av=>av.cs (fun(o: (List Bool)×(List (List aG))×Int)=>some o.2.1) (fun r=>r.elim)
def cW (N:Nat) (p0:fu):Option (Int):=
 (gJ N p0).bind fun ab=>bif (ab != 0) then (some ab) else ((kD (fun(o:Int)=>(bif (decide (o< (p0.aR.length:Int))) then ((kD (fun(aa:Int)=>(bif (decide (aa<o)) then (((idx p0.aR o).bind fun ae=>(idx p0.aR aa).bind fun af=>(g9 N ae af).bind fun ag=>bif ag then ((idx p0.aR o).bind fun ah=>(idx p0.aR aa).bind fun ai=>(cV N ah).bind fun aj=>(cV N ai).bind fun ak=>(fQ N aj ak).bind fun al=>some al) else (some false)).bind fun an=>bif an then (some (.rt 12)) else (some (.nx (IntKind.wrap .i64 (aa+1))))) else (some (.br aa)):Option (Fl (Int) Int))) N 0).bind fun ao=>ao.cs (fun(aa:Int)=>some (.nx (IntKind.wrap .i64 (o+1)))) (fun r=>some (.rt r))) else (some (.br o)):Option (Fl (Int) Int))) N 0).bind fun aq=>aq.cs (fun(o:Int)=>(kD (fun(j:Int×Int)=>(bif (decide (j.2< (p0.aI.length:Int))) then ((hQ N p0 j.2).bind fun ad=>bif (decide ((ad.length:Int)>2000)) then (some (.rt 2)) else ((gk N ad).bind fun ar=>some (.nx ((IntKind.wrap .i64 (j.1+ (ar.length:Int))),(IntKind.wrap .i64 (j.2+1)))))) else (some (.br (j.1,j.2))):Option (Fl (Int×Int) Int))) N (0,0)).bind fun au=>au.cs (fun(j:Int×Int)=>bif (decide (j.1>2000)) then (some 2) else (some 0)) (fun r=>some r)) (fun r=>some r))
def iQ (N:Nat) (p0: (List aG)) (p1: (List aG)):Option ((List aG)):=
 (eC N p0 p1 1).bind fun j=>some j
def gF (N:Nat) (p0:fu) (p1:Int) (p2: (List aG)) (p3:Bool):Option (fu×Int):=
 (cW N p0).bind fun o=>bif (o != 0) then (some ((⟨([]: (List (List aG))),([]: (List aG)),([]: (List bJ)),([]: (List cU))⟩:fu),o)) else ((cP N p1 0 (IntKind.wrap .i64 ((p0.aI.length:Int) - 1))).bind fun ae=>bif (!ae) then (some ((⟨([]: (List (List aG))),([]: (List aG)),([]: (List bJ)),([]: (List cU))⟩:fu),9)) else ((eA N p2).bind fun aa=>bif (aa != 0) then (some ((⟨([]: (List (List aG))),([]: (List aG)),([]: (List bJ)),([]: (List cU))⟩:fu),aa)) else ((idx p0.aI p1).bind fun af=>(eK N af p2).bind fun ag=>(bif p3 then ((idx p0.aI p1).bind fun ah=>(iQ N ah p2).bind fun ai=>some ai) else (some ag)).bind fun ab=>bif (decide ((ab.length:Int)>2000)) then (some ((⟨([]: (List (List aG))),([]: (List aG)),([]: (List bJ)),([]: (List cU))⟩:fu),2)) else ((kD (fun(j: (List aG)×(List (List aG))×Int)=>(bif (decide (j.2.2< (p0.aI.length:Int))) then ((bif (j.2.2==p1) then ((app 24 j.2.1 ([j.1]: (List (List aG)))).bind fun aj=>some aj) else ((idx p0.aI j.2.2).bind fun ak=>(app 24 j.2.1 ([ak]: (List (List aG)))).bind fun al=>some al)).bind fun an=>some (.nx (j.1,an,(IntKind.wrap .i64 (j.2.2+1))))) else (some (.br (j.1,j.2.1,j.2.2))):Option (Fl ((List aG)×(List (List aG))×Int) Empty))) N (ab,([]: (List (List aG))),0)).bind fun ao=>ao.cs (fun(j: (List aG)×(List (List aG))×Int)=>(cW N (⟨j.2.1,p0.bZ,p0.aR,p0.bI⟩:fu)).bind fun ad=>bif (ad != 0) then (some ((⟨([]: (List (List aG))),([]: (List aG)),([]: (List bJ)),([]: (List cU))⟩:fu),ad)) else (some ((⟨j.2.1,p0.bZ,p0.aR,p0.bI⟩:fu),0))) (fun r=>r.elim)))))
def jL (N:Nat) (p0:fu) (p1:Int) (p2: (List aG)):Option (fu×Int):=
 (gF N p0 p1 p2 true).bind fun j=>some (j.1,j.2)
def ki (N:Nat) (p0:fu) (p1:Int) (p2: (List aG)):Option (fu×Int):=
 (eO N p0).bind fun aa=>bif (aa != 0) then (some ((⟨([]: (List (List aG))),([]: (List aG)),([]: (List bJ)),([]: (List cU))⟩:fu),aa)) else ((eV N p1 0 (IntKind.wrap .i64 ((p0.aI.length:Int) - 1))).bind fun ae=>bif (!ae) then (some ((⟨([]: (List (List aG))),([]: (List aG)),([]: (List bJ)),([]: (List cU))⟩:fu),9)) else ((fT N p2).bind fun ab=>bif (ab != 0) then (some ((⟨([]: (List (List aG))),([]: (List aG)),([]: (List bJ)),([]: (List cU))⟩:fu),ab)) else ((idx p0.aI p1).bind fun af=>(dN N af).bind fun ag=>(dN N p2).bind fun ah=>(i9 N ag ah).bind fun ai=>(jK N ai).bind fun o=>bif (o.2 != 0) then (some ((⟨([]: (List (List aG))),([]: (List aG)),([]: (List bJ)),([]: (List cU))⟩:fu),o.2)) else ((np N p0).bind fun j=>(idx j.1 p1).bind fun aj=>(eO N (⟨(j.1.set (Int.toNat p1) o.1),j.2.1,j.2.2.1,j.2.2.2⟩:fu)).bind fun ad=>bif (ad != 0) then (some ((⟨([]: (List (List aG))),([]: (List aG)),([]: (List bJ)),([]: (List cU))⟩:fu),ad)) else (some ((⟨(j.1.set (Int.toNat p1) o.1),j.2.1,j.2.2.1,j.2.2.2⟩:fu),0))))))
def mc (N:Nat) (p0:fu) (p1:Int) (p2: (List aG)):Option (fu×Int):=
 (ki N p0 p1 p2).bind fun j=>some (j.1,j.2)
def iR (N:Nat) (p0:fu) (p1:Int) (p2: (List aG)):Option (fu×Int):=
 (gF N p0 p1 p2 false).bind fun j=>some (j.1,j.2)
def fZ (N:Nat) (p0: (List (List aG))) (p1: (List (List aG))) (p2: (List aG)->(List aG)->Option Bool):Option (Bool):=
 bif ((p0.length:Int) != (p1.length:Int)) then (some false) else ((sW p0.length (fun(j:Nat) (o:Unit)=>((idx p0 (j:Int)).bind fun aa=>(idx p1 (j:Int)).bind fun ab=>(p2 aa ab).bind fun ad=>bif (!ad) then (some (.rt false)) else (some (.nx ())):Option (Fl (Unit) Bool))) ()).bind fun ae=>ae.cs (fun(o:Unit)=>some true) (fun r=>some r))
def lX (N:Nat) (p0: (List bJ)) (p1: (List bJ)):Option (Bool):=
 bif ((p0.length:Int) != (p1.length:Int)) then (some false) else ((sW p0.length (fun(j:Nat) (o:Unit)=>((idx p0 (j:Int)).bind fun aa=>(idx p1 (j:Int)).bind fun ab=>bif (!(decide (aa=ab))) then (some (.rt false)) else (some (.nx ())):Option (Fl (Unit) Bool))) ()).bind fun ad=>ad.cs (fun(o:Unit)=>some true) (fun r=>some r))
def lY (N:Nat) (p0: (List cU)) (p1: (List cU)):Option (Bool):=
 bif ((p0.length:Int) != (p1.length:Int)) then (some false) else ((sW p0.length (fun(j:Nat) (o:Unit)=>((idx p0 (j:Int)).bind fun aa=>(idx p1 (j:Int)).bind fun ab=>bif (!(decide (aa=ab))) then (some (.rt false)) else (some (.nx ())):Option (Fl (Unit) Bool))) ()).bind fun ad=>ad.cs (fun(o:Unit)=>some true) (fun r=>some r))
def gG (N:Nat) (p0 p1:fu):Option (Bool):=
 ((fZ N p0.aI p1.aI (dL N)).bind fun j=>bif j then ((dL N p0.bZ p1.bZ).bind fun o=>bif o then ((lX N p0.aR p1.aR).bind fun aa=>bif aa then ((lY N p0.bI p1.bI).bind fun ab=>some ab) else (some false)) else (some false)) else (some false)).bind fun ad=>some ad
def iI (N:Nat):Option (Bool):=
 (kz N (⟨⟨0,0⟩,2,0,0,false⟩:bJ)).bind fun j=>(bif (j.2==0) then (some (decide (j.1= (⟨(-1),(-1),1,1⟩:aG)))) else (some false)).bind fun o=>some o
def fL (N:Nat) (p0:fu) (p1:Int) (p2: (List aG)):Option (Bool):=
 (oI N p0 p1 p2).bind fun j=>(jL N p0 p1 p2).bind fun o=>(mc N p0 p1 p2).bind fun aa=>(iR N p0 p1 p2).bind fun ab=>((gG N j.1 o.1).bind fun ad=>bif (ad&&(j.2==o.2)) then ((gG N aa.1 ab.1).bind fun ae=>bif (ae&&(aa.2==ab.2)) then ((iI N).bind fun af=>some af) else (some false)) else (some false)).bind fun ag=>some ag
end
end Go.Gk
namespace Go.Gk
open Go
def uO {R:Type} (m:Nat) (e:Nat->Option R):Option R:=(List.range m).findSome? e
theorem nE {R:Type} {m:Nat} {e:Nat->Option R}:uO m e=none↔∀k,k<m->e k=none:=by
 simp [uO]
theorem oA {R:Type} {m:Nat} {e:Nat->Option R} {r:R}:uO m e=some r↔∃k,k<m/\e k=some r/\∀j,j<k->e j=none:=by
 constructor
 ·intro h
  obtain⟨l1,a,l2,hl,ha,hn⟩:=List.findSome?_eq_some_iff.1 h
  have hlen:l1.length<m:=by have:=congrArg List.length hl;simp at this;omega
  have hget: ∀i,i<l1.length->l1[i]? =some i:=fun i hi=>by
   have:=congrArg (·[i]?) hl
   simp only [gj hi,List.getElem?_range (show i<m by omega)] at this
   exact this.symm
  have hat:a=l1.length:=by
   have:=congrArg (·[l1.length]?) hl
   simp [List.getElem?_range hlen] at this
   exact this.symm
  refine⟨a,by omega,ha,fun j hj=>hn j ?_⟩
  exact gh (hget j (by omega))
 ·rintro⟨k,hk,he,hn⟩
  refine List.findSome?_eq_some_iff.2 ⟨List.range k,k,(List.range (m - k - 1)).map (· + (k+1)),?_,he,fun x hx=>hn x (qx.1 hx)⟩
  refine List.ext_getElem? fun i=>?_
  by_cases h1:i<k
  ·rw [gj (by simpa using h1),List.getElem?_range (by omega),List.getElem?_range h1]
  ·rw [gw (by simpa using h1),List.length_range]
   by_cases h2:i=k
   ·subst h2;simp [List.getElem?_range hk]
   ·obtain⟨d,rfl⟩: ∃d,i=k+1+d:=⟨i - (k+1),by omega⟩
    rw [show k+1+d - k=d+1 by omega,List.getElem?_cons_succ,j9]
    by_cases h3:k+1+d<m
    ·rw [List.getElem?_range h3,List.getElem?_range (by omega)];simp;omega
    ·rw [List.getElem?_eq_none (by simp;omega),List.getElem?_eq_none (by simp;omega)];rfl
section
variable {S R:Type}
def Ff (o:Option R) (s:S):Fl S R:=match o with | some r=> .rt r | none=> .nx s
def DB (o:Option R) (s:S):Fo S R:=match o with | some r=> .rt r | none=> .go s
theorem CB {body:Nat->S->Option (Fl S R)} (F:Nat->S) (e:Nat->Option R) (m:Nat): ∀(n k:Nat),k+n=m->
  (∀j,k<=j->j<m->(∀i,k<=i->i<j->e i=none)->body j (F j)=some (Ff (e j) (F (j+1))))->
  ∃o,AU body n k (F k)=some o/\((∀j,k<=j->j<m->e j=none)/\o = .go (F m)\/∃j r,k<=j/\j<m/\e j=some r/\(∀i,k<=i->i<j->e i=none)/\o = .rt r)
 | 0,k,hk,_=>⟨_,rfl, .inl ⟨fun j h1 h2=>by omega,by rw [show k=m by omega]⟩⟩
 | n+1,k,hk,h=>by
  have hb:=h k (bK _) (by omega) (fun i h1 h2=>by omega)
  unfold AU
  rw [hb]
  cases hx:e k with
  | some r=>exact⟨_,rfl, .inr ⟨k,r,bK _,by omega,hx,fun i h1 h2=>by omega,rfl⟩⟩
  | none=>
   obtain⟨o,ho,hc⟩:=CB F e m n (k+1) (by omega) (fun j h1 h2 h3=>h j (by omega) h2 fun i h4 h5=>by
    by_cases h6:i=k
    ·subst h6;exact hx
    ·exact h3 i (by omega) h5)
   refine⟨o,ho,?_⟩
   rcases hc with ⟨h1,h2⟩ | ⟨j,r,h1,h2,h3,h4,h5⟩
   ·refine .inl ⟨fun j h3 h4=>?_,h2⟩
    by_cases h6:j=k
    ·subst h6;exact hx
    ·exact h1 j (by omega) h4
   ·refine .inr ⟨j,r,by omega,h2,h3,fun i h6 h7=>?_,h5⟩
    by_cases h8:i=k
    ·subst h8;exact hx
    ·exact h4 i (by omega) h7
theorem HH {body:Nat->S->Option (Fl S R)} {m:Nat} {s:S} (F:Nat->S) (e:Nat->Option R) (hm:m<=4611686018427387904) (hs:F 0=s)
  (h: ∀k,k<m->(∀i,i<k->e i=none)->body k (F k)=some (Ff (e k) (F (k+1)))):sW m body s=some (DB (uO m e) (F m)):=by
 subst hs
 unfold sW
 rw [aD hm]
 obtain⟨o,ho,hc⟩:=CB F e m m 0 (by omega) (fun j _ h2 h3=>h j h2 fun i hi=>h3 i (fS _) hi)
 rw [ho]
 rcases hc with ⟨h1,h2⟩ | ⟨j,r,_,h2,h3,h4,h5⟩
 ·rw [nE.2 fun k hk=>h1 k (fS _) hk,h2];rfl
 ·rw [oA.2 ⟨j,h2,h3,fun i hi=>h4 i (fS _) hi⟩,h5];rfl
theorem rk {body:Nat->Unit->Option (Fl Unit R)} {m:Nat} (e:Nat->Option R) (hm:m<=4611686018427387904)
  (h: ∀k,k<m->(∀i,i<k->e i=none)->body k ()=some (Ff (e k) ())):sW m body ()=some (DB (uO m e) ()):=
 HH (fun _=>()) e hm rfl h
theorem wz {body:S->Option (Fl S R)} (Inv:S->Prop) (μ:S->Nat) (Go:S->Prop) (Rt:R->Prop)
  (h: ∀s,Inv s->∃fl,body s=some fl/\match fl with | .nx s'=>Inv s'/\μ s'<μ s | .br s'=>Go s' | .rt r=>Rt r):
  ∀(N:Nat) (s:S),Inv s->μ s<N->∃o,kD body N s=some o/\match o with | .go s'=>Go s' | .rt r=>Rt r
 | 0,s,_,hn=>by omega
 | N+1,s,hi,hn=>by
  obtain⟨fl,hb,hf⟩:=h s hi
  unfold kD
  rw [hb]
  cases fl with
  | nx s'=>exact wz Inv μ Go Rt h N s' hf.1 (by have:=hf.2;omega)
  | br s'=>exact⟨_,rfl,hf⟩
  | rt r=>exact⟨_,rfl,hf⟩
theorem CC {body:Nat->S->Option (Fl S R)} (Inv:Nat->S->Prop) (Go:S->Prop) (Rt:R->Prop) (m:Nat)
  (h: ∀k s,k<m->Inv k s->∃fl,body k s=some fl/\match fl with | .nx s'=>Inv (k+1) s' | .br s'=>Go s' | .rt r=>Rt r) (hg: ∀s,Inv m s->Go s):
  ∀(n k:Nat) (s:S),k+n=m->Inv k s->∃o,AU body n k s=some o/\match o with | .go s'=>Go s' | .rt r=>Rt r
 | 0,k,s,hk,hi=>⟨_,rfl,hg s (by rw [<-hk];exact hi)⟩
 | n+1,k,s,hk,hi=>by
  obtain⟨fl,hb,hf⟩:=h k s (by omega) hi
  unfold AU
  rw [hb]
  cases fl with
  | nx s'=>exact CC Inv Go Rt m h hg n (k+1) s' (by omega) hf
  | br s'=>exact⟨_,rfl,hf⟩
  | rt r=>exact⟨_,rfl,hf⟩
theorem HI {body:Nat->S->Option (Fl S R)} {m:Nat} {s:S} (Inv:Nat->S->Prop) (Go:S->Prop) (Rt:R->Prop) (hm:m<=4611686018427387904) (h0:Inv 0 s)
  (h: ∀k s,k<m->Inv k s->∃fl,body k s=some fl/\match fl with | .nx s'=>Inv (k+1) s' | .br s'=>Go s' | .rt r=>Rt r) (hg: ∀s,Inv m s->Go s):
  ∃o,sW m body s=some o/\match o with | .go s'=>Go s' | .rt r=>Rt r:=by
 unfold sW
 rw [aD hm]
 exact CC Inv Go Rt m h hg m 0 s (by omega) h0
theorem CD {body:Nat->S->Option S} (Inv:Nat->S->Prop) (m:Nat) (h: ∀k s,k<m->Inv k s->∃s',body k s=some s'/\Inv (k+1) s'):
  ∀(n k:Nat) (s:S),k+n=m->Inv k s->∃s',FW body n k s=some s'/\Inv m s'
 | 0,k,s,hk,hi=>⟨_,rfl,by rw [<-hk];exact hi⟩
 | n+1,k,s,hk,hi=>by
  obtain⟨s',hb,hf⟩:=h k s (by omega) hi
  unfold FW
  rw [hb]
  exact CD Inv m h n (k+1) s' (by omega) hf
theorem yz {body:Nat->S->Option S} {m:Nat} {s:S} (Inv:Nat->S->Prop) (hm:m<=4611686018427387904) (h0:Inv 0 s)
  (h: ∀k s,k<m->Inv k s->∃s',body k s=some s'/\Inv (k+1) s'): ∃s',mN m body s=some s'/\Inv m s':=by
 unfold mN
 rw [aD hm]
 exact CD Inv m h m 0 s (by omega) h0
end
section
variable {α β:Type}
theorem aB (x:α) (f:α->Option β): (some x).bind f=f x:=rfl
theorem kG (l:List α) (k:Nat) (h:k<l.length):idx l ((k:Nat):Int)=some l[k]:=by
 unfold idx;rw [aD (by omega),cK,aO h]
theorem gv {l:List α} {k:Nat} {x:α} (h:l[k]? =some x):idx l ((k:Nat):Int)=some x:=by
 unfold idx;rw [aD (by omega),cK,h]
theorem CE (s:dY) (k:Nat) (h:k<s.cQ.length):Dm s ((k:Nat):Int)=some s.cQ[k]:=by
 unfold Dm;rw [aD (by omega),cK,aO h]
theorem jC {k:Nat} (h:0<k) (hk:k<=4611686018427387904):IntKind.wrap .i64 (((k:Nat):Int) - 1)= ((k - 1:Nat):Int):=by
 rw [fw (by omega) (by omega)];omega
theorem rl (l:List α) (k:Nat) (h:k<=l.length):tt l 0 ((k:Nat):Int)=some (l.take k):=by
 unfold tt;rw [aD ⟨by omega,by omega,by omega⟩]
 simp only [Int.toNat_zero,List.drop_zero,Int.sub_zero,cK]
theorem pT (l:List α) (k:Nat) (h:k<=l.length):tt l ((k:Nat):Int) ((l.length:Nat):Int)=some (l.drop k):=by
 unfold tt;rw [aD ⟨by omega,by omega,by omega⟩]
 simp only [cK,Option.some.injEq]
 rw [k8];rw [iv];omega
theorem jd {b:Nat} {l ys:List α} (h: (l.length+ys.length)*b<=140737488355328):app b l ys=some (l++ys):=by unfold app;rw [aD h]
theorem uv {b:Nat} (z:α) {n:Nat} (h:n*b<=140737488355328):mk b z ((n:Nat):Int)=some (List.replicate n z):=by
 unfold mk
 have e: ((n:Nat):Int)* ((b:Nat):Int)= ((n*b:Nat):Int):=(Int.natCast_mul n b).symm
 rw [e]
 generalize n*b=q at h ⊢
 rw [aD ⟨by omega,by omega⟩,cK]
end
theorem dY.ext' {a b:dY} (h:a.cQ=b.cQ):a=b:=by cases a;cases b;simp at h;rw [h]
theorem Bm {a b:dY}:a.rW b=true↔a=b:=by
 unfold dY.rW;rw [beq_iff_eq];exact⟨dY.ext',fun h=>by rw [h]⟩
theorem xS: ∀(a:List UInt8),Op.bytesLess a a=false
 | []=>rfl
 | a::l=>by
  unfold Op.bytesLess
  rw [xS l];simp
theorem yT: ∀{a b c:List UInt8},Op.bytesLess a b=true->Op.bytesLess b c=true->Op.bytesLess a c=true
 | [],[],_,h,_=>by simp [Op.bytesLess] at h
 | [],_::_,[],_,h=>by simp [Op.bytesLess] at h
 | [],_::_,_::_,_,_=>rfl
 | _::_,[],_,h,_=>by simp [Op.bytesLess] at h
 | _::_,_::_,[],_,h=>by simp [Op.bytesLess] at h
 | a::l,b::m,c::n,h1,h2=>by
  unfold Op.bytesLess at h1 h2 ⊢
  simp only [dI,bV,bU,beq_iff_eq] at h1 h2 ⊢
  rcases h1 with h1 | ⟨rfl,h1⟩
  ·rcases h2 with h2 | ⟨rfl,h2⟩
   ·exact .inl (UInt8.lt_trans h1 h2)
   ·exact .inl h1
  ·rcases h2 with h2 | ⟨rfl,h2⟩
   ·exact .inl h2
   ·exact .inr ⟨rfl,yT h1 h2⟩
theorem yU: ∀(a b:List UInt8),Op.bytesLess a b=true\/a=b\/Op.bytesLess b a=true
 | [],[]=> .inr (.inl rfl)
 | [],_::_=> .inl rfl
 | _::_,[]=> .inr (.inr rfl)
 | a::l,b::m=>by
  unfold Op.bytesLess
  simp only [dI,bV,bU,beq_iff_eq]
  by_cases h1:a<b
  ·exact .inl (.inl h1)
  ·by_cases h2:b<a
   ·exact .inr (.inr (.inl h2))
   ·have e:a=b:=by
     simp only [UInt8.lt_iff_toNat_lt] at h1 h2
     exact UInt8.toNat_inj.1 (by omega)
    subst e
    rcases yU l m with h | h | h
    ·exact .inl (.inr ⟨rfl,h⟩)
    ·exact .inr (.inl (by rw [h]))
    ·exact .inr (.inr (.inr ⟨rfl,h⟩))
theorem vA: ∀(a b:List UInt8),Lib.compareBytes a b<0↔Op.bytesLess a b=true
 | [],[]=>by simp [Lib.compareBytes,Op.bytesLess]
 | [],_::_=>by simp [Lib.compareBytes,Op.bytesLess]
 | _::_,[]=>by simp [Lib.compareBytes,Op.bytesLess]
 | a::l,b::m=>by
  unfold Lib.compareBytes Op.bytesLess
  simp only [dI,bV,bU,beq_iff_eq]
  split
  ·simp_all
  ·rename_i h1
   split
   ·rename_i h2
    have h3:a≠b:=fun e=>by subst e;exact h1 h2
    simp [h1,h3]
   ·rename_i h2
    have e:a=b:=by
     simp only [UInt8.lt_iff_toNat_lt] at h1 h2
     exact UInt8.toNat_inj.1 (by omega)
    subst e
    rw [vA l m];simp [h1]
theorem vB: ∀(a b:List UInt8),Lib.compareBytes a b=0↔a=b
 | [],[]=>by simp [Lib.compareBytes]
 | [],_::_=>by simp [Lib.compareBytes]
 | _::_,[]=>by simp [Lib.compareBytes]
 | a::l,b::m=>by
  unfold Lib.compareBytes
  split
  ·rename_i h1
   have h3:a≠b:=fun e=>by subst e;exact absurd h1 (by simp)
   simp [h3]
  ·rename_i h1
   split
   ·rename_i h2
    have h3:a≠b:=fun e=>by subst e;exact h1 h2
    simp [h3]
   ·rename_i h2
    have e:a=b:=by
     simp only [UInt8.lt_iff_toNat_lt] at h1 h2
     exact UInt8.toNat_inj.1 (by omega)
    subst e
    rw [vB l m];simp
def dY.lt (a b:dY):Prop:=a.rX b=true
theorem dY.lt_irrefl (a:dY): ¬dY.lt a a:=by unfold dY.lt dY.rX;rw [xS];decide
theorem dY.lt_trans {a b c:dY} (h1:dY.lt a b) (h2:dY.lt b c):dY.lt a c:=yT h1 h2
theorem dY.CF (a b:dY):dY.lt a b\/a=b\/dY.lt b a:=by
 rcases yU a.cQ b.cQ with h | h | h
 ·exact .inl h
 ·exact .inr (.inl (dY.ext' h))
 ·exact .inr (.inr h)
theorem dY.Io {a b:dY} (h:dY.lt a b):a≠b:=fun e=>by subst e;exact dY.lt_irrefl a h
end Go.Gk
namespace Go.Gk
open Go
class Bk (α:Type) where
 bk:α->Nat
 pos: ∀x,1<=bk x
def bk {α:Type} [Bk α] (x:α):Nat:=Bk.bk x
theorem Gv {α:Type} [Bk α] (x:α):1<=bk x:=Bk.pos x
instance:Bk dY:=⟨fun s=>s.cQ.length+1,fun _=>by omega⟩
instance:Bk Int:=⟨fun _=>1,fun _=>by omega⟩
instance:Bk Bool:=⟨fun _=>1,fun _=>by omega⟩
instance {α:Type} [Bk α]:Bk (List α):=⟨fun l=>(l.map bk).sum+1,fun _=>by omega⟩
theorem Gw {α:Type} [Bk α]:bk ([]:List α)=1:=rfl
theorem Bn {α:Type} [Bk α] (x:α) (l:List α):bk (x::l)=bk x+bk l:=by
 show (List.map bk (x::l)).sum+1=bk x+ ((List.map bk l).sum+1)
 simp;omega
theorem DC {α:Type} [Bk α]: ∀{l:List α} {x:α},x∈l->bk x+1<=bk l
 | y::l,x,h=>by
  rw [Bn]
  rcases dH.1 h with h | h
  ·subst h;have:=Gv l;omega
  ·have:=DC h;omega
theorem vC {α:Type} [Bk α]: ∀(l:List α),l.length+1<=bk l
 | []=>by rw [Gw];simp
 | x::l=>by rw [Bn,fI];have:=vC l;have:=Gv x;omega
theorem Gx (s:dY):bk s=s.cQ.length+1:=rfl
section
variable {α R:Type}
theorem Fg {l:List α} {e:Nat->Option R} (f:α->Option R) (h: ∀k x,l[k]? =some x->e k=f x):uO l.length e=l.findSome? f:=by
 cases hx:uO l.length e with
 | none=>
  refine(List.findSome?_eq_none_iff.2 fun x hm=>?_).symm
  obtain⟨k,hk⟩:=eR hm
  rw [<-h k x hk];exact nE.1 hx k (bC.1 hk).1
 | some r=>
  obtain⟨k,hk,he,hn⟩:=oA.1 hx
  refine(List.findSome?_eq_some_iff.2 ⟨l.take k,l[k],l.drop (k+1),?_,?_,fun y hy=>?_⟩).symm
  ·rw [<-r8 hk,List.take_append_drop]
  ·rw [<-h k l[k] (aO hk)];exact he
  ·obtain⟨j,hj⟩:=eR hy
   have hjk:j<k:=by have:=(bC.1 hj).1;rw [cM] at this;omega
   rw [List.getElem?_take_of_lt hjk] at hj
   rw [<-h j y hj];exact hn j hjk
theorem Bo (l:List α) (p:α->Bool) (r:R):l.findSome? (fun x=>if p x=true then some r else none)=if l.any p=true then some r else none:=by
 induction l with
 | nil=>simp
 | cons x l ih=>
  rw [List.findSome?_cons,List.any_cons]
  cases h:p x <;> simp [ih]
theorem yV {l:List α} {body:Nat->Unit->Option (Fl Unit R)} (f:α->Option R) (hl:l.length<=4611686018427387904)
  (h: ∀k x,l[k]? =some x->body k ()=some (Ff (f x) ())):sW l.length body ()=some (DB (l.findSome? f) ()):=by
 have h2:=rk (body:=body) (m:=l.length) (fun k=>(l[k]?).bind f) hl (fun k hk _=>by
  rw [h k l[k] (aO hk),aO hk];rfl)
 rw [h2,Fg f (fun k x hx=>by rw [hx];rfl)]
theorem HJ {l:List α} {body:Nat->Unit->Option (Fl Unit R)} (p:α->Bool) (r:R) (hl:l.length<=4611686018427387904)
  (h: ∀k x,l[k]? =some x->body k ()=some (if p x=true then .rt r else .nx ())):sW l.length body ()=some (if l.any p=true then .rt r else .go ()):=by
 rw [yV (fun x=>if p x=true then some r else none) hl (fun k x hx=>by rw [h k x hx];cases p x <;> rfl),Bo]
 cases l.any p <;> rfl
end
theorem HK {β:Type} (b:Bool) (x y:β): (bif b then some x else some y)=some (bif b then x else y):=by cases b <;> rfl
section
variable {α β:Type}
def KJ (l:List α) (p:α->Bool):Int:=match l.findIdx? p with | some k=>((k:Nat):Int) | none=> -1
theorem xx (l:List α) (p:α->Bool): (KJ l p = -1/\∀x∈l,p x=false)\/∃k x,KJ l p= ((k:Nat):Int)/\l[k]? =some x/\p x=true/\∀j y,j<k->l[j]? =some y->p y=false:=by
 unfold KJ
 cases h:l.findIdx? p with
 | none=>exact .inl ⟨rfl,fun x hx=>by have:=List.findIdx?_eq_none_iff.1 h x hx;simpa using this⟩
 | some k=>
  obtain⟨hk,hp,hn⟩:=List.findIdx?_eq_some_iff_getElem.1 h
  refine .inr ⟨k,l[k],rfl,aO hk,hp,fun j y hj hy=>?_⟩
  have:=hn j hj
  rw [aO (by omega)] at hy
  injection hy with hy
  subst hy;simpa using this
theorem I6 (l:List α) (p:α->Bool):decide (KJ l p>=0)=l.any p:=by
 rcases xx l p with ⟨h,hn⟩ | ⟨k,x,h,hx,hp,_⟩
 ·rw [h,List.any_eq_false.2 (fun x hx=>by rw [hn x hx];decide)];decide
 ·rw [h,k9.2 ⟨x,gh hx,hp⟩];simp
def sw (p0:List α) (p1:α->Option Bool):Option Int:=
 (sW p0.length (fun(k1:Nat) (_:Unit)=>((idx p0 ((k1:Nat):Int)).bind fun x7=>(p1 x7).bind fun x10=>bif x10 then (some (.rt ((k1:Nat):Int))) else (some (.nx ())):Option (Fl (Unit) Int))) ()).bind fun o11=>o11.cs (fun(_:Unit)=>some (-1)) (fun r=>some r)
theorem vc {l:List α} {φ:α->Option Bool} (p:α->Bool) (hl:l.length<=4611686018427387904) (h: ∀x∈l,φ x=some (p x)):sw l φ=some (KJ l p):=by
 unfold sw
 rw [rk (fun k=>(l[k]?).bind fun x=>if p x=true then some ((k:Nat):Int) else none) hl (fun k hk _=>by
  rw [kG l k hk,aB,h _ (cR hk),aB,aO hk]
  cases hp:p l[k] <;> simp [Ff,hp]),aB]
 rcases xx l p with ⟨h1,h2⟩ | ⟨k,x,h1,h2,h3,h4⟩
 ·rw [nE.2 (fun k hk=>by rw [aO hk];simp [h2 _ (cR hk)])]
  simp [DB,Fo.cs,h1]
 ·rw [(oA (r:=((k:Nat):Int))).2 ⟨k,(bC.1 h2).1,by rw [h2];simp [h3],fun j hj=>by
   cases hy:l[j]? with
   | none=>rfl
   | some y=>simp [h4 j y hj hy]⟩]
  simp [DB,Fo.cs,h1]
def qR (p0:List α) (p1:α->Option Bool):Option Bool:=
 (sw p0 p1).bind fun x1=>some (decide (x1>=0))
theorem rm {l:List α} {φ:α->Option Bool} (p:α->Bool) (hl:l.length<=4611686018427387904) (h: ∀x∈l,φ x=some (p x)):qR l φ=some (l.any p):=by
 unfold qR
 rw [vc p hl h,aB,I6]
def DD [DecidableEq α] (p0 p1:List α):Option Bool:=
 bif (((p0.length:Nat):Int) != ((p1.length:Nat):Int)) then (some false) else ((sW p0.length (fun(k1:Nat) (_:Unit)=>((idx p0 ((k1:Nat):Int)).bind fun x13=>(idx p1 ((k1:Nat):Int)).bind fun x16=>bif (!(decide (x13=x16))) then (some (.rt false)) else (some (.nx ())):Option (Fl (Unit) Bool))) ()).bind fun o23=>o23.cs (fun(_:Unit)=>some true) (fun r=>some r))
theorem uw [DecidableEq α] {l m:List α} (hl:l.length<=4611686018427387904):DD l m=some (decide (l=m)):=by
 unfold DD
 by_cases h:l.length=m.length
 ·have e: (((l.length:Nat):Int) != ((m.length:Nat):Int))=false:=by rw [h];simp
  rw [e,aT]
  rw [rk (fun k=>if l[k]? =m[k]? then none else some false) hl (fun k hk _=>by
   rw [kG l k hk,aB,kG m k (by omega),aB,aO hk,aO (by omega:k<m.length)]
   by_cases hx:l[k]=m[k] <;> simp [Ff,hx]),aB]
  by_cases hx:l=m
  ·subst hx;rw [nE.2 (fun k _=>aD rfl)];simp [DB,Fo.cs]
  ·have: ∃r,uO l.length (fun k=>if l[k]? =m[k]? then none else some false)=some r:=by
    cases hf:uO l.length (fun k=>if l[k]? =m[k]? then none else some false) with
    | some r=>exact⟨r,rfl⟩
    | none=>
     exfalso;refine hx (List.ext_getElem? fun i=>?_)
     by_cases hi:i<l.length
     ·have:=nE.1 hf i hi
      by_cases h6:l[i]? =m[i]?
      ·exact h6
      ·rw [aH h6] at this;cases this
     ·rw [List.getElem?_eq_none (by omega),List.getElem?_eq_none (by omega)]
   obtain⟨r,hr⟩:=this
   have hr2:r=false:=by
    obtain⟨k,_,hk,_⟩:=oA.1 hr
    split at hk
    ·cases hk
    ·injection hk with hk;exact hk.symm
   rw [hr,hr2];simp [DB,Fo.cs,hx]
 ·have e: (((l.length:Nat):Int) != ((m.length:Nat):Int))=true:=by simp;omega
  rw [e,aQ,bY (fun h'=>h (by rw [h']))]
def Gy (key:α->dY) (l:List α):Prop:=∀(i j:Nat) (x y:α),i<j->l[i]? =some x->l[j]? =some y->dY.lt (key x) (key y)
theorem Gy.inj {key:α->dY} {l:List α} (h:Gy key l) {i j:Nat} {x y:α} (hx:l[i]? =some x) (hy:l[j]? =some y) (e:key x=key y):i=j:=by
 rcases Nat.lt_trichotomy i j with h1 | h1 | h1
 ·exact absurd e (dY.Io (h i j x y h1 hx hy))
 ·exact h1
 ·exact absurd e.symm (dY.Io (h j i y x h1 hy hx))
end
end Go.Gk
namespace Go.Gk
open Go Go.ChangeShapes Go.WideShapes Go.RowKit
structure UB (ub: (H:Type)->DataW H->Nat) (ua: (H:Type)->List (DataW H)->Nat):Prop where
 str: ∀(H:Type) (b:List UInt8),ub H (.lit (.string b))=b.length+1
 pos: ∀(H:Type) (d:DataW H),1<=ub H d
 sl: ∀(H:Type) (e s:List (DataW H)),ub H (.slice e s)=ua H e+ua H s+1
 ag: ∀(H:Type) (l:List (DataW H)),ub H (.agg l)=ua H l+1
 nil: ∀(H:Type),ua H []=0
 cons: ∀(H:Type) (x:DataW H) (l:List (DataW H)),ua H (x::l)=ub H x+ua H l
def Hw (w:World):dZ:=fun b=>w.heap[b]?
structure kC (ub: (H:Type)->DataW H->Nat) (P:Program) (T:TypeId) (α:Type) [GT α] [Bk α]:Prop where
 trod: ∀{H:Type} {enc:TypeId×Value->H} {w:World} {base:Nat} {spare:Nat->Bool} {held:Bool} {fuel:Nat} {cs:List Value} {d:DataW H×List MemPlace},
  DataW.trod enc P w base spare held fuel T cs=some d->∃x:α,GT.ok (Hw w) cs x/\bk x<=ub H d.1
 KK: ∀{w:World} {r:Reach} {base:Nat} {v:Value},Value.okWide P w r base T v->v=vl α v.cells.toList
section
variable {ub: (H:Type)->DataW H->Nat} {ua: (H:Type)->List (DataW H)->Nat} {P:Program} {T e:TypeId}
theorem Fh (u:UB ub ua) (ht:P.underlying T=some (.int .i64)):kC ub P T Int where
 trod:=fun h=>by
  obtain⟨n,rfl,rfl,_⟩:=DataW.trod_int ht h
  exact⟨n,rfl,u.pos _ _⟩
 KK:=fun h=>by obtain⟨n,rfl⟩:=okWide_int ht h;rfl
theorem DE (u:UB ub ua) (ht:P.underlying T=some .bool):kC ub P T Bool where
 trod:=fun h=>by
  obtain⟨n,rfl,rfl⟩:=DataW.trod_bool ht h
  exact⟨n,rfl,u.pos _ _⟩
 KK:=fun h=>by obtain⟨n,rfl⟩:=okWide_bool ht h;rfl
theorem Fi (u:UB ub ua) (ht:P.underlying T=some .string):kC ub P T dY where
 trod:=fun h=>by
  obtain⟨s,rfl,rfl,_⟩:=DataW.trod_string ht h
  refine⟨⟨s.data.toList⟩,?_,?_⟩
  ·show [Value.string s]= [Gk.str ⟨s.data.toList⟩]
   cases s;rfl
  ·rw [u.str];exact bK _
 KK:=fun h=>by obtain⟨n,rfl⟩:=okWide_string ht h;rfl
theorem xT {α:Type} {R:Nat->α->Prop}: ∀(n:Nat),(∀i,i<n->∃x,R i x)->∃l:List α,l.length=n/\∀i x,l[i]? =some x->R i x
 | 0,_=>⟨[],rfl,fun i x h=>by simp at h⟩
 | n+1,h=>by
  obtain⟨l,h1,h2⟩:=xT n (fun i hi=>h i (by omega))
  obtain⟨x,hx⟩:=h n (by omega)
  refine⟨l++[x],by simp [h1],fun i y hy=>?_⟩
  by_cases hi:i<n
  ·rw [gj (by omega)] at hy;exact h2 i y hy
  ·have:=(bC.1 hy).1
   rw [cT] at this
   have:i=n:=by simp at this;omega
   subst this
   rw [gw (by omega),h1] at hy
   simp at hy;subst hy;exact hx
theorem Aq {H α:Type} [Bk α] (u:UB ub ua): ∀{l:List α} {es:List (DataW H×List MemPlace)},l.length=es.length->
  (∀(i:Nat) (x:α) (y:DataW H×List MemPlace),l[i]? =some x->es[i]? =some y->bk x<=ub H y.1)->bk l<=ua H (es.map (·.1))+1
 | [],[],_,_=>by rw [Gw];omega
 | x::l,y::es,hl,h=>by
  have h1:=h 0 x y rfl rfl
  have h2:=Aq (H:=H) u (l:=l) (es:=es) (by simpa using hl) (fun i x y hx hy=>h (i+1) x y (by simpa using hx) (by simpa using hy))
  rw [Bn,dO,u.cons];omega
theorem CG {w:World} {base:Nat} {a:Addr} {n:Nat} {cs:List Value} (h:w.cells? base a n=some cs):At (Hw w) a cs:=by
 intro j v hv
 obtain⟨_,hlen,hc⟩:=World.cells?_some h
 have hj:=(bC.1 hv).1
 have h2:=hc j (by omega)
 rw [hv] at h2
 unfold vU Hw
 unfold World.cell? at h2
 exact h2
theorem sA {α:Type} [GT α] [Bk α] (u:UB ub ua) (he:kC ub P e α) (ht:P.underlying T=some (.slice e):=by kernel_rfl) (hc:P.cellsOf e=GT.sz α:=by kernel_rfl):kC ub P T (List α) where
 trod:=fun{H enc w base spare held fuel cs d} h=>by
  rcases DataW.trod_slice ht h with ⟨rfl,rfl⟩ | ⟨a,len,cap,elems,rest,n,_,rfl,rfl,_,hlc,hcm,hlen,hel,_⟩
  ·exact⟨[],⟨_,rfl,none,0,0,rfl,rfl,bK _,by simp [maxLen],fun i x hx=>by simp at hx⟩,u.pos _ _⟩
  ·have each: ∀i,i<len->∃x:α,(∃c y,GT.ok (Hw w) c x/\At (Hw w) (a.add (i*GT.sz α)) c/\elems[i]? =some y/\bk x<=ub H y.1):=by
    intro i hi
    have h1:=hel i hi
    rw [aO (by omega:i<elems.length),Option.bind_eq_some_iff] at h1
    obtain⟨c,h2,h3⟩:=h1
    obtain⟨x,h4,h5⟩:=he.trod h3
    refine⟨x,c,_,h4,?_,aO (by omega),h5⟩
    rw [hc] at h2
    exact CG h2
   obtain⟨l,hl,hr⟩:=xT len each
   refine⟨l,⟨_,rfl,some a,len,cap,rfl,hl.symm,hlc,hcm,fun i x hx=>?_⟩,?_⟩
   ·obtain⟨c,y,h1,h2,_⟩:=hr i x hx
    exact⟨a,c,rfl,h1,h2⟩
   ·have:=Aq (H:=H) u (l:=l) (es:=elems) (by omega) (fun i x y hx hy=>by
     obtain⟨c,y',_,_,h3,h4⟩:=hr i x hx
     rw [hy] at h3;injection h3 with h3;subst h3;exact h4)
    rw [u.sl];omega
 KK:=fun h=>by obtain⟨a,n,c,rfl⟩:=okWide_slice ht h;rfl
def Ez (ub: (H:Type)->DataW H->Nat) (ua: (H:Type)->List (DataW H)->Nat) (P:Program) (off:Nat) (fs:List Field) (β:Type) [GT β] (m:β->Nat):Prop:=
 ∀{H:Type} {enc:TypeId×Value->H} {w:World} {base:Nat} {spare:Nat->Bool} {held:Bool} {n:Nat} {cs:List Value} {ys:List (DataW H×List MemPlace)},
  (∀(i:Nat) (f:Field),fs[i]? =some f->DataW.trod enc P w base spare held n f.type ((cs.drop f.offset).take (P.cellsOf f.type))=ys[i]?)->ys.length=fs.length->
  cs.length=off+GT.sz β->∃x:β,GT.ok (Hw w) (cs.drop off) x/\m x<=ua H (ys.map (·.1))
theorem rn {β:Type} [GT β] [Bk β] {off:Nat} {f:Field} (u:UB ub ua) (h:kC ub P f.type β) (ho:f.offset=off) (hc:P.cellsOf f.type=GT.sz β:=by kernel_rfl):Ez ub ua P off [f] β bk:=by
 intro H enc w base spare held n cs ys hf hl hcs
 match ys,hl with
 | [y],_=>
  have h1:=hf 0 f rfl
  rw [ho,hc,k8 (by rw [iv];omega)] at h1
  obtain⟨x,h2,h3⟩:=h.trod (d:=y) h1
  exact⟨x,h2,by rw [dO,u.cons];omega⟩
theorem iE {α β:Type} [GT α] [GT β] [Bk α] {off off':Nat} {f:Field} {fs:List Field} {m:β->Nat} (u:UB ub ua) (h:kC ub P f.type α) (hr:Ez ub ua P off' fs β m) (ho:f.offset=off:=by exact rfl) (hc:P.cellsOf f.type=GT.sz α:=by kernel_rfl) (hoff:off'=off+GT.sz α:=by exact rfl):Ez ub ua P off (f::fs) (α×β) (fun x=>bk x.1+m x.2):=by
 intro H enc w base spare held n cs ys hf hl hcs
 have hsz:GT.sz (α×β)=GT.sz α+GT.sz β:=rfl
 match ys,hl with
 | y::ys,hl=>
  have h1:=hf 0 f rfl
  rw [ho,hc] at h1
  obtain⟨x,h2,h3⟩:=h.trod (d:=y) h1
  obtain⟨x',h4,h5⟩:=hr (n:=n) (cs:=cs) (ys:=ys) (fun i g hg=>hf (i+1) g hg) (by simpa using hl) (by omega)
  refine⟨(x,x'),⟨_,_,?_,h2,h4⟩,?_⟩
  ·rw [hoff,<-List.drop_drop,List.take_append_drop]
  ·rw [dO,u.cons];show bk x+m x'<=_;omega
theorem nY {γ β:Type} [GT β] [Bk γ] {fs:Array Field} {m:β->Nat} (u:UB ub ua) (f:γ->β) (g:β->γ) (hfg: ∀b,f (g b)=b) (ht:P.underlying T=some (.struct fs)) (h:Ez ub ua P 0 fs.toList β m) (hm: ∀b,bk (g b)<=m b+1) (hc:P.cellsOf T=GT.sz β:=by kernel_rfl): @kC ub P T γ (GT.via f) _:=
 @kC.mk ub P T γ (GT.via f) _
  (fun{H enc w base spare held fuel cs d} hd=>by
   obtain⟨xs,n,_,rfl,hl,hlen,hf⟩:=DataW.trod_struct ht hd
   obtain⟨b,h1,h2⟩:=h (n:=n) (cs:=cs) (ys:=xs) (fun i g hg=>hf i g (by rw [<-Array.getElem?_toList];exact hg)) (by rw [hlen];simp) (by omega)
   refine⟨g b,?_,?_⟩
   ·show GT.ok (Hw w) cs (f (g b))
    rw [hfg];exact h1
   ·rw [u.ag];have:=hm b;omega)
  (fun hv=>by
   obtain⟨cs,rfl,_⟩:=okWide_struct ht hv
   cases cs;rfl)
theorem kC.arg {H:Type} {enc:TypeId×Value->H} {w:World} {base:Nat} {spare:Nat->Bool} {held:Bool} {r:Reach} {b0:Nat} {v:Value} {d:DataW H} {ps:List MemPlace} {α:Type} [GT α] [Bk α] (o:kC ub P T α)
  (hv:Value.okWide P w r b0 T v) (hd:DataW.Trod enc P w base spare held T v d ps): ∃x:α,vm (Hw w) v x/\bk x<=ub H d:=by
 obtain⟨fuel,hf⟩:=hd
 obtain⟨x,h1,h2⟩:=o.trod hf
 exact⟨x,⟨_,o.KK hv,h1⟩,h2⟩
theorem kC.Mn {H:Type} {enc:TypeId×Value->H} {w:World} {base:Nat} {spare:Nat->Bool} {held:Bool} {r:Reach} {b0:Nat} {v:Value} {d:DataW H} {ps:List MemPlace} {α:Type} [Sc α] [Bk α] (o:kC ub P T α)
  (hv:Value.okWide P w r b0 T v) (hd:DataW.Trod enc P w base spare held T v d ps): ∃x:α,v=Sc.toV x/\bk x<=ub H d:=by
 obtain⟨x,h1,h2⟩:=o.arg hv hd
 exact⟨x,AP.1 h1,h2⟩
end
theorem Calls.fin {P:Program} {f:FuncId} {args:Array Value} {w:World} {R Q:Value->World->Prop} (h:Calls P f args w (gm R)) (k: ∀v w',R v w'->Q v w'):
  Calls P f args w (fun e W'=>∃v,e = .returned v/\Q v W'):=Calls.mono h fun _ w' ⟨v,e,hr⟩=>⟨v,e,k v w' hr⟩
def fE (W:World):HP:=⟨fun M h=>hle (Hw W) M/\h=px,fun k ⟨a,b⟩=>⟨EW a k,b⟩⟩
theorem Holds.begin (W:World):Holds W W [fE W]:=by
 refine⟨Hw W,fun _=>px,⟨rfl,rfl,rfl,bK _,fun b o h=>h,fun i Pr hq=>?_,fun _ _ _ _ h=>(by cases h),fun _ _ _ _ h=>(by cases h),fun _ _ _ _ _ _ _ h=>(by cases h)⟩⟩
 match i,hq with
 | 0,hq=>simp at hq;subst hq;exact⟨FT _,rfl⟩
theorem Holds.Ip {α:Type} [GT α] {W:World} {V:List HP} {v:Value} {x:α} (h:Holds W W (V++[fE W])) (hv:Gk.vm (Hw W) v x):Holds W W (rd v x::(V++[fE W])):=
 h.zT fun M hs g=>by
  have h1:=(g.sat V.length (fE W) (by simp)).1
  exact⟨hv.mono h1,rfl⟩
theorem Holds.kept {E W w:World} {V:List HP} (h:Holds E w (V++[fE W])) (he:E=W):Below W.heap.size W w:=by
 subst he
 obtain⟨M,hs,g⟩:=h
 have h1:=(g.sat V.length (fE E) (by simp)).1
 have h2: ∀k o,E.heap[k]? =some o->w.heap[k]? =some o:=fun k o ho=>g.im k o (h1 k o ho)
 refine⟨g.os,g.tape,g.out,?_,fun k hk=>?_⟩
 ·by_cases h0:E.heap.size=0
  ·omega
  ·have h3:=h2 (E.heap.size - 1) _ (gM (by omega))
   have:=(Array.getElem?_eq_some_iff.1 h3).1
   omega
 ·rw [gM hk];exact h2 k _ (gM hk)
section
variable {H:Type} {enc:TypeId×Value->H} {P:Program}
theorem Fj {f:Func} {s:ChangeSpec} {apart fresh handsOn again:Bool} {W W':World} {args:Array Value} {v:Value} {ds gs:List (DataW H)} {before pa pv:List MemPlace}
  (hW:DataW.Whole enc P f.params.toList s.vars apart W args.toList ds gs before)
  (hres: ∀(b:Nat) (sp:Nat->Bool) (hd:Bool),DataW.TrodAll enc P W' b sp hd f.resultTypes.toList (v.resultList f.resultTypes.size) (s.fn H (ds++gs)).results [])
  (hargs: ∀sp:Nat->Bool,(∀p∈before,sp p.block=true)->DataW.TrodAll enc P W' 0 sp true f.params.toList args.toList (s.fn H (ds++gs)).args pa)
  (hvars: ∀sp:Nat->Bool,(∀p∈before,sp p.block=true)->DataW.TrodVars enc P W' sp s.vars (s.fn H (ds++gs)).vars pv)
  (hps:before=pa++pv) (hb:Below W.heap.size W W')
  (hok: ∀(j:Nat) (t:TypeId) (r:Value),f.resultTypes[j]? =some t->(v.resultList f.resultTypes.size)[j]? =some r->Value.okWide P W' .any 0 t r):
  s.post enc P f apart fresh handsOn again W args v W':=by
 have hlt: ∀p∈before,p.block<W.heap.size:=fun p hp=>hW.lt p hp
 have hold: ∀p∈before,(fun b=>decide (b<W.heap.size)) p.block=true:=fun p hp=>by simpa using hlt p hp
 refine⟨ds,gs,before,[],pa,pv,hW,hres _ _ _,hargs _ hold,hvars _ hold,World.keptBut_mono (fun p hp=>⟨hp,?_⟩) (hb.frame (· ∈before)),fun _=>?_⟩
 ·rw [hps,dC] at hp
  exact Or.inr hp
 ·obtain⟨_,_,_,_,_,hz,hn⟩:=hW
  refine⟨hok,_,_,([]++pa)++pv,⟨[]++pa,pv,trodAll_append (hargs _ (fun _ _=>rfl)) (hres _ _ _),hvars _ (fun _ _=>rfl),rfl,?_,?_⟩,?_⟩
  ·intro b off hp
   have hin:MemPlace.cell b off∈before:=by rw [hps];simpa using hp
   rw [hb.frozen (hlt _ hin)]
   exact hz b off hin
  ·intro ha
   have:=hn ha
   rw [hps] at this
   simpa using this
  ·intro p hp _
   rw [hps]
   simpa using hp
theorem vd {W W':World} (hl:laidOutB P=true) (hb:Below W.heap.size W W') {sp:Nat->Bool}: ∀{ts:List TypeId} {vs:List Value} {ds:List (DataW H)} {ps:List MemPlace},
  (∀t∈ts,P.readableRec t=true/\t<P.types.size)->DataW.TrodAll enc P W 0 (fun _=>true) true ts vs ds ps->(∀p∈ps,p.block<W.heap.size)->(∀p∈ps,sp p.block=true)->DataW.TrodAll enc P W' 0 sp true ts vs ds ps
 | [],_,_,_,_,h,_,_=>by
  obtain⟨rfl,rfl,rfl⟩:=trodAll_nil h
  rfl
 | t::ts,_,_,_,ht,h,hlt,hsp=>by
  obtain⟨v,vs,d,ds,p,q,rfl,rfl,rfl,h1,h2⟩:=trodAll_cons h
  refine⟨p,q,?_,vd hl hb (fun t h=>ht t (by simp [h])) h2 (fun x hx=>hlt x (by simp [hx])) (fun x hx=>hsp x (by simp [hx])),rfl⟩
  exact WideElems.Trod_stays hl (ht t (by simp)).1 (ht t (by simp)).2 h1 (fun x hx=>hb.same (hlt x (by simp [hx]))) (fun x hx=>hsp x (by simp [hx]))
end
end Go.Gk
namespace Go.Gk
open Go
instance:Bk aG:=⟨fun x=>bk x.X0+bk x.Y0+bk x.X1+bk x.Y1+1,fun _=>by omega⟩
theorem HL (x:aG):bk x=bk x.X0+bk x.Y0+bk x.X1+bk x.Y1+1:=rfl
instance:Bk jy:=⟨fun x=>bk x.X+bk x.Y+1,fun _=>by omega⟩
theorem Gz (x:jy):bk x=bk x.X+bk x.Y+1:=rfl
instance:Bk bJ:=⟨fun x=>bk x.At+bk x.cZ+bk x.cH+bk x.To+bk x.kx+1,fun _=>by omega⟩
theorem HM (x:bJ):bk x=bk x.At+bk x.cZ+bk x.cH+bk x.To+bk x.kx+1:=rfl
instance:Bk cU:=⟨fun x=>bk x.Part+bk x.ik+bk x.eU+bk x.At+1,fun _=>by omega⟩
theorem EA (x:cU):bk x=bk x.Part+bk x.ik+bk x.eU+bk x.At+1:=rfl
instance:Bk fu:=⟨fun x=>bk x.aI+bk x.bZ+bk x.aR+bk x.bI+1,fun _=>by omega⟩
theorem GA (x:fu):bk x=bk x.aI+bk x.bZ+bk x.aR+bk x.bI+1:=rfl
instance:Bk aA:=⟨fun x=>bk x.Y0+bk x.Y1+bk x.Xs+1,fun _=>by omega⟩
instance:Bk ik:=⟨fun x=>bk x.Part+bk x.ik+1,fun _=>by omega⟩
instance:Bk aN:=⟨fun x=>bk x.eU+bk x.Set+bk x.pj+1,fun _=>by omega⟩
instance:Bk eB:=⟨fun x=>bk x.oW+bk x.aR+bk x.j4+1,fun _=>by omega⟩
instance:Bk lT:=⟨fun x=>bk x.bJ+bk x.Number+1,fun _=>by omega⟩
instance:Bk aF:=⟨fun x=>bk x.from_+bk x.to+1,fun _=>by omega⟩
instance:Bk aK:=⟨fun x=>bk x.from_+bk x.to+bk x.iK+1,fun _=>by omega⟩
end Go.Gk
namespace Go.Gk
open Go Go.Proofs Go.Sort
section
variable {α:Type}
theorem xU {β:Type} (a:Array β) {n:Nat} (h:a.size=n):a.extract 0 n=a:=by subst h;exact Array.extract_size
theorem I8 {φ:α->α->Option Int} {l:List α} (cf:α->α->Int) (hφ: ∀x∈l,∀y∈l,φ x y=some (cf x y)) (h1: ∀x∈l,¬cf x x<0)
  (h2: ∀x∈l,∀y∈l,∀z∈l,cf x y<0->cf y z<0->cf x z<0) (h3: ∀x∈l,∀y∈l,∀z∈l,¬cf x y<0->¬cf y z<0->¬cf x z<0):SWO (ltOf (Dc φ l)):=by
 have hm: ∀i:Fin l.length,l[i]∈l:=fun i=>cR i.isLt
 have e: ∀i j:Fin l.length,Dc φ l i j=cf l[i] l[j]:=fun i j=>by unfold Dc;rw [hφ _ (hm i) _ (hm j)];rfl
 refine⟨fun x=>?_,fun x y z=>?_,fun x y z=>?_⟩
 ·simp only [ltOf,e,decide_eq_false_iff_not];exact h1 _ (hm _)
 ·simp only [ltOf,e,decide_eq_true_iff];exact h2 _ (hm _) _ (hm _) _ (hm _)
 ·simp only [ltOf,e,decide_eq_false_iff_not];exact h3 _ (hm _) _ (hm _) _ (hm _)
theorem y4 {φ:α->α->Option Int} {l:List α} (cf:α->α->Int) (hφ: ∀x∈l,∀y∈l,φ x y=some (cf x y)) (h1: ∀x∈l,¬cf x x<0)
  (h2: ∀x∈l,∀y∈l,∀z∈l,cf x y<0->cf y z<0->cf x z<0) (h3: ∀x∈l,∀y∈l,∀z∈l,¬cf x y<0->¬cf y z<0->¬cf x z<0) (hl:l.length<4611686018427387904):
  ∃m,v9 φ l=some m/\m.Perm l/\m.Pairwise (fun x y=>¬cf y x<0):=by
 have hO:=I8 cf hφ h1 h2 h3
 have hm: ∀i:Fin l.length,l[i]∈l:=fun i=>cR i.isLt
 have hc: (∀i j:Fin l.length,∃c,φ l[i] l[j]=some c):=fun i j=>⟨_,hφ _ (hm i) _ (hm j)⟩
 refine⟨Eh φ l,by unfold v9;rw [aD ⟨⟨hc,hO⟩,hl⟩],?_⟩
 unfold Eh
 by_cases hn:0<l.length
 ·rw [dif_pos hn]
  letI inh:Inhabited (Fin l.length):=⟨⟨0,hn⟩⟩
  have hds: (Array.ofFn fun i:Fin l.length=>i).size=l.length:=by simp
  obtain⟨hp,hs⟩:=pdq_sorts (ltOf (Dc φ l)) hO (Array.ofFn fun i:Fin l.length=>i) 0 l.length (Lib.bitLen l.length) true true (fS _) (by rw [hds];exact bK _) (Or.inl rfl)
  show (List.map (fun i=>l[i]) (pdq (ltOf (Dc φ l)) (Array.ofFn fun i:Fin l.length=>i) 0 l.length (Lib.bitLen l.length) true true).toList).Perm l/\_
  generalize pdq (ltOf (Dc φ l)) (Array.ofFn fun i:Fin l.length=>i) 0 l.length (Lib.bitLen l.length) true true=d' at hp hs
  obtain⟨hz,_,hpm⟩:=hp
  have hz':d'.size=l.length:=hz.trans hds
  rw [xU d' hz',xU _ hds] at hpm
  have hof: (Array.ofFn fun i:Fin l.length=>i).toList.map (fun i=>l[i])=l:=by
   rw [Array.toList_ofFn,List.map_ofFn]
   exact List.ofFn_getElem
  refine⟨(hpm.map (fun i=>l[i])).trans (List.Perm.of_eq hof),?_⟩
  rw [List.pairwise_map,mz]
  intro i j hi hj hij
  rw [Array.length_toList] at hi hj
  have:=hs i j (fS _) hij (by rw [<-hz'];exact hj)
  rw [getElem!_pos d' i hi,getElem!_pos d' j hj] at this
  have hij2:=hφ _ (hm (d'[j])) _ (hm (d'[i]))
  have hij3:Dc φ l d'[j] d'[i]=cf l[d'[j]] l[d'[i]]:=by unfold Dc;rw [hij2];rfl
  unfold ltOf at this
  rw [decide_eq_false_iff_not,hij3] at this
  exact this
 ·rw [dif_neg hn]
  have:l= []:=List.length_eq_zero_iff.1 (by omega)
  subst this
  exact⟨List.Perm.refl _,jU⟩
theorem Ar {φ:α->α->Option Int} {x:α} (h:φ x x=some 0):v9 φ [x]=some [x]:=by
 obtain⟨m,h1,h2,_⟩:=y4 (φ:=φ) (l:=[x]) (fun _ _=>0) (fun a ha b hb=>by simp at ha hb;rw [ha,hb];exact h) (fun _ _=>by decide) (fun _ _ _ _ _ _ h=>by simp at h) (fun _ _ _ _ _ _ _ _=>by decide) (by simp)
 rw [h1,List.perm_singleton.1 h2]
theorem z8 {l:List Int} (h:l.Pairwise (fun x y=>x<=y)) (hl:l.length<4611686018427387904):tA l=some l:=by
 unfold tA
 rw [aD hl,List.mergeSort_of_pairwise (by simpa using h)]
end
end Go.Gk
namespace Go.Gk
open Go
def sI (l:List Int) (x:Int):Nat:=l.countP (fun a=>decide (a<=x))
def oq (l:List Int) (x:Int):Bool:=sI l x % 2==1
def jw (l:List Int):Prop:=l.Pairwise (· < ·)
theorem EB (x:Int):sI [] x=0:=rfl
theorem oU (a:Int) (l:List Int) (x:Int):sI (a::l) x= (if a<=x then 1 else 0)+sI l x:=by
 unfold sI
 rw [List.countP_cons]
 by_cases h:a<=x <;> simp [h];omega
theorem y5 (l m:List Int) (x:Int):sI (l++m) x=sI l x+sI m x:=List.countP_append
theorem EC {l:List Int} {x:Int} (h: ∀a∈l,a<=x):sI l x=l.length:=by
 unfold sI;rw [List.countP_eq_length];intro a ha;simpa using h a ha
theorem y6 {l:List Int} {x:Int} (h: ∀a∈l,x<a):sI l x=0:=by
 unfold sI;rw [List.countP_eq_zero];intro a ha;have:=h a ha;simp;omega
theorem wH {l:List Int} {x:Int}:oq l x=true↔sI l x % 2=1:=by unfold oq;simp
theorem wI {l:List Int} {x:Int} (h: ∀a∈l,x<a):oq l x=false:=by unfold oq;rw [y6 h];rfl
theorem jw.head {a:Int} {l:List Int} (h:jw (a::l)): ∀b∈l,a<b:=(nN.1 h).1
theorem jw.tail {a:Int} {l:List Int} (h:jw (a::l)):jw l:=(nN.1 h).2
theorem wJ {a:Int} {l:List Int} (h:jw (a::l)):oq (a::l) a=true:=by
 rw [wH,oU,aD (Int.le_refl _),y6 h.head]
theorem y7: ∀{l m:List Int},jw l->jw m->(∀x,oq l x=oq m x)->l=m
 | [],[],_,_,_=>rfl
 | [],b::m,_,hm,h=>by have:=h b;rw [wJ hm] at this;cases this
 | a::l,[],hl,_,h=>by have:=h a;rw [wJ hl] at this;cases this
 | a::l,b::m,hl,hm,h=>by
  have hab:a=b:=by
   rcases Int.lt_trichotomy a b with h1 | h1 | h1
   ·have h2:=h a
    rw [wJ hl,wI (l:=b::m) (fun c hc=>by
     rcases dH.1 hc with rfl | hc
     ·exact h1
     ·have:=hm.head c hc;omega)] at h2
    cases h2
   ·exact h1
   ·have h2:=h b
    rw [wJ hm,wI (l:=a::l) (fun c hc=>by
     rcases dH.1 hc with rfl | hc
     ·exact h1
     ·have:=hl.head c hc;omega)] at h2
    cases h2
  subst hab
  rw [y7 hl.tail hm.tail (fun x=>?_)]
  by_cases hx:a<=x
  ·have h2:=h x
   unfold oq at h2 ⊢
   rw [oU,oU,aD hx] at h2
   rw [fK] at h2 ⊢
   simp only [beq_iff_eq] at h2 ⊢
   omega
  ·rw [wI (fun c hc=>by have:=hl.head c hc;omega),wI (fun c hc=>by have:=hm.head c hc;omega)]
theorem wK {l:List Int} {a b:Int} (hl: ∀c∈l,c<a) (he:l.length % 2=0) (hab:a<b) (x:Int):oq (l++[a,b]) x= (oq l x||(decide (a<=x)&&decide (x<b))):=by
 rw [fK,dI,bV,bU,bU,wH,wH,y5,oU,oU,EB]
 by_cases h1:a<=x
 ·have h2:sI l x=l.length:=EC fun c hc=>by have:=hl c hc;omega
  rw [h2,aD h1]
  by_cases h3:b<=x
  ·rw [aD h3];omega
  ·rw [aH h3];omega
 ·rw [aH h1,aH (by omega)];omega
theorem GD {l:List Int} {s e a b:Int} (hl: ∀c∈l,c<s) (he:l.length % 2=0) (hs:s<e) (h1:s<=a) (h2:a<=e) (hab:a<b) (x:Int):oq (l++[s,max e b]) x= (oq (l++[s,e]) x||(decide (a<=x)&&decide (x<b))):=by
 rw [wK hl he (by omega),wK hl he hs]
 rw [fK]
 simp only [dI,bV,bU]
 constructor
 ·rintro(h | h)
  ·exact .inl (.inl h)
  ·by_cases hx:x<e
   ·exact .inl (.inr ⟨h.1,hx⟩)
   ·exact .inr ⟨by omega,by omega⟩
 ·rintro((h | h) | h)
  ·exact .inl h
  ·exact .inr ⟨h.1,by omega⟩
  ·exact .inr ⟨by omega,by omega⟩
theorem jw.snoc {l:List Int} {a b:Int} (h:jw l) (hl: ∀c∈l,c<a) (hab:a<b):jw (l++[a,b]):=by
 unfold jw
 rw [my]
 refine⟨h,by simp [hab],fun c hc d hd=>?_⟩
 have:=hl c hc
 simp at hd
 rcases hd with rfl | rfl <;> omega
structure Bd where
 y0:Int
 y1:Int
 xs:List Int
def rowAt:List Bd->Int->List Int
 | [],_=>[]
 | b::s,y=>if b.y0<=y/\y<b.y1 then b.xs else rowAt s y
theorem mj (b:Bd) (s:List Bd) (y:Int):rowAt (b::s) y=if b.y0<=y/\y<b.y1 then b.xs else rowAt s y:=rfl
structure eI (s:List Bd):Prop where
 each: ∀b∈s,b.y0<b.y1/\b.xs≠[]/\jw b.xs/\b.xs.length % 2=0
 ord:s.Pairwise (fun b c=>b.y1<=c.y0/\(b.y1=c.y0->b.xs≠c.xs))
theorem eI.nil:eI []:=⟨fun b h=>by simp at h,jU⟩
theorem eI.tail {b:Bd} {s:List Bd} (h:eI (b::s)):eI s:=⟨fun c hc=>h.each c (gN _ hc),(nN.1 h.ord).2⟩
theorem lu {s:List Bd} {y:Int} (h: ∀b∈s,y<b.y0\/b.y1<=y):rowAt s y= []:=by
 induction s with
 | nil=>rfl
 | cons b s ih=>
  unfold rowAt
  have:=h b (by simp)
  rw [aH (by omega)]
  exact ih fun c hc=>h c (gN _ hc)
theorem pH (s t:List Bd) (y:Int):rowAt (s++t) y=if (∃b∈s,b.y0<=y/\y<b.y1) then rowAt s y else rowAt t y:=by
 induction s with
 | nil=>simp
 | cons b s ih=>
  rw [List.cons_append,mj,mj]
  by_cases h:b.y0<=y/\y<b.y1
  ·rw [aD h,aD ⟨b,by simp,h⟩,aD h]
  ·rw [aH h,ih]
   by_cases h2: ∃c∈s,c.y0<=y/\y<c.y1
   ·obtain⟨c,hc,hc2⟩:=h2
    rw [aD ⟨c,hc,hc2⟩,aD ⟨c,gN _ hc,hc2⟩,aH h]
   ·rw [aH h2,aH (show ¬∃c∈b::s,c.y0<=y/\y<c.y1 from ?_)]
    rintro⟨c,hc,hc2⟩
    rcases dH.1 hc with rfl | hc
    ·exact h hc2
    ·exact h2 ⟨c,hc,hc2⟩
theorem eI.ml {b:Bd} {s:List Bd} {y:Int} (h0:b.y0<=y) (h1:y<b.y1):rowAt (b::s) y=b.xs:=by unfold rowAt;rw [aD ⟨h0,h1⟩]
theorem eI.y8 {b:Bd} {s:List Bd} (h:eI (b::s)): ∀c∈s,b.y1<=c.y0:=fun c hc=>((nN.1 h.ord).1 c hc).1
theorem eI.ux {b:Bd} {s:List Bd} (h:eI (b::s)) {y:Int} (hy:y<b.y0):rowAt (b::s) y= []:=lu fun c hc=>by
 rcases dH.1 hc with rfl | hc
 ·exact .inl hy
 ·have:=h.y8 c hc;have:=(h.each b (by simp)).1;exact .inl (by omega)
theorem eI.ED {b:Bd} {s:List Bd} (h:eI (b::s)):rowAt (b::s) b.y1≠b.xs:=by
 rw [mj,aH (by omega)]
 cases s with
 | nil=>exact fun e=>(h.each b (by simp)).2.1 e.symm
 | cons c s=>
  have h1:=(nN.1 h.ord).1 c (by simp)
  by_cases e:b.y1=c.y0
  ·rw [eI.ml (by omega) (by have:=(h.tail.each c (by simp)).1;omega)]
   exact fun h=>h1.2 e h.symm
  ·rw [h.tail.ux (by have:=h1.1;omega)]
   exact fun e=>(h.each b (by simp)).2.1 e.symm
theorem y9: ∀{s t:List Bd},eI s->eI t->(∀y,rowAt s y=rowAt t y)->s=t
 | [],[],_,_,_=>rfl
 | [],c::t,_,ht,h=>by
  have hc:=ht.each c (by simp)
  have:=h c.y0
  rw [eI.ml (Int.le_refl _) hc.1] at this
  exact absurd this.symm hc.2.1
 | b::s,[],hs,_,h=>by
  have hb:=hs.each b (by simp)
  have:=h b.y0
  rw [eI.ml (Int.le_refl _) hb.1] at this
  exact absurd this hb.2.1
 | b::s,c::t,hs,ht,h=>by
  have hb:=hs.each b (by simp)
  have hc:=ht.each c (by simp)
  have e0:b.y0=c.y0:=by
   rcases Int.lt_trichotomy b.y0 c.y0 with h1 | h1 | h1
   ·have h2:=h b.y0
    rw [eI.ml (Int.le_refl _) hb.1,ht.ux h1] at h2
    exact absurd h2 hb.2.1
   ·exact h1
   ·have h2:=h c.y0
    rw [eI.ml (Int.le_refl _) hc.1,hs.ux h1] at h2
    exact absurd h2.symm hc.2.1
  have ex:b.xs=c.xs:=by
   have h2:=h b.y0
   rw [eI.ml (Int.le_refl _) hb.1,eI.ml (by omega) (by omega)] at h2
   exact h2
  have e1:b.y1=c.y1:=by
   rcases Int.lt_trichotomy b.y1 c.y1 with h1 | h1 | h1
   ·have h2:=h b.y1
    rw [eI.ml (b:=c) (by omega) h1] at h2
    exact absurd (h2.trans ex.symm) hs.ED
   ·exact h1
   ·have h2:=h c.y1
    rw [eI.ml (b:=b) (by omega) h1] at h2
    exact absurd (h2.symm.trans ex) ht.ED
  have ebc:b=c:=by cases b;cases c;simp_all
  subst ebc
  rw [y9 hs.tail ht.tail (fun y=>?_)]
  by_cases hy:b.y1<=y
  ·have h2:=h y
   unfold rowAt at h2
   rw [aH (by omega),aH (by omega)] at h2
   exact h2
  ·rw [lu (fun d hd=>by have:=hs.y8 d hd;exact .inl (by omega)),lu (fun d hd=>by have:=ht.y8 d hd;exact .inl (by omega))]
def tu (s:List Bd) (x y:Int):Bool:=oq (rowAt s y) x
theorem As {s:List Bd} (h: ∀b∈s,jw b.xs) (y:Int):jw (rowAt s y):=by
 induction s with
 | nil=>exact jU
 | cons b s ih=>
  unfold rowAt
  split
  ·exact h b (by simp)
  ·exact ih fun c hc=>h c (gN _ hc)
theorem sJ {s t:List Bd} (hs:eI s) (ht:eI t) (h: ∀x y,tu s x y=tu t x y):s=t:=
 y9 hs ht fun y=>y7 (As (fun b hb=>(hs.each b hb).2.2.1) y) (As (fun b hb=>(ht.each b hb).2.2.1) y) fun x=>h x y
def jg (s:List Bd) (b:Bd):List Bd:=
 if b.xs= []\/b.y1<=b.y0 then s else
  match s.getLast? with
  | some c=>if c.y1=b.y0/\c.xs=b.xs then s.dropLast++[⟨c.y0,b.y1,c.xs⟩] else s++[b]
  | none=>[b]
theorem p7 {α:Type} {s:List α} {c:α} (h:s.getLast? =some c):s=s.dropLast++[c]:=by
 have hne:s≠[]:=fun e=>by rw [e] at h;cases h
 rw [List.getLast?_eq_some_getLast hne] at h
 injection h with h
 rw [<-h];exact(List.dropLast_concat_getLast hne).symm
theorem uy {s:List Bd} {b:Bd} (hs: ∀c∈s,c.y1<=b.y0) (hg: ∀c∈s,c.y0<c.y1) (hb:b.y1<=b.y0->b.y1=b.y0) (y:Int):rowAt (jg s b) y=if b.y0<=y/\y<b.y1 then b.xs else rowAt s y:=by
 have key: ∀(s:List Bd) (c:Bd),(∀d∈s,d.y1<=c.y0)->rowAt (s++[c]) y=if c.y0<=y/\y<c.y1 then c.xs else rowAt s y:=by
  intro s c h
  rw [pH]
  by_cases h1:c.y0<=y/\y<c.y1
  ·rw [aD h1,aH (by rintro⟨d,hd,hd2⟩;have:=h d hd;omega),eI.ml h1.1 h1.2]
  ·rw [aH h1]
   by_cases h2: ∃d∈s,d.y0<=y/\y<d.y1
   ·rw [aD h2]
   ·rw [aH h2,mj,aH h1]
    refine(show rowAt [] y=_ from (lu (s:=s) fun d hd=>?_).symm)
    by_cases h3:d.y0<=y
    ·exact .inr (by have: ¬(d.y0<=y/\y<d.y1):=fun h4=>h2 ⟨d,hd,h4⟩;omega)
    ·exact .inl (by omega)
 unfold jg
 by_cases h0:b.xs= []\/b.y1<=b.y0
 ·rw [aD h0]
  by_cases h1:b.y0<=y/\y<b.y1
  ·rw [aD h1]
   rcases h0 with h0 | h0
   ·rw [h0];exact lu fun c hc=> .inr (by have:=hs c hc;omega)
   ·omega
  ·rw [aH h1]
 ·rw [aH h0]
  cases hl:s.getLast? with
  | none=>
   have:s= []:=by simpa using hl
   subst this
   rfl
  | some c=>
   dsimp only
   have hsp:=p7 hl
   have hcm:c∈s:=by rw [hsp];simp
   by_cases h1:c.y1=b.y0/\c.xs=b.xs
   ·rw [aD h1]
    have hd: ∀d∈s.dropLast,d.y1<=c.y0\/True:=fun _ _=> .inr trivial
    rw [pH]
    have hrow:rowAt s y=if (∃d∈s.dropLast,d.y0<=y/\y<d.y1) then rowAt s.dropLast y else (if c.y0<=y/\y<c.y1 then c.xs else []):=by
     conv=>lhs;rw [hsp]
     rw [pH];rfl
    rw [hrow]
    have hcg:=hg c hcm
    by_cases h2: ∃d∈s.dropLast,d.y0<=y/\y<d.y1
    ·obtain⟨d,hd,hd2⟩:=h2
     have:=hs d (List.dropLast_subset _ hd)
     have he: ∃d∈s.dropLast,d.y0<=y/\y<d.y1:=⟨d,hd,hd2⟩
     rw [aD he,aD he,aH (by omega)]
    ·rw [aH h2,aH h2]
     show (if c.y0<=y/\y<b.y1 then c.xs else [])=_
     by_cases h3:b.y0<=y/\y<b.y1
     ·rw [aD h3,aD ⟨by omega,h3.2⟩,h1.2]
     ·rw [aH h3]
      by_cases h4:c.y0<=y/\y<c.y1
      ·rw [aD h4,aD ⟨h4.1,by omega⟩]
      ·rw [aH h4,aH (by omega)]
   ·rw [aH h1]
    exact key s b hs
theorem uz {s:List Bd} {b:Bd} (h:eI s) (hs: ∀c∈s,c.y1<=b.y0) (hb:jw b.xs) (he:b.xs.length % 2=0):eI (jg s b):=by
 unfold jg
 by_cases h0:b.xs= []\/b.y1<=b.y0
 ·rw [aD h0];exact h
 ·rw [aH h0]
  have hbg:b.y0<b.y1/\b.xs≠[]/\jw b.xs/\b.xs.length % 2=0:=⟨by omega,fun e=>h0 (.inl e),hb,he⟩
  cases hl:s.getLast? with
  | none=>exact⟨fun c hc=>by simp at hc;subst hc;exact hbg,List.pairwise_singleton _ _⟩
  | some c=>
   dsimp only
   have hsp:=p7 hl
   have hcm:c∈s:=by rw [hsp];simp
   have hc:=h.each c hcm
   have hord:=h.ord
   rw [hsp,my] at hord
   by_cases h1:c.y1=b.y0/\c.xs=b.xs
   ·rw [aD h1]
    refine⟨fun d hd=>?_,?_⟩
    ·rcases dC.1 hd with hd | hd
     ·exact h.each d (List.dropLast_subset _ hd)
     ·simp at hd;subst hd;exact⟨by show c.y0<b.y1;omega,hc.2⟩
    ·rw [my]
     refine⟨hord.1,List.pairwise_singleton _ _,fun d hd e he=>?_⟩
     simp at he;subst he
     exact hord.2.2 d hd c (by simp)
   ·rw [aH h1]
    refine⟨fun d hd=>?_,?_⟩
    ·rcases dC.1 hd with hd | hd
     ·exact h.each d hd
     ·simp at hd;subst hd;exact hbg
    ·rw [my]
     refine⟨h.ord,List.pairwise_singleton _ _,fun d hd e he=>?_⟩
     simp at he;subst he
     refine⟨hs d hd,fun e1 e2=>?_⟩
     rw [hsp] at hd
     rcases dC.1 hd with hd | hd
     ·have h2:=(hord.2.2 d hd c (by simp)).1
      have:=hs c hcm
      omega
     ·simp at hd;subst hd;exact h1 ⟨e1,e2⟩
theorem uA {s:List Bd} {b:Bd} (hs: ∀c∈s,c.y1<=b.y0) (hb:b.y0<=b.y1): ∀c∈jg s b,c.y1<=b.y1:=by
 intro c hc
 unfold jg at hc
 split at hc
 ·have:=hs c hc;omega
 ·split at hc
  ·split at hc
   ·rcases dC.1 hc with hc | hc
    ·have:=hs c (List.dropLast_subset _ hc);omega
    ·simp at hc;subst hc;exact Int.le_refl _
   ·rcases dC.1 hc with hc | hc
    ·have:=hs c hc;omega
    ·simp at hc;subst hc;exact Int.le_refl _
  ·simp at hc;subst hc;exact Int.le_refl _
end Go.Gk
namespace Go.Gk
open Go
section
variable {N:Nat}
def bS (b:aA):Bd:=⟨b.Y0,b.Y1,b.Xs⟩
def small (a:Int):Prop:= -1099511627776<=a/\a<=1099511627776
structure za (r:aG):Prop where
 x:r.X0<r.X1
 y:r.Y0<r.Y1
 s1:small r.X0
 s2:small r.X1
 s3:small r.Y0
 s4:small r.Y1
def DF (l:List aG) (x:Int):Bool:=l.any (fun r=>decide (r.X0<=x)&&decide (x<r.X1))
def tX (l:List aG) (x y:Int):Bool:=l.any (fun r=>(decide (r.X0<=x)&&decide (x<r.X1))&&(decide (r.Y0<=y)&&decide (y<r.Y1)))
theorem zb {l:List aG} {x:Int}:DF l x=true↔∃r∈l,r.X0<=x/\x<r.X1:=by unfold DF;simp [k9]
theorem iZ {l:List aG} {x y:Int}:tX l x y=true↔∃r∈l,(r.X0<=x/\x<r.X1)/\r.Y0<=y/\y<r.Y1:=by unfold tX;simp [k9]
theorem wrap_small {a b:Int} (ha:small a) (hb:small b):IntKind.wrap .i64 (a - b)=a - b:=by unfold small at *;exact fw (by omega) (by omega)
theorem zc {n:Nat} (h:0<n) (hn:n<=4611686018427387904):IntKind.wrap .i64 (((n:Nat):Int) - 1)= ((n - 1:Nat):Int):=jC h hn
structure Mv (out:List Int) (m:List aG) (k:Nat):Prop where
 row: (k=0/\out= [])\/∃A s e,out=A++[s,e]/\jw A/\(∀c∈A,c<s)/\A.length % 2=0/\s<e/\∃j r,j<k/\m[j]? =some r/\s=r.X0
 oq: ∀x,oq out x=DF (m.take k) x
 len:out.length<=2*k
 mem: ∀c∈out,∃r∈m,c=r.X0\/c=r.X1
theorem xC (l:List aG) (r:aG) (x:Int):DF (l++[r]) x= (DF l x||(decide (r.X0<=x)&&decide (x<r.X1))):=by unfold DF;rw [List.any_append];simp
theorem Bs {l:List aG} (hl:l.length<=268435456) (hok: ∀r∈l,za r): ∃row l',jk N l=some (row,l')/\l'.Perm l/\jw row/\row.length % 2=0/\(∀x,oq row x=DF l x)/\row.length<=2*l.length/\∀c∈row,∃r∈l,c=r.X0\/c=r.X1:=by
 unfold jk
 obtain⟨m,h1,h2,h3⟩:=y4 (φ:=gT N) (l:=l) (fun a b=>a.X0 - b.X0) (fun a ha b hb=>by
  unfold gT;rw [wrap_small (hok a ha).s1 (hok b hb).s1]) (fun a _=>by omega) (fun a _ b _ c _ h1 h2=>by omega) (fun a _ b _ c _ h1 h2=>by omega) (by omega)
 have hml:m.length=l.length:=h2.length_eq
 have hmok: ∀r∈m,za r:=fun r hr=>hok r (h2.subset hr)
 rw [h1,aB]
 obtain⟨out,a1,a2⟩:=yz (m:=m.length) (s:=([]:List Int)) (body:=fun(k32:Nat) (s33: (List Int))=>((idx m (k32:Int)).bind fun x79=>(bif (decide ((IntKind.wrap .i64 ((s33.length:Int) - 1))>=0)) then ((idx s33 (IntKind.wrap .i64 ((s33.length:Int) - 1))).bind fun x86=>some (decide (x79.X0<=x86))) else (some false)).bind fun s84=>(bif s84 then ((idx s33 (IntKind.wrap .i64 ((s33.length:Int) - 1))).bind fun x94=>(idx s33 (IntKind.wrap .i64 ((s33.length:Int) - 1))).bind fun x95=>some (s33.set (Int.toNat (IntKind.wrap .i64 ((s33.length:Int) - 1))) (if x94<x79.X1 then x79.X1 else x94))) else ((app 8 s33 ([x79.X0,x79.X1]: (List Int))).bind fun x97=>some x97)).bind fun s92=>some s92:Option ((List Int))))
  (fun k out=>Mv out m k) (by omega) ⟨.inl ⟨rfl,rfl⟩,fun x=>rfl,by simp,fun c hc=>by cases hc⟩ (fun k out hk ⟨i1,i2,i3,i4⟩=>by
   have hx:m[k]? =some m[k]:=aO hk
   have hr:=hmok _ (cR hk)
   rw [gv hx,aB]
   have hts:m.take (k+1)=m.take k++[m[k]]:=eD hk
   rcases i1 with ⟨rfl,rfl⟩ | ⟨A,s,e,rfl,hA,hAs,hAe,hse,j,r,hj,hjr,hsr⟩
   ·rw [show decide (IntKind.wrap .i64 (((([]:List Int).length:Nat):Int) - 1)>=0)=false by decide,aT,aB,aT,jd (by simp),aB,aB]
    refine⟨_,rfl, .inr ⟨[],_,_,rfl,jU,fun c hc=>by simp at hc,rfl,hr.x,0,m[0],by omega,hx,rfl⟩,fun x=>?_,by simp,fun c hc=>⟨m[0],cR hk,by simpa using hc⟩⟩
    rw [hts,xC,<-i2 x]
    exact wK (l:=[]) (fun c hc=>by simp at hc) rfl hr.x x
   ·have hlen: (A++[s,e]).length=A.length+2:=by simp
    have hwp:IntKind.wrap .i64 ((((A++[s,e]).length:Nat):Int) - 1)= ((A.length+1:Nat):Int):=by rw [zc (by omega) (by omega),hlen];rfl
    have hlast: (A++[s,e])[A.length+1]? =some e:=by rw [gw (by omega)];simp
    have hs:s<=m[k].X0:=by
     have:=mz.1 h3 j k (by have:=(bC.1 hjr).1;omega) hk hj
     rw [hsr,<-(bC.1 hjr).2];omega
    rw [hwp,bR (by omega),aQ,gv hlast,aB,aB]
    by_cases hc:m[k].X0<=e
    ·rw [bR hc,aQ,aB,aB,aB,cK]
     have mA: (A++[s,e]).set (A.length+1) (if e<m[k].X1 then m[k].X1 else e)=A++[s,max e m[k].X1]:=by
      rw [List.set_append_right _ _ (by omega)]
      have:A.length+1 - A.length=1:=by omega
      rw [this,Int.max_def]
      simp only [List.set_cons_succ,List.set_cons_zero]
      congr 2
      split <;> split <;> simp <;> omega
     rw [mA]
     refine⟨_,rfl, .inr ⟨A,s,_,rfl,hA,hAs,hAe,by omega,j,r,by omega,hjr,hsr⟩,fun x=>?_,by simp at i3 ⊢;omega,fun c hc=>by
      rcases dC.1 hc with h | h
      ·exact i4 c (List.mem_append_left _ h)
      ·simp at h
       rcases h with h | h
       ·exact i4 c (by simp [h])
       ·rw [Int.max_def] at h
        split at h
        ·exact⟨_,cR hk, .inr h⟩
        ·exact i4 c (by simp [h])⟩
     rw [hts,xC,<-i2 x]
     exact GD hAs hAe hse hs hc hr.x x
    ·rw [bY hc,aT,jd (by rw [hlen];simp;omega),aB,aB]
     have hall: ∀c∈A++[s,e],c<m[k].X0:=fun c hc'=>by
      rcases dC.1 hc' with h | h
      ·have:=hAs c h;omega
      ·simp at h;omega
     refine⟨_,rfl, .inr ⟨A++[s,e],_,_,rfl,hA.snoc hAs hse,hall,by rw [hlen];omega,hr.x,k,m[k],by omega,hx,rfl⟩,fun x=>?_,by simp at i3 ⊢;omega,fun c hc=>by
      rcases dC.1 hc with h | h
      ·exact i4 c h
      ·exact⟨m[k],cR hk,by simpa using h⟩⟩
     rw [hts,xC,<-i2 x]
     exact wK hall (by rw [hlen];omega) hr.x x)
 rw [a1,aB]
 refine⟨out,m,rfl,h2,?_,?_,fun x=>?_,by rw [<-hml];exact a2.len,fun c hc=>by obtain⟨r,hr,h⟩:=a2.mem c hc;exact⟨r,h2.subset hr,h⟩⟩
 ·rcases a2.row with ⟨_,h⟩ | ⟨A,s,e,rfl,hA,hAs,hAe,hse,_⟩
  ·rw [h];exact jU
  ·exact hA.snoc hAs hse
 ·rcases a2.row with ⟨_,h⟩ | ⟨A,s,e,rfl,hA,hAs,hAe,hse,_⟩
  ·rw [h];rfl
  ·simp;omega
 ·rw [a2.oq x,fJ,fK,zb,zb]
  constructor
  ·rintro⟨r,hr,h⟩;exact⟨r,h2.subset hr,h⟩
  ·rintro⟨r,hr,h⟩;exact⟨r,h2.symm.subset hr,h⟩
theorem Fk {l m:List Int} (hl:l.length<=4611686018427387904):mE N l m=some (decide (l=m)):=uw hl
theorem EE {s:List aA} {b:aA} (hs:s.length<=1048576000) (hx: ∀c∈s,c.Xs.length<=1048576000): ∃s',i6 N s b=some s'/\s'.map bS=jg (s.map bS) (bS b):=by
 unfold i6 jg
 by_cases h0:b.Xs= []\/b.Y1<=b.Y0
 ·have e: ((((b.Xs.length:Nat):Int)==0)||(decide (b.Y1<=b.Y0)))=true:=by
   rw [dI]
   rcases h0 with h | h
   ·left;rw [h];rfl
   ·right;exact bR h
  rw [e,aQ,aD (show (bS b).xs= []\/(bS b).y1<=(bS b).y0 from h0)]
  exact⟨s,rfl,rfl⟩
 ·have e: ((((b.Xs.length:Nat):Int)==0)||(decide (b.Y1<=b.Y0)))=false:=by
   rw [Bool.or_eq_false_iff]
   constructor
   ·rw [beq_eq_false_iff_ne];intro h;exact h0 (.inl (List.eq_nil_of_length_eq_zero (by omega)))
   ·exact bY fun h=>h0 (.inr h)
  rw [e,aT,aH (show ¬((bS b).xs= []\/(bS b).y1<=(bS b).y0) from h0)]
  rcases List.eq_nil_or_concat s with rfl | ⟨A,c,hA⟩
  ·rw [show decide (IntKind.wrap .i64 (((([]:List aA).length:Nat):Int) - 1)>=0)=false by decide,aT,aB,aT,jd (by simp),aB]
   exact⟨_,rfl,rfl⟩
  ·rw [List.concat_eq_append] at hA
   subst hA
   have hlen: (A++[c]).length=A.length+1:=by simp
   have hwp:IntKind.wrap .i64 ((((A++[c]).length:Nat):Int) - 1)= ((A.length:Nat):Int):=by rw [zc (by omega) (by omega),hlen];rfl
   have hlast: (A++[c])[A.length]? =some c:=by simp
   rw [hwp,bR (by omega),aQ,gv hlast,aB,aB,Fk (by have:=hx c (by simp);omega),aB,aB,cK,jd (by rw [hlen];simp;omega),aB]
   have hl2: ((A++[c]).map bS).getLast? =some (bS c):=by simp
   have hd2: ((A++[c]).map bS).dropLast=A.map bS:=by simp
   rw [hl2,hd2]
   dsimp only
   by_cases h1:c.Y1=b.Y0/\c.Xs=b.Xs
   ·rw [aD (show (bS c).y1= (bS b).y0/\(bS c).xs= (bS b).xs from h1),show (c.Y1==b.Y0)=true by rw [h1.1];simp,aQ,bR h1.2,aB,aQ]
    refine⟨_,rfl,?_⟩
    rw [List.set_append_right _ _ (bK _),Nat.sub_self]
    simp [bS]
   ·rw [aH (show ¬((bS c).y1= (bS b).y0/\(bS c).xs= (bS b).xs) from h1)]
    have e2: (bif (c.Y1==b.Y0) then (some (decide (c.Xs=b.Xs))) else (some false))=some false:=by
     by_cases h2:c.Y1=b.Y0
     ·rw [show (c.Y1==b.Y0)=true by rw [h2];simp,aQ,bY (fun h=>h1 ⟨h2,h⟩)]
     ·rw [show (c.Y1==b.Y0)=false by simpa using h2,aT]
    rw [e2,aB,aT]
    exact⟨_,rfl,by simp⟩
end
end Go.Gk
namespace Go.Gk
open Go
def cY (l:List (Int×Int)):List Int:=l.flatMap fun s=>[s.1,s.2]
def iW (l:List (Int×Int)) (x:Int):Bool:=l.any fun s=>decide (s.1<=x)&&decide (x<s.2)
theorem iX (s:Int×Int) (l:List (Int×Int)):cY (s::l)=s.1::s.2::cY l:=rfl
theorem sK (l m:List (Int×Int)):cY (l++m)=cY l++cY m:=List.flatMap_append
theorem jE (l:List (Int×Int)): (cY l).length=2*l.length:=by
 induction l with
 | nil=>rfl
 | cons s l ih=>rw [iX,fI,fI,fI,ih];omega
theorem Au (s:Int×Int) (l:List (Int×Int)) (x:Int):iW (s::l) x= ((decide (s.1<=x)&&decide (x<s.2))||iW l x):=rfl
theorem xV (l m:List (Int×Int)) (x:Int):iW (l++m) x= (iW l x||iW m x):=List.any_append
theorem rJ {l:List (Int×Int)} {x:Int}:iW l x=true↔∃s∈l,s.1<=x/\x<s.2:=by
 unfold iW;simp
theorem Fm {a b:Int} {m:List Int} (h:jw (a::b::m)) (x:Int):oq (a::b::m) x= ((decide (a<=x)&&decide (x<b))||oq m x):=by
 have hab:a<b:=h.head b (by simp)
 have hm:=h.tail.head
 rw [fK,dI,bV,bU,bU,wH,wH,oU,oU]
 by_cases h1:a<=x
 ·rw [aD h1]
  by_cases h2:b<=x
  ·rw [aD h2];omega
  ·rw [aH h2,y6 (fun c hc=>by have:=hm c hc;omega)];omega
 ·rw [aH h1,aH (by omega)];omega
theorem rK: ∀{l:List (Int×Int)},jw (cY l)->∀x,oq (cY l) x=iW l x
 | [],_,x=>rfl
 | s::l,h,x=>by
  rw [iX] at h ⊢
  rw [Fm h,Au,rK h.tail.tail]
theorem Av: ∀{l m:List (Int×Int)},cY l=cY m->l=m
 | [],[],_=>rfl
 | [],s::m,h=>by cases h
 | s::l,[],h=>by cases h
 | (a,b)::l,(c,d)::m,h=>by
  rw [iX,iX] at h
  injection h with h1 h2
  injection h2 with h2 h3
  simp only at h1 h2
  rw [h1,h2,Av h3]
theorem xD {l:List (Int×Int)} {c:Int} (h:c∈cY l): ∃s∈l,c=s.1\/c=s.2:=by
 obtain⟨s,hs,hc⟩:=List.mem_flatMap.1 h
 exact⟨s,hs,by simpa using hc⟩
theorem tY {l:List (Int×Int)} (h:jw (cY l)): ∀s∈l,s.1<s.2:=by
 induction l with
 | nil=>intro s hs;cases hs
 | cons a l ih=>
  rw [iX] at h
  intro s hs
  rcases dH.1 hs with rfl | hs
  ·exact h.head _ (by simp)
  ·exact ih h.tail.tail s hs
theorem rL {l m:List (Int×Int)}:jw (cY (l++m))↔jw (cY l)/\jw (cY m)/\∀s∈l,∀t∈m,s.2<t.1:=by
 rw [sK]
 unfold jw
 rw [my]
 constructor
 ·rintro⟨h1,h2,h3⟩
  exact⟨h1,h2,fun s hs t ht=>h3 s.2 (List.mem_flatMap.2 ⟨s,hs,by simp⟩) t.1 (List.mem_flatMap.2 ⟨t,ht,by simp⟩)⟩
 ·rintro⟨h1,h2,h3⟩
  refine⟨h1,h2,fun a ha b hb=>?_⟩
  obtain⟨s,hs,ha⟩:=xD ha
  obtain⟨t,ht,hb⟩:=xD hb
  have h4:=h3 s hs t ht
  have h5:=tY (l:=l) h1 s hs
  have h6:=tY (l:=m) h2 t ht
  rcases ha with rfl | rfl <;> rcases hb with rfl | rfl <;> omega
def j5 (s:Int×Int):List (Int×Int)->(Int×Int)×List (Int×Int)
 | []=>(s,[])
 | a::l=>if a.1<=s.2 then j5 (min s.1 a.1,max s.2 a.2) l else (s,a::l)
def lv (l:List (Int×Int)) (s:Int×Int):List (Int×Int):=
 l.takeWhile (fun a=>decide (a.2<s.1))++(j5 s (l.dropWhile fun a=>decide (a.2<s.1))).1::(j5 s (l.dropWhile fun a=>decide (a.2<s.1))).2
theorem xW: ∀(l:List (Int×Int)) (s:Int×Int),s.1<s.2->jw (cY l)->(∀a∈l,s.1<=a.2)->
  (j5 s l).1.1< (j5 s l).1.2/\((j5 s l).1.1=s.1\/∃a∈l,(j5 s l).1.1=a.1)/\jw (cY (j5 s l).2)/\(∀t∈(j5 s l).2,(j5 s l).1.2<t.1)/\
  ∀x,iW ((j5 s l).1::(j5 s l).2) x= ((decide (s.1<=x)&&decide (x<s.2))||iW l x)
 | [],s,h,_,_=>⟨h, .inl rfl,jU,fun t (ht:t∈([]:List (Int×Int)))=>(by cases ht),fun x=>rfl⟩
 | a::l,s,h,hi,hs=>by
  have hsp:=tY hi
  have ha:=hsp a (by simp)
  have hi':=hi
  rw [iX] at hi'
  have hsa:=hs a (by simp)
  unfold j5
  by_cases hc:a.1<=s.2
  ·rw [aD hc]
   have hlt: (min s.1 a.1,max s.2 a.2).1< (min s.1 a.1,max s.2 a.2).2:=by dsimp only;omega
   obtain⟨h1,h2,h3,h4,h5⟩:=xW l (min s.1 a.1,max s.2 a.2) hlt hi'.tail.tail (fun b hb=>by
    have:=(rL (l:=[a]) (m:=l)).1 hi
    have h6:=this.2.2 a (by simp) b hb
    have h7:=hsp b (gN _ hb)
    dsimp only;omega)
   refine⟨h1,?_,h3,h4,fun x=>?_⟩
   ·rcases h2 with h2 | ⟨b,hb,h2⟩
    ·rw [h2]
     rcases Int.le_total s.1 a.1 with h6 | h6
     ·exact .inl (by simp only;omega)
     ·exact .inr ⟨a,by simp,by simp only;omega⟩
    ·exact .inr ⟨b,gN _ hb,h2⟩
   ·rw [h5,Au,<-Bool.or_assoc]
    congr 1
    clear h1 h2 h3 h4 h5
    rw [fK]
    simp only [dI,bV,bU]
    constructor
    ·intro h6
     by_cases h7:s.1<=x/\x<s.2
     ·exact .inl h7
     ·exact .inr (by omega)
    ·rintro(h6 | h6) <;> omega
  ·rw [aH hc]
   refine⟨h, .inl rfl,hi,fun t ht=>?_,fun x=>rfl⟩
   show s.2<t.1
   rcases dH.1 ht with rfl | ht
   ·omega
   ·have:=((rL (l:=[a]) (m:=l)).1 hi).2.2 a (by simp) t ht
    omega
theorem Bt {l:List (Int×Int)} {c:Int} (h:jw (cY l)): ∀a∈l.dropWhile (fun a=>decide (a.2<c)),c<=a.2:=by
 induction l with
 | nil=>intro a ha;cases ha
 | cons b l ih=>
  have h':=h
  rw [iX] at h'
  rw [List.dropWhile_cons]
  by_cases hb:b.2<c
  ·rw [aD (by simpa using hb)];exact ih h'.tail.tail
  ·rw [aH (by simpa using hb)]
   intro a ha
   rcases dH.1 ha with rfl | ha
   ·omega
   ·have h1:=((rL (l:=[b]) (m:=l)).1 h).2.2 b (by simp) a ha
    have h2:=tY h a (gN _ ha)
    omega
theorem Bu (l:List (Int×Int)) (c:Int): ∀a∈l.takeWhile (fun a=>decide (a.2<c)),a.2<c:=by
 induction l with
 | nil=>intro a ha;cases ha
 | cons b l ih=>
  rw [List.takeWhile_cons]
  by_cases hb:b.2<c
  ·rw [aD (by simpa using hb)]
   intro a ha
   rcases dH.1 ha with rfl | ha
   ·exact hb
   ·exact ih a ha
  ·rw [aH (by simpa using hb)]
   intro a ha;cases ha
theorem wL {l:List (Int×Int)} {s:Int×Int} (h:jw (cY l)) (hs:s.1<s.2):
  jw (cY (lv l s))/\∀x,iW (lv l s) x= ((decide (s.1<=x)&&decide (x<s.2))||iW l x):=by
 have hsplit:=h
 rw [<-List.takeWhile_append_dropWhile (p:=fun a:Int×Int=>decide (a.2<s.1)) (l:=l),rL] at hsplit
 obtain⟨h1,h2,h3⟩:=hsplit
 obtain⟨m1,m2,m3,m4,m5⟩:=xW (l.dropWhile fun a=>decide (a.2<s.1)) s hs h2 (Bt h)
 unfold lv
 refine⟨rL.2 ⟨h1,?_,fun a ha t ht=>?_⟩,fun x=>?_⟩
 ·rw [iX]
  have h4: ∀c∈cY (j5 s (l.dropWhile fun a=>decide (a.2<s.1))).2,(j5 s (l.dropWhile fun a=>decide (a.2<s.1))).1.2<c:=fun c hc=>by
   obtain⟨t,ht,hc⟩:=xD hc
   have:=m4 t ht
   have:=tY m3 t ht
   rcases hc with rfl | rfl <;> omega
  exact nN.2 ⟨fun c hc=>by
   rcases dH.1 hc with rfl | hc
   ·exact m1
   ·have:=h4 c hc;omega,nN.2 ⟨h4,m3⟩⟩
 ·have ha1:=Bu l s.1 a ha
  rcases dH.1 ht with rfl | ht
  ·rcases m2 with m2 | ⟨b,hb,m2⟩
   ·rw [m2];exact ha1
   ·rw [m2];exact h3 a ha b hb
  ·have h5:=m4 t ht
   rcases m2 with m2 | ⟨b,hb,m2⟩
   ·rw [m2] at m1;omega
   ·have:=h3 a ha b hb;rw [m2] at m1;omega
 ·rw [xV,m5]
  conv=>rhs;rw [<-List.takeWhile_append_dropWhile (p:=fun a:Int×Int=>decide (a.2<s.1)) (l:=l),xV]
  rw [Bool.or_left_comm]
end Go.Gk
namespace Go.Gk
open Go
def jR:List Int->List (Int×Int)
 | a::b::l=>(a,b)::jR (b::l)
 | _=>[]
theorem pN: ∀{xs:List Int},jw xs->∀s∈jR xs,s.1∈xs/\s.2∈xs/\s.1<s.2/\∀c∈xs,c<=s.1\/s.2<=c
 | [],_,s,hs=>by cases hs
 | [a],_,s,hs=>by cases hs
 | a::b::l,h,s,hs=>by
  have hab:=h.head b (by simp)
  rcases dH.1 hs with rfl | hs
  ·refine⟨by simp,by simp,hab,fun c hc=>?_⟩
   rcases dH.1 hc with rfl | hc
   ·exact .inl (Int.le_refl _)
   ·rcases dH.1 hc with rfl | hc
    ·exact .inr (Int.le_refl _)
    ·exact .inr (by have:=h.tail.head c hc;show b<=c;omega)
  ·obtain⟨h1,h2,h3,h4⟩:=pN h.tail s hs
   refine⟨gN _ h1,gN _ h2,h3,fun c hc=>?_⟩
   rcases dH.1 hc with rfl | hc
   ·exact .inl (by have:=h.head s.1 h1;omega)
   ·exact h4 c hc
theorem vJ: ∀{xs:List Int},jw xs->∀x,(∃s∈jR xs,s.1<=x/\x<s.2)\/(∀c∈xs,x<c)\/(∀c∈xs,c<=x)
 | [],_,x=> .inr (.inl fun c hc=>by cases hc)
 | [a],_,x=>by
  by_cases h:x<a
  ·exact .inr (.inl fun c hc=>by simp at hc;omega)
  ·exact .inr (.inr fun c hc=>by simp at hc;omega)
 | a::b::l,h,x=>by
  have hab:=h.head b (by simp)
  rcases vJ h.tail x with ⟨s,hs,h1⟩ | h1 | h1
  ·exact .inl ⟨s,gN _ hs,h1⟩
  ·by_cases h2:x<a
   ·exact .inr (.inl fun c hc=>by
     rcases dH.1 hc with rfl | hc
     ·exact h2
     ·exact h1 c hc)
   ·exact .inl ⟨(a,b),by simp [jR],by show a<=x;omega,h1 b (by simp)⟩
  ·exact .inr (.inr fun c hc=>by
    rcases dH.1 hc with rfl | hc
    ·have:=h1 b (by simp);omega
    ·exact h1 c hc)
def Ends (a:List (Int×Int)) (xs:List Int):Prop:=∀s∈a,s.1∈xs/\s.2∈xs
theorem yA {a:List (Int×Int)} {xs:List Int} (he:Ends a xs) (hx:jw xs) {s:Int×Int} (hs:s∈jR xs) {x:Int} (h1:s.1<=x) (h2:x<s.2):iW a x=iW a s.1:=by
 obtain⟨_,_,h3,h4⟩:=pN hx s hs
 rw [fK,rJ,rJ]
 constructor
 ·rintro⟨t,ht,h5,h6⟩
  have:=h4 _ (he t ht).1
  exact⟨t,ht,by omega,by omega⟩
 ·rintro⟨t,ht,h5,h6⟩
  have:=h4 _ (he t ht).2
  exact⟨t,ht,by omega,by omega⟩
theorem EF {a:List (Int×Int)} {xs:List Int} (he:Ends a xs) {x:Int} (h: (∀c∈xs,x<c)\/(∀c∈xs,c<=x)):iW a x=false:=by
 rw [<-nc,rJ]
 rintro⟨t,ht,h5,h6⟩
 obtain⟨e1,e2⟩:=he t ht
 rcases h with h | h
 ·have:=h _ e1;omega
 ·have:=h _ e2;omega
def lR (fE:Bool->Bool->Bool) (a b:List (Int×Int)) (ss:List (Int×Int)) (out:List (Int×Int)):List (Int×Int):=
 ss.foldl (fun out s=>if fE (iW a s.1) (iW b s.1)=true then lv out s else out) out
theorem tZ (fE:Bool->Bool->Bool) (a b:List (Int×Int)): ∀(ss out:List (Int×Int)),jw (cY out)->(∀s∈ss,s.1<s.2)->
  jw (cY (lR fE a b ss out))/\∀x,iW (lR fE a b ss out) x= (iW out x||ss.any fun s=>fE (iW a s.1) (iW b s.1)&&(decide (s.1<=x)&&decide (x<s.2)))
 | [],out,h,_=>⟨h,fun x=>by simp [lR]⟩
 | s::ss,out,h,hs=>by
  have h0:=hs s (by simp)
  unfold lR
  rw [List.foldl_cons]
  by_cases hk:fE (iW a s.1) (iW b s.1)=true
  ·rw [aD hk]
   obtain⟨j1,j2⟩:=wL h h0
   obtain⟨m1,m2⟩:=tZ fE a b ss (lv out s) j1 (fun t ht=>hs t (gN _ ht))
   refine⟨m1,fun x=>?_⟩
   rw [show iW (List.foldl _ (lv out s) ss) x=_ from m2 x,j2,List.any_cons,hk,Bool.true_and]
   cases iW out x <;> simp
  ·rw [aH hk]
   obtain⟨m1,m2⟩:=tZ fE a b ss out h (fun t ht=>hs t (gN _ ht))
   refine⟨m1,fun x=>?_⟩
   rw [show iW (List.foldl _ out ss) x=_ from m2 x,List.any_cons,eq_false_of_ne_true hk,Bool.false_and,Bool.false_or]
theorem CH {fE:Bool->Bool->Bool} (hk:fE false false=false) {a b:List (Int×Int)} {xs:List Int} (hx:jw xs) (ha:Ends a xs) (hb:Ends b xs):
  jw (cY (lR fE a b (jR xs) []))/\∀x,iW (lR fE a b (jR xs) []) x=fE (iW a x) (iW b x):=by
 obtain⟨m1,m2⟩:=tZ fE a b (jR xs) [] jU (fun s hs=>(pN hx s hs).2.2.1)
 refine⟨m1,fun x=>?_⟩
 rw [m2,show iW [] x=false from rfl,Bool.false_or]
 rcases vJ hx x with ⟨s,hs,h1,h2⟩ | h
 ·rw [fK,k9]
  constructor
  ·rintro⟨t,ht,h3⟩
   rw [bV,bV,bU,bU] at h3
   rw [yA ha hx ht h3.2.1 h3.2.2,yA hb hx ht h3.2.1 h3.2.2];exact h3.1
  ·intro h3
   rw [yA ha hx hs h1 h2,yA hb hx hs h1 h2] at h3
   exact⟨s,hs,by rw [h3,bR h1,bR h2];rfl⟩
 ·rw [EF ha h,EF hb h,hk,<-nc,k9]
  rintro⟨t,ht,h3⟩
  rw [bV,bV,bU,bU] at h3
  obtain⟨e1,e2,_⟩:=pN hx t ht
  rcases h with h | h
  ·have:=h _ e1;omega
  ·have:=h _ e2;omega
def lS (f:Int->List Int) (ss:List (Int×Int)) (out:List Bd):List Bd:=ss.foldl (fun out s=>jg out ⟨s.1,s.2,f s.1⟩) out
theorem xX (f:Int->List Int) (hf: ∀y,jw (f y)/\(f y).length % 2=0): ∀(ys:List Int) (out:List Bd),jw ys->eI out->(∀c∈out,∀y∈ys,c.y1<=y)->
  eI (lS f (jR ys) out)/\∀y,rowAt (lS f (jR ys) out) y=match (jR ys).find? (fun s=>decide (s.1<=y)&&decide (y<s.2)) with | some s=>f s.1 | none=>rowAt out y
 | [],out,_,h,_=>⟨h,fun y=>rfl⟩
 | [a],out,_,h,_=>⟨h,fun y=>rfl⟩
 | a::b::l,out,hi,h,ho=>by
  have hab:=hi.head b (by simp)
  have ho1: ∀c∈out,c.y1<=(⟨a,b,f a⟩:Bd).y0:=fun c hc=>ho c hc a (by simp)
  have hc:=uz (b:=⟨a,b,f a⟩) h ho1 (hf a).1 (hf a).2
  have htop:=uA (b:=⟨a,b,f a⟩) ho1 (by show a<=b;omega)
  obtain⟨m1,m2⟩:=xX f hf (b::l) (jg out ⟨a,b,f a⟩) hi.tail hc (fun c hc' y hy=>by
   have h1:=htop c hc'
   have h2:b<=y:=by
    rcases dH.1 hy with rfl | hy
    ·exact Int.le_refl _
    ·have:=hi.tail.head y hy;omega
   have h3:c.y1<=b:=h1
   omega)
  refine⟨m1,fun y=>?_⟩
  show rowAt (lS f (jR (b::l)) (jg out ⟨a,b,f a⟩)) y=_
  rw [m2 y,show jR (a::b::l)= (a,b)::jR (b::l) from rfl,List.find?_cons]
  have hrow:=uy (s:=out) (b:=⟨a,b,f a⟩) ho1 (fun c hc=>(h.each c hc).1) (fun h=>absurd h (by show ¬b<=a;omega)) y
  by_cases hy:a<=y/\y<b
  ·have e: (decide (a<=y)&&decide (y<b))=true:=by rw [bR hy.1,bR hy.2];rfl
   have hn: (jR (b::l)).find? (fun s=>decide (s.1<=y)&&decide (y<s.2))=none:=by
    rw [List.find?_eq_none]
    intro s hs
    have:=(pN hi.tail s hs).1
    have h5:b<=s.1:=by
     rcases dH.1 this with h6 | h6
     ·omega
     ·have:=hi.tail.head _ h6;omega
    simp;omega
   rw [hn]
   show rowAt (jg out ⟨a,b,f a⟩) y=_
   rw [hrow,aD hy,e]
  ·have e: (decide (a<=y)&&decide (y<b))=false:=by
    rw [Bool.and_eq_false_iff,decide_eq_false_iff_not,decide_eq_false_iff_not];omega
   rw [e]
   cases (jR (b::l)).find? (fun s=>decide (s.1<=y)&&decide (y<s.2)) with
   | some s=>rfl
   | none=>
    show rowAt (jg out ⟨a,b,f a⟩) y=rowAt out y
    rw [hrow,aH hy]
theorem xY {f:Int->List Int} (hf: ∀y,jw (f y)/\(f y).length % 2=0) {ys:List Int} (hy:jw ys) (h1: ∀s∈jR ys,∀y,s.1<=y->y<s.2->f y=f s.1) (h2: ∀y,((∀c∈ys,y<c)\/(∀c∈ys,c<=y))->f y= []):
  eI (lS f (jR ys) [])/\∀y,rowAt (lS f (jR ys) []) y=f y:=by
 obtain⟨m1,m2⟩:=xX f hf ys [] hy eI.nil (fun c hc=>by cases hc)
 refine⟨m1,fun y=>?_⟩
 rw [m2 y]
 cases Jq: (jR ys).find? (fun s=>decide (s.1<=y)&&decide (y<s.2)) with
 | some s=>
  have h3:=List.find?_some Jq
  rw [bV,bU,bU] at h3
  exact(h1 s (List.mem_of_find?_eq_some Jq) y h3.1 h3.2).symm
 | none=>
  show rowAt [] y=f y
  rcases vJ hy y with ⟨s,hs,h3,h4⟩ | h3
  ·have:=List.find?_eq_none.1 Jq s hs
   rw [bR h3,bR h4] at this
   exact absurd rfl this
  ·rw [h2 y h3];rfl
end Go.Gk
namespace Go.Gk
open Go
def Ok {β:Type} (o:Option β) (P:β->Prop):Prop:=∃r,o=some r/\P r
section
variable {α β S R:Type} {P:α->Prop} {Q:β->Prop}
theorem Ok.ret {x:β} (h:Q x):Ok (some x) Q:=⟨x,rfl,h⟩
theorem Ok.of {o:Option β} {x:β} (h:o=some x) (hq:Q x):Ok o Q:=⟨x,h,hq⟩
theorem Ok.mono {o:Option α} {P':α->Prop} (h:Ok o P) (k: ∀x,P x->P' x):Ok o P':=by obtain⟨x,h1,h2⟩:=h;exact⟨x,h1,k x h2⟩
theorem Ok.bind {o:Option α} {f:α->Option β} (h:Ok o P) (k: ∀x,P x->Ok (f x) Q):Ok (o.bind f) Q:=by
 obtain⟨x,h1,h2⟩:=h;rw [h1];exact k x h2
theorem Ok.eq {o:Option α} {f:α->Option β} {x:α} (h:o=some x) (k:Ok (f x) Q):Ok (o.bind f) Q:=by rw [h];exact k
theorem Ok.bif {b:Bool} {x y:Option β} (ht:b=true->Ok x Q) (hf:b=false->Ok y Q):Ok (bif b then x else y) Q:=by
 cases b with
 | true=>exact ht rfl
 | false=>exact hf rfl
theorem Ok.get {o:Option β} {x:β} (h:Ok o (fun r=>r=x)):o=some x:=by obtain⟨r,h1,h2⟩:=h;rw [h1,h2]
def KN (Go:S->Prop) (Rt:R->Prop):Fo S R->Prop | .go s=>Go s | .rt r=>Rt r
def Hh (Nx Br:S->Prop) (Rt:R->Prop):Fl S R->Prop | .nx s=>Nx s | .br s=>Br s | .rt r=>Rt r
theorem Ok.nx {Nx Br:S->Prop} {Rt:R->Prop} {s:S} (h:Nx s):Ok (some (Fl.nx s)) (Hh Nx Br Rt):=⟨_,rfl,h⟩
theorem Ok.br {Nx Br:S->Prop} {Rt:R->Prop} {s:S} (h:Br s):Ok (some (Fl.br s)) (Hh Nx Br Rt):=⟨_,rfl,h⟩
theorem Ok.rt {Nx Br:S->Prop} {Rt:R->Prop} {r:R} (h:Rt r):Ok (some (Fl.rt r:Fl S R)) (Hh Nx Br Rt):=⟨_,rfl,h⟩
theorem Ok.cs {Go:S->Prop} {Rt:R->Prop} {o:Fo S R} {f:S->Option β} {g:R->Option β} (h:KN Go Rt o) (hf: ∀s,Go s->Ok (f s) Q) (hg: ∀r,Rt r->Ok (g r) Q):Ok (o.cs f g) Q:=by
 cases o with
 | go s=>exact hf s h
 | rt r=>exact hg r h
theorem Ok.mN {body:Nat->S->Option S} {m:Nat} {s:S} (Inv:Nat->S->Prop) (hm:m<=4611686018427387904) (h0:Inv 0 s) (h: ∀k s,k<m->Inv k s->Ok (body k s) (Inv (k+1))):Ok (mN m body s) (Inv m):=
 yz Inv hm h0 h
theorem Ok.sW {body:Nat->S->Option (Fl S R)} {m:Nat} {s:S} (Inv:Nat->S->Prop) {Go:S->Prop} {Rt:R->Prop} (hm:m<=4611686018427387904) (h0:Inv 0 s)
  (h: ∀k s,k<m->Inv k s->Ok (body k s) (Hh (Inv (k+1)) Go Rt)) (hg: ∀s,Inv m s->Go s):Ok (sW m body s) (KN Go Rt):=by
 obtain⟨o,h1,h2⟩:=HI (R:=R) Inv Go Rt hm h0 (fun k s hk hi=>by
  obtain⟨fl,a1,a2⟩:=h k s hk hi
  exact⟨fl,a1,by cases fl <;> exact a2⟩) hg
 exact⟨o,h1,by cases o <;> exact h2⟩
theorem Ok.kD {body:S->Option (Fl S R)} {N:Nat} {s:S} (Inv:S->Prop) (μ:S->Nat) {Go:S->Prop} {Rt:R->Prop}
  (h: ∀s,Inv s->Ok (body s) (Hh (fun s'=>Inv s'/\μ s'<μ s) Go Rt)) (hi:Inv s) (hn:μ s<N):Ok (kD body N s) (KN Go Rt):=by
 obtain⟨o,h1,h2⟩:=wz (R:=R) Inv μ Go Rt (fun s hi=>by
  obtain⟨fl,a1,a2⟩:=h s hi
  exact⟨fl,a1,by cases fl <;> exact a2⟩) N s hi hn
 exact⟨o,h1,by cases o <;> exact h2⟩
theorem Ok.app {b:Nat} {l ys:List α} {f:List α->Option β} (h: (l.length+ys.length)*b<=140737488355328) (k:Ok (f (l++ys)) Q):Ok ((Go.Gk.app b l ys).bind f) Q:=by rw [jd h];exact k
theorem Ok.idx {l:List α} {i:Nat} {f:α->Option β} (h:i<l.length) (k:Ok (f l[i]) Q):Ok ((Go.Gk.idx l ((i:Nat):Int)).bind f) Q:=by rw [kG l i h];exact k
theorem Ok.ix {l:List α} {i:Nat} {x:α} {f:α->Option β} (h:l[i]? =some x) (k:Ok (f x) Q):Ok ((Go.Gk.idx l ((i:Nat):Int)).bind f) Q:=by rw [gv h];exact k
end
theorem CI {n:Nat} (h:n<=4611686018427387904):IntKind.wrap .i64 ((n:Nat):Int)= ((n:Nat):Int):=fw (by omega) (by omega)
theorem wrap_add {n m:Nat} (h:n+m<=4611686018427387904):IntKind.wrap .i64 (((n:Nat):Int)+ ((m:Nat):Int))= ((n+m:Nat):Int):=by rw [fw (by omega) (by omega)];simp
theorem cD {n:Nat} (h:n+1<=4611686018427387904):IntKind.wrap .i64 (((n:Nat):Int)+1)= ((n+1:Nat):Int):=by rw [fw (by omega) (by omega)];simp
theorem Aw {n:Nat} (h:n+2<=4611686018427387904):IntKind.wrap .i64 (((n:Nat):Int)+2)= ((n+2:Nat):Int):=by rw [fw (by omega) (by omega)];simp
theorem fH {α:Type} [DecidableEq α]: ∀{l m:List α},l.Nodup->(∀x∈l,x∈m)->l.length<=m.length
 | [],m,_,_=>fS _
 | a::l,m,hn,hs=>by
  have ha:a∈m:=hs a (by simp)
  have hn':=List.nodup_cons.1 hn
  have:=fH (l:=l) (m:=m.erase a) hn'.2 (fun x hx=>by
   rw [List.mem_erase_of_ne (fun e=>hn'.1 (by rw [<-e];exact hx))]
   exact hs x (gN _ hx))
  rw [List.length_erase_of_mem ha] at this
  have:=List.length_pos_of_mem ha
  simp;omega
section
variable {α:Type} {N:Nat}
def KO (z:α) (N:Nat) (p0:List α) (p1:α->Option Bool):Option (List α):=
 (sw p0 p1).bind fun x31=>bif (x31==(-1)) then (some p0) else ((kD (fun(s33: (List α)×Int×Int)=>(bif (decide (s33.2.2< (s33.1.length:Int))) then ((idx s33.1 s33.2.2).bind fun x54=>(p1 x54).bind fun x58=>(bif (!x58) then ((idx s33.1 s33.2.1).bind fun x63=>some ((s33.1.set (Int.toNat s33.2.1) x54),(IntKind.wrap .i64 (s33.2.1+1)))) else (some (s33.1,s33.2.1))).bind fun s61=>some (.nx (s61.1,s61.2,(IntKind.wrap .i64 (s33.2.2+1))))) else (some (.br (s33.1,s33.2.1,s33.2.2))):Option (Fl ((List α)×Int×Int) Empty))) N (p0,x31,(IntKind.wrap .i64 (x31+1)))).bind fun o67=>o67.cs (fun(s33: (List α)×Int×Int)=>(tt s33.1 s33.2.1 (s33.1.length:Int)).bind fun x64=>(tt (s33.1.take (Int.toNat s33.2.1)++List.replicate (s33.1.length - Int.toNat s33.2.1) z) 0 s33.2.1).bind fun x65=>some x65) (fun r=>r.elim))
theorem GF {z:α} {l:List α} {φ:α->Option Bool} (p:α->Bool) (hφ: ∀x∈l,φ x=some (p x)) (hl:l.length<=4611686018427387000) (hN:l.length<N):KO z N l φ=some (l.filter (fun x=> !p x)):=by
 unfold KO
 rw [vc p (by omega) hφ,aB]
 rcases xx l p with ⟨h1,h2⟩ | ⟨k,x,h1,h2,h3,h4⟩
 ·rw [h1]
  have:l.filter (fun x=> !p x)=l:=List.filter_eq_self.2 fun a ha=>by rw [h2 a ha];rfl
  rw [this];rfl
 ·rw [h1,show (((k:Nat):Int)== -1)=false by simp,aT]
  have hk:=(bC.1 h2).1
  have hpre: (l.take k).filter (fun x=> !p x)=l.take k:=List.filter_eq_self.2 fun a ha=>by
   obtain⟨j,hj⟩:=eR ha
   have hjk:j<k:=by have:=(bC.1 hj).1;rw [cM] at this;omega
   rw [List.getElem?_take_of_lt hjk] at hj
   rw [h4 j a hjk hj];rfl
  have hst:l.take (k+1)=l.take k++[x]:=by
   rw [eD hk];congr 1
   have:=(bC.1 h2).2;rw [this]
  have hk1:IntKind.wrap .i64 (((k:Nat):Int)+1)= ((k+1:Nat):Int):=by rw [fw (by omega) (by omega)];omega
  rw [hk1]
  obtain⟨o,a1,a2⟩:=wz (S:=(List α)×Int×Int) (R:=Empty) (body:=fun(s33: (List α)×Int×Int)=>(bif (decide (s33.2.2< (s33.1.length:Int))) then ((idx s33.1 s33.2.2).bind fun x54=>(φ x54).bind fun x58=>(bif (!x58) then ((idx s33.1 s33.2.1).bind fun x63=>some ((s33.1.set (Int.toNat s33.2.1) x54),(IntKind.wrap .i64 (s33.2.1+1)))) else (some (s33.1,s33.2.1))).bind fun s61=>some (.nx (s61.1,s61.2,(IntKind.wrap .i64 (s33.2.2+1))))) else (some (.br (s33.1,s33.2.1,s33.2.2))):Option (Fl ((List α)×Int×Int) Empty)))
   (fun s=>∃i j:Nat,s.2.1= ((i:Nat):Int)/\s.2.2= ((j:Nat):Int)/\i<j/\j<=l.length/\s.1.length=l.length/\s.1.take i= (l.take j).filter (fun x=> !p x)/\∀m,j<=m->s.1[m]? =l[m]?)
   (fun s=>l.length - s.2.2.toNat) (fun s=>∃i:Nat,s.2.1= ((i:Nat):Int)/\i<=l.length/\s.1.length=l.length/\s.1.take i=l.filter (fun x=> !p x)) (fun _=>True) (fun s ⟨i,j,e1,e2,hij,hj,hlen,ht,hd⟩=>by
    obtain⟨s,a,b⟩:=s
    dsimp only at e1 e2 hlen ht hd ⊢
    subst e1;subst e2
    by_cases hlt:j<l.length
    ·rw [bR (by rw [hlen];omega),aQ]
     have hx:s[j]? =some l[j]:=by rw [hd j (bK _)];exact aO hlt
     have w1:IntKind.wrap .i64 (((j:Nat):Int)+1)= ((j+1:Nat):Int):=by rw [fw (by omega) (by omega)];omega
     have w2:IntKind.wrap .i64 (((i:Nat):Int)+1)= ((i+1:Nat):Int):=by rw [fw (by omega) (by omega)];omega
     have hs2:l.take (j+1)=l.take j++[l[j]]:=eD hlt
     rw [gv hx,aB,hφ _ (cR hlt),aB,w1]
     cases hp:p l[j] with
     | true=>
      refine⟨.nx (s,((i:Nat):Int),((j+1:Nat):Int)),by rw [nQ,aT,aB],⟨i,j+1,rfl,rfl,by omega,by omega,hlen,?_,fun m hm=>hd m (by omega)⟩,?_⟩
      ·rw [hs2,ka,ht];simp [hp]
      ·simp only [cK];omega
     | false=>
      refine⟨.nx (s.set i l[j],((i+1:Nat):Int),((j+1:Nat):Int)),by rw [pw,aQ,kG _ _ (by omega),aB,cK,w2,aB],⟨i+1,j+1,rfl,rfl,by omega,by omega,by simp [hlen],?_,fun m hm=>?_⟩,?_⟩
      ·rw [hs2,ka,<-ht]
       have: (s.set i l[j]).take (i+1)=s.take i++[l[j]]:=by
        rw [eD (by simp;omega),List.take_set_of_le (bK _)];simp
       rw [this];simp [hp]
      ·rw [eL,aH (by omega)];exact hd m (by omega)
      ·simp only [cK];omega
    ·rw [bY (by rw [hlen];omega),aT]
     have hje:j=l.length:=by omega
     subst hje
     rw [fJ] at ht
     exact⟨.br (s,((i:Nat):Int),((l.length:Nat):Int)),rfl,i,rfl,by omega,hlen,ht⟩)
   N (l,((k:Nat):Int),((k+1:Nat):Int)) ⟨k,k+1,rfl,rfl,by omega,by omega,rfl,by rw [hst,ka,hpre];simp [h3],fun _ _=>rfl⟩ (by simp only [cK];omega)
  rw [a1,aB]
  cases o with
  | rt r=>exact r.elim
  | go s=>
   obtain⟨i,e1,hi,hlen,ht⟩:=a2
   obtain⟨s,a,b⟩:=s
   dsimp only at e1 hlen ht
   subst e1
   simp only [Fo.cs]
   rw [pT _ _ (by omega),aB,cK,rl _ _ (by simp;omega),aB,List.take_append_of_le_length (by simp;omega),List.take_take,Nat.min_self,ht]
end
section
variable {κ ν:Type} [DecidableEq κ]
theorem xE (m:List (κ×ν)) (k k':κ) (x z:ν):i5 (uK m k x) k' z=if k'=k then x else i5 m k' z:=by
 induction m with
 | nil=>unfold uK i5;by_cases h:k'=k <;> simp [h]
 | cons p m ih=>
  unfold uK
  by_cases h:k=p.1
  ·rw [aD h]
   by_cases h':k'=k
   ·subst h';simp [i5]
   ·simp only [i5,List.find?_cons,aH h',bY h']
    rw [bY (fun e=>h' (e.trans h.symm))]
  ·rw [aH h]
   by_cases h':k'=p.1
   ·have:k'≠k:=fun e=>h (e.symm.trans h')
    simp only [i5,List.find?_cons,bR h',aH this]
   ·unfold i5 at ih ⊢
    simp only [List.find?_cons,bY h']
    exact ih
theorem Fp (m:List (κ×ν)) (k k':κ) (x:ν):te (uK m k x) k'= (decide (k'=k)||te m k'):=by
 induction m with
 | nil=>unfold uK te;simp
 | cons p m ih=>
  unfold uK
  by_cases h:k=p.1
  ·rw [aD h]
   by_cases h':k'=k
   ·simp [te,h']
   ·simp only [te,List.any_cons,bY h',Bool.false_or]
    rw [bY (fun e=>h' (e.trans h.symm)),Bool.false_or]
  ·rw [aH h]
   unfold te at ih ⊢
   simp only [List.any_cons]
   rw [ih]
   cases decide (k'=p.1) <;> cases decide (k'=k) <;> simp
end
end Go.Gk
namespace Go.Gk
open Go
section
variable {N:Nat}
theorem zd (l:List Int) (a b:Nat) (h:a+b<l.length):Dq l ((a:Nat):Int) ((b:Nat):Int)=some l[a+b]:=by
 unfold Dq
 rw [aD (by omega),show ((a:Nat):Int)+ ((b:Nat):Int)= ((a+b:Nat):Int) by omega,kG _ _ h]
theorem jw.GG {l:List Int} {a:Int} (h:jw l) (hl: ∀c∈l,c<a):jw (l++[a]):=by
 unfold jw
 rw [my]
 exact⟨h,List.pairwise_singleton _ _,fun c hc d hd=>by simp at hd;subst hd;exact hl c hc⟩
theorem jw.last {l:List Int} {a:Int} (h:jw l) (hl:l.getLast? =some a): ∀c∈l,c<=a:=by
 intro c hc
 have hs:=p7 hl
 rw [hs] at h hc
 rcases dC.1 hc with h1 | h1
 ·have:=(my.1 h).2.2 c h1 a (by simp);omega
 ·simp at h1;omega
theorem Bv {l:List Int} (hs:l.Pairwise (fun x y=>x<=y)) (hl:l.length<=4611686018427387000) (hN:l.length<N):
  Ok (gS N l) (fun m=>jw m/\∀c,c∈m↔c∈l):=by
 unfold gS
 refine Ok.bif (fun h2=>Ok.ret ⟨?_,fun c=>Iff.rfl⟩) (fun h2=>?_)
 ·have h2:=of_decide_eq_true h2
  match l,h2 with
  | [],_=>exact jU
  | [a],_=>exact List.pairwise_singleton _ _
  | a::b::l,h2=>simp at h2;omega
 ·have h2:=of_decide_eq_false h2
  have le: ∀(i j:Nat) (x y:Int),i<j->l[i]? =some x->l[j]? =some y->x<=y:=fun i j x y hij hx hy=>by
   have:=mz.1 hs i j (bC.1 hx).1 (bC.1 hy).1 hij
   rw [(bC.1 hx).2,(bC.1 hy).2] at this;exact this
  refine Ok.bind (Ok.kD (Go:=fun _=>jw l) (Rt:=fun m=>jw m/\∀c,c∈m↔c∈l) (fun s=>∃k:Nat,s= ((k:Nat):Int)/\1<=k/\k<=l.length/\jw (l.take k)) (fun s=>l.length - s.toNat) ?_ ⟨1,rfl,bK _,by omega,?_⟩ (by simp;omega)) ?_
  ·rintro s ⟨k,rfl,hk1,hkl,hinc⟩
   refine Ok.bif (fun h=>?_) (fun h=>Ok.br ?_)
   ·have hk:k<l.length:=by have:=of_decide_eq_true h;omega
    refine Ok.idx hk ?_
    rw [jC hk1 (by omega)]
    refine Ok.idx (by omega) ?_
    refine Ok.bif (fun he=>?_) (fun he=>?_)
    ·have he:l[k]=l[k - 1]:=by simpa using he
     refine Ok.eq (pT l k hkl) ?_
     refine Ok.bind (Ok.kD (Go:=fun s=>∃i:Nat,s.2.1= ((i:Nat):Int)/\i<=l.length/\s.1.length=l.length/\jw (s.1.take i)/\∀c,c∈s.1.take i↔c∈l) (Rt:=fun _=>True)
      (fun s=>∃i j:Nat,s.2.1= ((i:Nat):Int)/\s.2.2= ((j:Nat):Int)/\1<=j/\k+j<=l.length/\i<=k+j - 1/\s.1.length=l.length/\jw (s.1.take i)/\(s.1.take i).getLast? =l[k+j - 1]? /\
       (∀c,c∈s.1.take i↔c∈l.take (k+j))/\∀m,k+j - 1<=m->s.1[m]? =l[m]?) (fun s=>l.length - s.2.2.toNat) ?_ ?_ (by simp;omega)) ?_
     ·rintro⟨u,a,b⟩ ⟨i,j,e1,e2,hj,hjl,hij,hlen,hi,hlast,hmem,hrest⟩
      dsimp only at e1 e2 hlen hi hlast hmem hrest ⊢
      subst e1;subst e2
      rw [cK]
      refine Ok.bif (fun h=>?_) (fun h=>Ok.br ?_)
      ·have hlt:k+j<l.length:=by have:=of_decide_eq_true h;omega
       have hx:u[k+j]'(by omega)=l[k+j]:=by have:=hrest (k+j) (by omega);rw [aO (by omega),aO hlt] at this;injection this
       have hy:u[k+ (j - 1)]'(by omega)=l[k+ (j - 1)]:=by have:=hrest (k+ (j - 1)) (by omega);rw [aO (by omega),aO (by omega)] at this;injection this
       refine Ok.eq (zd u k j (by omega)) ?_
       rw [jC hj (by omega)]
       refine Ok.eq (zd u k (j - 1) (by omega)) ?_
       rw [hx,hy]
       have hts:l.take (k+j+1)=l.take (k+j)++[l[k+j]]:=eD hlt
       have hlast': (u.take i).getLast? =some l[k+ (j - 1)]:=by rw [hlast,show k+j - 1=k+ (j - 1) by omega,aO (by omega)]
       have hxy:l[k+ (j - 1)]<=l[k+j]:=le (k+ (j - 1)) (k+j) _ _ (by omega) (aO _) (aO _)
       refine Ok.bind (P:=fun s'=>s'.1.length=l.length/\∃i':Nat,s'.2= ((i':Nat):Int)/\i'<=k+j/\jw (s'.1.take i')/\(s'.1.take i').getLast? =l[k+j]? /\(∀c,c∈s'.1.take i'↔c∈l.take (k+j+1))/\∀m,k+j<=m->s'.1[m]? =l[m]?) ?_ ?_
       ·refine Ok.bif (fun hne=>?_) (fun hne=>Ok.ret ?_)
        ·have hne:l[k+j]≠l[k+ (j - 1)]:=by simpa using hne
         refine Ok.eq (zd u k j (by omega)) ?_
         rw [hx]
         refine Ok.idx (by omega) (Ok.ret ⟨by simp [hlen],i+1,?_,by omega,?_⟩)
         ·rw [cD (by omega)]
         ·dsimp only
          rw [cK]
          have ht: (u.set i l[k+j]).take (i+1)=u.take i++[l[k+j]]:=by
           rw [eD (by simp;omega),List.take_set_of_le (bK _)];simp
          rw [ht]
          refine⟨hi.GG fun c hc=>?_,by simp [aO hlt],fun c=>?_,fun m hm=>?_⟩
          ·have:=hi.last hlast' c hc;omega
          ·rw [hts,dC,dC,hmem]
          ·rw [eL,aH (by omega)];exact hrest m (by omega)
        ·have he:l[k+j]=l[k+ (j - 1)]:=by simpa using hne
         refine⟨hlen,i,rfl,by omega,hi,?_,fun c=>?_,fun m hm=>hrest m (by omega)⟩
         ·dsimp only;rw [hlast',aO hlt,he]
         ·rw [hts,dC,<-hmem]
          constructor
          ·exact .inl
          ·rintro(h | h)
           ·exact h
           ·simp at h;subst h
            rw [he];exact List.mem_of_getLast? hlast'
       ·rintro⟨v,a⟩ ⟨g1,i',g2,g3,g4,g5,g6,g7⟩
        dsimp only at g1 g2 g4 g5 g6 g7 ⊢
        refine Ok.nx ⟨⟨i',j+1,g2,?_,by omega,by omega,by omega,g1,g4,?_,g6,fun m hm=>g7 m (by omega)⟩,?_⟩
        ·rw [cD (by omega)]
        ·rw [show k+ (j+1) - 1=k+j by omega];exact g5
        ·rw [cD (by omega)];simp only [cK];omega
      ·have hge:k+j=l.length:=by have:=of_decide_eq_false h;omega
       refine⟨i,rfl,by omega,hlen,hi,fun c=>?_⟩
       rw [hmem,hge,fJ]
     ·refine⟨k,1,rfl,rfl,bK _,by omega,by omega,rfl,hinc,?_,fun c=>?_,fun m _=>rfl⟩
      ·dsimp only
       rw [show k+1 - 1=k by omega,aO hk,he,List.getLast?_eq_getElem?,cM,Nat.min_eq_left hkl,List.getElem?_take_of_lt (by omega),aO (by omega)]
      ·dsimp only
       rw [eD hk,dC]
       constructor
       ·exact .inl
       ·rintro(h | h)
        ·exact h
        ·simp at h;subst h;rw [he]
         refine gh (i:=k - 1) ?_
         rw [List.getElem?_take_of_lt (by omega),aO (by omega)]
     ·rintro o ho
      refine Ok.cs ho ?_ (fun r=>r.elim)
      rintro⟨u,a,b⟩ ⟨i,e1,hi,hlen,hinc',hmem⟩
      dsimp only at e1 hlen hinc' hmem ⊢
      subst e1
      refine Ok.eq (pT u i (by omega)) ?_
      rw [cK]
      refine Ok.eq (rl _ i (by simp;omega)) (Ok.rt ?_)
      rw [List.take_append_of_le_length (by simp;omega),List.take_take,Nat.min_self]
      exact⟨hinc',hmem⟩
    ·have he:l[k]≠l[k - 1]:=by simpa using he
     refine Ok.nx ⟨⟨k+1,by rw [cD (by omega)],by omega,by omega,?_⟩,by rw [cD (by omega)];simp only [cK];omega⟩
     rw [eD hk]
     refine hinc.GG fun c hc=>?_
     have hlast: (l.take k).getLast? =some l[k - 1]:=by
      rw [List.getLast?_eq_getElem?,cM,Nat.min_eq_left hkl,List.getElem?_take_of_lt (by omega),aO (by omega)]
     have h3:=hinc.last hlast c hc
     have h4:=le (k - 1) k _ _ (by omega) (aO (by omega:k - 1<l.length)) (aO hk)
     omega
   ·have hge:k=l.length:=by have:=of_decide_eq_false h;omega
    subst hge;rw [fJ] at hinc;exact hinc
  ·match l,h2 with
   | [],h2=>simp at h2
   | a::l,_=>exact List.pairwise_singleton _ _
  ·rintro o ho
   exact Ok.cs ho (fun s h=>Ok.ret ⟨h,fun c=>Iff.rfl⟩) (fun r h=>Ok.ret h)
def qw (l:List aG):List Int:=l.flatMap fun r=>[r.X0,r.X1]
def iJ (l:List aG):List Int:=l.flatMap fun r=>[r.Y0,r.Y1]
theorem rM {l:List aG} {c:Int}:c∈qw l↔∃r∈l,c=r.X0\/c=r.X1:=by unfold qw;simp [List.mem_flatMap]
theorem jS {l:List aG} {c:Int}:c∈iJ l↔∃r∈l,c=r.Y0\/c=r.Y1:=by unfold iJ;simp [List.mem_flatMap]
theorem ju (l:List aG): (qw l).length=2*l.length:=by
 induction l with
 | nil=>rfl
 | cons r l ih=>unfold qw at *;simp [List.flatMap_cons,ih];omega
theorem gK (l:List aG): (iJ l).length=2*l.length:=by
 induction l with
 | nil=>rfl
 | cons r l ih=>unfold iJ at *;simp [List.flatMap_cons,ih];omega
def vT (X Y:List Int) (s:List Bd):Prop:=∀b∈s,b.y0∈Y/\b.y1∈Y/\∀c∈b.xs,c∈X
theorem vT.push {X Y:List Int} {s:List Bd} {b:Bd} (h:vT X Y s) (h0:b.y0∈Y) (h1:b.y1∈Y) (h2: ∀c∈b.xs,c∈X):vT X Y (jg s b):=by
 intro c hc
 unfold jg at hc
 split at hc
 ·exact h c hc
 ·split at hc
  ·rename_i d hd
   have hdm:d∈s:=List.mem_of_getLast? hd
   split at hc
   ·rcases dC.1 hc with hc | hc
    ·exact h c (List.dropLast_subset _ hc)
    ·simp at hc;subst hc;exact⟨(h d hdm).1,h1,(h d hdm).2.2⟩
   ·rcases dC.1 hc with hc | hc
    ·exact h c hc
    ·simp at hc;subst hc;exact⟨h0,h1,h2⟩
  ·simp at hc;subst hc;exact⟨h0,h1,h2⟩
theorem jw.nodup {l:List Int} (h:jw l):l.Nodup:=List.Pairwise.imp (fun h=>by omega) h
theorem vT.row {X Y:List Int} {s:List Bd} (h:vT X Y s) (hc:eI s) {b:Bd} (hb:b∈s):b.xs.length<=X.length:=fH (hc.each b hb).2.2.1.nodup (h b hb).2.2
theorem vT.len {X Y:List Int} {s:List Bd} (h:vT X Y s) (hc:eI s):s.length<=Y.length:=by
 have hn: (s.map Bd.y0).Nodup:=by
  unfold List.Nodup
  rw [List.pairwise_map]
  refine List.Pairwise.imp_of_mem (fun{a b} ha hb hab=>?_) hc.ord
  have:=(hc.each a ha).1
  have:=hab.1
  omega
 have:=fH hn (m:=Y) (fun x hx=>by
  obtain⟨b,hb,rfl⟩:=dD.1 hx
  exact(h b hb).1)
 rwa [dS] at this
theorem vT.mono {X Y X' Y':List Int} {s:List Bd} (h:vT X Y s) (hx: ∀c∈X,c∈X') (hy: ∀c∈Y,c∈Y'):vT X' Y' s:=fun b hb=>⟨hy _ (h b hb).1,hy _ (h b hb).2.1,fun c hc=>hx c ((h b hb).2.2 c hc)⟩
theorem Fq (s:List Bd) (b:Bd): (jg s b).length<=s.length+1:=by
 unfold jg
 split
 ·omega
 ·split
  ·rename_i d hd
   have hsp:=p7 hd
   have:s.length=s.dropLast.length+1:=by
    conv=>lhs;rw [hsp]
    simp
   split <;> simp <;> omega
  ·simp
theorem jw.lt {l:List Int} (h:jw l) {i j:Nat} {x y:Int} (hij:i<j) (hx:l[i]? =some x) (hy:l[j]? =some y):x<y:=by
 have:=mz.1 h i j (bC.1 hx).1 (bC.1 hy).1 hij
 rw [(bC.1 hx).2,(bC.1 hy).2] at this;exact this
theorem jw.next {l:List Int} (h:jw l) {k:Nat} {x y c:Int} (hx:l[k]? =some x) (hy:l[k+1]? =some y) (hc:c∈l) (hxc:x<c):y<=c:=by
 obtain⟨j,hj⟩:=eR hc
 rcases Nat.lt_trichotomy j (k+1) with h1 | h1 | h1
 ·exfalso
  by_cases e:j=k
  ·subst e;rw [hx] at hj;injection hj with hj;omega
  ·have:=h.lt (show j<k by omega) hj hx;omega
 ·subst h1;rw [hy] at hj;injection hj with hj;omega
 ·have:=h.lt h1 hy hj;omega
theorem vK {l:List aG} {φ:aG->Option Bool} (p:aG->Bool) (hφ: ∀x∈l,φ x=some (p x)) (hl:l.length<=4611686018427387000) (hN:l.length<N):iz N l φ=some (l.filter (fun x=> !p x)):=
 GF (z:=(⟨0,0,0,0⟩:aG)) p hφ hl hN
theorem q6 {l:List aG} (hl:l.length<=268435456):gx N l=some l:=by
 unfold gx;rw [jd (by simp;omega),aB,List.nil_append]
structure KP (l m:List aG) (ys:List Int) (k:Nat) (out:List aA) (now:List aG) (nx:Nat):Prop where
 can:eI (out.map bS)
 top: ∀c∈out,∀y,ys[k]? =some y->c.Y1<=y
 cover: ∀x y,tu (out.map bS) x y= (tX l x y&&decide (∀a,ys[k]? =some a->y<a))
 lim:vT (qw l) (iJ l) (out.map bS)
 MU: ∀r∈now,r∈m.take nx
 MV: ∀r∈m.take nx,∀y,ys[k]? =some y->y<r.Y1->r∈now
 len:now.length<=nx
 Mw:nx<=m.length
 rest: ∀(j:Nat) r y,nx<=j->m[j]? =some r->ys[k]? =some y->y<=r.Y0
 low: ∀r∈now,∀y,ys[k]? =some y->r.Y0<=y
theorem HN {l m:List aG} (h: ∀r,r∈l↔r∈m) (x y:Int):tX l x y=tX m x y:=by
 rw [fK,iZ,iZ]
 constructor
 ·rintro⟨r,hr,h1⟩;exact⟨r,(h r).1 hr,h1⟩
 ·rintro⟨r,hr,h1⟩;exact⟨r,(h r).2 hr,h1⟩
structure rN (l:List aG) (s:List aA):Prop where
 can:eI (s.map bS)
 cover: ∀x y,tu (s.map bS) x y=tX l x y
 lim:vT (qw l) (iJ l) (s.map bS)
theorem mm {l:List aG} (hl:l.length<=134217728) (hok: ∀r∈l,za r) (hN:4294967296<=N):Ok (dN N l) (rN l):=by
 unfold dN
 refine Ok.eq (q6 (by omega)) ?_
 obtain⟨m,h1,h2,h3⟩:=y4 (φ:=jF N) (l:=l) (fun a b=>a.Y0 - b.Y0) (fun a ha b hb=>by
  unfold jF;rw [wrap_small (hok a ha).s3 (hok b hb).s3]) (fun a _=>by omega) (fun a _ b _ c _ h1 h2=>by omega) (fun a _ b _ c _ h1 h2=>by omega) (by omega)
 refine Ok.eq h1 ?_
 have hml:m.length=l.length:=h2.length_eq
 have hmem: ∀r,r∈m↔r∈l:=fun r=>h2.mem_iff
 refine Ok.bind (Ok.mN (fun k s=>s=iJ (m.take k)) (by omega) rfl (fun k s hk e=>?_)) ?_
 ·subst e
  refine Ok.idx hk (Ok.app ?_ (Ok.ret ?_))
  ·rw [gK];simp;omega
  ·rw [eD hk]
   unfold iJ;rw [List.flatMap_append];rfl
 rintro s rfl
 rw [fJ]
 have hgs:tA (iJ m)=some ((iJ m).mergeSort (fun x y=>decide (x<=y))):=by unfold tA;rw [aD (by rw [gK];omega)]
 refine Ok.eq hgs ?_
 have hsp: ((iJ m).mergeSort (fun x y=>decide (x<=y))).Pairwise (fun x y=>x<=y):=by
  have:=List.pairwise_mergeSort (le:=fun(x y:Int)=>decide (x<=y)) (fun a b c h1 h2=>by simp at *;omega) (fun a b=>by simp;omega) (iJ m)
  exact List.Pairwise.imp (fun h=>by simpa using h) this
 have hsm: ∀c,c∈(iJ m).mergeSort (fun x y=>decide (x<=y))↔c∈iJ m:=fun c=>List.mem_mergeSort
 have hsl: ((iJ m).mergeSort (fun x y=>decide (x<=y))).length=2*m.length:=by rw [List.length_mergeSort,gK]
 generalize (iJ m).mergeSort (fun x y=>decide (x<=y))=sy at hsp hsm hsl
 refine Ok.bind (Bv (N:=N) hsp (by omega) (by omega)) ?_
 rintro ys ⟨hy,hym⟩
 have hyl:ys.length<=2*m.length:=by
  have:=fH hy.nodup (m:=sy) (fun c hc=>(hym c).1 hc)
  omega
 have y0m: ∀r∈m,r.Y0∈ys:=fun r hr=>(hym _).2 ((hsm _).2 (jS.2 ⟨r,hr, .inl rfl⟩))
 have y1m: ∀r∈m,r.Y1∈ys:=fun r hr=>(hym _).2 ((hsm _).2 (jS.2 ⟨r,hr, .inr rfl⟩))
 have yml: ∀c∈ys,c∈iJ l:=fun c hc=>by
  obtain⟨r,hr,h⟩:=jS.1 ((hsm _).1 ((hym _).1 hc))
  exact jS.2 ⟨r,(hmem r).1 hr,h⟩
 refine Ok.bind (Ok.kD (Go:=fun s=>rN l s.1) (Rt:=fun _=>True) (fun s=>∃k nx:Nat,s.2.2.2= ((k:Nat):Int)/\s.2.2.1= ((nx:Nat):Int)/\(k<ys.length\/k=0)/\KP l m ys k s.1 s.2.1 nx) (fun s=>ys.length - s.2.2.2.toNat) ?_ ?_ (by simp;omega)) ?_
 ·rintro⟨out,now,a,b⟩ ⟨k,nx,e1,e2,hk,I⟩
  dsimp only at e1 e2 I ⊢
  subst e1;subst e2
  rw [cD (by omega)]
  refine Ok.bif (fun h=>?_) (fun h=>Ok.br ?_)
  ·have hk1:k+1<ys.length:=by have:=of_decide_eq_true h;omega
   have hyk:ys[k]? =some ys[k]:=aO _
   have hyk1:ys[k+1]? =some ys[k+1]:=aO hk1
   have hlt:=hy.lt (Nat.lt_succ_self k) hyk hyk1
   have hcov:=I.cover
   simp only [hyk,Option.some.injEq,forall_eq'] at hcov
   refine Ok.eq (vK (fun r=>decide (r.Y1<=ys[k])) (fun r _=>by unfold nT;rw [kG ys k (by omega),aB]) (by have:=I.len;have:=I.Mw;omega) (by have:=I.len;have:=I.Mw;omega)) ?_
   have hfl:=nP (fun r:aG=> !decide (r.Y1<=ys[k])) now
   have hIl:=I.len
   have hIn:=I.Mw
   refine Ok.bind (Ok.kD (Go:=fun s=>∃nx':Nat,s.2= ((nx':Nat):Int)/\nx'<=m.length/\s.1.length<=nx'/\(∀r∈s.1,r∈m.take nx')/\(∀r∈m.take nx',ys[k]<r.Y1->r∈s.1)/\(∀r∈s.1,r.Y0<=ys[k]/\ys[k]<r.Y1)/\(∀(j:Nat) r,nx'<=j->m[j]? =some r->ys[k]<r.Y0)) (Rt:=fun _=>True)
    (fun s=>∃nx':Nat,s.2= ((nx':Nat):Int)/\nx<=nx'/\nx'<=m.length/\s.1.length<=nx'/\(∀r∈s.1,r∈m.take nx')/\(∀r∈m.take nx',ys[k]<r.Y1->r∈s.1)/\(∀r∈s.1,r.Y0<=ys[k]/\ys[k]<r.Y1)) (fun s=>m.length - s.2.toNat) ?_ ?_ (by simp;omega)) ?_
   ·rintro⟨nw,b⟩ ⟨nx',e1,g0,g1,g2,g3,g4,g5⟩
    dsimp only at e1 g2 g3 g4 g5 ⊢
    subst e1
    refine Ok.bind (P:=fun b=>b=true↔∃h:nx'<m.length,m[nx'].Y0<=ys[k]) ?_ ?_
    ·refine Ok.bif (fun h=>?_) (fun h=>Ok.ret ?_)
     ·have hlt:nx'<m.length:=by have:=of_decide_eq_true h;omega
      refine Ok.idx hlt (Ok.idx (by omega) (Ok.ret ?_))
      rw [bU];exact⟨fun h=>⟨hlt,h⟩,fun⟨_,h⟩=>h⟩
     ·have:=of_decide_eq_false h
      constructor
      ·intro h;cases h
      ·rintro⟨h,_⟩;omega
    ·intro bb hbb
     refine Ok.bif (fun h=>?_) (fun h=>Ok.br ?_)
     ·obtain⟨hlt,h0⟩:=hbb.1 h
      have hts:m.take (nx'+1)=m.take nx'++[m[nx']]:=eD hlt
      refine Ok.idx hlt (Ok.app (by simp;omega) (Ok.nx ⟨⟨nx'+1,by rw [cD (by omega)],by omega,by omega,by simp;omega,fun r hr=>?_,fun r hr hr2=>?_,fun r hr=>?_⟩,by rw [cD (by omega)];simp only [cK];omega⟩))
      ·rw [hts]
       rcases dC.1 hr with h | h
       ·exact List.mem_append_left _ (g3 r h)
       ·exact List.mem_append_right _ h
      ·rw [hts] at hr
       rcases dC.1 hr with h | h
       ·exact List.mem_append_left _ (g4 r h hr2)
       ·exact List.mem_append_right _ h
      ·rcases dC.1 hr with h | h
       ·exact g5 r h
       ·simp at h;subst h
        refine⟨h0,?_⟩
        have:=(hok m[nx'] ((hmem _).1 (cR hlt))).y
        have:=I.rest nx' _ ys[k] g0 (aO hlt) hyk
        omega
     ·refine⟨nx',rfl,g1,g2,g3,g4,g5,fun j r hj hr=>?_⟩
      have hjl:=(bC.1 hr).1
      have hlt:nx'<m.length:=by omega
      have h0: ¬m[nx'].Y0<=ys[k]:=fun h0=>by rw [hbb.2 ⟨hlt,h0⟩] at h;cases h
      by_cases e:nx'=j
      ·subst e;rw [aO hlt] at hr;injection hr with hr;subst hr;omega
      ·have:=mz.1 h3 nx' j hlt hjl (by omega)
       have hr':=(bC.1 hr).2
       rw [hr'] at this;omega
   ·refine⟨nx,rfl,bK _,hIn,by dsimp only;omega,fun r hr=>I.MU r (k6.1 hr).1,fun r hr h=>k6.2 ⟨I.MV r hr ys[k] hyk h,by simpa using h⟩,fun r hr=>?_⟩
    have hr:=k6.1 hr
    have hr2:ys[k]<r.Y1:=by simpa using hr.2
    exact⟨I.low r hr.1 ys[k] hyk,hr2⟩
   ·rintro o ho
    refine Ok.cs ho ?_ (fun r=>r.elim)
    rintro⟨nw,b⟩ ⟨nx',e1,g1,g2,g3,g4,g5,g6⟩
    dsimp only at e1 g2 g3 g4 g5 ⊢
    subst e1
    refine Ok.idx (by omega) (Ok.idx hk1 ?_)
    have hnm: ∀r∈nw,r∈l:=fun r hr=>(hmem r).1 (List.take_subset _ _ (g3 r hr))
    obtain⟨row,nw',s1,s2,s3,s4,s5,s6,s7⟩:=Bs (N:=N) (l:=nw) (by omega) (fun r hr=>hok r (hnm r hr))
    refine Ok.eq s1 ?_
    have hlimx: ∀c∈row,c∈qw l:=fun c hc=>by
     obtain⟨r,hr,h⟩:=s7 c hc
     exact rM.2 ⟨r,hnm r hr,h⟩
    have hol:out.length<=2*l.length:=by have:=I.lim.len I.can;rw [gK,dS] at this;exact this
    have hox: ∀c∈out,c.Xs.length<=2*l.length:=fun c hc=>by
     have:=I.lim.row I.can (b:=bS c) (dD.2 ⟨c,hc,rfl⟩)
     rw [ju] at this;exact this
    obtain⟨out',p1,p2⟩:=EE (N:=N) (s:=out) (b:=⟨ys[k],ys[k+1],row⟩) (by omega) (fun c hc=>by have:=hox c hc;omega)
    refine Ok.eq p1 ?_
    have htop: ∀c∈out.map bS,c.y1<=(bS ⟨ys[k],ys[k+1],row⟩).y0:=fun c hc=>by
     obtain⟨d,hd,rfl⟩:=dD.1 hc
     exact I.top d hd ys[k] hyk
    have hcan:=uz I.can htop s3 s4
    refine Ok.nx ⟨⟨k+1,nx',rfl,rfl, .inl hk1,⟨by dsimp only;rw [p2];exact hcan,fun c hc y hy1=>?_,fun x y=>?_,?_,fun r hr=>g3 r (s2.subset hr),fun r hr y hy1 h=>?_,by rw [s2.length_eq];exact g2,g1,fun j r y hj hr hy1=>?_,fun r hr y hy1=>?_⟩⟩,by simp only [cK];omega⟩
    ·rw [hyk1] at hy1;injection hy1 with hy1;subst hy1
     have hm':bS c∈jg (out.map bS) (bS ⟨ys[k],ys[k+1],row⟩):=by rw [<-p2];exact dD.2 ⟨c,hc,rfl⟩
     exact uA htop (by show ys[k]<=ys[k+1];omega) _ hm'
    ·simp only [hyk1,Option.some.injEq,forall_eq']
     unfold tu
     rw [p2,uy htop (fun c hc=>(I.can.each c hc).1) (fun h=>absurd h (by show ¬ys[k+1]<=ys[k];omega))]
     by_cases hyy:ys[k]<=y/\y<ys[k+1]
     ·rw [aD (show (bS ⟨ys[k],ys[k+1],row⟩).y0<=y/\y< (bS ⟨ys[k],ys[k+1],row⟩).y1 from hyy),bR hyy.2,Bool.and_true]
      show oq row x=_
      rw [s5,fK,zb,iZ]
      constructor
      ·rintro⟨r,hr,h⟩
       have hrm:=List.take_subset _ _ (g3 r hr)
       have h5:=g5 r hr
       have:=hy.next hyk hyk1 (y1m r hrm) h5.2
       exact⟨r,hnm r hr,h,by omega,by omega⟩
      ·rintro⟨r,hr,h,h7,h8⟩
       have hrm:=(hmem r).2 hr
       have h9:r.Y0<=ys[k]:=by
        by_cases h10:r.Y0<=ys[k]
        ·exact h10
        ·have:=hy.next hyk hyk1 (y0m r hrm) (by omega);omega
       have h11:r∈m.take nx':=by
        obtain⟨j,hj⟩:=eR hrm
        by_cases h12:j<nx'
        ·exact gh (i:=j) (by rw [List.getElem?_take_of_lt h12];exact hj)
        ·have:=g6 j r (by omega) hj;omega
       exact⟨r,g4 r h11 (by omega),h⟩
     ·rw [aH (show ¬((bS ⟨ys[k],ys[k+1],row⟩).y0<=y/\y< (bS ⟨ys[k],ys[k+1],row⟩).y1) from hyy)]
      show tu (out.map bS) x y=_
      rw [hcov]
      by_cases h1:y<ys[k]
      ·rw [bR h1,bR (show y<ys[k+1] by omega)]
      ·rw [bY h1,bY (show ¬y<ys[k+1] by omega)]
    ·show vT (qw l) (iJ l) (out'.map bS)
     rw [p2]
     exact I.lim.push (yml _ (cR _)) (yml _ (cR _)) hlimx
    ·rw [hyk1] at hy1;injection hy1 with hy1;subst hy1
     exact s2.symm.subset (g4 r hr (by omega))
    ·rw [hyk1] at hy1;injection hy1 with hy1;subst hy1
     exact hy.next hyk hyk1 (y0m r (gh hr)) (g6 j r hj hr)
    ·rw [hyk1] at hy1;injection hy1 with hy1;subst hy1
     have:=(g5 r (s2.subset hr)).1;omega
  ·have hge: ¬k+1<ys.length:=by have:=of_decide_eq_false h;omega
   refine⟨I.can,fun x y=>?_,I.lim⟩
   rw [I.cover]
   by_cases hyn:ys= []
   ·have:tX l x y=false:=by
     rw [<-nc,iZ]
     rintro⟨r,hr,_⟩
     have:=y0m r ((hmem r).2 hr)
     rw [hyn] at this;cases this
    rw [this];rfl
   ·have hkl:k<ys.length:=by
     rcases hk with h | h
     ·exact h
     ·subst h;exact List.length_pos_iff.2 hyn
    rw [aO hkl]
    simp only [Option.some.injEq,forall_eq']
    cases hc:tX l x y with
    | false=>rfl
    | true=>
     obtain⟨r,hr,_,h7,h8⟩:=iZ.1 hc
     have:=y1m r ((hmem r).2 hr)
     obtain⟨j,hj⟩:=eR this
     have hjl:=(bC.1 hj).1
     have:r.Y1<=ys[k]:=by
      by_cases e:j=k
      ·subst e;rw [aO hkl] at hj;injection hj with hj;omega
      ·have:=hy.lt (show j<k by omega) hj (aO hkl);omega
     rw [bR (show y<ys[k] by omega)];rfl
 ·refine⟨0,0,rfl,rfl, .inr rfl,?_⟩
  show KP l m ys 0 [] [] 0
  refine⟨eI.nil,fun c hc=>(by cases hc),fun x y=>?_,fun b hb=>(by cases hb),fun r hr=>(by cases hr),fun r hr=>(by rw [List.take_zero] at hr;cases hr),bK _,fS _,fun j r y _ hr hy0=>?_,fun r hr=>(by cases hr)⟩
  ·show false=_
   symm
   rw [Bool.and_eq_false_iff]
   cases hc:tX l x y with
   | false=>exact .inl rfl
   | true=>
    right
    obtain⟨r,hr,_,h7,h8⟩:=iZ.1 hc
    have hr0:=y0m r ((hmem r).2 hr)
    have hpos:0<ys.length:=List.length_pos_of_mem hr0
    rw [decide_eq_false_iff_not]
    intro h
    have h:=h ys[0] (aO hpos)
    obtain⟨j,hj⟩:=eR hr0
    by_cases e:j=0
    ·subst e;rw [aO hpos] at hj;injection hj with hj;omega
    ·have:=hy.lt (show 0<j by omega) (aO hpos) hj;omega
  ·obtain⟨j',hj'⟩:=eR (y0m r (gh hr))
   by_cases e:j'=0
   ·subst e;rw [hy0] at hj';injection hj' with hj';omega
   ·have:=hy.lt (show 0<j' by omega) hy0 hj';omega
 ·rintro o ho
  refine Ok.cs ho (fun s h=>Ok.ret h) (fun r=>r.elim)
end
end Go.Gk
namespace Go.Gk
open Go
section
variable {N:Nat}
def ze:List Int->List (Int×Int)
 | a::b::l=>(a,b)::ze l
 | _=>[]
theorem yB: ∀(xs:List Int),(ze xs).length=xs.length / 2
 | []=>rfl
 | [a]=>by simp [ze]
 | a::b::l=>by unfold ze;rw [fI,yB l];simp only [fI];omega
theorem wM: ∀(xs:List Int) (j:Nat) (h:2*j+1<xs.length),(ze xs)[j]? =some (xs[2*j],xs[2*j+1])
 | [],j,h=>by simp at h
 | [a],j,h=>by simp at h
 | a::b::l,0,h=>rfl
 | a::b::l,j+1,h=>by
  have:=wM l j (by simp at h;omega)
  unfold ze
  rw [List.getElem?_cons_succ,this]
  have e1: (a::b::l)[2* (j+1)]=l[2*j]'(by simp at h;omega):=by simp [show 2* (j+1)=2*j+1+1 by omega]
  have e2: (a::b::l)[2* (j+1)+1]=l[2*j+1]'(by simp at h;omega):=by simp [show 2* (j+1)+1=2*j+1+1+1 by omega]
  rw [e1,e2]
theorem wN: ∀{xs:List Int},xs.length % 2=0->cY (ze xs)=xs
 | [],_=>rfl
 | [a],h=>by simp at h
 | a::b::l,h=>by unfold ze;rw [iX,wN (by simp at h;omega)]
theorem HO {xs:List Int} (h:jw xs) (he:xs.length % 2=0) (x:Int):oq xs x=iW (ze xs) x:=by
 have:=rK (l:=ze xs) (by rw [wN he];exact h) x
 rwa [wN he] at this
theorem Bw {xs:List Int}: ∀p∈ze xs,p.1∈xs/\p.2∈xs:=by
 intro p hp
 obtain⟨j,hj⟩:=eR hp
 have hjl:=(bC.1 hj).1
 rw [yB] at hjl
 rw [wM xs j (by omega)] at hj
 injection hj with hj;subst hj
 exact⟨cR _,cR _⟩
theorem DG {xs:List Int} (h:jw xs): ∀p∈ze xs,p.1<p.2:=by
 intro p hp
 obtain⟨j,hj⟩:=eR hp
 have hjl:=(bC.1 hj).1
 rw [yB] at hjl
 rw [wM xs j (by omega)] at hj
 injection hj with hj;subst hj
 exact h.lt (show 2*j<2*j+1 by omega) (aO _) (aO _)
def mn (b:aA):List aG:=(ze b.Xs).map fun p=>⟨p.1,b.Y0,p.2,b.Y1⟩
def aM (s:List aA):List aG:=s.flatMap mn
theorem mo (b:aA) (s:List aA):aM (b::s)=mn b++aM s:=rfl
theorem mK (b:aA): (mn b).length=b.Xs.length / 2:=by unfold mn;rw [dS,yB]
theorem na (s t:List aA):aM (s++t)=aM s++aM t:=List.flatMap_append
theorem xF (s:List aA) (k:Nat): (aM (s.take k)).length<=(aM s).length:=by
 conv=>rhs;rw [<-List.take_append_drop k s,na,cT]
 omega
theorem zf {s:List aA} {A B:Nat} (h1:s.length<=A) (h2: ∀b∈s,b.Xs.length<=B): (aM s).length<=A*B:=by
 induction s generalizing A with
 | nil=>simp [aM]
 | cons b s ih=>
  rw [mo,cT,mK]
  simp at h1
  obtain⟨A',rfl⟩: ∃A',A=A'+1:=⟨A - 1,by omega⟩
  have:=ih (A:=A') (by omega) (fun c hc=>h2 c (gN _ hc))
  have:=h2 b (by simp)
  rw [Nat.add_mul];omega
theorem wO {s:List aA} (he: ∀b∈s,b.Xs.length % 2=0) (h1:s.length<=1099511627776) (h2: ∀b∈s,b.Xs.length<=1099511627776/\b.Xs.length<N) (h3: (aM s).length<=1099511627776):iL N s=some (aM s):=by
 refine Ok.get ?_
 unfold iL
 refine Ok.bind (Ok.mN (fun k t=>t=aM (s.take k)) (by omega) rfl (fun k t hk e=>?_)) (fun t e=>Ok.ret (by rw [e,fJ]))
 subst e
 refine Ok.idx hk ?_
 have hm:=cR hk
 generalize hb:s[k]=b at hm ⊢
 have heb:=he b hm
 have hbl:=h2 b hm
 have hts:aM (s.take (k+1))=aM (s.take k)++mn b:=by
  rw [eD hk,na,hb];simp [aM]
 have hle:=xF s (k+1)
 rw [hts,cT,mK] at hle
 refine Ok.bind (Ok.kD (Go:=fun s'=>s'.1=aM (s.take (k+1))) (Rt:=fun _=>True) (fun s'=>∃j:Nat,s'.2= ((2*j:Nat):Int)/\2*j<=b.Xs.length/\s'.1=aM (s.take k)++(mn b).take j) (fun s'=>b.Xs.length - s'.2.toNat) ?_ ⟨0,rfl,by omega,by simp⟩ (by simp;omega)) ?_
 ·rintro⟨acc,i⟩ ⟨j,e1,hj,e2⟩
  dsimp only at e1 e2 ⊢
  subst e1;subst e2
  refine Ok.bif (fun h=>?_) (fun h=>Ok.br ?_)
  ·have hlt:2*j+1<b.Xs.length:=by have:=of_decide_eq_true h;omega
   refine Ok.idx (by omega) ?_
   rw [cD (by omega)]
   refine Ok.idx hlt (Ok.app ?_ (Ok.nx ⟨⟨j+1,?_,by omega,?_⟩,?_⟩))
   ·simp;rw [mK];omega
   ·rw [Aw (by omega)];congr 1
   ·rw [k7]
    congr 1
    have hg: (mn b)[j]? =some ⟨b.Xs[2*j],b.Y0,b.Xs[2*j+1],b.Y1⟩:=by
     unfold mn;rw [j9,wM _ _ hlt];rfl
    have hjl:=(bC.1 hg).1
    rw [eD hjl,(bC.1 hg).2]
   ·rw [Aw (by omega)];simp only [cK];omega
  ·have hge:2*j=b.Xs.length:=by have:=of_decide_eq_false h;omega
   show aM (s.take k)++(mn b).take j=_
   rw [hts,k8 (l:=mn b) (by rw [mK];omega)]
 ·rintro o ho
  exact Ok.cs ho (fun s' h=>Ok.ret h) (fun r=>r.elim)
theorem EG {s:List aA} (h1:s.length<=1099511627776) (h2: ∀b∈s,b.Xs.length<=1099511627776) (h3: (aM s).length<=1099511627776):kN N s=some (((aM s).length:Nat):Int):=by
 refine Ok.get ?_
 unfold kN
 refine Ok.bind (Ok.mN (fun k t=>t= (((aM (s.take k)).length:Nat):Int)) (by omega) rfl (fun k t hk e=>?_)) (fun t e=>Ok.ret (by rw [e,fJ]))
 subst e
 refine Ok.idx hk (Ok.ret ?_)
 have hm:=cR hk
 have hbl:=h2 _ hm
 have hts:aM (s.take (k+1))=aM (s.take k)++mn s[k]:=by
  rw [eD hk,na];simp [aM]
 have hle:=xF s (k+1)
 rw [hts,cT,mK] at hle
 have e:Int.tdiv ((s[k].Xs.length:Nat):Int) 2= ((s[k].Xs.length / 2:Nat):Int):=by
  rw [show (2:Int)= ((2:Nat):Int) by rfl,<-Int.ofNat_tdiv]
 rw [e,CI (by omega),wrap_add (by omega),hts,cT,mK]
theorem DH (l m:List aG) (x y:Int):tX (l++m) x y= (tX l x y||tX m x y):=List.any_append
theorem GH {b:aA} (h:jw b.Xs) (he:b.Xs.length % 2=0) (x y:Int):tX (mn b) x y= (oq b.Xs x&&(decide (b.Y0<=y)&&decide (y<b.Y1))):=by
 rw [HO h he,fK,iZ,bV,rJ,bV,bU,bU]
 unfold mn
 constructor
 ·rintro⟨r,hr,h1,h2⟩
  obtain⟨p,hp,rfl⟩:=dD.1 hr
  exact⟨⟨p,hp,h1⟩,h2⟩
 ·rintro⟨⟨p,hp,h1⟩,h2⟩
  exact⟨_,dD.2 ⟨p,hp,rfl⟩,h1,h2⟩
theorem oC: ∀{s:List aA},eI (s.map bS)->∀x y,tX (aM s) x y=tu (s.map bS) x y
 | [],_,x,y=>rfl
 | b::s,h,x,y=>by
  rw [mo,DH,oC h.tail x y]
  have hb:=h.each (bS b) (by simp)
  rw [GH hb.2.2.1 hb.2.2.2]
  unfold tu
  rw [dO,mj]
  by_cases hy:b.Y0<=y/\y<b.Y1
  ·rw [aD (show (bS b).y0<=y/\y< (bS b).y1 from hy),lu (fun c hc=> .inl (by have:=h.y8 c hc;have e: (bS b).y1=b.Y1:=rfl;omega)),bR hy.1,bR hy.2]
   show (oq b.Xs x&&true||false)=oq b.Xs x
   simp
  ·rw [aH (show ¬((bS b).y0<=y/\y< (bS b).y1) from hy)]
   have: (decide (b.Y0<=y)&&decide (y<b.Y1))=false:=by rw [Bool.and_eq_false_iff,decide_eq_false_iff_not,decide_eq_false_iff_not];omega
   rw [this];simp
theorem pO {s:List aA} {r:aG} (h:r∈aM s): ∃b∈s,∃p∈ze b.Xs,r= ⟨p.1,b.Y0,p.2,b.Y1⟩:=by
 unfold aM mn at h
 obtain⟨b,hb,h⟩:=List.mem_flatMap.1 h
 obtain⟨p,hp,rfl⟩:=dD.1 h
 exact⟨b,hb,p,hp,rfl⟩
theorem zg {s:List aA} {X Y:List Int} (h:eI (s.map bS)) (hl:vT X Y (s.map bS)) (hx: ∀c∈X,small c) (hy: ∀c∈Y,small c): ∀r∈aM s,za r/\(r.X0∈X/\r.X1∈X)/\r.Y0∈Y/\r.Y1∈Y:=by
 intro r hr
 obtain⟨b,hb,p,hp,rfl⟩:=pO hr
 have hm:bS b∈s.map bS:=dD.2 ⟨b,hb,rfl⟩
 have hc:=h.each _ hm
 have hll:=hl _ hm
 have h1:=Bw p hp
 have h2:=hll.2.2 p.1 h1.1
 have h3:=hll.2.2 p.2 h1.2
 exact⟨⟨DG hc.2.2.1 p hp,hc.1,hx _ h2,hx _ h3,hy _ hll.1,hy _ hll.2.1⟩,⟨h2,h3⟩,hll.1,hll.2.1⟩
theorem vL {l:List Int} {x:Int} (h: ∀c∈l,c<=x):oq l x= (l.length % 2==1):=by unfold oq;rw [EC h]
theorem xG {l:List Int} {a x:Int} (h:x<a):oq (l++[a]) x=oq l x:=by unfold oq;rw [y5,oU,aH (by omega),EB];rfl
def Ft (l:List Int):Bool:=l.length % 2==1
theorem zh (l:List Int) (a:Int):Ft (l++[a]) = !Ft l:=by
 unfold Ft
 rw [cT,fK,Bool.not_eq_true',beq_iff_eq,beq_eq_false_iff_ne]
 simp;omega
structure CJ (fE:Bool->Bool->Bool) (a b a' b' out:List Int) (inA inB is:Bool) (pa pb:List Int):Prop where
 ea:a=pa++a'
 eb:b=pb++b'
 oa:inA=Ft pa
 ob:inB=Ft pb
 oo:is=Ft out
 ok:is=fE inA inB
 low: ∀c,(c∈pa\/c∈pb\/c∈out)->∀d,(d∈a'\/d∈b')->c<d
 inc:jw out
 KQ: ∀x,(∀d,(d∈a'\/d∈b')->x<d)->oq out x=fE (oq pa x) (oq pb x)
 mem: ∀c∈out,c∈pa\/c∈pb
 len:out.length<=pa.length+pb.length
theorem CJ.step {fE:Bool->Bool->Bool} {a b a' b' out:List Int} {inA inB is:Bool} {pa pb:List Int} (I:CJ fE a b a' b' out inA inB is pa pb) (ha:jw a) (hb:jw b) (x:Int) (ta tb:List Int) (wa wb:Bool)
  (h1:a'= (if wa then x::ta else ta)) (h2:b'= (if wb then x::tb else tb)) (hw:wa=true\/wb=true) (hx: ∀d,(d∈ta\/d∈tb)->x<d):
  CJ fE a b ta tb (if fE (inA ^^ wa) (inB ^^ wb)=is then out else out++[x]) (inA ^^ wa) (inB ^^ wb) (fE (inA ^^ wa) (inB ^^ wb)) (if wa then pa++[x] else pa) (if wb then pb++[x] else pb):=by
 have hxm:x∈a'\/x∈b':=by
  rcases hw with h | h
  ·left;rw [h1,aD h];simp
  ·right;rw [h2,aD h];simp
 have hsub: ∀d,(d∈ta\/d∈tb)->d∈a'\/d∈b':=fun d hd=>by
  rcases hd with h | h
  ·left;rw [h1];split
   ·exact gN _ h
   ·exact h
  ·right;rw [h2];split
   ·exact gN _ h
   ·exact h
 have hlow: ∀c,(c∈pa\/c∈pb\/c∈out)->c<x:=fun c hc=>I.low c hc x hxm
 have hpa: ∀c∈(if wa then pa++[x] else pa),c∈pa\/(wa=true/\c=x):=fun c hc=>by
  split at hc
  ·rename_i h
   rcases dC.1 hc with h' | h'
   ·exact .inl h'
   ·simp at h';exact .inr ⟨h,h'⟩
  ·exact .inl hc
 have hpb: ∀c∈(if wb then pb++[x] else pb),c∈pb\/(wb=true/\c=x):=fun c hc=>by
  split at hc
  ·rename_i h
   rcases dC.1 hc with h' | h'
   ·exact .inl h'
   ·simp at h';exact .inr ⟨h,h'⟩
  ·exact .inl hc
 have hout: ∀c∈(if fE (inA ^^ wa) (inB ^^ wb)=is then out else out++[x]),c∈out\/c=x:=fun c hc=>by
  split at hc
  ·exact .inl hc
  ·rcases dC.1 hc with h' | h'
   ·exact .inl h'
   ·simp at h';exact .inr h'
 have ooA: (inA ^^ wa)=Ft (if wa then pa++[x] else pa):=by
  rw [I.oa];cases wa <;> simp [zh]
 have ooB: (inB ^^ wb)=Ft (if wb then pb++[x] else pb):=by
  rw [I.ob];cases wb <;> simp [zh]
 have ooO:fE (inA ^^ wa) (inB ^^ wb)=Ft (if fE (inA ^^ wa) (inB ^^ wb)=is then out else out++[x]):=by
  split
  ·rename_i h;rw [h];exact I.oo
  ·rename_i h
   rw [zh,<-I.oo]
   cases hk:fE (inA ^^ wa) (inB ^^ wb) <;> cases his:is <;> simp_all
 refine⟨?_,?_,ooA,ooB,ooO,rfl,?_,?_,?_,?_,?_⟩
 ·rw [I.ea,h1];split <;> simp
 ·rw [I.eb,h2];split <;> simp
 ·intro c hc d hd
  have hd':=hx d hd
  have hdd:=hsub d hd
  rcases hc with h | h | h
  ·rcases hpa c h with h' | ⟨_,rfl⟩
   ·exact I.low c (.inl h') d hdd
   ·exact hd'
  ·rcases hpb c h with h' | ⟨_,rfl⟩
   ·exact I.low c (.inr (.inl h')) d hdd
   ·exact hd'
  ·rcases hout c h with h' | rfl
   ·exact I.low c (.inr (.inr h')) d hdd
   ·exact hd'
 ·split
  ·exact I.inc
  ·exact I.inc.GG fun c hc=>hlow c (.inr (.inr hc))
 ·intro y hy
  by_cases hxy:y<x
  ·have e1:oq (if wa then pa++[x] else pa) y=oq pa y:=by split;exact xG hxy;rfl
   have e2:oq (if wb then pb++[x] else pb) y=oq pb y:=by split;exact xG hxy;rfl
   have e3:oq (if fE (inA ^^ wa) (inB ^^ wb)=is then out else out++[x]) y=oq out y:=by split;rfl;exact xG hxy
   rw [e1,e2,e3]
   refine I.KQ y fun d hd=>?_
   have:x<=d:=by
    rcases hd with h | h
    ·rw [h1] at h
     split at h
     ·rcases dH.1 h with rfl | h
      ·exact Int.le_refl _
      ·have:=hx d (.inl h);omega
     ·have:=hx d (.inl h);omega
    ·rw [h2] at h
     split at h
     ·rcases dH.1 h with rfl | h
      ·exact Int.le_refl _
      ·have:=hx d (.inr h);omega
     ·have:=hx d (.inr h);omega
   omega
  ·rw [vL (l:=if wa then pa++[x] else pa),vL (l:=if wb then pb++[x] else pb),vL]
   ·have e1:=ooA;have e2:=ooB;have e3:=ooO
    unfold Ft at e1 e2 e3
    rw [<-e1,<-e2,<-e3]
   ·intro c hc
    rcases hout c hc with h | rfl
    ·have:=hlow c (.inr (.inr h));omega
    ·omega
   ·intro c hc
    rcases hpb c hc with h | ⟨_,rfl⟩
    ·have:=hlow c (.inr (.inl h));omega
    ·omega
   ·intro c hc
    rcases hpa c hc with h | ⟨_,rfl⟩
    ·have:=hlow c (.inl h);omega
    ·omega
 ·intro c hc
  have m1: ∀c,c∈pa->c∈(if wa then pa++[x] else pa):=fun c h=>by split;exact List.mem_append_left _ h;exact h
  have m2: ∀c,c∈pb->c∈(if wb then pb++[x] else pb):=fun c h=>by split;exact List.mem_append_left _ h;exact h
  rcases hout c hc with h | rfl
  ·rcases I.mem c h with h | h
   ·exact .inl (m1 c h)
   ·exact .inr (m2 c h)
  ·rcases hw with h | h
   ·left;rw [aD h];simp
   ·right;rw [aD h];simp
 ·have:=I.len
  have h3: (if wa then pa++[x] else pa).length+ (if wb then pb++[x] else pb).length>=pa.length+pb.length+1:=by
   rcases hw with h | h
   ·subst h;cases wb <;> simp <;> omega
   ·subst h;cases wa <;> simp <;> omega
  split
  ·omega
  ·simp at h3 ⊢;omega
end
end Go.Gk
namespace Go.Gk
open Go
section
variable {N:Nat}
theorem jv (x:Int) (l:List Int):idx (x::l) 0=some x:=rfl
theorem rO {α:Type} (x:α) (l:List α):tt (x::l) 1 (((x::l).length:Nat):Int)=some l:=pT (x::l) 1 (by simp)
theorem kl {α:Type} (x:α) (l:List α):decide ((((x::l).length:Nat):Int)>0)=true:=bR (by simp)
theorem uB {α:Type} (x:α) (l:List α): ((((x::l).length:Nat):Int)==0)=false:=by rw [beq_eq_false_iff_ne];simp;omega
theorem DI {a b:List Int} (ha:jw a) (hb:jw b) (h:a≠[]\/b≠[]): ∃x ta tb wa wb,a= (if wa then x::ta else ta)/\b= (if wb then x::tb else tb)/\(wa=true\/wb=true)/\(∀d,(d∈ta\/d∈tb)->x<d):=by
 match a,b,ha,hb,h with
 | [],[],_,_,h=>rcases h with h | h <;> exact absurd rfl h
 | x::ta,[],ha,_,_=>exact⟨x,ta,[],true,false,rfl,rfl, .inl rfl,fun d hd=>by rcases hd with h | h;exact ha.head d h;cases h⟩
 | [],y::tb,_,hb,_=>exact⟨y,[],tb,false,true,rfl,rfl, .inr rfl,fun d hd=>by rcases hd with h | h;cases h;exact hb.head d h⟩
 | x::ta,y::tb,ha,hb,_=>
  rcases Int.lt_trichotomy x y with h | h | h
  ·refine⟨x,ta,y::tb,true,false,rfl,rfl, .inl rfl,fun d hd=>?_⟩
   rcases hd with h1 | h1
   ·exact ha.head d h1
   ·rcases dH.1 h1 with rfl | h1
    ·exact h
    ·have:=hb.head d h1;omega
  ·subst h
   exact⟨x,ta,tb,true,true,rfl,rfl, .inl rfl,fun d hd=>by rcases hd with h | h;exact ha.head d h;exact hb.head d h⟩
  ·refine⟨y,x::ta,tb,false,true,rfl,rfl, .inr rfl,fun d hd=>?_⟩
   rcases hd with h1 | h1
   ·rcases dH.1 h1 with rfl | h1
    ·exact h
    ·have:=ha.head d h1;omega
   ·exact hb.head d h1
theorem Fu {φ:Bool->Bool->Option Bool} {fE:Bool->Bool->Bool} (hφ: ∀p q,φ p q=some (fE p q)) (hk:fE false false=false) {a b:List Int} (ha:jw a) (hb:jw b) (hae:a.length % 2=0) (hbe:b.length % 2=0)
  (nn:a.length<=1099511627776) (hbl:b.length<=1099511627776) (hN:a.length+b.length<N):
  Ok (pQ N a b φ) (fun m=>jw m/\m.length % 2=0/\(∀x,oq m x=fE (oq a x) (oq b x))/\∀c∈m,c∈a\/c∈b):=by
 unfold pQ
 refine Ok.bind (Ok.kD (Go:=fun s=>jw s.2.2.1/\s.2.2.1.length % 2=0/\(∀x,oq s.2.2.1 x=fE (oq a x) (oq b x))/\∀c∈s.2.2.1,c∈a\/c∈b) (Rt:=fun _=>True)
  (fun s=>∃pa pb,CJ fE a b s.1 s.2.1 s.2.2.1 s.2.2.2.1 s.2.2.2.2.1 s.2.2.2.2.2 pa pb) (fun s=>s.1.length+s.2.1.length) ?_ ?_ hN) ?_
 ·rintro⟨a',b',out,inA,inB,is⟩ ⟨pa,pb,I⟩
  dsimp only at I ⊢
  have ha':jw a':=by have:=ha;rw [I.ea] at this;exact(my.1 this).2.1
  have hb':jw b':=by have:=hb;rw [I.eb] at this;exact(my.1 this).2.1
  have hle:pa.length+a'.length=a.length:=by rw [I.ea];simp
  have hlb:pb.length+b'.length=b.length:=by rw [I.eb];simp
  have hlo:=I.len
  by_cases hne:a'≠[]\/b'≠[]
  ·obtain⟨x,ta,tb,wa,wb,h1,h2,hw,hx⟩:=DI ha' hb' hne
   have J:=I.step ha hb x ta tb wa wb h1 h2 hw hx
   have fin: ∀(sa sb:List Int×Bool),sa= (ta,inA ^^ wa)->sb= (tb,inB ^^ wb)->
     Ok ((φ sa.2 sb.2).bind fun x220=>(bif (x220 != is) then ((app 8 out ([x]: (List Int))).bind fun x227=>some (x227,x220)) else (some (out,is))).bind fun s224=>some (Fl.nx (sa.1,sb.1,s224.1,sa.2,sb.2,s224.2)))
      (Hh (fun s':List Int×List Int×List Int×Bool×Bool×Bool=>(∃pa pb,CJ fE a b s'.1 s'.2.1 s'.2.2.1 s'.2.2.2.1 s'.2.2.2.2.1 s'.2.2.2.2.2 pa pb)/\s'.1.length+s'.2.1.length<a'.length+b'.length) (fun s=>jw s.2.2.1/\s.2.2.1.length % 2=0/\(∀x,oq s.2.2.1 x=fE (oq a x) (oq b x))/\∀c∈s.2.2.1,c∈a\/c∈b) (fun _:Empty=>True)):=by
    rintro _ _ rfl rfl
    refine Ok.eq (hφ _ _) ?_
    have hlt:ta.length+tb.length<a'.length+b'.length:=by
     rw [h1,h2]
     rcases hw with h | h
     ·subst h;cases wb <;> simp <;> omega
     ·subst h;cases wa <;> simp <;> omega
    by_cases he:fE (inA ^^ wa) (inB ^^ wb)=is
    ·rw [aD he] at J
     refine Ok.eq (x:=(out,is)) (by rw [he,show (is != is)=false by simp,aT]) ?_
     rw [he] at J
     exact Ok.nx ⟨⟨_,_,J⟩,hlt⟩
    ·rw [aH he] at J
     refine Ok.eq (x:=(out++[x],fE (inA ^^ wa) (inB ^^ wb))) (by rw [show (fE (inA ^^ wa) (inB ^^ wb) != is)=true by simp [he],aQ,jd (by simp;omega),aB]) (Ok.nx ⟨⟨_,_,J⟩,hlt⟩)
   rcases hw with rfl | rfl
   ·rw [aD rfl] at h1
    subst h1
    refine Ok.eq (x:=true) (by rw [kl,aQ]) ?_
    rw [aQ]
    have hle2: (bif (((b'.length:Nat):Int)==0) then (some true) else (bif (decide ((((x::ta).length:Nat):Int)>0)) then ((idx (x::ta) 0).bind fun x181=>(idx b' 0).bind fun x183=>some (decide (x181<=x183))) else (some false)))=some true:=by
     cases b' with
     | nil=>rfl
     | cons y b''=>
      rw [uB,aT,kl,aQ,jv,aB,jv,aB]
      have:x<=y:=by
       cases wb with
       | true=>simp at h2;omega
       | false=>have:=hx y (.inr (by simp at h2;rw [<-h2];simp));omega
      rw [bR this]
    refine Ok.eq hle2 ?_
    rw [aQ]
    refine Ok.eq (x:=x) (by rw [jv,aB]) ?_
    refine Ok.eq (x:=true) (by rw [kl,aQ,jv,aB];simp) ?_
    refine Ok.eq (x:=(ta,!inA)) (by rw [aQ,rO,aB]) ?_
    cases wb with
    | true=>
     rw [aD rfl] at h2
     subst h2
     refine Ok.eq (x:=true) (by rw [kl,aQ,jv,aB];simp) ?_
     refine Ok.eq (x:=(tb,!inB)) (by rw [aQ,rO,aB]) ?_
     exact fin _ _ (by simp) (by simp)
    | false=>
     have h2:b'=tb:=h2
     subst h2
     refine Ok.eq (x:=false) ?_ ?_
     ·cases b' with
      | nil=>rfl
      | cons y b''=>
       have:=hx y (.inr (by simp))
       rw [kl,aQ,jv,aB,show (y==x)=false by rw [beq_eq_false_iff_ne];omega]
     ·refine Ok.eq (x:=(b',inB)) (by rw [aT]) ?_
      exact fin _ _ (by simp) (by simp)
   ·cases wa with
    | true=>
     rw [aD rfl] at h1 h2
     subst h1;subst h2
     refine Ok.eq (x:=true) (by rw [kl,aQ]) ?_
     rw [aQ]
     refine Ok.eq (x:=true) (by rw [uB,aT,kl,aQ,jv,aB,jv,aB];simp) ?_
     rw [aQ]
     refine Ok.eq (x:=x) (by rw [jv,aB]) ?_
     refine Ok.eq (x:=true) (by rw [kl,aQ,jv,aB];simp) ?_
     refine Ok.eq (x:=(ta,!inA)) (by rw [aQ,rO,aB]) ?_
     refine Ok.eq (x:=true) (by rw [kl,aQ,jv,aB];simp) ?_
     refine Ok.eq (x:=(tb,!inB)) (by rw [aQ,rO,aB]) ?_
     exact fin _ _ (by simp) (by simp)
    | false=>
     have h1:a'=ta:=h1
     rw [aD rfl] at h2
     subst h1;subst h2
     refine Ok.eq (x:=true) (by rw [kl,HK];simp) ?_
     rw [aQ]
     refine Ok.eq (x:=false) ?_ ?_
     ·rw [uB,aT]
      cases a' with
      | nil=>rfl
      | cons y a''=>
       have:=hx y (.inl (by simp))
       rw [kl,aQ,jv,aB,jv,aB,bY (by omega)]
     ·rw [aT]
      refine Ok.eq (x:=x) (by rw [jv,aB]) ?_
      refine Ok.eq (x:=false) ?_ ?_
      ·cases a' with
       | nil=>rfl
       | cons y a''=>
        have:=hx y (.inl (by simp))
        rw [kl,aQ,jv,aB,show (y==x)=false by rw [beq_eq_false_iff_ne];omega]
      ·refine Ok.eq (x:=(a',inA)) (by rw [aT]) ?_
       refine Ok.eq (x:=true) (by rw [kl,aQ,jv,aB];simp) ?_
       refine Ok.eq (x:=(tb,!inB)) (by rw [aQ,rO,aB]) ?_
       exact fin _ _ (by simp) (by simp)
  ·have ea:a'= []:=Classical.byContradiction fun h=>hne (.inl h)
   have eb:b'= []:=Classical.byContradiction fun h=>hne (.inr h)
   subst ea;subst eb
   refine Ok.eq (x:=false) rfl ?_
   refine Ok.br ⟨I.inc,?_,fun x=>?_,fun c hc=>?_⟩
   ·have h1:=I.ea;have h2:=I.eb
    rw [nO] at h1 h2
    have h3:Ft out=false:=by
     rw [<-I.oo,I.ok,I.oa,I.ob,<-h1,<-h2]
     unfold Ft;rw [hae,hbe];exact hk
    unfold Ft at h3
    rw [beq_eq_false_iff_ne] at h3
    dsimp only;omega
   ·have:=I.KQ x (fun d hd=>by rcases hd with h | h <;> cases h)
    have h1:=I.ea;have h2:=I.eb
    rw [nO] at h1 h2
    rw [h1,h2];exact this
   ·have h1:=I.ea;have h2:=I.eb
    rw [nO] at h1 h2
    rw [h1,h2];exact I.mem c hc
 ·exact⟨[],[],rfl,rfl,rfl,rfl,rfl,hk.symm,fun c hc=>(by rcases hc with h | h | h <;> cases h),jU,fun x _=>hk.symm,fun c hc=>(by cases hc),bK _⟩
 ·rintro o ho
  exact Ok.cs ho (fun s h=>Ok.ret h) (fun r=>r.elim)
theorem eI.app {s t:List Bd} (h:eI (s++t)):eI t:=⟨fun b hb=>h.each b (List.mem_append_right _ hb),(my.1 h.ord).2.1⟩
theorem eI.low {b:Bd} {s:List Bd} (h:eI (b::s)): ∀c∈b::s,b.y0<=c.y0:=fun c hc=>by
 rcases dH.1 hc with rfl | hc
 ·exact Int.le_refl _
 ·have:=h.y8 c hc;have:=(h.each b (by simp)).1;omega
theorem eI.high {s:List Bd} {b:Bd} (h:eI (s++[b])): ∀c∈s++[b],c.y1<=b.y1:=fun c hc=>by
 rcases dC.1 hc with hc | hc
 ·have:=((my.1 h.ord).2.2 c hc b (by simp)).1
  have:=(h.each b (by simp)).1;omega
 ·simp at hc;subst hc;exact Int.le_refl _
def Dg (s:List aA) (y e:Int):List Int×Int:=match s with
 | []=>([],e)
 | b::_=>if y<b.Y0 then ([],if b.Y0<e then b.Y0 else e) else (b.Xs,if b.Y1<e then b.Y1 else e)
theorem GI {α:Type} (x:α) (l:List α):idx (x::l) 0=some x:=rfl
theorem Iq (s:List aA) (y e:Int):mI N s y e=some (Dg s y e):=by
 unfold mI Dg
 cases s with
 | nil=>rfl
 | cons b s=>
  dsimp only
  rw [uB,aT,GI,aB,aB,aB,aB]
  by_cases h:y<b.Y0
  ·rw [bR h,aQ,aD h]
  ·rw [bY h,aT,aH h]
theorem EH {s:List aA} {y e:Int} {X Y:List Int} (hc:eI (s.map bS)) (hl:vT X Y (s.map bS)) (hh: ∀b t,s=b::t->y<b.Y1) (hy:y<e):
  y< (Dg s y e).2/\(Dg s y e).2<=e/\(∀y',y<=y'->y'< (Dg s y e).2->rowAt (s.map bS) y'= (Dg s y e).1)/\jw (Dg s y e).1/\(Dg s y e).1.length % 2=0/\((Dg s y e).2=e\/(Dg s y e).2∈Y)/\∀c∈(Dg s y e).1,c∈X:=by
 cases s with
 | nil=>exact⟨hy,Int.le_refl _,fun y' _ _=>rfl,jU,rfl, .inl rfl,fun c hc=>(by cases hc)⟩
 | cons b t=>
  have hb:=hc.each (bS b) (by simp)
  have hlb:=hl (bS b) (by simp)
  have h1:=hh b t rfl
  unfold Dg
  dsimp only
  by_cases h:y<b.Y0
  ·rw [aD h]
   dsimp only
   refine⟨by split <;> omega,by split <;> omega,fun y' h2 h3=>?_,jU,rfl,?_,fun c hc=>(by cases hc)⟩
   ·exact hc.ux (by show y'<b.Y0;split at h3 <;> omega)
   ·split
    ·exact .inr hlb.1
    ·exact .inl rfl
  ·rw [aH h]
   dsimp only
   refine⟨by split <;> omega,by split <;> omega,fun y' h2 h3=>?_,hb.2.2.1,hb.2.2.2,?_,hlb.2.2⟩
   ·exact eI.ml (b:=bS b) (by show b.Y0<=y';omega) (by show y'<b.Y1;split at h3 <;> omega)
   ·split
    ·exact .inr hlb.2.1
    ·exact .inl rfl
theorem Ax {y:Int} {a:List aA} (hN:a.length<N) {body:List aA->Option (Fl (List aA) Empty)}
  (hb:body=fun(s373: (List aA))=>((bif (decide ((s373.length:Int)>0)) then ((idx s373 0).bind fun x407=>some (decide (x407.Y1<=y))) else (some false)).bind fun s405=>bif s405 then ((tt s373 1 (s373.length:Int)).bind fun x410=>some (.nx x410)) else (some (.br s373)):Option (Fl ((List aA)) Empty))):
  Ok (kD body N a) (KN (fun a'=>∃p,a=p++a'/\(∀c∈p,c.Y1<=y)/\∀b t,a'=b::t->y<b.Y1) (fun _=>True)):=by
 subst hb
 refine Ok.kD (fun a'=>∃p,a=p++a'/\∀c∈p,c.Y1<=y) List.length ?_ ⟨[],rfl,fun c hc=>(by cases hc)⟩ hN
 rintro a' ⟨p,e,hp⟩
 cases a' with
 | nil=>exact Ok.eq (x:=false) rfl (Ok.br ⟨p,e,hp,fun b t h=>(by cases h)⟩)
 | cons b t=>
  refine Ok.eq (x:=decide (b.Y1<=y)) (by rw [kl,aQ,GI,aB]) ?_
  refine Ok.bif (fun h=>?_) (fun h=>Ok.br ⟨p,e,hp,fun b' t' h'=>?_⟩)
  ·have h:=of_decide_eq_true h
   refine Ok.eq (rO b t) (Ok.nx ⟨⟨p++[b],by rw [e];simp,fun c hc=>?_⟩,by simp⟩)
   rcases dC.1 hc with hc | hc
   ·exact hp c hc
   ·simp at hc;subst hc;exact h
  ·have h:=of_decide_eq_false h
   injection h' with h1 h2;subst h1;omega
theorem CK {p a':List Bd} {y y':Int} (hp: ∀c∈p,c.y1<=y) (h:y<=y'):rowAt (p++a') y'=rowAt a' y':=by
 rw [pH,aH]
 rintro⟨b,hb,h1⟩
 have:=hp b hb;omega
structure Bx (fE:Bool->Bool->Bool) (X Y:List Int) (a b s:List aA):Prop where
 can:eI (s.map bS)
 cover: ∀x y,tu (s.map bS) x y=fE (tu (a.map bS) x y) (tu (b.map bS) x y)
 lim:vT X Y (s.map bS)
theorem zi {s:List aA} (hs:s≠[]) (hl:s.length<=1099511627776) (hc:eI (s.map bS)): ∃f l,idx s 0=some f/\idx s (IntKind.wrap .i64 (((s.length:Nat):Int) - 1))=some l/\f∈s/\l∈s/\∀c∈s,f.Y0<=c.Y0/\c.Y1<=l.Y1:=by
 cases s with
 | nil=>exact absurd rfl hs
 | cons f t=>
  rw [jC (by simp) (by omega)]
  have hlt: (f::t).length - 1< (f::t).length:=by simp
  refine⟨f,(f::t)[(f::t).length - 1],rfl,kG _ _ hlt,by simp,cR _,fun c hcm=>⟨?_,?_⟩⟩
  ·exact hc.low (bS c) (dD.2 ⟨c,hcm,rfl⟩)
  ·have e: (f::t)= (f::t).dropLast++[(f::t)[(f::t).length - 1]]:=by
    have:=List.dropLast_concat_getLast (show f::t≠[] by simp)
    rw [<-List.getLast_eq_getElem (h:=by simp)];exact this.symm
   generalize (f::t)[(f::t).length - 1]=l at e
   have hc2:=hc
   rw [e,eE] at hc2
   have hm:bS c∈(List.map bS (f::t).dropLast++[bS l]):=by
    have:bS c∈(f::t).map bS:=dD.2 ⟨c,hcm,rfl⟩
    rw [e,eE] at this;exact this
   exact eI.high hc2 (bS c) hm
theorem zj {φ:Bool->Bool->Option Bool} {fE:Bool->Bool->Bool} (hφ: ∀p q,φ p q=some (fE p q)) (hk:fE false false=false) {a b:List aA} {X Y:List Int} (ca:eI (a.map bS)) (cb:eI (b.map bS))
  (la:vT X Y (a.map bS)) (lb:vT X Y (b.map bS)) (hX:X.length<=1048576000) (hY:Y.length<=1048576000) (hs: ∀c∈Y,small c) (hN:4398046511104<=N):Ok (kY N a b φ) (Bx fE X Y a b):=by
 have nn:a.length<=Y.length:=by have:=la.len ca;rwa [dS] at this
 have hbl:b.length<=Y.length:=by have:=lb.len cb;rwa [dS] at this
 unfold kY
 rw [wrap_add (by omega)]
 refine Ok.bif (fun h=>Ok.ret ?_) (fun h=>?_)
 ·have h:a.length+b.length=0:=by have:=beq_iff_eq.1 h;omega
  have e1:a= []:=List.eq_nil_of_length_eq_zero (by omega)
  have e2:b= []:=List.eq_nil_of_length_eq_zero (by omega)
  subst e1;subst e2
  exact⟨eI.nil,fun x y=>hk.symm,fun c hc=>(by cases hc)⟩
 have h0:a≠[]\/b≠[]:=by
  rw [beq_eq_false_iff_ne] at h
  by_cases e:a= []
  ·right;intro e2;subst e;subst e2;exact h rfl
  ·exact .inl e
 refine Ok.bind (Ok.mN (fun k s=>match k with | 0=>True | 1=>a= []\/((∀c∈a,s.1<=c.Y0/\c.Y1<=s.2)/\s.1∈Y/\s.2∈Y) | _=>((∀c∈a,s.1<=c.Y0/\c.Y1<=s.2)/\(∀c∈b,s.1<=c.Y0/\c.Y1<=s.2)/\s.1∈Y/\s.2∈Y)) (by simp) trivial (fun k s hk hI=>?_)) ?_
 ·obtain⟨y,e⟩:=s
  have hk:k=0\/k=1:=by simp at hk;omega
  rcases hk with rfl | rfl
  ·refine Ok.ix (x:=a) rfl ?_
   by_cases ea:a= []
   ·subst ea
    exact Ok.eq (x:=(y,e)) rfl (Ok.ret (.inl rfl))
   ·obtain⟨f,l,f1,f2,f3,f4,f5⟩:=zi ea (by omega) ca
    have hpos:decide (((a.length:Nat):Int)>0)=true:=bR (by have:=List.length_pos_iff.2 ea;omega)
    refine Ok.eq (x:=(f.Y0,l.Y1)) ?_ (Ok.ret (.inr ⟨f5,(la _ (dD.2 ⟨f,f3,rfl⟩)).1,(la _ (dD.2 ⟨l,f4,rfl⟩)).2.1⟩))
    rw [hpos,aQ]
    show ((some true).bind _)=_
    rw [aB,aQ,f1,aB,f2,aB,aB,aB,aB]
    simp
  ·refine Ok.ix (x:=b) rfl ?_
   have hI:a= []\/((∀c∈a,y<=c.Y0/\c.Y1<=e)/\y∈Y/\e∈Y):=hI
   by_cases eb:b= []
   ·subst eb
    refine Ok.eq (x:=(y,e)) rfl (Ok.ret ?_)
    rcases hI with h | ⟨h1,h2,h3⟩
    ·rcases h0 with h' | h'
     ·exact absurd h h'
     ·exact absurd rfl h'
    ·exact⟨h1,fun c hc=>(by cases hc),h2,h3⟩
   ·obtain⟨f,l,f1,f2,f3,f4,f5⟩:=zi eb (by omega) cb
    have hpos:decide (((b.length:Nat):Int)>0)=true:=bR (by have:=List.length_pos_iff.2 eb;omega)
    have g1:f.Y0∈Y:=(lb _ (dD.2 ⟨f,f3,rfl⟩)).1
    have g2:l.Y1∈Y:=(lb _ (dD.2 ⟨l,f4,rfl⟩)).2.1
    by_cases ea:a= []
    ·subst ea
     refine Ok.eq (x:=(f.Y0,l.Y1)) ?_ (Ok.ret ⟨fun c hc=>(by cases hc),f5,g1,g2⟩)
     rw [hpos,aQ]
     show ((some true).bind _)=_
     rw [aB,aQ,f1,aB,f2,aB,aB,aB,aB]
     simp
    ·obtain⟨h1,h2,h3⟩:=hI.resolve_left ea
     refine Ok.eq (x:=(if f.Y0<y then f.Y0 else y,if e<l.Y1 then l.Y1 else e)) ?_ (Ok.ret ⟨fun c hc=>?_,fun c hc=>?_,?_,?_⟩)
     ·rw [hpos,aQ]
      have ez: (((a.length:Nat):Int)==0)=false:=by rw [beq_eq_false_iff_ne];have:=List.length_pos_iff.2 ea;omega
      rw [ez]
      show ((some false).bind _)=_
      rw [aB,aT,aB,f1,aB,f2,aB]
     ·have:=h1 c hc;dsimp only;split <;> split <;> omega
     ·have:=f5 c hc;dsimp only;split <;> split <;> omega
     ·dsimp only;split
      ·exact g1
      ·exact h2
     ·dsimp only;split
      ·exact g2
      ·exact h3
 ·rintro⟨y0,e0⟩ hI
  have hI: (∀c∈a,y0<=c.Y0/\c.Y1<=e0)/\(∀c∈b,y0<=c.Y0/\c.Y1<=e0)/\y0∈Y/\e0∈Y:=hI
  obtain⟨ia,ib,iy,ie⟩:=hI
  have sy:=hs _ iy
  have se:=hs _ ie
  unfold small at sy se
  dsimp only
  refine Ok.bind (Ok.kD (Go:=fun s=>Bx fE X Y a b s.2.2.1) (Rt:=fun _=>True)
   (fun s=>∃pa pb,a=pa++s.1/\b=pb++s.2.1/\(∀c∈pa,c.Y1<=s.2.2.2)/\(∀c∈pb,c.Y1<=s.2.2.2)/\y0<=s.2.2.2/\s.2.2.2<=max y0 e0/\s.2.2.2∈Y/\eI (s.2.2.1.map bS)/\vT X Y (s.2.2.1.map bS)/\(∀c∈s.2.2.1,c.Y1<=s.2.2.2)/\
    ∀x y,tu (s.2.2.1.map bS) x y= (fE (tu (a.map bS) x y) (tu (b.map bS) x y)&&decide (y<s.2.2.2)))
   (fun s=>(e0 - s.2.2.2).toNat) ?_ ?_ (by dsimp only;omega)) ?_
  ·rintro⟨a',b',out,y⟩ ⟨pa,pb,ea,eb,hpa,hpb,hy0,hye,hyY,hcan,hlim,htop,hcov⟩
   dsimp only at ea eb hpa hpb hy0 hye hyY hcan hlim htop hcov ⊢
   refine Ok.bif (fun h=>?_) (fun h=>Ok.br ?_)
   ·have hlt:y<e0:=of_decide_eq_true h
    have hsl: ∀(p s t:List aA),t=p++s->s.length<=t.length:=fun p s t e=>by rw [e];simp
    have hal':=hsl _ _ _ ea
    have hbl':=hsl _ _ _ eb
    refine Ok.bind (Ax (y:=y) (a:=a') (by omega) rfl) (fun o ho=>Ok.cs ho ?_ (fun r=>r.elim))
    rintro a2 ⟨qa,ea2,hqa,hha⟩
    refine Ok.bind (Ax (y:=y) (a:=b') (by omega) rfl) (fun o ho=>Ok.cs ho ?_ (fun r=>r.elim))
    rintro b2 ⟨qb,eb2,hqb,hhb⟩
    have ea3:a= (pa++qa)++a2:=by rw [ea,ea2];simp
    have eb3:b= (pb++qb)++b2:=by rw [eb,eb2];simp
    have hPa: ∀c∈pa++qa,c.Y1<=y:=fun c hc=>by rcases dC.1 hc with h | h;exact hpa c h;exact hqa c h
    have hPb: ∀c∈pb++qb,c.Y1<=y:=fun c hc=>by rcases dC.1 hc with h | h;exact hpb c h;exact hqb c h
    have ca2:eI (a2.map bS):=by have:=ca;rw [ea3,eE] at this;exact this.app
    have cb2:eI (b2.map bS):=by have:=cb;rw [eb3,eE] at this;exact this.app
    have la2:vT X Y (a2.map bS):=fun c hc=>la c (by rw [ea3,eE];exact List.mem_append_right _ hc)
    have lb2:vT X Y (b2.map bS):=fun c hc=>lb c (by rw [eb3,eE];exact List.mem_append_right _ hc)
    refine Ok.eq (Iq a2 y e0) (Ok.eq (Iq b2 y e0) ?_)
    obtain⟨a1,a3,a4,a5,a6,a7,a8⟩:=EH ca2 la2 hha hlt
    obtain⟨b1,b3,b4,b5,b6,b7,b8⟩:=EH cb2 lb2 hhb hlt
    have hal2: (Dg a2 y e0).1.length<=X.length:=fH a5.nodup a8
    have hbl2: (Dg b2 y e0).1.length<=X.length:=fH b5.nodup b8
    generalize Dg a2 y e0=pa2 at *
    generalize Dg b2 y e0=pb2 at *
    obtain⟨xa,n⟩:=pa2
    obtain⟨xb,m⟩:=pb2
    dsimp only at *
    refine Ok.bind (Fu hφ hk a5 b5 a6 b6 (by omega) (by omega) (by omega)) ?_
    rintro row ⟨r1,r2,r3,r4⟩
    have hnx: ∃nx,nx= (if m<n then m else n)/\y<nx/\nx<=e0/\nx<=n/\nx<=m/\nx∈Y:=by
     refine⟨_,rfl,by split <;> omega,by split <;> omega,by split <;> omega,by split <;> omega,?_⟩
     split
     ·rcases b7 with h | h
      ·rw [h];exact ie
      ·exact h
     ·rcases a7 with h | h
      ·rw [h];exact ie
      ·exact h
    obtain⟨nx,hnx,n1,n2,n3,n4,n5⟩:=hnx
    rw [<-hnx]
    have hol:out.length<=Y.length:=by have:=hlim.len hcan;rwa [dS] at this
    obtain⟨out',p1,p2⟩:=EE (N:=N) (s:=out) (b:=⟨y,nx,row⟩) (by omega) (fun c hc=>by
     have:=hlim.row hcan (b:=bS c) (dD.2 ⟨c,hc,rfl⟩)
     have e: (bS c).xs=c.Xs:=rfl
     rw [e] at this;omega)
    refine Ok.eq p1 ?_
    have htop': ∀c∈out.map bS,c.y1<=(bS ⟨y,nx,row⟩).y0:=fun c hc=>by
     obtain⟨d,hd,rfl⟩:=dD.1 hc
     exact htop d hd
    refine Ok.nx ⟨⟨pa++qa,pb++qb,ea3,eb3,fun c hc=>by have:=hPa c hc;dsimp only;omega,fun c hc=>by have:=hPb c hc;dsimp only;omega,by dsimp only;omega,by dsimp only;omega,n5,by dsimp only;rw [p2];exact uz hcan htop' r1 r2,?_,fun c hc=>?_,fun x y'=>?_⟩,by dsimp only;omega⟩
    ·dsimp only;rw [p2]
     refine hlim.push hyY n5 (fun c hc=>?_)
     rcases r4 c hc with h | h
     ·exact a8 c h
     ·exact b8 c h
    ·have hm':bS c∈jg (out.map bS) (bS ⟨y,nx,row⟩):=by rw [<-p2];exact dD.2 ⟨c,hc,rfl⟩
     exact uA htop' (by show y<=nx;omega) _ hm'
    ·show oq (rowAt (out'.map bS) y') x=_
     rw [p2,uy htop' (fun c hc=>(hcan.each c hc).1) (fun h=>absurd h (by show ¬nx<=y;omega))]
     by_cases hyy:y<=y'/\y'<nx
     ·rw [aD (show (bS ⟨y,nx,row⟩).y0<=y'/\y'< (bS ⟨y,nx,row⟩).y1 from hyy),bR hyy.2,Bool.and_true]
      show oq row x=_
      have mp: ∀p q:List aA,(∀c∈p++q,c.Y1<=y)->∀c∈(p++q).map bS,c.y1<=y:=fun p q h c hc=>by
       obtain⟨d,hd,rfl⟩:=dD.1 hc
       exact h d hd
      have q1:tu (a.map bS) x y'=oq xa x:=by
       unfold tu
       rw [ea3,eE,CK (mp _ _ hPa) hyy.1,a4 y' hyy.1 (by omega)]
      have q2:tu (b.map bS) x y'=oq xb x:=by
       unfold tu
       rw [eb3,eE,CK (mp _ _ hPb) hyy.1,b4 y' hyy.1 (by omega)]
      rw [r3,q1,q2]
     ·rw [aH (show ¬((bS ⟨y,nx,row⟩).y0<=y'/\y'< (bS ⟨y,nx,row⟩).y1) from hyy)]
      show tu (out.map bS) x y'=_
      rw [hcov]
      by_cases h1:y'<y
      ·rw [bR h1,bR (show y'<nx by omega)]
      ·rw [bY h1,bY (show ¬y'<nx by omega)]
   ·have hge:e0<=y:=by have:=of_decide_eq_false h;omega
    refine⟨hcan,fun x y'=>?_,hlim⟩
    dsimp only
    rw [hcov]
    by_cases h1:y'<y
    ·rw [bR h1,Bool.and_true]
    ·have z: ∀s:List aA,(∀c∈s,y0<=c.Y0/\c.Y1<=e0)->tu (s.map bS) x y'=false:=fun s h=>by
      unfold tu
      rw [lu fun c hc=>?_]
      ·rfl
      ·obtain⟨d,hd,rfl⟩:=dD.1 hc
       exact .inr (by have:=(h d hd).2;show d.Y1<=y';omega)
     rw [z a ia,z b ib,hk];rfl
  ·refine⟨[],[],rfl,rfl,fun c hc=>(by cases hc),fun c hc=>(by cases hc),Int.le_refl _,by dsimp only;omega,iy,eI.nil,fun c hc=>(by cases hc),fun c hc=>(by cases hc),fun x y=>?_⟩
   dsimp only
   show false=_
   by_cases h1:y<y0
   ·have z: ∀s:List aA,(∀c∈s,y0<=c.Y0/\c.Y1<=e0)->tu (s.map bS) x y=false:=fun s h=>by
     unfold tu
     rw [lu fun c hc=>?_]
     ·rfl
     ·obtain⟨d,hd,rfl⟩:=dD.1 hc
      exact .inl (by have:=(h d hd).1;show y<d.Y0;omega)
    rw [z a ia,z b ib,hk];rfl
   ·rw [bY h1,Bool.and_false]
  ·rintro o ho
   exact Ok.cs ho (fun s h=>Ok.ret h) (fun r=>r.elim)
theorem Fv {a b:List aA} {X Y:List Int} (ca:eI (a.map bS)) (cb:eI (b.map bS)) (la:vT X Y (a.map bS)) (lb:vT X Y (b.map bS)) (hX:X.length<=1048576000) (hY:Y.length<=1048576000) (hs: ∀c∈Y,small c) (hN:4398046511104<=N):
  Ok (i9 N a b) (Bx (fun p q=>p&& !q) X Y a b):=by
 unfold i9
 exact Ok.bind (zj (fE:=fun p q=>p&& !q) (fun p q=>rfl) rfl ca cb la lb hX hY hs hN) (fun s h=>Ok.ret h)
end
end Go.Gk
namespace Go.Gk
open Go
section
variable {N:Nat}
structure UF (n:Nat) (up:List Int) (r:Nat->Nat):Prop where
 len:up.length=n
 rt: ∀i,i<n->∃u:Nat,up[i]? =some ((u:Nat):Int)/\u<=i/\r u=r i/\(u=i↔r i=i)
theorem UF.le {n:Nat} {up:List Int} {r:Nat->Nat} (h:UF n up r): ∀i,i<n->r i<=i:=by
 intro i
 induction i using Nat.strongRecOn with
 | ind i ih=>
  intro hi
  obtain⟨u,_,h2,h3,h4⟩:=h.rt i hi
  by_cases e:u=i
  ·rw [h4.1 e];exact bK _
  ·rw [<-h3];have:=ih u (by omega) (by omega);omega
theorem UF.rr {n:Nat} {up:List Int} {r:Nat->Nat} (h:UF n up r): ∀i,i<n->r (r i)=r i:=by
 intro i
 induction i using Nat.strongRecOn with
 | ind i ih=>
  intro hi
  obtain⟨u,_,h2,h3,h4⟩:=h.rt i hi
  by_cases e:u=i
  ·rw [h4.1 e,h4.1 e]
  ·rw [<-h3];exact ih u (by omega) (by omega)
theorem nj {l:List Int} {j:Nat} {v:Int} {i:Nat} (hj:j<l.length): (l.set j v)[i]? =if i=j then some v else l[i]? :=by
 rw [eL]
 by_cases e:j=i
 ·rw [aD e,aD e.symm,aD hj]
 ·rw [aH e,aH (fun h=>e h.symm)]
theorem UF.init (n:Nat) (up:List Int) (h1:up.length=n) (h2: ∀i,i<n->up[i]? =some ((i:Nat):Int)):UF n up (fun i=>i):=
 ⟨h1,fun i hi=>⟨i,h2 i hi,bK _,rfl,by simp⟩⟩
theorem CL {n:Nat} (hn:n<=1048576000): ∃up,kO N ((n:Nat):Int)=some up/\UF n up (fun i=>i):=by
 unfold kO
 rw [uv 0 (by omega),aB]
 have h0: (List.replicate n (0:Int)).length=n:=by simp
 obtain⟨s',h1,h2⟩:=yz (m:=(List.replicate n (0:Int)).length) (s:=List.replicate n (0:Int)) (body:=fun(k34:Nat) (s35: (List Int))=>((idx s35 (k34:Int)).bind fun x38=>some (s35.set (Int.toNat (k34:Int)) (k34:Int)):Option ((List Int))))
  (fun k s=>s.length=n/\∀i,i<k->s[i]? =some ((i:Nat):Int)) (by omega) ⟨h0,fun i hi=>by omega⟩ (fun k s hk ⟨hs,hi⟩=>by
   refine⟨s.set k ((k:Nat):Int),?_,by simp [hs],fun i hi'=>?_⟩
   ·rw [kG _ _ (by omega),aB,cK]
   ·rw [nj (by omega)]
    split
    ·rename_i e;rw [e]
    ·exact hi i (by omega))
 rw [h1,aB]
 exact⟨s',rfl,UF.init n s' h2.1 (fun i hi=>h2.2 i (by omega))⟩
theorem Bz {n:Nat} {up:List Int} {r:Nat->Nat} (h:UF n up r) {i:Nat} (hi:i<n) (hn:n<N): ∃up',gA N up ((i:Nat):Int)=some (((r i:Nat):Int),up')/\UF n up' r:=by
 unfold gA
 obtain⟨o,h1,h2⟩:=wz (R:=Empty) (body:=fun(s32: (List Int)×Int)=>((idx s32.1 s32.2).bind fun x43=>bif (x43 != s32.2) then ((idx s32.1 s32.2).bind fun x44=>(idx s32.1 x44).bind fun x45=>(idx s32.1 s32.2).bind fun x46=>(idx (s32.1.set (Int.toNat s32.2) x45) s32.2).bind fun x47=>some (.nx ((s32.1.set (Int.toNat s32.2) x45),x47))) else (some (.br (s32.1,s32.2))):Option (Fl ((List Int)×Int) Empty)))
  (fun s=>UF n s.1 r/\∃j:Nat,s.2= ((j:Nat):Int)/\j<n/\r j=r i) (fun s=>s.2.toNat) (fun s=>s.2= ((r i:Nat):Int)/\UF n s.1 r) (fun _=>True) (fun s ⟨hu,j,hj,hjn,hr⟩=>by
   obtain⟨l,y⟩:=s
   dsimp only at hu hj ⊢
   subst hj
   obtain⟨u,a1,a2,a3,a4⟩:=hu.rt j hjn
   rw [gv a1,aB]
   by_cases e:u=j
   ·subst e
    refine⟨.br (l,((u:Nat):Int)),by rw [show (((u:Nat):Int) != ((u:Nat):Int))=false by simp,aT],?_,hu⟩
    show ((u:Nat):Int)=_
    rw [<-hr,a4.1 rfl]
   ·obtain⟨v,b1,b2,b3,b4⟩:=hu.rt u (by omega)
    have hl:=hu.len
    refine⟨.nx (l.set j ((v:Nat):Int),((v:Nat):Int)),by
     rw [show (((u:Nat):Int) != ((j:Nat):Int))=true by simp;omega,aQ,aB,gv b1,aB,aB,cK,
      gv (x:=((v:Nat):Int)) (by rw [nj (by omega),aD rfl]),aB],⟨⟨by simp [hl],fun k hk=>?_⟩,v,rfl,by omega,?_⟩,?_⟩
    ·rw [nj (by omega)]
     by_cases e2:k=j
     ·subst e2
      rw [aD rfl]
      refine⟨v,rfl,by omega,by rw [b3,a3],?_⟩
      constructor
      ·intro h;omega
      ·intro h;exact absurd (a4.2 h) e
     ·rw [aH e2];exact hu.rt k hk
    ·rw [b3,a3,hr]
    ·simp only [cK];omega)
  N (up,((i:Nat):Int)) ⟨h,i,rfl,hi,rfl⟩ (by simp only [cK];omega)
 rw [h1,aB]
 cases o with
 | go s'=>exact⟨s'.1,by rw [<-h2.1];rfl,h2.2⟩
 | rt r=>exact r.elim
def oh (r:Nat->Nat) (a b:Nat):Nat->Nat:=fun x=>if r x=max a b then min a b else r x
theorem GJ (a b:Nat): (if ((a:Nat):Int)< ((b:Nat):Int) then ((b:Nat):Int) else ((a:Nat):Int))= ((max a b:Nat):Int):=by
 rw [Nat.max_def];split <;> split <;> omega
theorem GK (a b:Nat): (if ((b:Nat):Int)< ((a:Nat):Int) then ((b:Nat):Int) else ((a:Nat):Int))= ((min a b:Nat):Int):=by
 rw [Nat.min_def];split <;> split <;> omega
theorem HQ {n:Nat} {up:List Int} {r:Nat->Nat} (h:UF n up r) {i k:Nat} (hi:i<n) (hk:k<n) (hn:n<N):
  ∃up',gU N up ((i:Nat):Int) ((k:Nat):Int)=some up'/\UF n up' (oh r (r i) (r k)):=by
 obtain⟨u1,a1,a2⟩:=Bz h hi hn
 obtain⟨u2,b1,b2⟩:=Bz a2 hk hn
 have hri:=h.le i hi
 have hrk:=h.le k hk
 have rri:=h.rr i hi
 have rrk:=h.rr k hk
 unfold gU
 rw [a1,aB,b1,aB]
 dsimp only
 rw [GJ,GK]
 have hm:max (r i) (r k)<n:=by omega
 have hl:=b2.len
 rw [kG _ _ (by omega),aB,cK]
 refine⟨_,rfl,by simp [hl],fun x hx=>?_⟩
 have rmax:r (max (r i) (r k))=max (r i) (r k):=by rcases Nat.le_total (r i) (r k) with e | e <;> simp [Nat.max_def] <;> split <;> omega
 have rmin:r (min (r i) (r k))=min (r i) (r k):=by rcases Nat.le_total (r i) (r k) with e | e <;> simp [Nat.min_def] <;> split <;> omega
 rw [nj (by omega)]
 by_cases e:x=max (r i) (r k)
 ·subst e
  rw [aD rfl]
  refine⟨min (r i) (r k),rfl,by omega,?_,?_⟩
  ·unfold oh;rw [rmin,rmax,aD rfl];split <;> rfl
  ·unfold oh;rw [rmax,aD rfl]
 ·rw [aH e]
  obtain⟨u,c1,c2,c3,c4⟩:=b2.rt x hx
  refine⟨u,c1,c2,?_,?_⟩
  ·unfold oh;rw [c3]
  ·unfold oh
   split
   ·rename_i e2
    constructor
    ·intro hu;have:=c4.1 hu;omega
    ·intro hu
     have h1:=b2.le x hx
     have:min (r i) (r k)=max (r i) (r k)\/x<max (r i) (r k):=by omega
     have h3:x=max (r i) (r k):=by omega
     exact absurd h3 e
   ·exact c4
def p8 (r:Nat->Nat) (E:List (Nat×Nat)):Prop:=∀p∈E,r p.1=r p.2
def zk (n:Nat) (r:Nat->Nat) (E:List (Nat×Nat)):Prop:=∀S:Nat->Prop,(∀p∈E,S p.1↔S p.2)->∀i j,i<n->j<n->r i=r j->S i->S j
theorem p8.join {r:Nat->Nat} {E:List (Nat×Nat)} (h:p8 r E) (i k:Nat) (_h2:r (r i)=r i):p8 (oh r (r i) (r k)) (E++[(i,k)]):=fun p hp=>by
 rcases dC.1 hp with hp | hp
 ·unfold oh;rw [h p hp]
 ·simp at hp;subst hp
  unfold oh
  dsimp only
  split <;> split <;> omega
theorem zk.join {n:Nat} {r:Nat->Nat} {E:List (Nat×Nat)} (h:zk n r E) {i k:Nat} (hi:i<n) (hk:k<n):zk n (oh r (r i) (r k)) (E++[(i,k)]):=fun S hS x y hx hy hr hSx=>by
 have hE: ∀p∈E,S p.1↔S p.2:=fun p hp=>hS p (List.mem_append_left _ hp)
 have hik:S i↔S k:=hS (i,k) (by simp)
 have key:=h S hE
 unfold oh at hr
 by_cases h1:r x=r y
 ·exact key x y hx hy h1 hSx
 ·have: (r x=r i/\r y=r k)\/(r x=r k/\r y=r i):=by
   split at hr <;> split at hr <;> omega
  rcases this with ⟨e1,e2⟩ | ⟨e1,e2⟩
  ·exact key k y hk hy e2.symm (hik.1 (key x i hx hi e1 hSx))
  ·exact key i y hi hy e2.symm (hik.2 (key x k hx hk e1 hSx))
theorem zk.id (n:Nat):zk n (fun i=>i) []:=fun S _ i j _ _ h hs=>by
 have h:i=j:=h
 subst h;exact hs
theorem p8.id:p8 (fun i=>i) []:=fun p hp=>by simp at hp
def bO (n:Nat) (r:Nat->Nat):List Nat:=(List.range n).filter (fun k=>decide (r k=k))
def cls (n:Nat) (r:Nat->Nat) (k:Nat):List Nat:=(List.range n).filter (fun i=>decide (r i=k))
theorem iG (n:Nat) (r:Nat->Nat):bO (n+1) r=if r n=n then bO n r++[n] else bO n r:=by
 unfold bO
 rw [List.range_succ,ka]
 by_cases h:r n=n
 ·rw [aD h];simp [h]
 ·rw [aH h];simp [h]
theorem t3 (n:Nat) (r:Nat->Nat) (k:Nat):cls (n+1) r k=if r n=k then cls n r k++[n] else cls n r k:=by
 unfold cls
 rw [List.range_succ,ka]
 by_cases h:r n=k
 ·rw [aD h];simp [h]
 ·rw [aH h];simp [h]
theorem oD (n:Nat) (r:Nat->Nat): (bO n r).length<=n:=by
 have:=nP (fun k=>decide (r k=k)) (List.range n)
 rw [List.length_range] at this;exact this
theorem BA (n:Nat) (r:Nat->Nat) (k:Nat): (cls n r k).length<=n:=by
 have:=nP (fun i=>decide (r i=k)) (List.range n)
 rw [List.length_range] at this;exact this
theorem jh {n k:Nat} {r:Nat->Nat}:k∈bO n r↔k<n/\r k=k:=by unfold bO;simp
theorem nJ (n:Nat) (r:Nat->Nat): (bO n r).Nodup:=List.Nodup.sublist List.filter_sublist List.nodup_range
def p9 (n:Nat) (r:Nat->Nat):List (List Int):=(bO n r).map (fun k=>(cls n r k).map (fun i=>((i:Nat):Int)))
theorem EI {n k:Nat} {r:Nat->Nat} (h: ∀i,i<n->r i<=i) (hk:n<=k):cls n r k= []:=by
 unfold cls
 rw [List.filter_eq_nil_iff]
 intro i hi
 have h1:=qx.1 hi
 have:=h i h1
 simp;omega
theorem t4 {α β:Type} (f g:α->β) (l:List α) (j:Nat) (a:α) (hn:l.Nodup) (hj:l[j]? =some a) (hf: ∀b,b∈l->b≠a->f b=g b): (l.map f).set j (g a)=l.map g:=by
 apply List.ext_getElem?
 intro i
 have hjl:=(bC.1 hj).1
 rw [eL,dS,j9,j9]
 by_cases e:j=i
 ·subst e;rw [aD rfl,aD hjl,hj];rfl
 ·rw [aH e]
  cases hb:l[i]? with
  | none=>rfl
  | some b=>
   have hne:b≠a:=fun he=>by
    subst he
    have hil:=(bC.1 hb).1
    exact e ((List.getElem_inj hn).1 (by rw [(bC.1 hb).2,(bC.1 hj).2]) |>.symm)
   show some (f b)=some (g b)
   rw [hf b (gh hb) hne]
def KR (n:Nat) (r:Nat->Nat) (m:List (Int×Int)):Prop:=∀(j k:Nat),(bO n r)[j]? =some k->i5 m ((k:Nat):Int) 0= ((j:Nat):Int)
theorem HR {n:Nat} {up:List Int} {r:Nat->Nat} (h:UF n up r) (hn:n<N) (hn2:n<=1048576000): ∃up',jI N up=some (p9 n r,up')/\UF n up' r:=by
 unfold jI
 have hlen:=h.len
 have hle:=h.le
 have hrr:=h.rr
 obtain⟨s',h1,h2⟩:=yz (m:=up.length) (s:=(up,([]: (List (List Int))),([]: (List (Int×Int)))))
  (body:=fun(k32:Nat) (s33: (List Int)×(List (List Int))×(List (Int×Int)))=>((gA N s33.1 (k32:Int)).bind fun x117=>(bif (x117.1==(k32:Int)) then ((app 24 s33.2.1 [([]: (List Int))]).bind fun x126=>some (x126,(uK s33.2.2 (k32:Int) (s33.2.1.length:Int)))) else (some (s33.2.1,s33.2.2))).bind fun s122=>(idx s122.1 (i5 s122.2 x117.1 (0:Int))).bind fun x128=>(app 8 x128 ([(k32:Int)]: (List Int))).bind fun x134=>(idx s122.1 (i5 s122.2 x117.1 (0:Int))).bind fun x136=>some (x117.2,(s122.1.set (Int.toNat (i5 s122.2 x117.1 (0:Int))) x134),s122.2):Option ((List Int)×(List (List Int))×(List (Int×Int)))))
  (fun k s=>UF n s.1 r/\s.2.1=p9 k r/\KR k r s.2.2) (by omega) ⟨h,rfl,fun j k hj=>by simp [bO] at hj⟩ (fun k s hk ⟨hu,hs,hm⟩=>by
   obtain⟨l,ss,m⟩:=s
   dsimp only at hu hs hm ⊢
   subst hs
   rw [hlen] at hk
   obtain⟨u',a1,a2⟩:=Bz hu hk hn
   rw [a1,aB]
   dsimp only
   have hhl:=oD k r
   have hsl: (p9 k r).length= (bO k r).length:=by unfold p9;simp
   have hrk:=hle k hk
   by_cases e:r k=k
   ·
    rw [show (((r k:Nat):Int)==((k:Nat):Int))=true by rw [e];simp,aQ,jd (by rw [hsl];simp;omega),aB,aB]
    dsimp only
    rw [e,xE,aD rfl,hsl]
    have hi: (p9 k r++[([]:List Int)])[(bO k r).length]? =some []:=by rw [<-hsl,gw (bK _),Nat.sub_self];rfl
    rw [gv hi,aB,jd (by simp),aB,aB,cK]
    refine⟨_,rfl,a2,?_,fun j q hj=>?_⟩
    ·dsimp only
     rw [<-hsl,List.set_append_right _ _ (bK _),Nat.sub_self]
     unfold p9
     rw [iG,aD e,eE]
     congr 1
     ·apply List.map_congr_left
      intro a ha
      have:=(jh.1 ha).1
      rw [t3,aH (by omega)]
     ·simp only [List.set_cons_zero,dO,List.map_nil,List.nil_append]
      rw [t3,aD e,EI (fun i hi=>hle i (by omega)) (bK _)];rfl
    ·dsimp only
     rw [iG,aD e] at hj
     rw [xE]
     by_cases e2:j< (bO k r).length
     ·rw [gj e2] at hj
      have:=(jh.1 (gh hj)).1
      rw [aH (by omega)];exact hm j q hj
     ·rw [gw (by omega)] at hj
      have hj0:j - (bO k r).length=0:=by
       have:=(bC.1 hj).1;simp at this;omega
      rw [hj0] at hj;simp at hj;subst hj
      rw [aD rfl];congr 1;omega
   ·rw [show (((r k:Nat):Int)==((k:Nat):Int))=false by simp;omega,aT,aB]
    dsimp only
    have hh:r k∈bO k r:=jh.2 ⟨by omega,hrr k hk⟩
    obtain⟨j,hj⟩:=eR hh
    rw [hm j (r k) hj]
    have hcl:=BA k r (r k)
    have hi: (p9 k r)[j]? =some ((cls k r (r k)).map (fun i=>((i:Nat):Int))):=by unfold p9;rw [j9,hj];rfl
    rw [gv hi,aB,jd (by simp;omega),aB,aB,cK]
    refine⟨_,rfl,a2,?_,fun j' q hj'=>?_⟩
    ·unfold p9
     rw [iG,aH e]
     have:=t4 (fun a=>(cls k r a).map (fun i=>((i:Nat):Int))) (fun a=>(cls (k+1) r a).map (fun i=>((i:Nat):Int))) (bO k r) j (r k) (nJ k r) hj (fun b hb hne=>by
      rw [t3,aH (fun h=>hne h.symm)])
     rw [t3,aD rfl,eE] at this
     exact this
    ·rw [iG,aH e] at hj';exact hm j' q hj')
 rw [h1,aB]
 obtain⟨l,ss,m⟩:=s'
 dsimp only at h2
 rw [hlen] at h2
 refine⟨l,?_,h2.1⟩
 rw [<-h2.2.1]
end
end Go.Gk
namespace Go.Gk
open Go
section
variable {N:Nat}
theorem BB {n:Nat} {up:List Int} {r:Nat->Nat} (h:UF n up r) {i:Nat} (hi:i<n) (hn:n<N): ∃up',fz N ((i:Nat):Int) up=some (((r i:Nat):Int),up')/\UF n up' r:=by
 unfold fz
 have:=Ok.bind (β:=Int×List Int) (Q:=fun x=>x.1= ((r i:Nat):Int)/\UF n x.2 r) (Ok.kD (body:=fun(s32:Int×(List Int))=>((idx s32.2 s32.1).bind fun x43=>bif (x43 != s32.1) then ((idx s32.2 s32.1).bind fun x44=>(idx s32.2 x44).bind fun x45=>(idx s32.2 s32.1).bind fun x46=>(idx (s32.2.set (Int.toNat s32.1) x45) s32.1).bind fun x47=>some (.nx (x47,(s32.2.set (Int.toNat s32.1) x45)))) else (some (.br (s32.1,s32.2))):Option (Fl (Int×(List Int)) Empty)))
  (N:=N) (s:=(((i:Nat):Int),up)) (Go:=fun s=>s.1= ((r i:Nat):Int)/\UF n s.2 r) (Rt:=fun _=>True) (fun s=>UF n s.2 r/\∃j:Nat,s.1= ((j:Nat):Int)/\j<n/\r j=r i) (fun s=>s.1.toNat) (by
   rintro⟨y,l⟩ ⟨hu,j,hj,hjn,hr⟩
   dsimp only at hu hj ⊢
   subst hj
   obtain⟨u,a1,a2,a3,a4⟩:=hu.rt j hjn
   refine Ok.ix a1 ?_
   by_cases e:u=j
   ·subst e
    rw [show (((u:Nat):Int) != ((u:Nat):Int))=false by simp,aT]
    refine Ok.br ⟨?_,hu⟩
    show ((u:Nat):Int)=_
    rw [<-hr,a4.1 rfl]
   ·obtain⟨v,b1,b2,b3,b4⟩:=hu.rt u (by omega)
    have hl:=hu.len
    rw [show (((u:Nat):Int) != ((j:Nat):Int))=true by simp;omega,aQ]
    refine Ok.ix a1 (Ok.ix b1 (Ok.ix a1 (Ok.ix (x:=((v:Nat):Int)) (by rw [cK,nj (by omega),aD rfl]) (Ok.nx ⟨⟨⟨by simp [hl],fun k hk=>?_⟩,v,rfl,by omega,?_⟩,?_⟩))))
    ·rw [cK,nj (by omega)]
     by_cases e2:k=j
     ·subst e2
      rw [aD rfl]
      refine⟨v,rfl,by omega,by rw [b3,a3],?_⟩
      constructor
      ·intro h;omega
      ·intro h;exact absurd (a4.2 h) e
     ·rw [aH e2];exact hu.rt k hk
    ·rw [b3,a3,hr]
    ·simp only [cK];omega)
  ⟨h,i,rfl,hi,rfl⟩ (by simp only [cK];omega))
  (fun o ho=>Ok.cs (f:=fun(s32:Int×(List Int))=>some (s32.1,s32.2)) (g:=fun r:Empty=>r.elim) ho (fun s h=>Ok.ret h) (fun r=>r.elim))
 obtain⟨⟨x,up'⟩,h1,h2,h3⟩:=this
 exact⟨up',by rw [<-h2];exact h1,h3⟩
theorem GL {n:Nat} {up:List Int} {r:Nat->Nat} (h:UF n up r) {i k:Nat} (hi:i<n) (hk:k<n) {f:List Int->Option (List Int)} (hn:n<N):
  ∃up',((fz N ((i:Nat):Int) up).bind fun x840=>(fz N ((k:Nat):Int) x840.2).bind fun x842=>(idx x842.2 (if x840.1<x842.1 then x842.1 else x840.1)).bind fun x844=>some (x842.2.set (Int.toNat (if x840.1<x842.1 then x842.1 else x840.1)) (if x842.1<x840.1 then x842.1 else x840.1)))=some up'/\UF n up' (oh r (r i) (r k)):=by
 obtain⟨u1,a1,a2⟩:=BB h hi hn
 obtain⟨u2,b1,b2⟩:=BB a2 hk hn
 obtain⟨v1,c1,c2⟩:=Bz h hi hn
 have hri:=h.le i hi
 have hrk:=h.le k hk
 have rri:=h.rr i hi
 have rrk:=h.rr k hk
 rw [a1,aB,b1,aB]
 dsimp only
 rw [GJ,GK]
 have hm:max (r i) (r k)<n:=by omega
 have hl:=b2.len
 rw [kG _ _ (by omega),aB,cK]
 refine⟨_,rfl,by simp [hl],fun x hx=>?_⟩
 have rmax:r (max (r i) (r k))=max (r i) (r k):=by rcases Nat.le_total (r i) (r k) with e | e <;> simp [Nat.max_def] <;> split <;> omega
 have rmin:r (min (r i) (r k))=min (r i) (r k):=by rcases Nat.le_total (r i) (r k) with e | e <;> simp [Nat.min_def] <;> split <;> omega
 rw [nj (by omega)]
 by_cases e:x=max (r i) (r k)
 ·subst e
  rw [aD rfl]
  refine⟨min (r i) (r k),rfl,by omega,?_,?_⟩
  ·unfold oh;rw [rmin,rmax,aD rfl];split <;> rfl
  ·unfold oh;rw [rmax,aD rfl]
 ·rw [aH e]
  obtain⟨u,c1,c2,c3,c4⟩:=b2.rt x hx
  refine⟨u,c1,c2,?_,?_⟩
  ·unfold oh;rw [c3]
  ·unfold oh
   split
   ·rename_i e2
    constructor
    ·intro hu;have:=c4.1 hu;omega
    ·intro hu
     have h1:=b2.le x hx
     have h3:x=max (r i) (r k):=by omega
     exact absurd h3 e
   ·exact c4
def iS (s:List aA) (k:Nat):Nat:=(aM (s.take k)).length
theorem xH {s:List aA} {k:Nat} (h:k<s.length):iS s (k+1)=iS s k+s[k].Xs.length / 2:=by
 unfold iS
 rw [eD h,na,cT]
 show _+ (aM [s[k]]).length=_
 rw [show aM [s[k]]=mn s[k] by simp [aM],mK]
theorem xI {s:List aA} {k m:Nat} (h:k<=m):iS s k<=iS s m:=by
 unfold iS
 have:=xF (s.take m) k
 rwa [List.take_take,Nat.min_eq_left h] at this
theorem CM (s:List aA):iS s s.length= (aM s).length:=by unfold iS;rw [fJ]
theorem HS {s:List aA} {k t:Nat} (h:k<s.length) (ht:2*t+1<s[k].Xs.length): (aM s)[iS s k+t]? =some ⟨s[k].Xs[2*t],s[k].Y0,s[k].Xs[2*t+1],s[k].Y1⟩:=by
 have e:aM s=aM (s.take k)++(mn s[k]++aM (s.drop (k+1))):=by
  conv=>lhs;rw [<-List.take_append_drop k s,r8 h]
  rw [na,mo]
 rw [e]
 unfold iS
 rw [gw (by omega),Nat.add_sub_cancel_left,gj (by rw [mK];omega)]
 unfold mn
 rw [j9,wM _ _ ht];rfl
theorem EJ {s:List aA} {i:Nat} (h:i< (aM s).length): ∃k,k<s.length/\iS s k<=i/\i<iS s (k+1):=by
 have key: ∀m,m<=s.length->i<iS s m->∃k,k<m/\iS s k<=i/\i<iS s (k+1):=by
  intro m
  induction m with
  | zero=>intro _ h;unfold iS at h;simp [aM] at h
  | succ m ih=>
   intro hm hi
   by_cases h1:i<iS s m
   ·obtain⟨k,hk,h2⟩:=ih (by omega) h1
    exact⟨k,by omega,h2⟩
   ·exact⟨m,by omega,by omega,hi⟩
 exact key s.length (bK _) (by rw [CM];exact h)
def BC (a c:aG):Prop:=a.Y1=c.Y0/\a.X0<c.X1/\c.X0<a.X1
def xh (all:List aG) (i j:Nat):Prop:=∃a c,all[i]? =some a/\all[j]? =some c/\BC a c
theorem uC {s:List aA} (he: ∀b∈s,b.Xs.length % 2=0) {k i:Nat} (hk:k<s.length) (h1:iS s k<=i) (h2:i<iS s (k+1)): ∃t,i=iS s k+t/\∃h:2*t+1<s[k].Xs.length,(aM s)[i]? =some ⟨s[k].Xs[2*t],s[k].Y0,s[k].Xs[2*t+1],s[k].Y1⟩:=by
 rw [xH hk] at h2
 have:=he _ (cR hk)
 refine⟨i - iS s k,by omega,by omega,?_⟩
 have h3:=HS (t:=i - iS s k) hk (by omega)
 rwa [show iS s k+ (i - iS s k)=i by omega] at h3
theorem zm {s:List aA} (hc:eI (s.map bS)) {p q:Nat} (hp:p<s.length) (hq:q<s.length) (h:p<q):s[p].Y1<=s[q].Y0:=by
 have:=mz.1 hc.ord p q (by simp;omega) (by simp;omega) h
 simp only [List.getElem_map] at this
 exact this.1
theorem zn {s:List aA} (hc:eI (s.map bS)) {p:Nat} (hp:p<s.length):s[p].Y0<s[p].Y1:=(hc.each (bS s[p]) (dD.2 ⟨_,cR hp,rfl⟩)).1
theorem qc {s:List aA} (hc:eI (s.map bS)): ∀b∈s,b.Xs.length % 2=0:=fun b hb=>(hc.each (bS b) (dD.2 ⟨b,hb,rfl⟩)).2.2.2
theorem EK {s:List aA} (hc:eI (s.map bS)): ∀b∈s,jw b.Xs:=fun b hb=>(hc.each (bS b) (dD.2 ⟨b,hb,rfl⟩)).2.2.1
theorem CN {s:List aA} (hc:eI (s.map bS)) {i j q:Nat} (hq:q<s.length) (h1:iS s q<=j) (h2:j<iS s (q+1)) (ht:xh (aM s) i j): ∃hq0:0<q,s[q - 1].Y1=s[q].Y0/\iS s (q - 1)<=i/\i<iS s q:=by
 obtain⟨a,c,ha,hb,e1,e2,e3⟩:=ht
 obtain⟨t,e4,ht,hj⟩:=uC (qc hc) hq h1 h2
 rw [hj] at hb;injection hb with hb;subst hb
 have hil:=(bC.1 ha).1
 obtain⟨p,hp,p1,p2⟩:=EJ hil
 obtain⟨u,e5,hu,hi⟩:=uC (qc hc) hp p1 p2
 rw [hi] at ha;injection ha with ha;subst ha
 have e1:s[p].Y1=s[q].Y0:=e1
 have hpp:=zn hc hp
 have hqq:=zn hc hq
 have hpq:p+1=q:=by
  rcases Nat.lt_trichotomy p q with h | h | h
  ·by_cases h':p+1=q
   ·exact h'
   ·have h3:=zm hc hp (show p+1<s.length by omega) (by omega)
    have h4:=zm hc (show p+1<s.length by omega) hq (by omega)
    have h5:=zn hc (show p+1<s.length by omega)
    omega
  ·subst h;omega
  ·have:=zm hc hq hp h;omega
 subst hpq
 exact⟨by omega,e1,p1,p2⟩
structure PJ (all:List aG) (n:Nat) (up:List Int) (r:Nat->Nat) (E:List (Nat×Nat)):Prop where
 uf:UF n up r
 co:p8 r E
 fi:zk n r E
 so: ∀p∈E,xh all p.1 p.2
theorem PJ.join {all:List aG} {n:Nat} {up up':List Int} {r:Nat->Nat} {E:List (Nat×Nat)} (h:PJ all n up r E) {i j:Nat} (hi:i<n) (hj:j<n) (hu:UF n up' (oh r (r i) (r j))) (ht:xh all i j):PJ all n up' (oh r (r i) (r j)) (E++[(i,j)]):=
 ⟨hu,h.co.join i j (h.uf.rr i hi),h.fi.join hi hj,fun p hp=>by
  rcases dC.1 hp with hp | hp
  ·exact h.so p hp
  ·simp at hp;subst hp;exact ht⟩
structure Joined (all:List aG) (r:Nat->Nat):Prop where
 le: ∀i,i<all.length->r i<=i
 rr: ∀i,i<all.length->r (r i)=r i
 co: ∀i j,xh all i j->r i=r j
 fi: ∀S:Nat->Prop,(∀i j,xh all i j->(S i↔S j))->∀i j,i<all.length->j<all.length->r i=r j->S i->S j
def nb (all:List aG) (n:Nat) (r:Nat->Nat) (h:Nat):List aG:=(cls n r h).filterMap (fun i=>all[i]?)
theorem zo (all:List aG) (n:Nat) (r:Nat->Nat) (h:Nat): (nb all n r h).length<=n:=by
 have h1:=List.length_filterMap_le (fun i=>all[i]?) (cls n r h)
 have h2:=BA n r h
 unfold nb;omega
theorem uD {all:List aG} {n:Nat} {r:Nat->Nat} (h:Nat) {x:aG} (hx:all[n]? =some x):nb all (n+1) r h=if r n=h then nb all n r h++[x] else nb all n r h:=by
 unfold nb
 rw [t3]
 split
 ·rw [List.filterMap_append];simp [hx]
 ·rfl
theorem lD {all:List aG} {n:Nat} {r:Nat->Nat} {h:Nat} {x:aG}:x∈nb all n r h↔∃i,i<n/\r i=h/\all[i]? =some x:=by
 unfold nb cls
 rw [List.mem_filterMap]
 constructor
 ·rintro⟨i,hi,h⟩
  have:=k6.1 hi
  exact⟨i,qx.1 this.1,by simpa using this.2,h⟩
 ·rintro⟨i,h1,h2,h3⟩
  exact⟨i,k6.2 ⟨qx.2 h1,by simpa using h2⟩,h3⟩
structure qI (s:List aA) (r:Nat->Nat) (ps:List (List aA)):Prop where
 join:Joined (aM s) r
 len:ps.length= (bO (aM s).length r).length
 each: ∀(j h:Nat) (p:List aA),(bO (aM s).length r)[j]? =some h->ps[j]? =some p->rN (nb (aM s) (aM s).length r h) p
def Mx (n:Nat) (r:Nat->Nat) (m:List (Int×Int)):Prop:=(∀(j k:Nat),(bO n r)[j]? =some k->i5 m ((k:Nat):Int) 0= ((j:Nat):Int))/\∀k:Nat,te m ((k:Nat):Int)=decide (k∈bO n r)
theorem DJ {s:List aA} {X Y:List Int} (hc:eI (s.map bS)) (hl:vT X Y (s.map bS)) (hX: ∀c∈X,small c) (hY: ∀c∈Y,small c) (h1:s.length<=1073741824) (h2: ∀b∈s,b.Xs.length<=1073741824) (h3: (aM s).length<=134217728) (hN:4398046511104<=N):
  Ok (lB N s) (fun ps=>∃r,qI s r ps):=by
 unfold lB
 have hev:=qc hc
 have hinc:=EK hc
 refine Ok.eq (wO hev (by omega) (fun b hb=>by have:=h2 b hb;omega) (by omega)) ?_
 have hok:=zg hc hl hX hY
 have hall:iS s s.length= (aM s).length:=CM s
 generalize hn: (aM s).length=n at *
 refine Ok.eq (uv 0 (by omega)) ?_
 rw [show ((List.replicate n (0:Int)).length)=n by simp]
 refine Ok.bind (Ok.mN (fun k up=>up.length=n/\∀i,i<k->up[i]? =some ((i:Nat):Int)) (by omega) ⟨by simp,fun i hi=>by omega⟩ (fun k up hk hI=>?_)) ?_
 ·obtain⟨hs,hi⟩:=hI
  refine Ok.idx (by omega) (Ok.ret ⟨by simp [hs],fun i hi'=>?_⟩)
  rw [cK,nj (by omega)]
  split
  ·rename_i e;rw [e]
  ·exact hi i (by omega)
 rintro up0 ⟨hu1,hu2⟩
 refine Ok.bind (Ok.mN (fun k st=>st.2.1= ((iS s k:Nat):Int)/\(0<k->st.2.2= ((iS s (k - 1):Nat):Int))/\∃r E,PJ (aM s) n st.1 r E/\∀q,q<k->∀i j,iS s q<=j->j<iS s (q+1)->xh (aM s) i j->(i,j)∈E) (by omega)
  ⟨rfl,fun h=>by omega,_,_,⟨UF.init n up0 hu1 hu2,p8.id,zk.id n,fun p hp=>(by cases hp)⟩,fun q hq=>by omega⟩ (fun k st hk hI=>?_)) ?_
 ·obtain⟨up,a,b⟩:=st
  obtain⟨e1,e2,r,E,hP,hE⟩:=hI
  dsimp only at e1 e2 hP ⊢
  subst e1
  refine Ok.idx hk ?_
  have hoff:=xH hk
  have hoffle:iS s (k+1)<=n:=by rw [<-hall];exact xI hk
  have hkm:=cR hk
  have hlen:IntKind.wrap .i64 (Int.tdiv ((s[k].Xs.length:Nat):Int) 2)= ((s[k].Xs.length / 2:Nat):Int):=by
   have:=h2 _ hkm
   rw [show (2:Int)= ((2:Nat):Int) by rfl,<-Int.ofNat_tdiv,CI (by omega)]
  rw [hlen,wrap_add (by omega),<-hoff]
  refine Ok.bind (P:=fun c=>c=true↔∃h0:0<k,s[k - 1].Y1=s[k].Y0) ?_ (fun c hcc=>?_)
  ·refine Ok.bif (fun h=>?_) (fun h=>Ok.ret ?_)
   ·have hpos:0<k:=by have:=of_decide_eq_true h;omega
    rw [jC hpos (by omega)]
    refine Ok.idx (by omega) (Ok.ret ?_)
    rw [beq_iff_eq]
    exact⟨fun h=>⟨hpos,h⟩,fun⟨_,h⟩=>h⟩
   ·have:=of_decide_eq_false h
    constructor
    ·intro h;cases h
    ·rintro⟨h0,_⟩;omega
  refine Ok.bind (P:=fun up'=>∃r E,PJ (aM s) n up' r E/\∀q,q<k+1->∀i j,iS s q<=j->j<iS s (q+1)->xh (aM s) i j->(i,j)∈E) ?_ (fun up' hI=>Ok.ret ⟨rfl,fun _=>rfl,hI⟩)
  refine Ok.bif (fun h=>?_) (fun h=>Ok.ret ⟨r,E,hP,fun q hq i j q1 q2 ht=>?_⟩)
  ·obtain⟨hpos,hyy⟩:=hcc.1 h
   rw [e2 hpos]
   have hoffp:=xH (show k - 1<s.length by omega)
   rw [show k - 1+1=k by omega] at hoffp
   refine Ok.bind (Ok.kD (Go:=fun st=>∃r E,PJ (aM s) n st.1 r E/\∀q,q<k+1->∀i j,iS s q<=j->j<iS s (q+1)->xh (aM s) i j->(i,j)∈E) (Rt:=fun _=>True)
    (fun st=>∃i j:Nat,st.2.1= ((i:Nat):Int)/\st.2.2= ((j:Nat):Int)/\iS s (k - 1)<=i/\i<=iS s k/\iS s k<=j/\j<=iS s (k+1)/\∃r E,PJ (aM s) n st.1 r E/\(∀q,q<k->∀i j,iS s q<=j->j<iS s (q+1)->xh (aM s) i j->(i,j)∈E)/\
     ∀i' j',iS s (k - 1)<=i'->i'<iS s k->iS s k<=j'->j'<iS s (k+1)->(i'<i\/j'<j)->xh (aM s) i' j'->(i',j')∈E)
    (fun st=>(n - st.2.1.toNat)+ (n - st.2.2.toNat)) ?_ ?_ (by simp only [cK];omega)) (fun o ho=>Ok.cs ho (fun st h=>Ok.ret h) (fun r=>r.elim))
   ·rintro⟨up,a,b⟩ ⟨i,j,e3,e4,i1,i2,j1,j2,r,E,hP,hE,hE2⟩
    dsimp only at e3 e4 hP ⊢
    subst e3;subst e4
    refine Ok.bif (fun h=>?_) (fun h=>Ok.br ?_)
    ·rw [bV,bU,bU] at h
     have hi:i<iS s k:=by omega
     have hj:j<iS s (k+1):=by omega
     obtain⟨t,et,_,hri⟩:=uC hev (show k - 1<s.length by omega) i1 (by rw [show k - 1+1=k by omega];exact hi)
     obtain⟨u,eu,_,hrj⟩:=uC hev hk j1 hj
     have xi:=hinc _ (cR (show k - 1<s.length by omega))
     have xj:=hinc _ hkm
     have farI: ∀i' a,i<i'->i'<iS s k->(aM s)[i']? =some a->s[k - 1].Xs[2*t+1]<a.X0:=fun i' a h4 h5 h6=>by
      obtain⟨t',et',ht',hr'⟩:=uC hev (show k - 1<s.length by omega) (show iS s (k - 1)<=i' by omega) (by rw [show k - 1+1=k by omega];exact h5)
      rw [hr'] at h6;injection h6 with h6;subst h6
      exact xi.lt (show 2*t+1<2*t' by omega) (aO _) (aO _)
     have farJ: ∀j' a,j<j'->j'<iS s (k+1)->(aM s)[j']? =some a->s[k].Xs[2*u+1]<a.X0:=fun j' a h4 h5 h6=>by
      obtain⟨u',eu',hu',hr'⟩:=uC hev hk (show iS s k<=j' by omega) h5
      rw [hr'] at h6;injection h6 with h6;subst h6
      exact xj.lt (show 2*u+1<2*u' by omega) (aO _) (aO _)
     refine Ok.bind (P:=fun c=>c=true↔xh (aM s) i j) ?_ (fun c hct=>?_)
     ·refine Ok.ix hri (Ok.ix hrj (Ok.bif (fun h=>Ok.ix hrj (Ok.ix hri (Ok.ret ?_))) (fun h=>Ok.ret ?_)))
      ·rw [bU] at h ⊢
       constructor
       ·intro h';exact⟨_,_,hri,hrj,hyy,h,h'⟩
       ·rintro⟨a,c,ha,hc',_,_,h'⟩
        rw [hri] at ha;injection ha with ha;subst ha
        rw [hrj] at hc';injection hc' with hc';subst hc'
        exact h'
      ·constructor
       ·intro h;cases h
       ·rintro⟨a,c,ha,hc',_,h',_⟩
        rw [hri] at ha;injection ha with ha;subst ha
        rw [hrj] at hc';injection hc' with hc';subst hc'
        rw [decide_eq_false_iff_not] at h;exact absurd h' h
     refine Ok.bind (P:=fun up'=>∃r E',PJ (aM s) n up' r E'/\(∀p∈E,p∈E')/\(xh (aM s) i j->(i,j)∈E')) ?_ ?_
     ·refine Ok.bif (fun h=>?_) (fun h=>Ok.ret ⟨r,E,hP,fun p hp=>hp,fun ht=>by rw [hct.2 ht] at h;cases h⟩)
      obtain⟨up',u1,u2⟩:=GL (N:=N) (f:=fun x=>some x) hP.uf (i:=i) (k:=j) (by omega) (by omega) (by omega)
      refine⟨up',u1,_,_,hP.join (by omega) (by omega) u2 (hct.1 h),fun p hp=>List.mem_append_left _ hp,fun _=>by simp⟩
     ·rintro up' ⟨r',E',hP',hsub,hij⟩
      refine Ok.ix hri (Ok.ix hrj ?_)
      dsimp only
      by_cases hx:s[k - 1].Xs[2*t+1]<s[k].Xs[2*u+1]
      ·rw [bR hx,aQ]
       refine Ok.eq (x:=(((i+1:Nat):Int),((j:Nat):Int))) (by rw [cD (by omega)]) (Ok.nx ⟨⟨i+1,j,rfl,rfl,by omega,by omega,j1,j2,r',E',hP',fun q hq i j q1 q2 ht=>hsub _ (hE q hq i j q1 q2 ht),fun i' j' g1 g2 g3 g4 g5 ht=>?_⟩,by simp only [cK];omega⟩)
       by_cases h5:i'<i\/j'<j
       ·exact hsub _ (hE2 i' j' g1 g2 g3 g4 h5 ht)
       ·have:i'=i:=by omega
        subst this
        by_cases h6:j'=j
        ·subst h6;exact hij ht
        ·exfalso
         obtain⟨a,c,ha,hc',_,_,h'⟩:=ht
         rw [hri] at ha;injection ha with ha;subst ha
         have:=farJ j' c (by omega) g4 hc'
         dsimp only at h';omega
      ·rw [bY hx,aT]
       refine Ok.eq (x:=(((i:Nat):Int),((j+1:Nat):Int))) (by rw [cD (by omega)]) (Ok.nx ⟨⟨i,j+1,rfl,rfl,i1,i2,by omega,by omega,r',E',hP',fun q hq i j q1 q2 ht=>hsub _ (hE q hq i j q1 q2 ht),fun i' j' g1 g2 g3 g4 g5 ht=>?_⟩,by simp only [cK];omega⟩)
       by_cases h5:i'<i\/j'<j
       ·exact hsub _ (hE2 i' j' g1 g2 g3 g4 h5 ht)
       ·have:j'=j:=by omega
        subst this
        by_cases h6:i'=i
        ·subst h6;exact hij ht
        ·exfalso
         obtain⟨a,c,ha,hc',_,h',_⟩:=ht
         rw [hrj] at hc';injection hc' with hc';subst hc'
         have:=farI i' a (by omega) g2 ha
         dsimp only at h';omega
    ·refine⟨r,E,hP,fun q hq i' j' q1 q2 ht=>?_⟩
     by_cases hqk:q<k
     ·exact hE q hqk i' j' q1 q2 ht
     ·have:q=k:=by omega
      subst this
      obtain⟨_,_,g1,g2⟩:=CN hc hk q1 q2 ht
      refine hE2 i' j' g1 g2 q1 q2 ?_ ht
      rw [Bool.and_eq_false_iff,decide_eq_false_iff_not,decide_eq_false_iff_not] at h
      omega
   ·exact⟨iS s (k - 1),iS s k,rfl,rfl,bK _,xI (by omega),bK _,xI (by omega),r,E,hP,hE,fun i' j' g1 g2 g3 g4 g5=>by omega⟩
  ·by_cases hqk:q<k
   ·exact hE q hqk i j q1 q2 ht
   ·have:q=k:=by omega
    subst this
    obtain⟨g0,g1,_⟩:=CN hc hk q1 q2 ht
    rw [hcc.2 ⟨g0,g1⟩] at h;cases h
 ·rintro⟨up,a,b⟩ ⟨_,_,r,E,hP,hE⟩
  dsimp only at hP ⊢
  have hEq: ∀i j,xh (aM s) i j->(i,j)∈E:=fun i j ht=>by
   have hjl:j< (aM s).length:=by obtain⟨a,c,_,hb,_⟩:=ht;exact(bC.1 hb).1
   obtain⟨q,hq,q1,q2⟩:=EJ hjl
   exact hE q hq i j q1 q2 ht
  have hJ:Joined (aM s) r:=⟨by rw [hn];exact hP.uf.le,by rw [hn];exact hP.uf.rr,fun i j ht=>hP.co (i,j) (hEq i j ht),fun S hS i j hi hj=>by
   rw [hn] at hi hj
   exact hP.fi S (fun p hp=>hS p.1 p.2 (hP.so p hp)) i j hi hj⟩
  refine Ok.bind (Ok.mN (fun k st=>UF n st.1 r/\Mx k r st.2.1/\st.2.2= (bO k r).map (nb (aM s) k r)) (by omega) ⟨hP.uf,⟨fun j k hj=>by simp [bO] at hj,fun k=>rfl⟩,rfl⟩ (fun k st hk hI=>?_)) ?_
  ·obtain⟨l,m,ls⟩:=st
   obtain⟨hu,⟨hm1,hm2⟩,hs⟩:=hI
   dsimp only at hu hm1 hm2 hs ⊢
   subst hs
   have hkx: (aM s)[k]? =some ((aM s)[k]'(by omega)):=aO (by omega)
   refine Ok.ix hkx ?_
   obtain⟨u',a1,a2⟩:=BB (N:=N) hu hk (by omega)
   refine Ok.eq a1 ?_
   dsimp only
   have hhl:=oD k r
   have hrk:=hP.uf.le k hk
   have hrr:=hP.uf.rr k hk
   have hcl:=zo (aM s) k r (r k)
   have hmap: ((bO k r).map (nb (aM s) k r)).length= (bO k r).length:=by simp
   rw [hm2]
   by_cases e:r k=k
   ·have hnot:r k∉bO k r:=fun h=>by have:=(jh.1 h).1;omega
    refine Ok.eq (x:=(uK m ((r k:Nat):Int) (((bO k r).length:Nat):Int),(bO k r).map (nb (aM s) k r)++[([]:List aG)],(((bO k r).length:Nat):Int))) ?_ ?_
    ·rw [bY hnot,pw,aQ,jd (by simp;omega),aB,hmap]
    ·dsimp only
     have hi: ((bO k r).map (nb (aM s) k r)++[([]:List aG)])[(bO k r).length]? =some []:=by rw [<-hmap,gw (bK _),Nat.sub_self];rfl
     refine Ok.ix hi (Ok.app (by simp) (Ok.ix hi (Ok.ret ⟨a2,⟨fun j q hj=>?_,fun q=>?_⟩,?_⟩)))
     ·dsimp only
      rw [iG,aD e] at hj
      rw [xE]
      by_cases e2:j< (bO k r).length
      ·rw [gj e2] at hj
       have:=(jh.1 (gh hj)).1
       rw [aH (by omega)];exact hm1 j q hj
      ·rw [gw (by omega)] at hj
       have hj0:j - (bO k r).length=0:=by
        have:=(bC.1 hj).1;simp at this;omega
       rw [hj0] at hj;simp at hj;subst hj
       rw [aD (by rw [e])];congr 1;omega
     ·dsimp only
      rw [Fp,hm2,iG,aD e,fK]
      rw [dI,bU,bU,bU,dC,List.mem_singleton,e]
      constructor
      ·rintro(h | h)
       ·exact .inr (by omega)
       ·exact .inl h
      ·rintro(h | h)
       ·exact .inr h
       ·exact .inl (by omega)
     ·dsimp only
      rw [cK,<-hmap,List.set_append_right _ _ (bK _),Nat.sub_self,iG,aD e,eE]
      congr 1
      ·apply List.map_congr_left
       intro a ha
       have:=(jh.1 ha).1
       rw [uD a hkx,aH (by omega)]
      ·simp only [List.set_cons_zero,dO,List.map_nil,List.nil_append]
       rw [uD k hkx,aD e]
       have:nb (aM s) k r k= []:=by unfold nb;rw [EI (fun i hi=>hP.uf.le i (by omega)) (bK _)];rfl
       rw [this];rfl
   ·have hh:r k∈bO k r:=jh.2 ⟨by omega,hrr⟩
    obtain⟨j,hj⟩:=eR hh
    refine Ok.eq (x:=(m,(bO k r).map (nb (aM s) k r),((j:Nat):Int))) ?_ ?_
    ·rw [bR hh,nQ,aT,hm1 j (r k) hj]
    ·dsimp only
     have hi: ((bO k r).map (nb (aM s) k r))[j]? =some (nb (aM s) k r (r k)):=by rw [j9,hj];rfl
     refine Ok.ix hi (Ok.app (by simp;omega) (Ok.ix hi (Ok.ret ⟨a2,⟨fun j' q hj'=>?_,fun q=>?_⟩,?_⟩)))
     ·rw [iG,aH e] at hj';exact hm1 j' q hj'
     ·rw [iG,aH e];exact hm2 q
     ·dsimp only
      rw [cK,iG,aH e]
      have:=t4 (nb (aM s) k r) (nb (aM s) (k+1) r) (bO k r) j (r k) (nJ k r) hj (fun b hb hne=>by
       rw [uD b hkx,aH (fun h=>hne h.symm)])
      rw [uD (r k) hkx,aD rfl] at this
      exact this
  ·rintro⟨l,m,ls⟩ ⟨_,_,hs⟩
   dsimp only at hs ⊢
   subst hs
   have hhl:=oD n r
   refine Ok.bind (Ok.mN (fun k ps=>ps.length=k/\∀(j h:Nat) (p:List aA),j<k->(bO n r)[j]? =some h->ps[j]? =some p->rN (nb (aM s) n r h) p) (by simp;omega) ⟨rfl,fun j h p hj=>by omega⟩ (fun k ps hk hI=>?_)) ?_
   ·obtain⟨hp1,hp2⟩:=hI
    have hk':k< (bO n r).length:=by simpa using hk
    refine Ok.ix (x:=nb (aM s) n r (bO n r)[k]) (by rw [j9,aO hk'];rfl) ?_
    have hcl:=zo (aM s) n r (bO n r)[k]
    refine Ok.bind (mm (N:=N) (by omega) (fun x hx=>?_) (by omega)) ?_
    ·obtain⟨i,_,_,h⟩:=lD.1 hx
     exact(hok x (gh h)).1
    ·intro p hp
     refine Ok.app (by rw [hp1];simp;omega) (Ok.ret ⟨by simp [hp1],fun j h q hj hh hq=>?_⟩)
     by_cases hjk:j<k
     ·rw [gj (by omega)] at hq
      exact hp2 j h q hjk hh hq
     ·have:j=k:=by omega
      subst this
      rw [gw (by omega),hp1,Nat.sub_self] at hq
      simp at hq;subst hq
      rw [aO hk'] at hh;injection hh with hh;subst hh
      exact hp
   ·rintro ps ⟨hp1,hp2⟩
    refine Ok.ret ⟨r,hJ,?_,fun j h p hh hp=>?_⟩
    ·rw [hp1,hn];simp
    ·rw [hn] at hh ⊢
     exact hp2 j h p (by have:=(bC.1 hp).1;omega) hh hp
end
end Go.Gk
namespace Go.Gk
open Go
section
variable {N:Nat}
theorem wP {n:Int} (h: -9223372036854775808<=n/\n<=9223372036854775807):IntKind.wrap .i64 n=n:=by rw [IntKind.wrap_i64];omega
def fM (n lo hi:Int):Bool:=decide (n>=lo)&&decide (n<=hi)
def kZ (n:Int):Bool:=fM n (-1000000) 1000000
def qd (p:jy):Bool:=kZ p.X&&kZ p.Y
def fD (r:aG):Bool:=kZ r.X0&&(kZ r.Y0&&(kZ r.X1&&kZ r.Y1))
theorem zp (n:Int):lh N n=some (kZ n):=rfl
theorem xZ (p:jy):jz N p=some (qd p):=by
 unfold jz qd
 rw [zp,aB,zp]
 cases kZ p.X <;> rfl
theorem x4 (p:jy):fP N p=some (qd p):=by
 have e: ∀n,cJ N n=some (kZ n):=fun _=>rfl
 unfold fP qd
 rw [e,aB,e]
 cases kZ p.X <;> rfl
theorem zq (r:aG):mD N r=some (fD r):=by
 unfold mD fD
 simp only [zp,aB]
 cases kZ r.X0 <;> cases kZ r.Y0 <;> cases kZ r.X1 <;> rfl
theorem CO {a b:Int} (h:a≠b):gS (N+4) [a,b]=some [a,b]:=by
 have e: (b==a)=false:=by rw [beq_eq_false_iff_ne];exact fun e=>h e.symm
 have w1:IntKind.wrap .i64 ((1:Int) - 1)=0:=by decide
 have w2:IntKind.wrap .i64 ((1:Int)+1)=2:=by decide
 unfold gS
 have e1:idx [a,b] 1=some b:=rfl
 have e2:idx [a,b] 0=some a:=rfl
 have l2: (([a,b]:List Int).length:Int)=2:=rfl
 rw [l2,show decide ((2:Int)<2)=false by decide,aT]
 rw [kD.eq_def]
 dsimp only
 rw [show decide ((1:Int)<2)=true by decide,aQ,e1,aB,w1,e2,aB,e,aT,aB,w2]
 dsimp only
 rw [kD.eq_def]
 dsimp only
 rw [show decide ((2:Int)<2)=false by decide,aT,aB]
 rfl
theorem Ir (x:Int):IntKind.wrap .i64 (x - x)=0:=by rw [Int.sub_self];decide
theorem Fw {r:aG} (hx:r.X0<r.X1) (hy:r.Y0<r.Y1):dN (N+16) [r]=some [⟨r.Y0,r.Y1,[r.X0,r.X1]⟩]:=by
 have s1:v9 (jF (N+16)) [r]=some [r]:=Ar (by unfold jF;rw [Ir])
 have s2:v9 (gT (N+16)) [r]=some [r]:=Ar (by unfold gT;rw [Ir])
 have s3:tA [r.Y0,r.Y1]=some [r.Y0,r.Y1]:=z8 (by simp;omega) (by simp)
 have c1:gx (N+16) [r]=some [r]:=rfl
 have f1: ∀φ,iz (N+16) [] φ=some []:=fun φ=>rfl
 have st:jk (N+16) [r]=some ([r.X0,r.X1],[r]):=by
  unfold jk
  rw [s2,aB]
  rfl
 have pu: ∀b:aA,b.Xs= [r.X0,r.X1]->b.Y0<b.Y1->i6 (N+16) [] b=some [b]:=fun b h1 h2=>by
  unfold i6
  rw [h1,bY (show ¬b.Y1<=b.Y0 by omega)]
  rfl
 unfold dN
 rw [c1,aB,s1,aB]
 have ys: (mN ([r]:List aG).length (fun(k35:Nat) (s36: (List Int))=>((idx [r] (k35:Int)).bind fun x54=>(app 8 s36 ([x54.Y0,x54.Y1]: (List Int))).bind fun x58=>some x58:Option ((List Int)))) ([]: (List Int)))=some [r.Y0,r.Y1]:=rfl
 rw [ys,aB,s3,aB,CO (N:=N+12) (by omega),aB]
 have l2: (([r.Y0,r.Y1]:List Int).length:Int)=2:=rfl
 have l1: (([r]:List aG).length:Int)=1:=rfl
 have w1:IntKind.wrap .i64 ((0:Int)+1)=1:=by decide
 have w2:IntKind.wrap .i64 ((1:Int)+1)=2:=by decide
 have i0:idx [r.Y0,r.Y1] 0=some r.Y0:=rfl
 have i1:idx [r.Y0,r.Y1] 1=some r.Y1:=rfl
 have j0:idx [r] 0=some r:=rfl
 have a1:app 32 ([]:List aG) [r]=some [r]:=rfl
 rw [l2,l1]
 rw [kD.eq_def]
 dsimp only
 rw [w1,show decide ((1:Int)<2)=true by decide,aQ,f1,aB]
 rw [kD.eq_def]
 dsimp only
 rw [show decide ((0:Int)<1)=true by decide,aQ,j0,aB,i0,aB,aB,show decide (r.Y0<=r.Y0)=true by simp,aQ,aB,a1,aB,w1,aB]
 dsimp only
 rw [kD.eq_def]
 dsimp only
 rw [show decide ((1:Int)<1)=false by decide,aT,aB,aT,aB,aB]
 unfold Fo.cs
 dsimp only
 rw [aB,i1,aB,st,aB,pu _ rfl hy,aB,aB]
 dsimp only
 rw [kD.eq_def]
 dsimp only
 rw [w2,show decide ((2:Int)<2)=false by decide,aT,aB]
 rfl
theorem GM {r:aG} (hx:r.X0<r.X1):l9 N [⟨r.Y0,r.Y1,[r.X0,r.X1]⟩]=some (fD r):=by
 have ar:mF N [⟨r.Y0,r.Y1,[r.X0,r.X1]⟩]=some r:=by
  have e1: (if r.X0<r.X0 then r.X0 else r.X0)=r.X0:=by split <;> rfl
  have e2: (if r.X1<r.X1 then r.X1 else r.X1)=r.X1:=by split <;> rfl
  show some ({X0:=(if r.X0<r.X0 then r.X0 else r.X0),Y0:=r.Y0,X1:=(if r.X1<r.X1 then r.X1 else r.X1),Y1:=r.Y1}:aG)=some r
  rw [e1,e2]
 unfold l9
 rw [ar,aB,zq]
 rfl
def t5 (b:bJ):aG:=⟨b.At.X - b.cZ / 2,b.At.Y - b.cZ / 2,b.At.X - b.cZ / 2+b.cZ,b.At.Y - b.cZ / 2+b.cZ⟩
def pq (b:bJ):Bool:=fM b.cZ 1 10000&&qd b.At
def l3 (b:bJ):aG×Int:=if pq b&&fD (t5 b) then (t5 b,0) else (⟨0,0,0,0⟩,1)
theorem qJ {b:bJ} (h:pq b=true): (1<=b.cZ/\b.cZ<=10000)/\(-1000000<=b.At.X/\b.At.X<=1000000)/\(-1000000<=b.At.Y/\b.At.Y<=1000000):=by
 simp only [pq,fM,qd,kZ,bV,decide_eq_true_iff] at h
 omega
theorem mq {b:bJ} (h:pq b=true):ga N b=some (t5 b):=by
 obtain⟨h1,h2,h3⟩:=qJ h
 have t:Int.tdiv b.cZ 2=b.cZ / 2:=Int.tdiv_eq_ediv_of_nonneg (by omega)
 unfold ga t5
 rw [t,wP (n:=b.cZ / 2) (by omega),wP (n:=b.At.X - b.cZ / 2) (by omega),wP (n:=b.At.Y - b.cZ / 2) (by omega),wP (by omega),wP (by omega)]
theorem rP {b:bJ}:kz (N+16) b=some (l3 b):=by
 have e0:eV (N+16) b.cZ 1 10000=some (fM b.cZ 1 10000):=rfl
 have e1: (bif (!(fM b.cZ 1 10000)) then (some true) else (some (!(qd b.At))))=some (!pq b):=by unfold pq;cases fM b.cZ 1 10000 <;> rfl
 unfold kz l3
 rw [e0,aB,xZ,aB,e1,aB]
 cases hf:pq b with
 | false=>rfl
 | true=>
  obtain⟨h1,h2,h3⟩:=qJ hf
  have hx: (t5 b).X0< (t5 b).X1:=by simp only [t5];omega
  have hy: (t5 b).Y0< (t5 b).Y1:=by simp only [t5];omega
  rw [nQ,aT,mq hf,aB,Fw hx hy,aB,GM hx,aB]
  cases fD (t5 b) <;> rfl
theorem Fx:iI (N+16)=some true:=by
 unfold iI
 rw [rP,aB]
 rfl
end
end Go.Gk
namespace Go.Gk
open Go
section
variable {N:Nat}
def CP (c:UInt8):Bool:=
 ((((decide (((c.toNat:Nat):Int)<65))||(decide (((c.toNat:Nat):Int)>90)))&&((decide (((c.toNat:Nat):Int)<97))||(decide (((c.toNat:Nat):Int)>122))))&&((decide (((c.toNat:Nat):Int)<48))||(decide (((c.toNat:Nat):Int)>57))))&&decide (Lib.indexByte [95,43,45,35] c<0)
def isWord (s:dY):Bool:= !s.cQ.any CP&&(decide (1<=s.cQ.length)&&decide (s.cQ.length<=40))
theorem sL (s:dY) (c:UInt8):gz N s ((c.toNat:Nat):Int)=some (Lib.indexByte s.cQ c):=by
 show some (Lib.indexByte s.cQ (Int.toNat ((c.toNat:Nat):Int)).toUInt8)=_
 rw [cK];simp
theorem DK {R:Type} (b1:Bool) (c:UInt8) (r:R):
  ((bif b1 then ((gz N (⟨[95,43,45,35]⟩) ((c.toNat:Nat):Int)).bind fun x14=>some (decide (x14<0))) else (some false)).bind fun s12=>bif s12 then (some (.rt r)) else (some (.nx ())):Option (Fl Unit R))=some (if (b1&&decide (Lib.indexByte [95,43,45,35] c<0))=true then .rt r else .nx ()):=by
 rw [sL,aB]
 cases b1
 ·rfl
 ·rw [aQ,aB,Bool.true_and]
  cases decide (Lib.indexByte [95,43,45,35] c<0) <;> rfl
theorem qK {s:dY} (h:s.cQ.length<=1048576):i7 N s=some (isWord s):=by
 unfold i7
 rw [HJ CP false (by omega) (fun k x hx=>by
  have hk:=(bC.1 hx).1
  have e:Dm s ((k:Nat):Int)=some x:=by rw [CE s k hk,<-aO hk,hx]
  rw [e,aB]
  exact DK (R:=Bool) _ x false),aB]
 unfold isWord
 cases s.cQ.any CP
 ·simp only [Fo.cs,pw,Bool.true_and,Bool.false_eq_true,if_false,Option.some.injEq]
  rw [fK,bV,bV]
  simp only [bU]
  omega
 ·simp [Fo.cs]
def cutAt (c:UInt8):List UInt8->List (List UInt8)
 | []=>[[]]
 | b::l=>if b==c then []::cutAt c l else match cutAt c l with | h::t=>(b::h)::t | []=>[[b]]
theorem zu {c:UInt8}: ∀{l:List UInt8},c∉l->cutAt c l= [l]
 | [],_=>rfl
 | b::l,h=>by
  unfold cutAt
  have hb: (b==c)=false:=by rw [beq_eq_false_iff_ne];rintro rfl;exact h (by simp)
  rw [hb,zu (fun h'=>h (by simp [h']))];rfl
theorem CQ {c:UInt8}: ∀{a b:List UInt8},c∉a->cutAt c (a++c::b)=a::cutAt c b
 | [],b,_=>by rw [List.nil_append];show (if (c==c)=true then _ else _)=_;simp
 | x::a,b,h=>by
  have hb: (x==c)=false:=by rw [beq_eq_false_iff_ne];rintro rfl;exact h (by simp)
  have ih:=CQ (c:=c) (a:=a) (b:=b) (fun h'=>h (by simp [h']))
  show (if (x==c)=true then []::cutAt c (a++c::b) else match cutAt c (a++c::b) with | h::t=>(x::h)::t | []=>[[x]])=_
  rw [hb,ih];rfl
theorem t6: ∀(l:List UInt8) (c:UInt8),(Lib.indexByte l c = -1/\c∉l)\/∃a b,l=a++c::b/\c∉a/\Lib.indexByte l c= ((a.length:Nat):Int)
 | [],c=> .inl ⟨rfl,by simp⟩
 | x::l,c=>by
  unfold Lib.indexByte
  by_cases hx:x=c
  ·subst hx;exact .inr ⟨[],l,rfl,by simp,by simp⟩
  ·have hb: (x==c)=false:=by rw [beq_eq_false_iff_ne];exact hx
   rcases t6 l c with ⟨h1,h2⟩ | ⟨a,b,h1,h2,h3⟩
   ·left;rw [hb,h1];refine⟨by simp,?_⟩;simp [h2];exact fun h=>hx h.symm
   ·right
    refine⟨x::a,b,by rw [h1];rfl,by simp [h2];exact fun h=>hx h.symm,?_⟩
    rw [hb,h3]
    have: (((a.length:Nat):Int)== -1)=false:=by rw [beq_eq_false_iff_ne];omega
    rw [this];simp
theorem GN (s:dY) (c:UInt8):lG N s ⟨[c]⟩=some (Lib.indexByte s.cQ c):=by
 show (kd N s ⟨[c]⟩).bind _=_
 unfold kd
 by_cases h:dY.rW ⟨[c]⟩ s=true
 ·have:s= ⟨[c]⟩:=(Bm.1 h).symm
  subst this
  rw [h];simp [Lib.indexByte]
 ·rw [nc] at h
  rw [h]
  show ((iP N s ((c.toNat:Nat):Int)).bind _).bind _=_
  have:=sL (N:=N) s c
  simp only [gz] at this
  rw [this];rfl
theorem GO (s:dY) (c:UInt8):mW N s ⟨[c]⟩=some ((s.cQ.count c:Nat):Int):=by
 unfold mW
 show (some _:Option Int)=_
 simp [Lib.countByte]
theorem Fy {s:dY} {k:Nat} (h:k<=s.cQ.length):vr s 0 ((k:Nat):Int)=some ⟨s.cQ.take k⟩:=by
 unfold vr;rw [aD ⟨by omega,by omega,by omega⟩]
 simp only [Int.toNat_zero,List.drop_zero,Int.sub_zero,cK]
theorem Fz {s:dY} {k:Nat} (h:k<=s.cQ.length):vr s ((k:Nat):Int) ((s.cQ.length:Nat):Int)=some ⟨s.cQ.drop k⟩:=by
 unfold vr;rw [aD ⟨by omega,by omega,by omega⟩]
 simp only [cK]
 rw [k8];rw [iv];omega
def nv (s:dY) (c:UInt8):List dY:=(cutAt c s.cQ).map dY.mk
theorem CR {s:dY} (c:UInt8) (h:s.cQ.length<=1048576) (hN:4194304<=N):lH N s ⟨[c]⟩=some (nv s c):=by
 have hc:s.cQ.count c<=s.cQ.length:=List.count_le_length
 unfold lH mG
 rw [show ((-1:Int)==0)=false by decide,aT,show dY.rW ⟨[c]⟩ ⟨[]⟩=false by simp [dY.rW],aT,GO,aB]
 rw [fw (x:=((s.cQ.count c:Nat):Int)+1) (by omega) (by omega),show decide ((-1:Int)<0)=true by decide,aQ,aB]
 rw [fw (x:=((s.cQ.length:Nat):Int)+1) (by omega) (by omega)]
 have e1: (if ((s.cQ.length:Nat):Int)+1< ((s.cQ.count c:Nat):Int)+1 then ((s.cQ.length:Nat):Int)+1 else ((s.cQ.count c:Nat):Int)+1)= ((s.cQ.count c+1:Nat):Int):=by
  rw [aH (by omega)];omega
 rw [e1,uv _ (by omega),aB]
 rw [fw (x:=((s.cQ.count c+1:Nat):Int) - 1) (by omega) (by omega)]
 have key:=wz (S:=dY×List dY×Int) (R:=Empty) (body:=(fun(s7:dY×(List dY)×Int)=>(bif (decide (s7.2.2< ((s.cQ.count c+1:Nat):Int) - 1)) then ((lG N s7.1 ⟨[c]⟩).bind fun x23=>bif (decide (x23<0)) then (some (.br (s7.1,s7.2.1,s7.2.2))) else ((vr s7.1 0 (IntKind.wrap .i64 (x23+0))).bind fun x24=>(idx s7.2.1 s7.2.2).bind fun x25=>(vr s7.1 (IntKind.wrap .i64 (x23+ (((⟨[c]⟩:dY).cQ.length:Nat):Int))) ((s7.1.cQ.length:Nat):Int)).bind fun x27=>some (.nx (x27,(s7.2.1.set (Int.toNat s7.2.2) x24),(IntKind.wrap .i64 (s7.2.2+1)))))) else (some (.br (s7.1,s7.2.1,s7.2.2))):Option (Fl (dY×(List dY)×Int) Empty))))
  (fun st=>∃ws:List (List UInt8),st.2.2= ((ws.length:Nat):Int)/\cutAt c s.cQ=ws++cutAt c st.1.cQ/\ws.length+st.1.cQ.count c=s.cQ.count c/\st.1.cQ.length<=s.cQ.length/\st.2.1=ws.map dY.mk++List.replicate (s.cQ.count c+1 - ws.length) ⟨[]⟩)
  (fun st=>s.cQ.count c+1 - st.2.2.toNat)
  (fun st=>∃ws:List (List UInt8),st.2.2= ((ws.length:Nat):Int)/\cutAt c s.cQ=ws++[st.1.cQ]/\ws.length=s.cQ.count c/\st.2.1=ws.map dY.mk++[⟨[]⟩])
  (fun _=>True) (by
   rintro⟨r,arr,i⟩ ⟨ws,h1,h2,h3,h4,h5⟩
   simp only at h1 h2 h3 h4 h5
   subst h1 h5
   by_cases hlt:ws.length<s.cQ.count c
   ·have hd:decide (((ws.length:Nat):Int)< ((s.cQ.count c+1:Nat):Int) - 1)=true:=by rw [bU];omega
    simp only [hd,aQ,GN,aB]
    rcases t6 r.cQ c with ⟨_,hn⟩ | ⟨a,b,hr,ha,hi⟩
    ·rw [List.count_eq_zero_of_not_mem hn] at h3;omega
    ·have hrl:r.cQ.length=a.length+ (b.length+1):=by rw [hr];simp
     rw [hi,bY (by omega),aT]
     rw [show ((a.length:Nat):Int)+0= ((a.length:Nat):Int) by omega,fw (x:=((a.length:Nat):Int)) (by omega) (by omega),Fy (by omega),aB]
     rw [kG _ _ (by simp;omega),aB]
     rw [show ((a.length:Nat):Int)+ (((⟨[c]⟩:dY).cQ.length:Nat):Int)= ((a.length+1:Nat):Int) by simp,fw (x:=((a.length+1:Nat):Int)) (by omega) (by omega),Fz (by omega),aB]
     refine⟨_,rfl,⟨ws++[a],?_,?_,?_,?_,?_⟩,?_⟩
     ·simp only;rw [fw (by omega) (by omega)];simp
     ·simp only
      rw [h2,hr,CQ ha];simp
     ·simp only
      rw [hr] at h3 ⊢
      simp [List.count_eq_zero_of_not_mem ha] at h3 ⊢;omega
     ·simp;omega
     ·simp only [cK]
      rw [List.set_append_right _ _ (by simp)]
      simp only [dS,Nat.sub_self]
      obtain⟨d,hd'⟩: ∃d,s.cQ.count c+1 - ws.length=d+1:=⟨s.cQ.count c - ws.length,by omega⟩
      rw [hd',List.replicate_succ,List.set_cons_zero,show s.cQ.count c+1 - (ws++[a]).length=d by simp;omega]
      simp [hr]
     ·simp only;rw [fw (by omega) (by omega)];omega
   ·have hd:decide (((ws.length:Nat):Int)< ((s.cQ.count c+1:Nat):Int) - 1)=false:=by rw [decide_eq_false_iff_not];omega
    simp only [hd,aT]
    refine⟨_,rfl,ws,rfl,?_,by omega,?_⟩
    ·have h0:r.cQ.count c=0:=by omega
     rw [h2,zu (List.count_eq_zero.1 h0)]
    ·rw [show s.cQ.count c+1 - ws.length=1 by omega];rfl)
  N (s,List.replicate (s.cQ.count c+1) ⟨[]⟩,0) ⟨[],rfl,rfl,by simp,bK _,by simp⟩ (by simp only;omega)
 obtain⟨o,ho,hgo⟩:=key
 rw [ho,aB]
 cases o with
 | rt r=>exact r.elim
 | go st=>
  obtain⟨r,arr,i⟩:=st
  obtain⟨ws,h1,h2,h3,h4⟩:=hgo
  simp only at h1 h2 h3 h4
  subst h1 h4
  simp only [Fo.cs]
  rw [kG _ _ (by simp),aB,fw (by omega) (by omega)]
  rw [show ((ws.length:Nat):Int)+1= ((ws.length+1:Nat):Int) by omega,rl _ _ (by simp),aB,aB]
  unfold nv
  rw [h2]
  rw [cK,List.set_append_right _ _ (by simp),k8 (by simp)]
  simp
def mU (s:dY):Bool:=decide (s.cQ.length<=200)&&(nv s 47).all isWord
theorem uE {c:UInt8}: ∀{l x:List UInt8},x∈cutAt c l->x.length<=l.length
 | [],x,h=>by simp [cutAt] at h;subst h;simp
 | b::l,x,h=>by
  unfold cutAt at h
  split at h
  ·rcases dH.1 h with h | h
   ·subst h;simp
   ·have:=uE h;simp;omega
  ·split at h
   ·rename_i t e
    rcases dH.1 h with h | h
    ·subst h;have:=uE (c:=c) (l:=l) (by rw [e];exact List.mem_cons_self);simp;omega
    ·have:=uE (c:=c) (l:=l) (by rw [e];exact gN _ h);simp;omega
   ·simp at h;subst h;simp
theorem Ay (c:UInt8): ∀(l:List UInt8),(cutAt c l).length<=l.length+1
 | []=>by simp [cutAt]
 | b::l=>by
  have:=Ay c l
  unfold cutAt
  split
  ·simp;omega
  ·split
   ·rename_i e;rw [e] at this;simp at this ⊢;omega
   ·simp
theorem Az {s x:dY} {c:UInt8} (h:x∈nv s c):x.cQ.length<=s.cQ.length:=by
 obtain⟨y,hy,rfl⟩:=dD.1 h
 exact uE hy
theorem AA (s:dY) (c:UInt8): (nv s c).length<=s.cQ.length+1:=by unfold nv;rw [dS];exact Ay c _
theorem wQ {s:dY} (h:s.cQ.length<=1048576) (hN:4194304<=N):ma N s=some (mU s):=by
 unfold ma mU
 by_cases hl:s.cQ.length<=200
 ·rw [bR (by omega),aQ,CR 47 h hN,aB]
  have e:=rm (l:=nv s 47) (φ:=iB N) (fun x=> !isWord x) (by have:=AA s 47;omega) (fun x hx=>by
   unfold iB
   rw [qK (by have:=Az hx;omega)];rfl)
  have e2:iA N (nv s 47) (iB N)=qR (nv s 47) (iB N):=rfl
  rw [e2,e,aB,aB,bR hl,Bool.true_and]
  congr 1
  rw [fK]
  simp
 ·rw [bY (by omega),aT,aB,bY hl,Bool.false_and]
end
end Go.Gk
namespace Go.Gk
open Go Classical
section
variable {N:Nat}
theorem GP {a b:aA} (h:bS a=bS b):a=b:=by cases a;cases b;unfold bS at h;simp at h;obtain⟨h1,h2,h3⟩:=h;subst h1;subst h2;subst h3;rfl
theorem wR: ∀{s t:List aA},s.map bS=t.map bS->s=t
 | [],[],_=>rfl
 | [],_::_,h=>by cases h
 | _::_,[],h=>by cases h
 | a::s,b::t,h=>by
  rw [dO,dO] at h
  injection h with h1 h2
  rw [GP h1,wR h2]
theorem GQ {s t:List aA} (hs:eI (s.map bS)) (ht:eI (t.map bS)) (h: ∀x y,tu (s.map bS) x y=tu (t.map bS) x y):s=t:=wR (sJ hs ht h)
theorem rN.unique {l:List aG} {s t:List aA} (hs:rN l s) (ht:rN l t):s=t:=GQ hs.can ht.can fun x y=>by rw [hs.cover,ht.cover]
theorem rN.CS {l:List aG} {s:List aA} (h:rN l s):s.length<=2*l.length/\(∀b∈s,b.Xs.length<=2*l.length)/\(aM s).length<=2*l.length* (2*l.length):=by
 have h1:s.length<=2*l.length:=by have:=h.lim.len h.can;rwa [dS,gK] at this
 have h2: ∀b∈s,b.Xs.length<=2*l.length:=fun b hb=>by
  have:=h.lim.row h.can (b:=bS b) (dD.2 ⟨b,hb,rfl⟩)
  rwa [ju] at this
 exact⟨h1,h2,zf h1 h2⟩
theorem uF {n:Int} (h:kZ n=true): -1000000<=n/\n<=1000000:=by
 unfold kZ fM at h
 rw [bV,bU,bU] at h;omega
theorem mu {r:aG} (h:fD r=true): (-1000000<=r.X0/\r.X0<=1000000)/\(-1000000<=r.Y0/\r.Y0<=1000000)/\(-1000000<=r.X1/\r.X1<=1000000)/\(-1000000<=r.Y1/\r.Y1<=1000000):=by
 unfold fD at h
 simp only [bV] at h
 exact⟨uF h.1,uF h.2.1,uF h.2.2.1,uF h.2.2.2⟩
theorem zv {r:aG} (h: (-1000000<=r.X0/\r.X0<=1000000)/\(-1000000<=r.Y0/\r.Y0<=1000000)/\(-1000000<=r.X1/\r.X1<=1000000)/\(-1000000<=r.Y1/\r.Y1<=1000000)):fD r=true:=by
 unfold fD kZ fM
 simp only [bV,bU]
 omega
theorem DL {r:aG} (h:fD r=true) (hx:r.X0<r.X1) (hy:r.Y0<r.Y1):za r:=by
 have:=mu h
 refine⟨hx,hy,?_,?_,?_,?_⟩ <;> unfold small <;> omega
def km (r:aG):Option Int:=if fD r=true then (if r.X1<=r.X0\/r.Y1<=r.Y0 then some 13 else none) else some 1
def kV (l:List aG):Int:=if 2000<l.length then 2 else (l.findSome? km).getD 0
theorem z9 {l:List aG} (hl:l.length<=4611686018427387904):kK N l=some (kV l):=by
 unfold kK kV
 by_cases h:2000<l.length
 ·rw [bR (by omega),aQ,aD h]
 ·rw [bY (by omega),aT,aH h,yV km hl (fun k x hx=>by
   rw [gv hx,aB,zq,aB]
   unfold km
   cases hr:fD x with
   | false=>rfl
   | true=>
    rw [nQ,aT,aD rfl]
    by_cases h2:x.X1<=x.X0\/x.Y1<=x.Y0
    ·rw [aD h2,show (decide (x.X1<=x.X0)||decide (x.Y1<=x.Y0))=true by rw [dI,bU,bU];exact h2];rfl
    ·rw [aH h2,show (decide (x.X1<=x.X0)||decide (x.Y1<=x.Y0))=false by rw [<-nc,dI,bU,bU];exact h2];rfl),aB]
  cases l.findSome? km <;> rfl
theorem wS {r:aG}:km r=none↔fD r=true/\r.X0<r.X1/\r.Y0<r.Y1:=by
 unfold km
 by_cases h:fD r=true
 ·rw [aD h]
  by_cases h2:r.X1<=r.X0\/r.Y1<=r.Y0
  ·rw [aD h2]
   constructor
   ·intro h;cases h
   ·rintro⟨_,h3,h4⟩;omega
  ·rw [aH h2]
   exact⟨fun _=>⟨h,by omega,by omega⟩,fun _=>rfl⟩
 ·rw [aH h]
  constructor
  ·intro h;cases h
  ·rintro⟨h3,_⟩;exact absurd h3 h
theorem CT {r:aG} {e:Int} (h:km r=some e):e≠0:=by
 unfold km at h
 split at h
 ·split at h
  ·injection h with h;omega
  ·cases h
 ·injection h with h;omega
theorem q7 {l:List aG}:kV l=0↔l.length<=2000/\∀r∈l,fD r=true/\r.X0<r.X1/\r.Y0<r.Y1:=by
 unfold kV
 by_cases h:2000<l.length
 ·rw [aD h];constructor
  ·intro h;omega
  ·intro h;omega
 ·rw [aH h]
  cases hf:l.findSome? km with
  | none=>
   rw [List.findSome?_eq_none_iff] at hf
   exact⟨fun _=>⟨by omega,fun r hr=>wS.1 (hf r hr)⟩,fun _=>rfl⟩
  | some e=>
   obtain⟨r,hr,he⟩:=List.exists_of_findSome?_eq_some hf
   constructor
   ·intro h0;exact absurd h0 (CT he)
   ·rintro⟨_,h2⟩
    rw [wS.2 (h2 r hr)] at he;cases he
def I9 (l:List aG):Prop:=∀(k:Nat) a b,l[k]? =some a->l[k+1]? =some b->¬(b.Y0<a.Y0\/(b.Y0=a.Y0/\b.X0<=a.X0))
def zw (l:List aG):Prop:=∃s,rN l s/\aM s=l
noncomputable def je (l:List aG):Int:=if kV l≠0 then kV l else if I9 l then (if zw l then 0 else 3) else 8
theorem zx {l:List aG} (h:kV l=0):l.length<=2000/\∀r∈l,za r:=⟨(q7.1 h).1,fun r hr=>by have:=(q7.1 h).2 r hr;exact DL this.1 this.2.1 this.2.2⟩
theorem DM {l m:List aG} (hl:l.length<=4611686018427387904):kb N l m=some (decide (l=m)):=by
 have:=uw (l:=l) (m:=m) hl
 unfold DD at this
 unfold kb
 rw [show (decide (l=m)) = @decide (l=m) (instDecidableEqList l m) from decide_eq_decide.2 Iff.rfl]
 exact this
theorem qe {l:List aG} (hl:l.length<=1073741824) (hN:4398046511104<=N):fT N l=some (je l):=by
 refine Ok.get ?_
 unfold fT
 refine Ok.eq (z9 (by omega)) ?_
 unfold je
 refine Ok.bif (fun h=>Ok.ret ?_) (fun h=>?_)
 ·rw [aD (by simpa using h)]
 ·have h0:kV l=0:=by simpa using h
  rw [aH (by simpa using h0)]
  obtain⟨hlen,hok⟩:=zx h0
  refine Ok.bind (Ok.kD (Go:=fun _=>I9 l) (Rt:=fun r=>r=8/\¬I9 l) (fun s=>∃k:Nat,s= ((k:Nat):Int)/\1<=k/\∀(j:Nat) a b,j+1<k->l[j]? =some a->l[j+1]? =some b->¬(b.Y0<a.Y0\/(b.Y0=a.Y0/\b.X0<=a.X0))) (fun s=>l.length - s.toNat) ?_ ⟨1,rfl,bK _,fun j a b hj=>by omega⟩ (by simp;omega)) ?_
  ·rintro s ⟨k,rfl,hk,hI⟩
   refine Ok.bif (fun h=>?_) (fun h=>Ok.br fun j a b ha hb=>hI j a b ?_ ha hb)
   ·have hk2:k<l.length:=by have:=of_decide_eq_true h;omega
    rw [jC hk (by omega)]
    refine Ok.idx (by omega) (Ok.idx hk2 (Ok.bif (fun hb=>Ok.rt ⟨rfl,fun hu=>?_⟩) (fun hb=>Ok.nx ⟨⟨k+1,by rw [cD (by omega)],by omega,fun j a b hj ha hb'=>?_⟩,by rw [cD (by omega)];simp only [cK];omega⟩)))
    ·refine hu (k - 1) l[k - 1] l[k] (aO _) (by rw [show k - 1+1=k by omega];exact aO _) ?_
     rw [dI,bV,bU,bU,beq_iff_eq] at hb;exact hb
    ·by_cases e:j+1<k
     ·exact hI j a b e ha hb'
     ·have:j+1=k:=by omega
      subst this
      rw [aO (by omega)] at ha hb'
      injection ha with ha;injection hb' with hb'
      subst ha;subst hb'
      rw [<-nc,dI,bV,bU,bU,beq_iff_eq] at hb;exact hb
   ·have:=of_decide_eq_false h
    have:=(bC.1 hb).1;omega
  ·rintro o ho
   refine Ok.cs ho (fun s hu=>?_) (fun r hr=>Ok.ret (by rw [hr.1,aH hr.2]))
   rw [aD hu]
   refine Ok.bind (mm (N:=N) (by omega) hok (by omega)) ?_
   intro s hs
   obtain⟨z1,z2,z3⟩:=hs.CS
   have z4:2*l.length* (2*l.length)<=4000*4000:=Nat.mul_le_mul (by omega) (by omega)
   refine Ok.eq (wO (qc hs.can) (by omega) (fun b hb=>by have:=z2 b hb;omega) (by omega)) (Ok.eq (DM (by omega)) ?_)
   have hiff:zw l↔aM s=l:=⟨fun⟨t,h1,h2⟩=>by rw [hs.unique h1];exact h2,fun h=>⟨s,hs,h⟩⟩
   refine Ok.bif (fun h=>Ok.ret ?_) (fun h=>Ok.ret ?_)
   ·have h: ¬aM s=l:=by simpa using h
    rw [aH (fun h'=>h (hiff.1 h'))]
   ·have h:aM s=l:=by simpa using h
    rw [aD (hiff.2 h)]
theorem t7 {l:List aG}:je l=0↔kV l=0/\I9 l/\zw l:=by
 unfold je
 by_cases h:kV l=0
 ·rw [aH (by simpa using h)]
  by_cases h2:I9 l
  ·rw [aD h2]
   by_cases h3:zw l
   ·rw [aD h3];exact⟨fun _=>⟨h,h2,h3⟩,fun _=>rfl⟩
   ·rw [aH h3];constructor
    ·intro h;omega
    ·rintro⟨_,_,h4⟩;exact absurd h4 h3
  ·rw [aH h2];constructor
   ·intro h;omega
   ·rintro⟨_,h4,_⟩;exact absurd h4 h2
 ·rw [aD h]
  constructor
  ·intro h2;exact absurd h2 h
  ·rintro⟨h2,_⟩;exact absurd h2 h
theorem vM (n lo hi:Int):eV N n lo hi=some (fM n lo hi):=rfl
theorem FA {b:bJ} (hN:16<=N):kz N b=some (l3 b):=by
 have:=rP (N:=N - 16) (b:=b)
 rwa [show N - 16+16=N by omega] at this
def lx (n:Nat) (b:bJ):Option Int:=if (l3 b).2≠0 then some (l3 b).2 else if fM b.cH 0 (((n:Nat):Int) - 1)=true/\fM b.To b.cH (((n:Nat):Int) - 1)=true then none else some 1
def iT (a:fu):Int:=if 500<a.aR.length then 2 else (a.aR.findSome? (lx a.aI.length)).getD 0
theorem Aa {a:fu} (h1:a.aI.length<=4611686018427387904) (h2:a.aR.length<=4611686018427387904) (hN:16<=N):kc N a=some (iT a):=by
 unfold kc iT
 by_cases h:500<a.aR.length
 ·rw [bR (by omega),aQ,aD h]
 ·have hw:IntKind.wrap .i64 (((a.aI.length:Nat):Int) - 1)= ((a.aI.length:Nat):Int) - 1:=fw (by omega) (by omega)
  rw [bY (by omega),aT,aH h,yV (lx a.aI.length) h2 (fun k x hx=>by
   rw [gv hx,aB,FA hN,aB]
   unfold lx
   by_cases h0: (l3 x).2=0
   ·rw [aH (by simpa using h0),h0,show ((0:Int) != 0)=false by rfl,aT,hw,vM,aB,vM,aB]
    cases h3:fM x.cH 0 (((a.aI.length:Nat):Int) - 1) <;> cases h4:fM x.To x.cH (((a.aI.length:Nat):Int) - 1) <;> rfl
   ·rw [aD h0,show ((l3 x).2 != 0)=true by simpa using h0];rfl),aB]
  cases a.aR.findSome? (lx a.aI.length) <;> rfl
theorem CU {b:bJ} (h: (l3 b).2=0):pq b=true/\fD (t5 b)=true:=by
 unfold l3 at h
 split at h
 ·rename_i h';rwa [bV] at h'
 ·cases h
theorem lM {a:fu} (h:iT a=0):a.aR.length<=500/\∀b∈a.aR,pq b=true/\fD (t5 b)=true/\0<=b.cH/\b.cH<=b.To/\b.To< ((a.aI.length:Nat):Int):=by
 unfold iT at h
 split at h
 ·omega
 ·refine⟨by omega,fun b hb=>?_⟩
  have hn:lx a.aI.length b=none:=by
   cases hf:a.aR.findSome? (lx a.aI.length) with
   | none=>exact List.findSome?_eq_none_iff.1 hf b hb
   | some e=>
    rw [hf] at h
    obtain⟨c,hc,he⟩:=List.exists_of_findSome?_eq_some hf
    have h:e=0:=h
    subst h
    unfold lx at he
    split at he
    ·rename_i h';injection he with he;exact absurd he h'
    ·split at he
     ·cases he
     ·injection he with he;omega
  unfold lx at hn
  split at hn
  ·cases hn
  ·rename_i h0
   split at hn
   ·rename_i h1
    have h0: (l3 b).2=0:=by simpa using h0
    have:=CU h0
    unfold fM at h1
    simp only [bV,bU] at h1
    exact⟨this.1,this.2,by omega,by omega,by omega⟩
   ·cases hn
theorem KS {b:bJ} (h1:pq b=true) (h2:fD (t5 b)=true):za (t5 b):=by
 have hf:=qJ h1
 refine DL h2 ?_ ?_
 ·show b.At.X - b.cZ / 2<b.At.X - b.cZ / 2+b.cZ;omega
 ·show b.At.Y - b.cZ / 2<b.At.Y - b.cZ / 2+b.cZ;omega
def kH (p q:ik):Int:=if Lib.compareBytes p.Part.cQ q.Part.cQ≠0 then Lib.compareBytes p.Part.cQ q.Part.cQ else Lib.compareBytes p.ik.cQ q.ik.cQ
theorem yq (p q:ik):jq N p q=some (kH p q):=by
 unfold jq kH
 show (bif (Lib.compareBytes p.Part.cQ q.Part.cQ != 0) then _ else _)=_
 by_cases h:Lib.compareBytes p.Part.cQ q.Part.cQ=0
 ·rw [h,aH (by simp)];rfl
 ·rw [aD h,show (Lib.compareBytes p.Part.cQ q.Part.cQ != 0)=true by simpa using h];rfl
def mV (l:cU):ik:=⟨l.Part,l.ik⟩
theorem AB (l:cU):mH N l=some (mV l):=rfl
def jY (a:fu) (k:Nat):Option Int:=(a.bI[k]?).bind fun x=>
 if (mU x.Part&&isWord x.ik)=true then
  if (fM x.eU 0 (((a.aI.length:Nat):Int) - 1)&&qd x.At)=true then
   if 0<k/\(∃y,a.bI[k - 1]? =some y/\kH (mV x) (mV y)<=0) then some 8 else none
  else some 1
 else some 5
noncomputable def mw (a:fu):Int:=if 1000<a.bI.length then 2 else (uO a.bI.length (jY a)).getD 0
end
end Go.Gk
namespace Go.Gk
open Go Classical
section
variable {N:Nat}
def zy (a:fu):Prop:=∀x∈a.bI,x.Part.cQ.length<=1048576/\x.ik.cQ.length<=1048576
theorem Ab {a:fu} (h1:a.aI.length<=1073741824) (h2:a.bI.length<=1073741824) (h3:zy a) (hN:4194304<=N):ke N a=some (mw a):=by
 unfold ke mw
 by_cases h:1000<a.bI.length
 ·rw [bR (by omega),aQ,aD h]
 ·have hw:IntKind.wrap .i64 (((a.aI.length:Nat):Int) - 1)= ((a.aI.length:Nat):Int) - 1:=fw (by omega) (by omega)
  rw [bY (by omega),aT,aH h,rk (jY a) (by omega) (fun k hk _=>by
   have hx:a.bI[k]? =some a.bI[k]:=aO hk
   have hs:=h3 _ (cR hk)
   rw [gv hx,aB,wQ hs.1 hN,aB]
   have hle:jY a k= (if (mU a.bI[k].Part&&isWord a.bI[k].ik)=true then
     if (fM a.bI[k].eU 0 (((a.aI.length:Nat):Int) - 1)&&qd a.bI[k].At)=true then
      if 0<k/\(∃y,a.bI[k - 1]? =some y/\kH (mV a.bI[k]) (mV y)<=0) then some 8 else none
     else some 1
    else some 5):=by unfold jY;rw [hx];rfl
   rw [hle]
   have e1: ((bif (!mU a.bI[k].Part) then (some true) else ((i7 N a.bI[k].ik).bind fun x225=>some (!x225))):Option Bool)=some (!(mU a.bI[k].Part&&isWord a.bI[k].ik)):=by
    rw [qK hs.2,aB]
    cases mU a.bI[k].Part <;> rfl
   have e2: ((eV N a.bI[k].eU 0 (IntKind.wrap .i64 (((a.aI.length:Nat):Int) - 1))).bind fun x318=>bif (!x318) then (some true) else ((jz N a.bI[k].At).bind fun x321=>some (!x321)))=some (!(fM a.bI[k].eU 0 (((a.aI.length:Nat):Int) - 1)&&qd a.bI[k].At)):=by
    rw [hw,vM,aB,xZ,aB]
    cases fM a.bI[k].eU 0 (((a.aI.length:Nat):Int) - 1) <;> rfl
   show ((bif (!mU a.bI[k].Part) then (some true) else ((i7 N a.bI[k].ik).bind fun x225=>some (!x225))):Option Bool).bind _=_
   rw [e1,aB]
   cases h4: (mU a.bI[k].Part&&isWord a.bI[k].ik) with
   | false=>rfl
   | true=>
    rw [nQ,aT,aD rfl]
    show (((eV N a.bI[k].eU 0 (IntKind.wrap .i64 (((a.aI.length:Nat):Int) - 1))).bind fun x318=>bif (!x318) then (some true) else ((jz N a.bI[k].At).bind fun x321=>some (!x321)))).bind _=_
    rw [e2,aB]
    cases h5: (fM a.bI[k].eU 0 (((a.aI.length:Nat):Int) - 1)&&qd a.bI[k].At) with
    | false=>rfl
    | true=>
     rw [nQ,aT,aD rfl]
     by_cases h0:0<k
     ·rw [bR (by omega),aQ,jC h0 (by omega),kG _ _ (by omega:k - 1<a.bI.length)]
      simp only [AB,aB,yq]
      by_cases h6:kH (mV a.bI[k]) (mV a.bI[k - 1])<=0
      ·rw [bR h6,aD ⟨h0,_,aO (by omega:k - 1<a.bI.length),h6⟩];rfl
      ·rw [bY h6,aH (by
        rintro⟨_,y,hy,h7⟩
        rw [aO (by omega:k - 1<a.bI.length)] at hy;injection hy with hy
        rw [<-hy] at h7;exact h6 h7)];rfl
     ·rw [bY (by omega),aH (fun h=>h0 h.1)];rfl),aB]
  cases uO a.bI.length (jY a) <;> rfl
def kn (b:bJ) (k:Int):Bool:=decide (b.cH<=k)&&decide (k<=b.To)
theorem zz (b:bJ) (k:Int):kM N b k=some (kn b k):=rfl
def ko (bs:List bJ) (k:Int):List aG:=(bs.filter (fun b=>kn b k)).map t5
structure mL (bs:List bJ):Prop where
 len:bs.length<=500
 ok: ∀b∈bs,pq b=true/\fD (t5 b)=true
structure sM (r hs:List aG) (s:List aA):Prop where
 can:eI (s.map bS)
 cover: ∀x y,tu (s.map bS) x y= (tX r x y&& !tX hs x y)
 lim:vT (qw r++qw hs) (iJ r++iJ hs) (s.map bS)
theorem xJ {bs:List bJ} (h:mL bs) (k:Int): (ko bs k).length<=500:=by
 unfold ko
 rw [dS]
 have:=nP (fun b=>kn b k) bs
 have:=h.len;omega
theorem t8 {bs:List bJ} (h:mL bs) (k:Int): ∀r∈ko bs k,za r/\fD r=true:=by
 intro r hr
 unfold ko at hr
 obtain⟨b,hb,rfl⟩:=dD.1 hr
 have:=h.ok b (k6.1 hb).1
 exact⟨KS this.1 this.2,this.2⟩
theorem sM.small {r hs:List aG} {s:List aA} (h:sM r hs s) (h1: ∀x∈r,za x) (h2: ∀x∈hs,za x): (∀c∈qw r++qw hs,small c)/\∀c∈iJ r++iJ hs,small c:=by
 constructor
 ·intro c hc
  rcases dC.1 hc with h | h
  ·obtain⟨x,hx,rfl | rfl⟩:=rM.1 h
   ·exact(h1 x hx).s1
   ·exact(h1 x hx).s2
  ·obtain⟨x,hx,rfl | rfl⟩:=rM.1 h
   ·exact(h2 x hx).s1
   ·exact(h2 x hx).s2
 ·intro c hc
  rcases dC.1 hc with h | h
  ·obtain⟨x,hx,rfl | rfl⟩:=jS.1 h
   ·exact(h1 x hx).s3
   ·exact(h1 x hx).s4
  ·obtain⟨x,hx,rfl | rfl⟩:=jS.1 h
   ·exact(h2 x hx).s3
   ·exact(h2 x hx).s4
theorem rQ {s:List aA} {X Y:List Int} {A:Nat} (hc:eI (s.map bS)) (h:vT X Y (s.map bS)) (hX:X.length<=A) (hY:Y.length<=A):s.length<=A/\(∀b∈s,b.Xs.length<=A)/\(aM s).length<=A*A:=by
 have h1:s.length<=A:=by have:=h.len hc;rw [dS] at this;omega
 have h2: ∀b∈s,b.Xs.length<=A:=fun b hb=>by
  have:=h.row hc (b:=bS b) (dD.2 ⟨b,hb,rfl⟩)
  have e: (bS b).xs=b.Xs:=rfl
  rw [e] at this;omega
 exact⟨h1,h2,zf h1 h2⟩
theorem Ac {r hs:List aG} (h1:r.length<=2000) (h2: ∀x∈r,za x) (h3:hs.length<=500) (h4: ∀x∈hs,za x) (hN:4398046511104<=N) {β:Type} {f:List aA->Option β} {Q:β->Prop} (k: ∀s,sM r hs s->Ok (f s) Q):
  Ok ((dN N r).bind fun x378=>(dN N hs).bind fun x380=>(i9 N x378 x380).bind f) Q:=by
 refine Ok.bind (mm (N:=N) (by omega) h2 (by omega)) (fun s hs1=>?_)
 refine Ok.bind (mm (N:=N) (by omega) h4 (by omega)) (fun t ht=>?_)
 have hz: ∀c∈iJ r++iJ hs,small c:=by
  intro c hc
  rcases dC.1 hc with h | h
  ·obtain⟨x,hx,rfl | rfl⟩:=jS.1 h
   ·exact(h2 x hx).s3
   ·exact(h2 x hx).s4
  ·obtain⟨x,hx,rfl | rfl⟩:=jS.1 h
   ·exact(h4 x hx).s3
   ·exact(h4 x hx).s4
 refine Ok.bind (Fv (X:=qw r++qw hs) (Y:=iJ r++iJ hs) hs1.can ht.can (hs1.lim.mono (fun c h=>List.mem_append_left _ h) (fun c h=>List.mem_append_left _ h)) (ht.lim.mono (fun c h=>List.mem_append_right _ h) (fun c h=>List.mem_append_right _ h))
  (by rw [cT,ju,ju];omega) (by rw [cT,gK,gK];omega) hz hN) (fun u hu=>?_)
 exact k u ⟨hu.can,fun x y=>by rw [hu.cover,hs1.cover,ht.cover],hu.lim⟩
def kp:Nat->List (List (List aA))->List aN
 | _,[]=>[]
 | k,ps::r=>ps.map (fun p=>⟨((k:Nat):Int),p,aM p⟩)++kp (k+1) r
theorem vN (ps:List (List aA)): ∀(r:List (List (List aA))) (k:Nat),kp k (r++[ps])=kp k r++ps.map (fun p=>⟨((k+r.length:Nat):Int),p,aM p⟩)
 | [],k=>by unfold kp;simp [kp]
 | q::r,k=>by
  show _++kp (k+1) (r++[ps])= (_++kp (k+1) r)++_
  rw [vN ps r (k+1),k7]
  congr 3
  simp only [fI]
  rw [show k+ (r.length+1)=k+1+r.length by omega]
theorem zA {s p:List aA} {ps:List (List aA)} {r:Nat->Nat} {X Y:List Int} (h:qI s r ps) (hc:eI (s.map bS)) (hl:vT X Y (s.map bS)) (hX: ∀c∈X,small c) (hY: ∀c∈Y,small c) (hp:p∈ps):
  ∃j k:Nat,ps[j]? =some p/\(bO (aM s).length r)[j]? =some k/\rN (nb (aM s) (aM s).length r k) p/\vT X Y (p.map bS):=by
 obtain⟨j,hj⟩:=eR hp
 have hjl:=(bC.1 hj).1
 rw [h.len] at hjl
 have hh: (bO (aM s).length r)[j]? =some (bO (aM s).length r)[j]:=aO hjl
 have hs:=h.each j _ p hh hj
 refine⟨j,_,hj,hh,hs,hs.lim.mono (fun c hcx=>?_) (fun c hcx=>?_)⟩
 ·obtain⟨x,hx,hxc⟩:=rM.1 hcx
  obtain⟨i,_,_,hi⟩:=lD.1 hx
  have:=zg hc hl hX hY x (gh hi)
  rcases hxc with rfl | rfl
  ·exact this.2.1.1
  ·exact this.2.1.2
 ·obtain⟨x,hx,hxc⟩:=jS.1 hcx
  obtain⟨i,_,_,hi⟩:=lD.1 hx
  have:=zg hc hl hX hY x (gh hi)
  rcases hxc with rfl | rfl
  ·exact this.2.2.1
  ·exact this.2.2.2
structure vO (cs:List (List aG)) (bs:List bJ) (k:Nat) (n9:List (List aA)) (kq:List (List (List aA))):Prop where
 len:n9.length=k
 BD:kq.length=k
 dr: ∀(i:Nat) r s,i<k->cs[i]? =some r->n9[i]? =some s->sM r (ko bs ((i:Nat):Int)) s
 pt: ∀(i:Nat) s ps,i<k->n9[i]? =some s->kq[i]? =some ps->∃u,qI s u ps
 Dh: (kp 0 kq).length<=k*25000000
theorem qI.Dh {s:List aA} {u:Nat->Nat} {ps:List (List aA)} (h:qI s u ps):ps.length<=(aM s).length:=by
 rw [h.len];exact oD _ _
theorem DN {cs:List (List aG)} {bs:List bJ} (hcs:cs.length<=16) (hc: ∀r∈cs,r.length<=2000/\∀x∈r,za x) (hb:mL bs) (hN:4398046511104<=N):
  Ok (jG N cs bs [] []) (fun x=>∃kq,vO cs bs cs.length x.2.1 kq/\x.2.2=kp 0 kq/\(x.1=true↔(∀s∈x.2.1,(aM s).length<=2000)/\x.2.2.length<=2000)):=by
 unfold jG
 refine Ok.bind (P:=fun(st:List (List aA)×List aN×Bool)=>∃kq,vO cs bs cs.length st.1 kq/\st.2.1=kp 0 kq/\(st.2.2=true↔∀s∈st.1,(aM s).length<=2000)) (Ok.mN (fun(k:Nat) (st:List (List aA)×List aN×Bool)=>∃kq,vO cs bs k st.1 kq/\st.2.1=kp 0 kq/\(st.2.2=true↔∀s∈st.1,(aM s).length<=2000)) (by omega)
  ⟨[],⟨rfl,rfl,fun i r s hi=>by omega,fun i s ps hi=>by omega,by simp [kp]⟩,rfl,by simp⟩ (fun k st hk hI=>?_)) ?_
 ·obtain⟨n9,pcs,okk⟩:=st
  obtain⟨kq,D,e1,e2⟩:=hI
  dsimp only at D e1 e2 ⊢
  subst e1
  have hkx:cs[k]? =some cs[k]:=aO hk
  obtain⟨hr1,hr2⟩:=hc _ (cR hk)
  refine Ok.ix hkx ?_
  refine Ok.bind (P:=fun t=>t=ko bs ((k:Nat):Int)) (Ok.mono (Ok.mN (fun j t=>t=ko (bs.take j) ((k:Nat):Int)) (by have:=hb.len;omega) rfl (fun j t hj e=>?_)) (fun t e=>by rw [e,fJ])) (fun t e=>?_)
  ·subst e
   refine Ok.idx hj (Ok.eq (zz _ _) ?_)
   have hts:bs.take (j+1)=bs.take j++[bs[j]]:=eD hj
   have hgb:=hb.ok _ (cR hj)
   have hl: (ko (bs.take j) ((k:Nat):Int)).length<=500:=by
    unfold ko
    rw [dS]
    have:=nP (fun b=>kn b ((k:Nat):Int)) (bs.take j)
    rw [cM] at this
    have:=hb.len;omega
   cases ht:kn bs[j] ((k:Nat):Int) with
   | false=>
    rw [aT]
    refine Ok.eq rfl (Ok.ret ?_)
    unfold ko
    rw [hts,ka];simp [ht]
   | true=>
    rw [aQ]
    refine Ok.eq (x:=ko (bs.take j) ((k:Nat):Int)++[t5 bs[j]]) (by rw [mq hgb.1,aB,jd (by simp;omega),aB]) (Ok.ret ?_)
    unfold ko
    rw [hts,ka,eE];simp [ht]
  ·subst e
   have hho:=t8 hb ((k:Nat):Int)
   have hhl:=xJ hb ((k:Nat):Int)
   refine Ac hr1 hr2 hhl (fun x hx=>(hho x hx).1) hN (fun s hs=>?_)
   obtain⟨sx,sy⟩:=hs.small hr2 (fun x hx=>(hho x hx).1)
   obtain⟨z1,z2,z3⟩:=rQ (A:=5000) hs.can hs.lim (by rw [cT,ju,ju];omega) (by rw [cT,gK,gK];omega)
   have hmany:=EG (N:=N) (s:=s) (by omega) (fun b hb=>by have:=z2 b hb;omega) (by omega)
   refine Ok.eq (x:=(okk&&decide ((aM s).length<=2000),s)) ?_ ?_
   ·cases okk with
    | false=>rfl
    | true=>
     rw [aQ,hmany,aB,Bool.true_and]
     rw [show decide ((((aM s).length:Nat):Int)<=2000)=decide ((aM s).length<=2000) from decide_eq_decide.2 (by omega)]
   dsimp only
   refine Ok.app (by rw [D.len];simp;omega) ?_
   refine Ok.bind (DJ (N:=N) hs.can hs.lim sx sy (by omega) (fun b hb=>by have:=z2 b hb;omega) (by omega) hN) ?_
   rintro ps ⟨u,hu⟩
   have hfew:=hu.Dh
   have hk16:k*25000000<=16*25000000:=Nat.mul_le_mul_right _ (by omega)
   have hDf:=D.Dh
   refine Ok.bind (P:=fun t=>t=kp 0 kq++ps.map (fun p=>(⟨((k:Nat):Int),p,aM p⟩:aN))) (Ok.mono (Ok.mN (fun j t=>t=kp 0 kq++(ps.take j).map (fun p=>(⟨((k:Nat):Int),p,aM p⟩:aN))) (by omega) (by simp) (fun j t hj e=>?_)) (fun t e=>by rw [e,fJ])) (fun t e=>Ok.ret ?_)
   ·subst e
    have hjx:ps[j]? =some ps[j]:=aO hj
    refine Ok.ix hjx ?_
    obtain⟨_,_,_,_,mA,hpl⟩:=zA hu hs.can hs.lim sx sy (cR hj)
    obtain⟨y1,y2,y3⟩:=rQ (A:=5000) mA.can hpl (by rw [cT,ju,ju];omega) (by rw [cT,gK,gK];omega)
    refine Ok.eq (wO (qc mA.can) (by omega) (fun b hb=>by have:=y2 b hb;omega) (by omega)) (Ok.app ?_ (Ok.ret ?_))
    ·simp only [cT,dS,cM,List.length_singleton];omega
    ·rw [eD hj,eE,k7];rfl
   ·subst e
    refine⟨kq++[ps],⟨by simp [D.len],by simp [D.BD],fun i r s' hi hr hs'=>?_,fun i s' ps' hi hs' hps'=>?_,?_⟩,?_,?_⟩
    ·dsimp only at hs'
     by_cases hik:i<k
     ·rw [gj (by rw [D.len];exact hik)] at hs'
      exact D.dr i r s' hik hr hs'
     ·have:i=k:=by omega
      subst this
      rw [gw (by rw [D.len];omega),D.len,Nat.sub_self] at hs'
      simp at hs';subst hs'
      rw [hkx] at hr;injection hr with hr;subst hr
      exact hs
    ·dsimp only at hs'
     by_cases hik:i<k
     ·rw [gj (by rw [D.len];exact hik)] at hs'
      rw [gj (by rw [D.BD];exact hik)] at hps'
      exact D.pt i s' ps' hik hs' hps'
     ·have:i=k:=by omega
      subst this
      rw [gw (by rw [D.len];omega),D.len,Nat.sub_self] at hs'
      rw [gw (by rw [D.BD];omega),D.BD,Nat.sub_self] at hps'
      simp at hs' hps';subst hs';subst hps'
      exact⟨u,hu⟩
    ·rw [vN,cT,dS];omega
    ·dsimp only
     rw [vN,D.BD,iw]
    ·dsimp only
     rw [bV,e2,bU]
     constructor
     ·rintro⟨h1,h2⟩ s' hs'
      rcases dC.1 hs' with h | h
      ·exact h1 s' h
      ·simp at h;subst h;exact h2
     ·intro h
      exact⟨fun s' hs'=>h s' (List.mem_append_left _ hs'),h s (by simp)⟩
 ·rintro⟨n9,pcs,okk⟩ ⟨kq,D,e1,e2⟩
  dsimp only at D e1 e2 ⊢
  subst e1
  refine Ok.bind (P:=fun b=>b=true↔(∀s∈n9,(aM s).length<=2000)/\(kp 0 kq).length<=2000) (Ok.bif (fun h=>Ok.ret ?_) (fun h=>Ok.ret ?_)) (fun b hb=>Ok.ret ⟨kq,D,rfl,hb⟩)
  ·rw [bU]
   constructor
   ·intro h';exact⟨e2.1 h,by omega⟩
   ·rintro⟨_,h'⟩;omega
  ·constructor
   ·intro h';cases h'
   ·rintro⟨h',_⟩;rw [e2.2 h'] at h;cases h
end
end Go.Gk
namespace Go.Gk
open Go Classical
section
variable {N:Nat}
section
variable {α:Type}
def t9 (P:α->Bool) (l:List α) (n:Nat):List Nat:=(List.range n).filter (fun k=>(l[k]?).any P)
theorem DO {P:α->Bool} {l:List α} {n:Nat} {x:α} (h:l[n]? =some x):t9 P l (n+1)=if P x=true then t9 P l n++[n] else t9 P l n:=by
 unfold t9
 rw [List.range_succ,ka]
 by_cases hp:P x=true
 ·rw [aD hp];simp [h,hp]
 ·rw [aH hp];simp [h,hp]
theorem AD (P:α->Bool) (l:List α) (n:Nat): (t9 P l n).length<=n:=by
 have:=nP (fun k=>(l[k]?).any P) (List.range n)
 rw [List.length_range] at this;exact this
theorem FB {P:α->Bool} {l:List α} {n k:Nat}:k∈t9 P l n↔k<n/\(l[k]?).any P=true:=by unfold t9;simp
theorem wT {β:Type} {l:List α} (P:α->Bool) (g:Nat->β):uO l.length (fun k=>(l[k]?).bind fun x=>if P x=true then some (g k) else none)= (l.findIdx? P).map g:=by
 cases h:l.findIdx? P with
 | none=>
  rw [List.findIdx?_eq_none_iff] at h
  refine nE.2 fun k hk=>?_
  rw [aO hk]
  have:=h _ (cR hk)
  simp [this]
 | some j=>
  obtain⟨hj,hp,hn⟩:=List.findIdx?_eq_some_iff_getElem.1 h
  refine oA.2 ⟨j,hj,by rw [aO hj];simp [hp],fun i hi=>?_⟩
  rw [aO (by omega)]
  have:=hn i hi
  simp [this]
end
def ints (l:List Nat):List Int:=l.map fun i=>((i:Nat):Int)
theorem uc (l m:List Nat):ints (l++m)=ints l++ints m:=eE
theorem n0 (l:List Nat): (ints l).length=l.length:=dS _
theorem zB {l:List Nat} {x:Int}:x∈ints l↔∃i∈l,x= ((i:Nat):Int):=by
 unfold ints;rw [dD]
 constructor
 ·rintro⟨i,h1,h2⟩;exact⟨i,h1,h2.symm⟩
 ·rintro⟨i,h1,h2⟩;exact⟨i,h1,h2.symm⟩
def EL (p0 p1:aG):Bool:=((((decide (p0.X0<p1.X1))&&(decide (p1.X0<p0.X1)))&&((p0.Y1==p1.Y0)||(p1.Y1==p0.Y0)))||(((decide (p0.Y0<p1.Y1))&&(decide (p1.Y0<p0.Y1)))&&((p0.X1==p1.X0)||(p1.X1==p0.X0))))
def n7 (b:bJ) (p:aN):Bool:=b.kx&&(kn b p.eU&&p.pj.any (fun r=>EL r (t5 b)))
def tc (bs:List bJ) (pcs:List aN):List (List Int):=bs.map fun b=>ints (t9 (n7 b) pcs pcs.length)
theorem qL {l:List aG} {φ:aG->Option Bool} (p:aG->Bool) (hl:l.length<=4611686018427387904) (h: ∀x∈l,φ x=some (p x)):gH N l φ=some (l.any p):=
 rm p hl h
theorem GR {bs:List bJ} {pcs:List aN} (hb:mL bs) (hp:pcs.length<=1073741824) (hr: ∀p∈pcs,p.pj.length<=1073741824):jH N bs pcs []=some (tc bs pcs):=by
 refine Ok.get ?_
 have hbl:=hb.len
 unfold jH
 refine Ok.bind (Ok.mN (fun k st=>st=tc (bs.take k) pcs) (by omega) rfl (fun k st hk e=>?_)) (fun st e=>Ok.ret (by rw [e,fJ]))
 subst e
 have hg:=hb.ok _ (cR hk)
 refine Ok.idx hk ?_
 refine Ok.bind (P:=fun t=>t=ints (t9 (n7 bs[k]) pcs pcs.length)) (Ok.mN (fun j t=>t=ints (t9 (n7 bs[k]) pcs j)) (by omega) rfl (fun j t hj e=>?_)) (fun t e=>?_)
 ·subst e
  have hjx:pcs[j]? =some pcs[j]:=aO hj
  have hl:=AD (n7 bs[k]) pcs j
  refine Ok.ix hjx ?_
  refine Ok.eq (x:=n7 bs[k] pcs[j]) ?_ ?_
  ·unfold n7
   cases bs[k].kx with
   | false=>rfl
   | true=>
    rw [aQ,zz,aB,Bool.true_and]
    cases kn bs[k] pcs[j].eU with
    | false=>rfl
    | true=>
     rw [aQ,qL (fun r=>EL r (t5 bs[k])) (by have:=hr _ (cR hj);omega) (fun r _=>by
      unfold jV;rw [mq hg.1];rfl),aB,Bool.true_and]
  ·rw [DO hjx]
   cases ht:n7 bs[k] pcs[j] with
   | false=>rw [aT,aH (by simp)];exact Ok.eq rfl (Ok.ret rfl)
   | true=>
    rw [aQ,aD rfl]
    refine Ok.eq (x:=ints (t9 (n7 bs[k]) pcs j)++[((j:Nat):Int)]) (by rw [jd (by rw [n0];simp;omega),aB]) (Ok.ret ?_)
    rw [uc];rfl
 ·subst e
  refine Ok.app ?_ (Ok.ret ?_)
  ·unfold tc;simp;omega
  ·unfold tc
   rw [eD hk,eE];rfl
def CV (r:List aG) (p:jy):Bool:=r.any (fun x=>decide (p.X>=x.X0)&&(decide (p.X<x.X1)&&(decide (p.Y>=x.Y0)&&decide (p.Y<x.Y1))))
theorem wU {r:List aG} {p:jy} (hl:r.length<=4611686018427387904):j7 N r p=some (CV r p):=by
 unfold j7
 rw [qL (fun x=>decide (p.X>=x.X0)&&(decide (p.X<x.X1)&&(decide (p.Y>=x.Y0)&&decide (p.Y<x.Y1)))) hl (fun x _=>by
  unfold lj
  cases decide (p.X>=x.X0) <;> cases decide (p.X<x.X1) <;> cases decide (p.Y>=x.Y0) <;> rfl)];rfl
def vP (l:cU) (b:bJ):Bool:=b.kx&&(kn b l.eU&&CV [t5 b] l.At)
def wV (l:cU) (p:aN):Bool:=(p.eU==l.eU)&&CV p.pj l.At
def BE (bs:List bJ) (pcs:List aN) (l:cU):Option lT:=match bs.findIdx? (vP l) with
 | some k=>some ⟨true,((k:Nat):Int)⟩
 | none=>(pcs.findIdx? (wV l)).map fun k=>⟨false,((k:Nat):Int)⟩
theorem GS {bs:List bJ} {pcs:List aN} (hb:mL bs) (hp:pcs.length<=1073741824) (hr: ∀p∈pcs,p.pj.length<=1073741824) (l:cU):
  jJ N bs pcs l=some ((BE bs pcs l).getD ⟨false,0⟩,(BE bs pcs l).isSome):=by
 have hbl:=hb.len
 unfold jJ
 rw [rk (fun k=>(bs[k]?).bind fun x=>if vP l x=true then some ((⟨true,((k:Nat):Int)⟩:lT),true) else none) (by omega) (fun k hk _=>by
  have hkx:bs[k]? =some bs[k]:=aO hk
  have hg:=hb.ok _ (cR hk)
  rw [gv hkx,aB,hkx,mq hg.1,aB,aB,wU (by simp)]
  unfold vP
  cases bs[k].kx with
  | false=>rfl
  | true=>
   show (((bif kn bs[k] l.eU then _ else _:Option Bool)).bind _)=_
   cases kn bs[k] l.eU with
   | false=>rfl
   | true=>
    cases CV [t5 bs[k]] l.At <;> rfl),aB,wT (vP l) (fun k=>((⟨true,((k:Nat):Int)⟩:lT),true))]
 unfold BE
 cases bs.findIdx? (vP l) with
 | some k=>rfl
 | none=>
  show ((sW pcs.length _ ()).bind _)=_
  rw [rk (fun k=>(pcs[k]?).bind fun x=>if wV l x=true then some ((⟨false,((k:Nat):Int)⟩:lT),true) else none) (by omega) (fun k hk _=>by
   have hkx:pcs[k]? =some pcs[k]:=aO hk
   rw [gv hkx,aB,hkx,aB,wU (by have:=hr _ (cR hk);omega)]
   unfold wV
   cases pcs[k].eU==l.eU with
   | false=>rfl
   | true=>cases CV pcs[k].pj l.At <;> rfl),aB,wT (wV l) (fun k=>((⟨false,((k:Nat):Int)⟩:lT),true))]
  cases pcs.findIdx? (wV l) <;> rfl
def Lk (n:Nat) (tch:List (List Int)) (i j:Nat):Prop:=∃(k:Nat) (l:List Int),tch[k]? =some l/\((i:Nat):Int)∈l/\j=n+k
structure KT (n m:Nat) (tch:List (List Int)) (r:Nat->Nat):Prop where
 le: ∀i,i<n+m->r i<=i
 rr: ∀i,i<n+m->r (r i)=r i
 co: ∀i j,Lk n tch i j->r i=r j
 fi: ∀S:Nat->Prop,(∀i j,Lk n tch i j->(S i↔S j))->∀i j,i<n+m->j<n+m->r i=r j->S i->S j
theorem FC {n m:Nat} {tch:List (List Int)} (hm:tch.length=m) (ht: ∀l∈tch,l.length<=1073741824/\∀x∈l,∃i:Nat,i<n/\x= ((i:Nat):Int)) (hn:n<=1073741824) (hm2:m<=1073741824) {up:List Int} (hu:UF (n+m) up (fun i=>i)) (hN:4398046511104<=N):
  Ok (mN tch.length (fun(k34:Nat) (s35: (List Int))=>((idx tch (k34:Int)).bind fun x89=>(mN x89.length (fun(k92:Nat) (s93: (List Int))=>((idx x89 (k92:Int)).bind fun x107=>(gU N s93 x107 (IntKind.wrap .i64 ((n:Int)+ (k34:Int)))).bind fun x109=>some x109:Option ((List Int)))) s35).bind fun s93=>some s93:Option ((List Int)))) up)
   (fun up'=>∃r,UF (n+m) up' r/\KT n m tch r):=by
 have base:Ok (mN tch.length (fun(k34:Nat) (s35: (List Int))=>((idx tch (k34:Int)).bind fun x89=>(mN x89.length (fun(k92:Nat) (s93: (List Int))=>((idx x89 (k92:Int)).bind fun x107=>(gU N s93 x107 (IntKind.wrap .i64 ((n:Int)+ (k34:Int)))).bind fun x109=>some x109:Option ((List Int)))) s35).bind fun s93=>some s93:Option ((List Int)))) up)
   (fun up'=>∃r E,UF (n+m) up' r/\p8 r E/\zk (n+m) r E/\(∀p∈E,Lk n tch p.1 p.2)/\∀(k:Nat) l (i:Nat),k<tch.length->tch[k]? =some l->((i:Nat):Int)∈l->(i,n+k)∈E):=by
  refine Ok.mN (fun q up'=>∃r E,UF (n+m) up' r/\p8 r E/\zk (n+m) r E/\(∀p∈E,Lk n tch p.1 p.2)/\∀(k:Nat) l (i:Nat),k<q->tch[k]? =some l->((i:Nat):Int)∈l->(i,n+k)∈E) (by omega)
   ⟨_,_,hu,p8.id,zk.id _,fun p hp=>(by cases hp),fun k l i hk=>by omega⟩ (fun q up' hq hI=>?_)
  obtain⟨r,E,h1,h2,h3,h4,h5⟩:=hI
  have hqx:tch[q]? =some tch[q]:=aO hq
  obtain⟨hl1,hl2⟩:=ht _ (cR hq)
  refine Ok.ix hqx ?_
  rw [wrap_add (by omega)]
  refine Ok.bind (Ok.mN (fun t up'=>∃r E,UF (n+m) up' r/\p8 r E/\zk (n+m) r E/\(∀p∈E,Lk n tch p.1 p.2)/\(∀(k:Nat) l (i:Nat),k<q->tch[k]? =some l->((i:Nat):Int)∈l->(i,n+k)∈E)/\∀i:Nat,((i:Nat):Int)∈tch[q].take t->(i,n+q)∈E) (by omega)
   ⟨r,E,h1,h2,h3,h4,h5,fun i hi=>by simp at hi⟩ (fun t up' htl hI=>?_)) (fun up' hI=>Ok.ret ?_)
  ·obtain⟨r,E,h1,h2,h3,h4,h5,h6⟩:=hI
   refine Ok.idx htl ?_
   obtain⟨i,hi,e⟩:=hl2 _ (cR htl)
   rw [e]
   obtain⟨u2,a1,a2⟩:=HQ (N:=N) h1 (i:=i) (k:=n+q) (by omega) (by omega) (by omega)
   refine Ok.eq a1 (Ok.ret ⟨_,_,a2,h2.join i (n+q) (h1.rr i (by omega)),h3.join (by omega) (by omega),fun p hp=>?_,fun k l j hk hl hj=>List.mem_append_left _ (h5 k l j hk hl hj),fun j hj=>?_⟩)
   ·rcases dC.1 hp with hp | hp
    ·exact h4 p hp
    ·simp at hp;subst hp
     exact⟨q,tch[q],hqx,by rw [<-e];exact cR htl,rfl⟩
   ·rw [eD htl,dC] at hj
    rcases hj with hj | hj
    ·exact List.mem_append_left _ (h6 j hj)
    ·rw [List.mem_singleton,e] at hj
     have:j=i:=by omega
     subst this;simp
  ·obtain⟨r,E,h1,h2,h3,h4,h5,h6⟩:=hI
   refine⟨r,E,h1,h2,h3,h4,fun k l i hk hl hi=>?_⟩
   by_cases hkq:k<q
   ·exact h5 k l i hkq hl hi
   ·have:k=q:=by omega
    subst this
    rw [hqx] at hl;injection hl with hl;subst hl
    exact h6 i (by rw [fJ];exact hi)
 obtain⟨up',e,r,E,h1,h2,h3,h4,h5⟩:=base
 have hE: ∀i j,Lk n tch i j->(i,j)∈E:=fun i j ⟨k,l,hl,hi,hj⟩=>by
  rw [hj];exact h5 k l i (bC.1 hl).1 hl hi
 exact⟨up',e,r,h1,h1.le,h1.rr,fun i j h=>h2 (i,j) (hE i j h),fun S hS i j hi hj=>h3 S (fun p hp=>hS p.1 p.2 (h4 p hp)) i j hi hj⟩
def Ad (bs:List bJ) (j:Nat):Bool:=(bs[j]?).any (fun b=>b.kx)
def gP (n:Nat) (c:List Nat):List Nat:=c.filter (fun i=>decide (i<n))
def gB (bs:List bJ) (n:Nat) (c:List Nat):List Nat:=(c.filter (fun i=> !decide (i<n)&&Ad bs (i - n))).map (fun i=>i - n)
def GU (bs:List bJ) (n:Nat) (c:List Nat):Bool:=decide (0< (gP n c).length+ (gB bs n c).length)
def MD (bs:List bJ) (n:Nat) (c:List Nat):eB:=⟨ints (gP n c),ints (gB bs n c),[]⟩
theorem EM (n:Nat) (c:List Nat) (i:Nat):gP n (c++[i])=if i<n then gP n c++[i] else gP n c:=by
 unfold gP;rw [ka];split <;> rename_i h <;> simp [h]
theorem EN (bs:List bJ) (n:Nat) (c:List Nat) (i:Nat):gB bs n (c++[i])=if i<n then gB bs n c else if Ad bs (i - n)=true then gB bs n c++[i - n] else gB bs n c:=by
 unfold gB;rw [ka,eE]
 split
 ·rename_i h;simp [h]
 ·rename_i h
  split <;> rename_i h2 <;> simp [h,h2]
theorem GV (n:Nat) (c:List Nat): (gP n c).length<=c.length:=nP _ _
theorem GW (bs:List bJ) (n:Nat) (c:List Nat): (gB bs n c).length<=c.length:=by unfold gB;rw [dS];exact nP _ _
def live (bs:List bJ) (n t:Nat) (r:Nat->Nat) (hs:List Nat):List Nat:=hs.filter (fun h=>GU bs n (cls t r h))
def sN (bs:List bJ) (n t:Nat) (r:Nat->Nat) (hs:List Nat):List eB:=(live bs n t r hs).map (fun h=>MD bs n (cls t r h))
theorem FD (bs:List bJ) (n t:Nat) (r:Nat->Nat) (hs:List Nat) (h:Nat):live bs n t r (hs++[h])=if GU bs n (cls t r h)=true then live bs n t r hs++[h] else live bs n t r hs:=by
 unfold live;rw [ka];split <;> rename_i h2 <;> simp [h2]
theorem wW (bs:List bJ) (n t:Nat) (r:Nat->Nat) (hs:List Nat): (sN bs n t r hs).length= (live bs n t r hs).length:=by unfold sN;rw [dS]
def gi (bs:List bJ) (n t:Nat) (r:Nat->Nat) (h:Nat):Nat:=(live bs n t r ((bO t r).takeWhile (fun x=>decide (x≠h)))).length
theorem vg {l:List Nat} (hn:l.Nodup) {k h:Nat} (hk:l[k]? =some h):l.takeWhile (fun x=>decide (x≠h))=l.take k:=by
 induction l generalizing k with
 | nil=>simp at hk
 | cons a l ih=>
  cases k with
  | zero=>simp at hk;subst hk;simp
  | succ k=>
   have hk:l[k]? =some h:=by simpa using hk
   have hne:a≠h:=fun e=>(List.nodup_cons.1 hn).1 (by rw [e];exact gh hk)
   rw [List.takeWhile_cons,aD (by simpa using hne),List.take_succ_cons,ih (List.nodup_cons.1 hn).2 hk]
theorem wX (bs:List bJ) (n t:Nat) (r:Nat->Nat) (hs:List Nat): (live bs n t r hs).length<=hs.length:=nP _ _
theorem KU {bs:List bJ} {n t:Nat} {r:Nat->Nat} {h:Nat} (hh:h∈bO t r) (hne:GU bs n (cls t r h)=true):gi bs n t r h< (live bs n t r (bO t r)).length/\(live bs n t r (bO t r))[gi bs n t r h]? =some h:=by
 obtain⟨k,hk⟩:=eR hh
 have hkl:=(bC.1 hk).1
 unfold gi
 rw [vg (nJ t r) hk]
 have e:bO t r= (bO t r).take k++h::(bO t r).drop (k+1):=by
  have h1:=(List.take_append_drop k (bO t r)).symm
  rw [r8 hkl,(bC.1 hk).2] at h1;exact h1
 have e2:live bs n t r (bO t r)=live bs n t r ((bO t r).take k)++h::live bs n t r ((bO t r).drop (k+1)):=by
  conv=>lhs;rw [e]
  unfold live
  rw [ka,List.filter_cons,aD hne]
 constructor
 ·rw [e2];simp
 ·rw [e2]
  simp
end
end Go.Gk
