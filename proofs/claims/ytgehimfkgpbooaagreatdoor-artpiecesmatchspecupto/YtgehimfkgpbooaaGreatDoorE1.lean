/-
  Helping texts: plain functions and plain laws. No statement of the seed is proved here.
-/
import Derived.Test.YtgehimfkgpbooaaGreatDoorA1
import Derived.ChangeShapes
import Derived.ChangeSame
import Derived.Carry
import Derived.RowKit
import Derived.Test.YtgehimfkgpbooaaGreatDoorA2
set_option linter.unusedVariables false
set_option linter.unusedSimpArgs false
set_option linter.unusedSectionVars false
namespace Go.Gk
open Go
noncomputable section
structure aI where
 X0:Int
 Y0:Int
 X1:Int
 Y1:Int
 deriving DecidableEq,Inhabited
structure jc where
 X:Int
 Y:Int
 deriving DecidableEq,Inhabited
structure cD where
 At:jc
 dE:Int
 cN:Int
 To:Int
 fJ:Bool
 deriving DecidableEq,Inhabited
structure fK where
 Part:eG
 fk:eG
 cU:Int
 At:jc
 deriving DecidableEq,Inhabited
structure ld where
 aJ: (List (List aI))
 cE: (List aI)
 aO: (List cD)
 bV: (List fK)
 deriving DecidableEq,Inhabited
structure aA where
 Y0:Int
 Y1:Int
 Xs: (List Int)
 deriving DecidableEq,Inhabited
structure fk where
 Part:eG
 fk:eG
 deriving DecidableEq,Inhabited
structure aK where
 cU:Int
 Set: (List aA)
 gM: (List aI)
 deriving DecidableEq,Inhabited
structure cO where
 jP: (List Int)
 aO: (List Int)
 fW: (List fk)
 deriving DecidableEq,Inhabited
structure j9 where
 cD:Bool
 Number:Int
 deriving DecidableEq,Inhabited
structure aF where
 from_:Int
 to:Int
 deriving DecidableEq,Inhabited
structure aL where
 from_:Int
 to:Int
 iN: (List aF)
 deriving DecidableEq,Inhabited
def sG (N:Nat) (p0 p1 p2:Int):Option (Bool):=
 some ((decide (p0>=p1))&&(decide (p0<=p2)))
def lk (N:Nat) (p0:Int):Option (Bool):=
 (sG N p0 (-1000000) 1000000).bind fun j=>some j
def mF (N:Nat) (p0:aI):Option (Bool):=
 ((lk N p0.X0).bind fun j=>bif j then ((lk N p0.Y0).bind fun o=>bif o then ((lk N p0.X1).bind fun aa=>bif aa then ((lk N p0.Y1).bind fun ab=>some ab) else (some false)) else (some false)) else (some false)).bind fun ad=>some ad
def kN (N:Nat) (p0: (List aI)):Option (Int):=
 bif (decide ((p0.length:Int)>2000)) then (some 2) else ((uY p0.length (fun(o:Nat) (aa:Unit)=>((idx p0 (o:Int)).bind fun j=>(mF N j).bind fun ab=>bif (!ab) then (some (.rt 1)) else (bif ((decide (j.X1<=j.X0))||(decide (j.Y1<=j.Y0))) then (some (.rt 13)) else (some (.nx ()))):Option (Fl (Unit) Int))) ()).bind fun ad=>ad.cs (fun(aa:Unit)=>some 0) (fun r=>some r))
def jt (N:Nat) (p0: (List aI)):Option ((List aI)):=
 (app 32 ([]: (List aI)) p0).bind fun j=>some j
def jQ (N:Nat) (p0 p1:aI):Option (Int):=
 some (IntKind.wrap .i64 (p0.Y0 - p1.Y0))
def gW (N:Nat) (p0: (List Int)):Option ((List Int)):=
 bif (decide ((p0.length:Int)<2)) then (some p0) else ((jz (fun(o:Int)=>(bif (decide (o< (p0.length:Int))) then ((idx p0 o).bind fun ab=>(idx p0 (IntKind.wrap .i64 (o - 1))).bind fun ad=>bif (ab==ad) then ((sC p0 o (p0.length:Int)).bind fun ak=>(jz (fun(j: (List Int)×Int×Int)=>(bif (decide (j.2.2< (((j.1.length - Int.toNat o):Nat):Int))) then ((DY j.1 o j.2.2).bind fun ae=>(DY j.1 o (IntKind.wrap .i64 (j.2.2 - 1))).bind fun af=>(bif (ae != af) then ((DY j.1 o j.2.2).bind fun ag=>(idx j.1 j.2.1).bind fun al=>some ((j.1.set (Int.toNat j.2.1) ag),(IntKind.wrap .i64 (j.2.1+1)))) else (some (j.1,j.2.1))).bind fun aa=>some (.nx (aa.1,aa.2,(IntKind.wrap .i64 (j.2.2+1))))) else (some (.br (j.1,j.2.1,j.2.2))):Option (Fl ((List Int)×Int×Int) Empty))) N (p0,o,1)).bind fun ah=>ah.cs (fun(j: (List Int)×Int×Int)=>(sC j.1 j.2.1 (j.1.length:Int)).bind fun an=>(sC (j.1.take (Int.toNat j.2.1)++List.replicate (j.1.length - Int.toNat j.2.1) (0:Int)) 0 j.2.1).bind fun ai=>some (.rt ai)) (fun r=>r.elim)) else (some (.nx (IntKind.wrap .i64 (o+1))))) else (some (.br o)):Option (Fl (Int) (List Int)))) N 1).bind fun aj=>aj.cs (fun(o:Int)=>some p0) (fun r=>some r))
def nY (N:Nat) (p0:aI) (p1: (List Int)) (p2:Int):Option (Bool):=
 (idx p1 p2).bind fun j=>some (decide (p0.Y1<=j))
def lN (N:Nat) (p0: (List aI)) (p1:aI->Option Bool):Option (Int):=
 (uY p0.length (fun(j:Nat) (o:Unit)=>((idx p0 (j:Int)).bind fun aa=>(p1 aa).bind fun ab=>bif ab then (some (.rt (j:Int))) else (some (.nx ())):Option (Fl (Unit) Int))) ()).bind fun ad=>ad.cs (fun(o:Unit)=>some (-1)) (fun r=>some r)
def kB (N:Nat) (p0: (List aI)) (p1:aI->Option Bool):Option (Int):=
 (uY p0.length (fun(j:Nat) (o:Unit)=>((idx p0 (j:Int)).bind fun aa=>(p1 aa).bind fun ab=>bif ab then (some (.rt (j:Int))) else (some (.nx ())):Option (Fl (Unit) Int))) ()).bind fun ad=>ad.cs (fun(o:Unit)=>some (-1)) (fun r=>some r)
def iE (N:Nat) (p0: (List aI)) (p1:aI->Option Bool):Option ((List aI)):=
 (kB N p0 p1).bind fun o=>bif (o==(-1)) then (some p0) else ((jz (fun(j: (List aI)×Int×Int)=>(bif (decide (j.2.2< (j.1.length:Int))) then ((idx j.1 j.2.2).bind fun aa=>(p1 aa).bind fun ad=>(bif (!ad) then ((idx j.1 j.2.1).bind fun ag=>some ((j.1.set (Int.toNat j.2.1) aa),(IntKind.wrap .i64 (j.2.1+1)))) else (some (j.1,j.2.1))).bind fun ab=>some (.nx (ab.1,ab.2,(IntKind.wrap .i64 (j.2.2+1))))) else (some (.br (j.1,j.2.1,j.2.2))):Option (Fl ((List aI)×Int×Int) Empty))) N (p0,o,(IntKind.wrap .i64 (o+1)))).bind fun ae=>ae.cs (fun(j: (List aI)×Int×Int)=>(sC j.1 j.2.1 (j.1.length:Int)).bind fun ah=>(sC (j.1.take (Int.toNat j.2.1)++List.replicate (j.1.length - Int.toNat j.2.1) (⟨0,0,0,0⟩:aI)) 0 j.2.1).bind fun af=>some af) (fun r=>r.elim))
def gX (N:Nat) (p0 p1:aI):Option (Int):=
 some (IntKind.wrap .i64 (p0.X0 - p1.X0))
def jB (N:Nat) (p0: (List aI)):Option ((List Int)×(List aI)):=
 (wv (gX N) p0).bind fun aa=>(nE aa.length (fun(ad:Nat) (j: (List Int))=>((idx aa (ad:Int)).bind fun o=>(bif (decide ((IntKind.wrap .i64 ((j.length:Int) - 1))>=0)) then ((idx j (IntKind.wrap .i64 ((j.length:Int) - 1))).bind fun ae=>some (decide (o.X0<=ae))) else (some false)).bind fun af=>(bif af then ((idx j (IntKind.wrap .i64 ((j.length:Int) - 1))).bind fun ab=>(idx j (IntKind.wrap .i64 ((j.length:Int) - 1))).bind fun ai=>some (j.set (Int.toNat (IntKind.wrap .i64 ((j.length:Int) - 1))) (if ab<o.X1 then o.X1 else ab))) else ((app 8 j ([o.X0,o.X1]: (List Int))).bind fun ag=>some ag)).bind fun ah=>some ah:Option ((List Int)))) ([]: (List Int))).bind fun j=>some (j,aa)
def kO (N:Nat) (p0: (List Int)) (p1: (List Int)):Option (Bool):=
 bif ((p0.length:Int) != (p1.length:Int)) then (some false) else ((uY p0.length (fun(j:Nat) (o:Unit)=>((idx p0 (j:Int)).bind fun aa=>(idx p1 (j:Int)).bind fun ab=>bif (aa != ab) then (some (.rt false)) else (some (.nx ())):Option (Fl (Unit) Bool))) ()).bind fun ad=>ad.cs (fun(o:Unit)=>some true) (fun r=>some r))
def jh (N:Nat) (p0: (List aA)) (p1:aA):Option ((List aA)):=
 bif (((p1.Xs.length:Int)==0)||(decide (p1.Y1<=p1.Y0))) then (some p0) else ((bif (decide ((IntKind.wrap .i64 ((p0.length:Int) - 1))>=0)) then ((idx p0 (IntKind.wrap .i64 ((p0.length:Int) - 1))).bind fun j=>bif (j.Y1==p1.Y0) then ((idx p0 (IntKind.wrap .i64 ((p0.length:Int) - 1))).bind fun o=>(kO N o.Xs p1.Xs).bind fun aa=>some aa) else (some false)) else (some false)).bind fun ab=>bif ab then ((idx p0 (IntKind.wrap .i64 ((p0.length:Int) - 1))).bind fun ad=>some (p0.set (Int.toNat (IntKind.wrap .i64 ((p0.length:Int) - 1))) ({ad with Y1:=p1.Y1}))) else ((app 40 p0 ([p1]: (List aA))).bind fun ae=>some ae))
def ij (N:Nat) (p0: (List aI)):Option ((List aA)):=
 (jt N p0).bind fun ag=>(wv (jQ N) ag).bind fun aa=>(nE aa.length (fun(ah:Nat) (ad: (List Int))=>((idx aa (ah:Int)).bind fun ae=>(app 8 ad ([ae.Y0,ae.Y1]: (List Int))).bind fun ai=>some ai:Option ((List Int)))) ([]: (List Int))).bind fun ad=>(tV ad).bind fun aj=>(gW N aj).bind fun ab=>(jz (fun(j: (List aA)×(List aI)×Int×Int)=>(bif (decide ((IntKind.wrap .i64 (j.2.2.2+1))< (ab.length:Int))) then ((iE N j.2.1 (fun y0=>nY N y0 ab j.2.2.2)).bind fun ak=>(jz (fun(o: (List aI)×Int)=>((bif (decide (o.2< (aa.length:Int))) then ((idx aa o.2).bind fun al=>(idx ab j.2.2.2).bind fun an=>some (decide (al.Y0<=an))) else (some false)).bind fun ao=>bif ao then ((idx aa o.2).bind fun aq=>(app 32 o.1 ([aq]: (List aI))).bind fun ar=>some (.nx (ar,(IntKind.wrap .i64 (o.2+1))))) else (some (.br (o.1,o.2))):Option (Fl ((List aI)×Int) Empty))) N (ak,j.2.2.1)).bind fun au=>au.cs (fun(o: (List aI)×Int)=>(idx ab j.2.2.2).bind fun av=>(idx ab (IntKind.wrap .i64 (j.2.2.2+1))).bind fun aw=>(jB N o.1).bind fun af=>(jh N j.1 (⟨av,aw,af.1⟩:aA)).bind fun ax=>some (.nx (ax,af.2,o.2,(IntKind.wrap .i64 (j.2.2.2+1))))) (fun r=>r.elim)) else (some (.br (j.1,j.2.1,j.2.2.1,j.2.2.2))):Option (Fl ((List aA)×(List aI)×Int×Int) Empty))) N (([]: (List aA)),([]: (List aI)),0,0)).bind fun ay=>ay.cs (fun(j: (List aA)×(List aI)×Int×Int)=>some j.1) (fun r=>r.elim)
def jC (N:Nat) (p0: (List aA)):Option ((List aI)):=
 (nE p0.length (fun(ab:Nat) (aa: (List aI))=>((idx p0 (ab:Int)).bind fun o=>(jz (fun(j: (List aI)×Int)=>(bif (decide (j.2< (o.Xs.length:Int))) then ((idx o.Xs j.2).bind fun ad=>(idx o.Xs (IntKind.wrap .i64 (j.2+1))).bind fun ae=>(app 32 j.1 ([(⟨ad,o.Y0,ae,o.Y1⟩:aI)]: (List aI))).bind fun af=>some (.nx (af,(IntKind.wrap .i64 (j.2+2))))) else (some (.br (j.1,j.2))):Option (Fl ((List aI)×Int) Empty))) N (aa,0)).bind fun ag=>ag.cs (fun(j: (List aI)×Int)=>some j.1) (fun r=>r.elim):Option ((List aI)))) ([]: (List aI))).bind fun aa=>some aa
def km (N:Nat) (p0: (List aI)) (p1: (List aI)):Option (Bool):=
 bif ((p0.length:Int) != (p1.length:Int)) then (some false) else ((uY p0.length (fun(j:Nat) (o:Unit)=>((idx p0 (j:Int)).bind fun aa=>(idx p1 (j:Int)).bind fun ab=>bif (!(decide (aa=ab))) then (some (.rt false)) else (some (.nx ())):Option (Fl (Unit) Bool))) ()).bind fun ad=>ad.cs (fun(o:Unit)=>some true) (fun r=>some r))
def ju (N:Nat) (p0: (List aI)):Option (Int):=
 (kN N p0).bind fun ab=>bif (ab != 0) then (some ab) else ((jz (fun(j:Int)=>(bif (decide (j< (p0.length:Int))) then ((idx p0 (IntKind.wrap .i64 (j - 1))).bind fun o=>(idx p0 j).bind fun aa=>bif ((decide (aa.Y0<o.Y0))||((aa.Y0==o.Y0)&&(decide (aa.X0<=o.X0)))) then (some (.rt 8)) else (some (.nx (IntKind.wrap .i64 (j+1))))) else (some (.br j)):Option (Fl (Int) Int))) N 1).bind fun ad=>ad.cs (fun(j:Int)=>(ij N p0).bind fun ae=>(jC N ae).bind fun af=>(km N af p0).bind fun ag=>bif (!ag) then (some 3) else (some 0)) (fun r=>some r))
def fg (N:Nat) (p0 p1 p2:Int):Option (Bool):=
 some ((decide (p0>=p1))&&(decide (p0<=p2)))
def jK (N:Nat) (p0:jc):Option (Bool):=
 ((lk N p0.X).bind fun j=>bif j then ((lk N p0.Y).bind fun o=>some o) else (some false)).bind fun aa=>some aa
def gp (N:Nat) (p0:cD):Option (aI):=
 some (⟨(IntKind.wrap .i64 (p0.At.X - (IntKind.wrap .i64 (Int.tdiv p0.dE 2)))),(IntKind.wrap .i64 (p0.At.Y - (IntKind.wrap .i64 (Int.tdiv p0.dE 2)))),(IntKind.wrap .i64 ((IntKind.wrap .i64 (p0.At.X - (IntKind.wrap .i64 (Int.tdiv p0.dE 2))))+p0.dE)),(IntKind.wrap .i64 ((IntKind.wrap .i64 (p0.At.Y - (IntKind.wrap .i64 (Int.tdiv p0.dE 2))))+p0.dE))⟩:aI)
def mG (N:Nat) (p0: (List aA)):Option (aI):=
 (idx p0 0).bind fun ad=>(idx ad.Xs 0).bind fun ae=>(idx p0 0).bind fun af=>(idx p0 0).bind fun ag=>(idx ag.Xs 1).bind fun ah=>(idx p0 (IntKind.wrap .i64 ((p0.length:Int) - 1))).bind fun ai=>(nE p0.length (fun(aj:Nat) (j:aI)=>((idx p0 (aj:Int)).bind fun o=>(idx o.Xs 0).bind fun aa=>(idx o.Xs (IntKind.wrap .i64 ((o.Xs.length:Int) - 1))).bind fun ab=>some ({{j with X0:=(if aa<j.X0 then aa else j.X0)} with X1:=(if j.X1<ab then ab else j.X1)}):Option (aI))) (⟨ae,af.Y0,ah,ai.Y1⟩:aI)).bind fun j=>some j
def l9 (N:Nat) (p0: (List aA)):Option (Bool):=
 (bif ((p0.length:Int)==0) then (some true) else ((mG N p0).bind fun j=>(mF N j).bind fun o=>some o)).bind fun aa=>some aa
def kC (N:Nat) (p0:cD):Option (aI×Int):=
 ((fg N p0.dE 1 10000).bind fun o=>bif (!o) then (some true) else ((jK N p0.At).bind fun aa=>some (!aa))).bind fun ab=>bif ab then (some ((⟨0,0,0,0⟩:aI),1)) else ((gp N p0).bind fun j=>(ij N ([j]: (List aI))).bind fun ad=>(l9 N ad).bind fun ae=>bif (!ae) then (some ((⟨0,0,0,0⟩:aI),1)) else (some (j,0)))
def kn (N:Nat) (p0:ld):Option (Int):=
 bif (decide ((p0.aO.length:Int)>500)) then (some 2) else ((uY p0.aO.length (fun(aa:Nat) (ab:Unit)=>((idx p0.aO (aa:Int)).bind fun j=>(kC N j).bind fun o=>bif (o.2 != 0) then (some (.rt o.2)) else (((fg N j.cN 0 (IntKind.wrap .i64 ((p0.aJ.length:Int) - 1))).bind fun ad=>bif (!ad) then (some true) else ((fg N j.To j.cN (IntKind.wrap .i64 ((p0.aJ.length:Int) - 1))).bind fun ae=>some (!ae))).bind fun af=>bif af then (some (.rt 1)) else (some (.nx ()))):Option (Fl (Unit) Int))) ()).bind fun ag=>ag.cs (fun(ab:Unit)=>some 0) (fun r=>some r))
def iR (N:Nat) (p0:eG) (p1:Int):Option (Int):=
 some (Lib.indexByte p0.cY (Int.toNat p1).toUInt8)
def ko (N:Nat) (p0 p1:eG):Option (Int):=
 bif (((p1.cY.length:Int)==0)||(p1.sA p0)) then (some 0) else (bif ((p1.cY.length:Int)==1) then ((DT p1 0).bind fun j=>(iR N p0 (j.toNat:Int)).bind fun o=>some o) else (bif (decide ((p1.cY.length:Int)>=(p0.cY.length:Int))) then (some (-1)) else (none)))
def lF (N:Nat) (p0 p1:eG):Option (Int):=
 (ko N p0 p1).bind fun j=>some j
def mZ (N:Nat) (p0 p1:eG):Option (Int):=
 bif ((p1.cY.length:Int)==0) then (none) else (bif ((p1.cY.length:Int)==1) then ((DT p1 0).bind fun aa=>some ((Lib.countByte p0.cY (Int.toNat (aa.toNat:Int)).toUInt8:Nat):Int)) else ((jz (fun(j:eG×Int)=>((lF N j.1 p1).bind fun o=>bif (o==(-1)) then (some (.rt j.2)) else ((vE j.1 (IntKind.wrap .i64 (o+ (p1.cY.length:Int))) (j.1.cY.length:Int)).bind fun ab=>some (.nx (ab,(IntKind.wrap .i64 (j.2+1))))):Option (Fl (eG×Int) Int))) N (p0,0)).bind fun ad=>ad.cs (fun(j:eG×Int)=>some 0) (fun r=>some r)))
def mH (N:Nat) (p0 p1:eG) (p2 p3:Int):Option ((List eG)):=
 bif (p3==0) then (some ([]: (List eG))) else (bif (p1.sA (⟨[]⟩)) then (none) else ((bif (decide (p3<0)) then ((mZ N p0 p1).bind fun ab=>some (IntKind.wrap .i64 (ab+1))) else (some p3)).bind fun o=>(mk 16 (⟨[]⟩:eG) (if (IntKind.wrap .i64 ((p0.cY.length:Int)+1))<o then (IntKind.wrap .i64 ((p0.cY.length:Int)+1)) else o)).bind fun ad=>(jz (fun(j:eG×(List eG)×Int)=>(bif (decide (j.2.2< (IntKind.wrap .i64 ((if (IntKind.wrap .i64 ((p0.cY.length:Int)+1))<o then (IntKind.wrap .i64 ((p0.cY.length:Int)+1)) else o) - 1)))) then ((lF N j.1 p1).bind fun aa=>bif (decide (aa<0)) then (some (.br (j.1,j.2.1,j.2.2))) else ((vE j.1 0 (IntKind.wrap .i64 (aa+p2))).bind fun ae=>(idx j.2.1 j.2.2).bind fun ai=>(vE j.1 (IntKind.wrap .i64 (aa+ (p1.cY.length:Int))) (j.1.cY.length:Int)).bind fun af=>some (.nx (af,(j.2.1.set (Int.toNat j.2.2) ae),(IntKind.wrap .i64 (j.2.2+1)))))) else (some (.br (j.1,j.2.1,j.2.2))):Option (Fl (eG×(List eG)×Int) Empty))) N (p0,ad,0)).bind fun ag=>ag.cs (fun(j:eG×(List eG)×Int)=>(idx j.2.1 j.2.2).bind fun aj=>(sC (j.2.1.set (Int.toNat j.2.2) j.1) 0 (IntKind.wrap .i64 (j.2.2+1))).bind fun ah=>some ah) (fun r=>r.elim)))
def lG (N:Nat) (p0 p1:eG):Option ((List eG)):=
 (mH N p0 p1 0 (-1)).bind fun j=>some j
def kP (N:Nat) (p0: (List eG)) (p1:eG->Option Bool):Option (Int):=
 (uY p0.length (fun(j:Nat) (o:Unit)=>((idx p0 (j:Int)).bind fun aa=>(p1 aa).bind fun ab=>bif ab then (some (.rt (j:Int))) else (some (.nx ())):Option (Fl (Unit) Int))) ()).bind fun ad=>ad.cs (fun(o:Unit)=>some (-1)) (fun r=>some r)
def iF (N:Nat) (p0: (List eG)) (p1:eG->Option Bool):Option (Bool):=
 (kP N p0 p1).bind fun j=>some (decide (j>=0))
def gF (N:Nat) (p0:eG) (p1:Int):Option (Int):=
 (iR N p0 p1).bind fun j=>some j
def ji (N:Nat) (p0:eG):Option (Bool):=
 (uY p0.cY.length (fun(o:Nat) (aa:Unit)=>((DT p0 (o:Int)).bind fun j=>(bif ((((decide ((j.toNat:Int)<65))||(decide ((j.toNat:Int)>90)))&&((decide ((j.toNat:Int)<97))||(decide ((j.toNat:Int)>122))))&&((decide ((j.toNat:Int)<48))||(decide ((j.toNat:Int)>57)))) then ((gF N (⟨[95,43,45,35]⟩) (j.toNat:Int)).bind fun ab=>some (decide (ab<0))) else (some false)).bind fun ad=>bif ad then (some (.rt false)) else (some (.nx ())):Option (Fl (Unit) Bool))) ()).bind fun ae=>ae.cs (fun(aa:Unit)=>some ((decide ((p0.cY.length:Int)>=1))&&(decide ((p0.cY.length:Int)<=40)))) (fun r=>some r)
def iG (N:Nat) (p0:eG):Option (Bool):=
 (ji N p0).bind fun j=>some (!j)
def ma (N:Nat) (p0:eG):Option (Bool):=
 (bif (decide ((p0.cY.length:Int)<=200)) then ((lG N p0 (⟨[47]⟩)).bind fun j=>(iF N j (iG N)).bind fun o=>some (!o)) else (some false)).bind fun aa=>some aa
def mI (N:Nat) (p0:fK):Option (fk):=
 some (⟨p0.Part,p0.fk⟩:fk)
def lO (N:Nat) (p0 p1:eG):Option (Int):=
 some (Lib.compareBytes p0.cY p1.cY)
def nk (N:Nat) (p0 p1:eG):Option (Int):=
 (lO N p0 p1).bind fun j=>some j
def jD (N:Nat) (p0 p1:fk):Option (Int):=
 (nk N p0.Part p1.Part).bind fun j=>bif (j != 0) then (some j) else ((nk N p0.fk p1.fk).bind fun o=>some o)
def kp (N:Nat) (p0:ld):Option (Int):=
 bif (decide ((p0.bV.length:Int)>1000)) then (some 2) else ((uY p0.bV.length (fun(o:Nat) (aa:Unit)=>((idx p0.bV (o:Int)).bind fun j=>((ma N j.Part).bind fun ab=>bif (!ab) then (some true) else ((ji N j.fk).bind fun ad=>some (!ad))).bind fun ae=>bif ae then (some (.rt 5)) else (((fg N j.cU 0 (IntKind.wrap .i64 ((p0.aJ.length:Int) - 1))).bind fun af=>bif (!af) then (some true) else ((jK N j.At).bind fun ag=>some (!ag))).bind fun ah=>bif ah then (some (.rt 1)) else ((bif (decide ((o:Int)>0)) then ((idx p0.bV (IntKind.wrap .i64 ((o:Int) - 1))).bind fun ai=>(mI N j).bind fun aj=>(mI N ai).bind fun ak=>(jD N aj ak).bind fun al=>some (decide (al<=0))) else (some false)).bind fun an=>bif an then (some (.rt 8)) else (some (.nx ())))):Option (Fl (Unit) Int))) ()).bind fun ao=>ao.cs (fun(aa:Unit)=>some 0) (fun r=>some r))
def lH (N:Nat) (p0 p1:Int) (p2 p3:Int):Option (Int):=
 some (if (if 0< (IntKind.wrap .i64 ((IntKind.wrap .i64 (p2 - p1))+1)) then (IntKind.wrap .i64 ((IntKind.wrap .i64 (p2 - p1))+1)) else 0)< (IntKind.wrap .i64 ((IntKind.wrap .i64 (p0 - p3))+1)) then (IntKind.wrap .i64 ((IntKind.wrap .i64 (p0 - p3))+1)) else (if 0< (IntKind.wrap .i64 ((IntKind.wrap .i64 (p2 - p1))+1)) then (IntKind.wrap .i64 ((IntKind.wrap .i64 (p2 - p1))+1)) else 0))
def rD (N:Nat) (p0 p1:aI):Option (Int):=
 (lH N p0.X0 p0.X1 p1.X0 p1.X1).bind fun j=>(lH N p0.Y0 p0.Y1 p1.Y0 p1.Y1).bind fun o=>some (if j<o then o else j)
def kQ (N:Nat) (p0:cD) (p1:Int):Option (Bool):=
 some ((decide (p0.cN<=p1))&&(decide (p1<=p0.To)))
def mJ (N:Nat) (p0: (List aA)) (p1 p2:Int):Option ((List Int)×Int):=
 bif ((p0.length:Int)==0) then (some (([]: (List Int)),p2)) else ((idx p0 0).bind fun aa=>bif (decide (p1<aa.Y0)) then ((idx p0 0).bind fun j=>some (([]: (List Int)),(if j.Y0<p2 then j.Y0 else p2))) else ((idx p0 0).bind fun ab=>(idx p0 0).bind fun o=>some (ab.Xs,(if o.Y1<p2 then o.Y1 else p2))))
def p7 (N:Nat) (p0: (List Int)) (p1: (List Int)) (p2:Bool->Bool->Option Bool):Option ((List Int)):=
 (jz (fun(j: (List Int)×(List Int)×(List Int)×Bool×Bool×Bool)=>((bif (decide ((j.1.length:Int)>0)) then (some true) else (some (decide ((j.2.1.length:Int)>0)))).bind fun af=>bif af then ((bif ((j.2.1.length:Int)==0) then (some true) else (bif (decide ((j.1.length:Int)>0)) then ((idx j.1 0).bind fun ag=>(idx j.2.1 0).bind fun ah=>some (decide (ag<=ah))) else (some false))).bind fun ai=>(bif ai then ((idx j.1 0).bind fun aj=>some aj) else ((idx j.2.1 0).bind fun ak=>some ak)).bind fun o=>(bif (decide ((j.1.length:Int)>0)) then ((idx j.1 0).bind fun al=>some (al==o)) else (some false)).bind fun an=>(bif an then ((sC j.1 1 (j.1.length:Int)).bind fun ao=>some (ao,(!j.2.2.2.1))) else (some (j.1,j.2.2.2.1))).bind fun aa=>(bif (decide ((j.2.1.length:Int)>0)) then ((idx j.2.1 0).bind fun aq=>some (aq==o)) else (some false)).bind fun ar=>(bif ar then ((sC j.2.1 1 (j.2.1.length:Int)).bind fun au=>some (au,(!j.2.2.2.2.1))) else (some (j.2.1,j.2.2.2.2.1))).bind fun ab=>(p2 aa.2 ab.2).bind fun ad=>(bif (ad != j.2.2.2.2.2) then ((app 8 j.2.2.1 ([o]: (List Int))).bind fun av=>some (av,ad)) else (some (j.2.2.1,j.2.2.2.2.2))).bind fun ae=>some (.nx (aa.1,ab.1,ae.1,aa.2,ab.2,ae.2))) else (some (.br (j.1,j.2.1,j.2.2.1,j.2.2.2.1,j.2.2.2.2.1,j.2.2.2.2.2))):Option (Fl ((List Int)×(List Int)×(List Int)×Bool×Bool×Bool) Empty))) N (p0,p1,([]: (List Int)),false,false,false)).bind fun aw=>aw.cs (fun(j: (List Int)×(List Int)×(List Int)×Bool×Bool×Bool)=>some j.2.2.1) (fun r=>r.elim)
def oL (N:Nat) (p0: (List aA)) (p1: (List aA)) (p2:Bool->Bool->Option Bool):Option ((List aA)):=
 bif ((IntKind.wrap .i64 ((p0.length:Int)+ (p1.length:Int)))==0) then (some ([]: (List aA))) else ((nE (([p0,p1]: (List (List aA))).length) (fun(ah:Nat) (o:Int×Int)=>((idx ([p0,p1]: (List (List aA))) (ah:Int)).bind fun ad=>(bif (decide ((ad.length:Int)>0)) then ((bif ((ah:Int)==0) then (some true) else (some ((p0.length:Int)==0))).bind fun al=>(bif al then ((idx ad 0).bind fun an=>(idx ad (IntKind.wrap .i64 ((ad.length:Int) - 1))).bind fun ao=>some (an.Y0,ao.Y1)) else (some (o.1,o.2))).bind fun ag=>(idx ad 0).bind fun ai=>(idx ad (IntKind.wrap .i64 ((ad.length:Int) - 1))).bind fun aj=>some ((if ai.Y0<ag.1 then ai.Y0 else ag.1),(if ag.2<aj.Y1 then aj.Y1 else ag.2))) else (some (o.1,o.2))).bind fun ak=>some (ak.1,ak.2):Option (Int×Int))) (0,0)).bind fun o=>(jz (fun(j: (List aA)×(List aA)×(List aA)×Int)=>(bif (decide (j.2.2.2<o.2)) then ((jz (fun(aa: (List aA))=>((bif (decide ((aa.length:Int)>0)) then ((idx aa 0).bind fun aq=>some (decide (aq.Y1<=j.2.2.2))) else (some false)).bind fun ar=>bif ar then ((sC aa 1 (aa.length:Int)).bind fun au=>some (.nx au)) else (some (.br aa)):Option (Fl ((List aA)) Empty))) N j.1).bind fun av=>av.cs (fun(aa: (List aA))=>(jz (fun(ab: (List aA))=>((bif (decide ((ab.length:Int)>0)) then ((idx ab 0).bind fun aw=>some (decide (aw.Y1<=j.2.2.2))) else (some false)).bind fun ax=>bif ax then ((sC ab 1 (ab.length:Int)).bind fun ay=>some (.nx ay)) else (some (.br ab)):Option (Fl ((List aA)) Empty))) N j.2.1).bind fun az=>az.cs (fun(ab: (List aA))=>(mJ N aa j.2.2.2 o.2).bind fun ae=>(mJ N ab j.2.2.2 o.2).bind fun af=>(p7 N ae.1 af.1 p2).bind fun a0=>(jh N j.2.2.1 (⟨j.2.2.2,(if af.2<ae.2 then af.2 else ae.2),a0⟩:aA)).bind fun a1=>some (.nx (aa,ab,a1,(if af.2<ae.2 then af.2 else ae.2)))) (fun r=>r.elim)) (fun r=>r.elim)) else (some (.br (j.1,j.2.1,j.2.2.1,j.2.2.2))):Option (Fl ((List aA)×(List aA)×(List aA)×Int) Empty))) N (p0,p1,([]: (List aA)),o.1)).bind fun a2=>a2.cs (fun(j: (List aA)×(List aA)×(List aA)×Int)=>some j.2.2.1) (fun r=>r.elim))
def nZ (N:Nat) (p0 p1:Bool):Option (Bool):=
 some (p0&&(!p1))
def kR (N:Nat) (p0: (List aA)) (p1: (List aA)):Option ((List aA)):=
 (oL N p0 p1 (nZ N)).bind fun j=>some j
def mb (N:Nat) (p0: (List aA)):Option (Int):=
 (nE p0.length (fun(o:Nat) (j:Int)=>((idx p0 (o:Int)).bind fun aa=>some (IntKind.wrap .i64 (j+ (IntKind.wrap .i64 (Int.tdiv (aa.Xs.length:Int) 2)))):Option (Int))) 0).bind fun j=>some j
def fu (N:Nat) (p0:Int) (p1_0: (List Int)):Option (Int×(List Int)):=
 (jz (fun(j:Int×(List Int))=>((idx j.2 j.1).bind fun aa=>bif (aa != j.1) then ((idx j.2 j.1).bind fun ab=>(idx j.2 ab).bind fun o=>(idx j.2 j.1).bind fun af=>(idx (j.2.set (Int.toNat j.1) o) j.1).bind fun ad=>some (.nx (ad,(j.2.set (Int.toNat j.1) o)))) else (some (.br (j.1,j.2))):Option (Fl (Int×(List Int)) Empty))) N (p0,p1_0)).bind fun ae=>ae.cs (fun(j:Int×(List Int))=>some (j.1,j.2)) (fun r=>r.elim)
def lx (N:Nat) (p0: (List aA)):Option ((List (List aA))):=
 (jC N p0).bind fun ab=>(mk 8 (0:Int) (ab.length:Int)).bind fun an=>(nE an.length (fun(ai:Nat) (ag: (List Int))=>((idx ag (ai:Int)).bind fun bd=>some (ag.set (Int.toNat (ai:Int)) (ai:Int)):Option ((List Int)))) an).bind fun ag=>(nE p0.length (fun(aj:Nat) (aa: (List Int)×Int×Int)=>((idx p0 (aj:Int)).bind fun ak=>(bif (decide ((aj:Int)>0)) then ((idx p0 (IntKind.wrap .i64 ((aj:Int) - 1))).bind fun ar=>some (ar.Y1==ak.Y0)) else (some false)).bind fun au=>(bif au then ((jz (fun(j: (List Int)×Int×Int)=>(bif ((decide (j.2.1<aa.2.1))&&(decide (j.2.2< (IntKind.wrap .i64 (aa.2.1+ (IntKind.wrap .i64 (Int.tdiv (ak.Xs.length:Int) 2))))))) then (((idx ab j.2.1).bind fun av=>(idx ab j.2.2).bind fun aw=>bif (decide (av.X0<aw.X1)) then ((idx ab j.2.2).bind fun ax=>(idx ab j.2.1).bind fun ay=>some (decide (ax.X0<ay.X1))) else (some false)).bind fun az=>(bif az then ((fu N j.2.1 j.1).bind fun ae=>(fu N j.2.2 ae.2).bind fun ad=>(idx ad.2 (if ae.1<ad.1 then ad.1 else ae.1)).bind fun bf=>some (ad.2.set (Int.toNat (if ae.1<ad.1 then ad.1 else ae.1)) (if ad.1<ae.1 then ad.1 else ae.1))) else (some j.1)).bind fun a0=>(idx ab j.2.1).bind fun a1=>(idx ab j.2.2).bind fun a2=>(bif (decide (a1.X1<a2.X1)) then (some ((IntKind.wrap .i64 (j.2.1+1)),j.2.2)) else (some (j.2.1,(IntKind.wrap .i64 (j.2.2+1))))).bind fun ao=>some (.nx (a0,ao.1,ao.2))) else (some (.br (j.1,j.2.1,j.2.2))):Option (Fl ((List Int)×Int×Int) Empty))) N (aa.1,aa.2.2,aa.2.1)).bind fun a3=>a3.cs (fun(j: (List Int)×Int×Int)=>some j.1) (fun r=>r.elim)) else (some aa.1)).bind fun a4=>some (a4,(IntKind.wrap .i64 (aa.2.1+ (IntKind.wrap .i64 (Int.tdiv (ak.Xs.length:Int) 2)))),aa.2.1):Option ((List Int)×Int×Int))) (ag,0,0)).bind fun aa=>(nE ab.length (fun(aq:Nat) (o: (List Int)×(List (Int×Int))×(List (List aI)))=>((idx ab (aq:Int)).bind fun a5=>(fu N (aq:Int) o.1).bind fun ah=>(bif (!(tt o.2.1 ah.1)) then ((app 24 o.2.2 [([]: (List aI))]).bind fun a6=>some ((uZ o.2.1 ah.1 (o.2.2.length:Int)),a6,(o.2.2.length:Int))) else (some (o.2.1,o.2.2,(jg o.2.1 ah.1 (0:Int))))).bind fun af=>(idx af.2.1 af.2.2).bind fun a7=>(app 32 a7 ([a5]: (List aI))).bind fun a8=>(idx af.2.1 af.2.2).bind fun bg=>some (ah.2,af.1,(af.2.1.set (Int.toNat af.2.2) a8)):Option ((List Int)×(List (Int×Int))×(List (List aI))))) (aa.1,([]: (List (Int×Int))),([]: (List (List aI))))).bind fun o=>(nE o.2.2.length (fun(a9:Nat) (al: (List (List aA)))=>((idx o.2.2 (a9:Int)).bind fun ba=>(ij N ba).bind fun bb=>(app 24 al ([bb]: (List (List aA)))).bind fun bc=>some bc:Option ((List (List aA))))) ([]: (List (List aA)))).bind fun al=>some al
def jR (N:Nat) (p0_0: (List (List aI))) (p0_2: (List cD)) (p0_4: (List (List aA))) (p0_5: (List aK)):Option (Bool×(List (List aA))×(List aK)):=
 (nE p0_0.length (fun(aa:Nat) (j: (List (List aA))×(List aK)×Bool)=>((idx p0_0 (aa:Int)).bind fun ai=>(nE p0_2.length (fun(aj:Nat) (o: (List aI))=>((idx p0_2 (aj:Int)).bind fun af=>(kQ N af (aa:Int)).bind fun ak=>(bif ak then ((gp N af).bind fun al=>(app 32 o ([al]: (List aI))).bind fun an=>some an) else (some o)).bind fun ao=>some ao:Option ((List aI)))) ([]: (List aI))).bind fun o=>(ij N ai).bind fun aq=>(ij N o).bind fun ar=>(kR N aq ar).bind fun ab=>(bif j.2.2 then ((mb N ab).bind fun au=>some ((decide (au<=2000)),ab)) else (some (false,ab))).bind fun ad=>(app 24 j.1 ([ad.2]: (List (List aA)))).bind fun av=>(lx N ad.2).bind fun ag=>(nE ag.length (fun(aw:Nat) (ae: (List aK))=>((idx ag (aw:Int)).bind fun ah=>(jC N ah).bind fun ax=>(app 56 ae ([(⟨(aa:Int),ah,ax⟩:aK)]: (List aK))).bind fun ay=>some ay:Option ((List aK)))) j.2.1).bind fun ae=>some (av,ae,ad.1):Option ((List (List aA))×(List aK)×Bool))) (p0_4,p0_5,true)).bind fun j=>(bif j.2.2 then (some (decide ((j.2.1.length:Int)<=2000))) else (some false)).bind fun az=>some (az,j.1,j.2.1)
def q8 (N:Nat) (p0 p1:aI):Option (Bool):=
 some ((((decide (p0.X0<p1.X1))&&(decide (p1.X0<p0.X1)))&&((p0.Y1==p1.Y0)||(p1.Y1==p0.Y0)))||(((decide (p0.Y0<p1.Y1))&&(decide (p1.Y0<p0.Y1)))&&((p0.X1==p1.X0)||(p1.X1==p0.X0))))
def j4 (N:Nat) (p0:aI) (p1:cD):Option (Bool):=
 (gp N p1).bind fun j=>(q8 N p0 j).bind fun o=>some o
def gN (N:Nat) (p0: (List aI)) (p1:aI->Option Bool):Option (Bool):=
 (lN N p0 p1).bind fun j=>some (decide (j>=0))
def jS (N:Nat) (p0_2: (List cD)) (p0_5: (List aK)) (p0_6: (List (List Int))):Option ((List (List Int))):=
 (nE p0_2.length (fun(ae:Nat) (o: (List (List Int)))=>((idx p0_2 (ae:Int)).bind fun aa=>(nE p0_5.length (fun(ab:Nat) (j: (List Int))=>((idx p0_5 (ab:Int)).bind fun ad=>(bif aa.fJ then ((kQ N aa ad.cU).bind fun af=>bif af then ((gN N ad.gM (fun y0=>j4 N y0 aa)).bind fun ag=>some ag) else (some false)) else (some false)).bind fun ah=>(bif ah then ((app 8 j ([(ab:Int)]: (List Int))).bind fun ai=>some ai) else (some j)).bind fun aj=>some aj:Option ((List Int)))) ([]: (List Int))).bind fun j=>(app 24 o ([j]: (List (List Int)))).bind fun ak=>some ak:Option ((List (List Int))))) p0_6).bind fun o=>some o
def kS (N:Nat) (p0:Int):Option (((List Int))):=
 (mk 8 (0:Int) p0).bind fun aa=>(nE aa.length (fun(o:Nat) (j: (List Int))=>((idx j (o:Int)).bind fun ab=>some (j.set (Int.toNat (o:Int)) (o:Int)):Option ((List Int)))) aa).bind fun j=>some j
def gG (N:Nat) (p0_0: (List Int)) (p1:Int):Option (Int×(List Int)):=
 (jz (fun(j: (List Int)×Int)=>((idx j.1 j.2).bind fun aa=>bif (aa != j.2) then ((idx j.1 j.2).bind fun ab=>(idx j.1 ab).bind fun o=>(idx j.1 j.2).bind fun af=>(idx (j.1.set (Int.toNat j.2) o) j.2).bind fun ad=>some (.nx ((j.1.set (Int.toNat j.2) o),ad))) else (some (.br (j.1,j.2))):Option (Fl ((List Int)×Int) Empty))) N (p0_0,p1)).bind fun ae=>ae.cs (fun(j: (List Int)×Int)=>some (j.2,j.1)) (fun r=>r.elim)
def gY (N:Nat) (p0_0: (List Int)) (p1 p2:Int):Option ((List Int)):=
 (gG N p0_0 p1).bind fun o=>(gG N o.2 p2).bind fun j=>(idx j.2 (if o.1<j.1 then j.1 else o.1)).bind fun aa=>some (j.2.set (Int.toNat (if o.1<j.1 then j.1 else o.1)) (if j.1<o.1 then j.1 else o.1))
def jT (N:Nat) (p0_0: (List Int)):Option ((List (List Int))×(List Int)):=
 (nE p0_0.length (fun(ab:Nat) (j: (List Int)×(List (List Int))×(List (Int×Int)))=>((gG N j.1 (ab:Int)).bind fun aa=>(bif (aa.1==(ab:Int)) then ((app 24 j.2.1 [([]: (List Int))]).bind fun ad=>some (ad,(uZ j.2.2 (ab:Int) (j.2.1.length:Int)))) else (some (j.2.1,j.2.2))).bind fun o=>(idx o.1 (jg o.2 aa.1 (0:Int))).bind fun ae=>(app 8 ae ([(ab:Int)]: (List Int))).bind fun af=>(idx o.1 (jg o.2 aa.1 (0:Int))).bind fun ag=>some (aa.2,(o.1.set (Int.toNat (jg o.2 aa.1 (0:Int))) af),o.2):Option ((List Int)×(List (List Int))×(List (Int×Int))))) (p0_0,([]: (List (List Int))),([]: (List (Int×Int))))).bind fun j=>some (j.2.1,j.1)
def ll (N:Nat) (p0:aI) (p1:jc):Option (Bool):=
 (bif (decide (p1.X>=p0.X0)) then (bif (decide (p1.X<p0.X1)) then (bif (decide (p1.Y>=p0.Y0)) then (some (decide (p1.Y<p0.Y1))) else (some false)) else (some false)) else (some false)).bind fun j=>some j
def ke (N:Nat) (p0: (List aI)) (p1:jc):Option (Bool):=
 (gN N p0 (fun y0=>ll N y0 p1)).bind fun j=>some j
def jU (N:Nat) (p0_2: (List cD)) (p0_5: (List aK)) (p1:fK):Option (j9×Bool):=
 (uY p0_2.length (fun(o:Nat) (ad:Unit)=>((idx p0_2 (o:Int)).bind fun j=>(bif j.fJ then ((kQ N j p1.cU).bind fun ae=>bif ae then ((gp N j).bind fun af=>(ke N ([af]: (List aI)) p1.At).bind fun ag=>some ag) else (some false)) else (some false)).bind fun ah=>bif ah then (some (.rt ((⟨true,(o:Int)⟩:j9),true))) else (some (.nx ())):Option (Fl (Unit) (j9×Bool)))) ()).bind fun ai=>ai.cs (fun(ad:Unit)=>(uY p0_5.length (fun(aa:Nat) (aj:Unit)=>((idx p0_5 (aa:Int)).bind fun ab=>(bif (ab.cU==p1.cU) then ((ke N ab.gM p1.At).bind fun ak=>some ak) else (some false)).bind fun al=>bif al then (some (.rt ((⟨false,(aa:Int)⟩:j9),true))) else (some (.nx ())):Option (Fl (Unit) (j9×Bool)))) ()).bind fun an=>an.cs (fun(aj:Unit)=>some ((⟨false,0⟩:j9),false)) (fun r=>some r)) (fun r=>some r)
def ik (N:Nat) (p0_8: (List Int)) (p0_9: (List Int)) (p1:j9):Option (Int):=
 bif p1.cD then ((idx p0_9 p1.Number).bind fun j=>some j) else ((idx p0_8 p1.Number).bind fun o=>some o)
def f0 (N:Nat) (p0_2: (List cD)) (p0_3: (List fK)) (p0_5: (List aK)) (p0_6: (List (List Int))) (p0_8: (List Int)) (p0_9: (List Int)) (p0_10: (List Int)) (p0_11: (List j9)):Option ((List cO)×(List Int)×(List Int)×(List Int)×(List j9)):=
 (kS N (IntKind.wrap .i64 ((p0_5.length:Int)+ (p0_2.length:Int)))).bind fun ar=>(nE p0_6.length (fun(ai:Nat) (af: (List Int))=>((idx p0_6 (ai:Int)).bind fun aj=>(nE aj.length (fun(au:Nat) (ag: (List Int))=>((idx aj (au:Int)).bind fun av=>(gY N ag av (IntKind.wrap .i64 ((p0_5.length:Int)+ (ai:Int)))).bind fun aw=>some aw:Option ((List Int)))) af).bind fun ag=>some ag:Option ((List Int)))) ar).bind fun af=>(mk 8 (0:Int) (p0_5.length:Int)).bind fun ax=>(mk 8 (0:Int) (p0_2.length:Int)).bind fun ay=>(jT N af).bind fun ak=>(nE ak.1.length (fun(az:Nat) (aa: (List cO)×(List Int)×(List Int))=>((idx ak.1 (az:Int)).bind fun al=>(nE al.length (fun(a0:Nat) (j: (List Int)×(List Int)×(List Int)×(List Int))=>((idx al (a0:Int)).bind fun ab=>(bif (decide (ab< (p0_5.length:Int))) then ((idx j.1 ab).bind fun bd=>(app 8 j.2.2.1 ([ab]: (List Int))).bind fun a1=>some ((j.1.set (Int.toNat ab) (aa.1.length:Int)),j.2.1,a1,j.2.2.2)) else ((idx p0_2 (IntKind.wrap .i64 (ab - (p0_5.length:Int)))).bind fun a2=>(bif a2.fJ then ((idx j.2.1 (IntKind.wrap .i64 (ab - (p0_5.length:Int)))).bind fun bf=>(app 8 j.2.2.2 ([(IntKind.wrap .i64 (ab - (p0_5.length:Int)))]: (List Int))).bind fun a3=>some ((j.2.1.set (Int.toNat (IntKind.wrap .i64 (ab - (p0_5.length:Int)))) (aa.1.length:Int)),a3)) else ((idx j.2.1 (IntKind.wrap .i64 (ab - (p0_5.length:Int)))).bind fun bg=>some ((j.2.1.set (Int.toNat (IntKind.wrap .i64 (ab - (p0_5.length:Int)))) (-1)),j.2.2.2))).bind fun an=>some (j.1,an.1,j.2.2.1,an.2))).bind fun ad=>some (ad.1,ad.2.1,ad.2.2.1,ad.2.2.2):Option ((List Int)×(List Int)×(List Int)×(List Int)))) (aa.2.1,aa.2.2,([]: (List Int)),([]: (List Int)))).bind fun j=>(bif (decide ((IntKind.wrap .i64 ((j.2.2.1.length:Int)+ (j.2.2.2.length:Int)))>0)) then ((app 72 aa.1 [(⟨j.2.2.1,j.2.2.2,([]: (List fk))⟩:cO)]).bind fun a4=>some a4) else (some aa.1)).bind fun a5=>some (a5,j.1,j.2.1):Option ((List cO)×(List Int)×(List Int)))) (([]: (List cO)),ax,ay)).bind fun aa=>(nE p0_3.length (fun(a6:Nat) (o: (List cO)×(List Int)×(List Int)×(List Int)×(List j9))=>((idx p0_3 (a6:Int)).bind fun ao=>(jU N p0_2 p0_5 ao).bind fun ah=>(bif ah.2 then ((ik N o.2.1 o.2.2.1 ah.1).bind fun ae=>(idx o.1 ae).bind fun a7=>(mI N ao).bind fun a8=>(app 32 a7.fW ([a8]: (List fk))).bind fun a9=>(idx o.1 ae).bind fun ba=>some ((o.1.set (Int.toNat ae) {ba with fW:=a9}),ae)) else (some (o.1,(-1)))).bind fun aq=>(app 8 o.2.2.2.1 ([aq.2]: (List Int))).bind fun bb=>(app 16 o.2.2.2.2 ([ah.1]: (List j9))).bind fun bc=>some (aq.1,o.2.1,o.2.2.1,bb,bc):Option ((List cO)×(List Int)×(List Int)×(List Int)×(List j9)))) (aa.1,aa.2.1,aa.2.2,p0_10,p0_11)).bind fun o=>some (o.1,o.2.1,o.2.2.1,o.2.2.2.1,o.2.2.2.2)
def iO (N:Nat) (p0:ld):Option (Option ((List (List aI))×(List aI)×(List cD)×(List fK)×(List (List aA))×(List aK)×(List (List Int))×(List cO)×(List Int)×(List Int)×(List Int)×(List j9))×Int):=
 bif ((p0.aJ.length:Int)==0) then (some (none,9)) else (bif (decide ((p0.aJ.length:Int)>16)) then (some (none,2)) else ((uY p0.aJ.length (fun(al:Nat) (aa:Int)=>((idx p0.aJ (al:Int)).bind fun ae=>(ju N ae).bind fun af=>bif (af != 0) then (some (.rt (none,af))) else (some (.nx (IntKind.wrap .i64 (aa+ (ae.length:Int))))):Option (Fl (Int) (Option ((List (List aI))×(List aI)×(List cD)×(List fK)×(List (List aA))×(List aK)×(List (List Int))×(List cO)×(List Int)×(List Int)×(List Int)×(List j9))×Int)))) (p0.cE.length:Int)).bind fun an=>an.cs (fun(aa:Int)=>(ju N p0.cE).bind fun ag=>bif (ag != 0) then (some (none,ag)) else (bif (decide (aa>2000)) then (some (none,2)) else ((kn N p0).bind fun ah=>bif (ah != 0) then (some (none,ah)) else ((kp N p0).bind fun ai=>bif (ai != 0) then (some (none,ai)) else ((uY p0.aO.length (fun(aj:Nat) (ao:Unit)=>((idx p0.aO (aj:Int)).bind fun ab=>(sC p0.aO 0 (aj:Int)).bind fun tv=>(uY tv.length (fun(aq:Nat) (ar:Unit)=>((idx tv (aq:Int)).bind fun ad=>(bif ((decide (ab.cN<=ad.To))&&(decide (ad.cN<=ab.To))) then ((gp N ab).bind fun au=>(gp N ad).bind fun av=>(rD N au av).bind fun aw=>some (aw==0)) else (some false)).bind fun ax=>bif ax then (some (.rt (none,12))) else (some (.nx ())):Option (Fl (Unit) (Option ((List (List aI))×(List aI)×(List cD)×(List fK)×(List (List aA))×(List aK)×(List (List Int))×(List cO)×(List Int)×(List Int)×(List Int)×(List j9))×Int)))) ()).bind fun ay=>ay.cs (fun(ar:Unit)=>some (.nx ())) (fun r=>some (.rt r)):Option (Fl (Unit) (Option ((List (List aI))×(List aI)×(List cD)×(List fK)×(List (List aA))×(List aK)×(List (List Int))×(List cO)×(List Int)×(List Int)×(List Int)×(List j9))×Int)))) ()).bind fun az=>az.cs (fun(ao:Unit)=>(jR N p0.aJ p0.aO ([]: (List (List aA))) ([]: (List aK))).bind fun j=>bif (!j.1) then (some (none,2)) else ((jS N p0.aO j.2.2 ([]: (List (List Int)))).bind fun ak=>(f0 N p0.aO p0.bV j.2.2 ak ([]: (List Int)) ([]: (List Int)) ([]: (List Int)) ([]: (List j9))).bind fun o=>some (some (p0.aJ,p0.cE,p0.aO,p0.bV,j.2.1,j.2.2,ak,o.1,o.2.1,o.2.2.1,o.2.2.2.1,o.2.2.2.2),0))) (fun r=>some r)))))) (fun r=>some r)))
def gZ (N:Nat) (p0:ld) (p1:Int):Option ((List aI)×Int):=
 (iO N p0).bind fun j=>Gn j.1 (bif (j.2 != 0) then (some (([]: (List aI)),j.2)) else (none)) (fun(o: ((List (List aI))×(List aI)×(List cD)×(List fK)×(List (List aA))×(List aK)×(List (List Int))×(List cO)×(List Int)×(List Int)×(List Int)×(List j9)))=>bif (j.2 != 0) then (some (([]: (List aI)),j.2)) else ((fg N p1 0 (IntKind.wrap .i64 ((o.2.2.2.2.2.1.length:Int) - 1))).bind fun aa=>bif (!aa) then (some (([]: (List aI)),9)) else ((idx o.2.2.2.2.2.1 p1).bind fun ab=>some (ab.gM,0))))
def mc (N:Nat) (p0 p1 p2:Int):Option (Bool):=
 some ((decide (p0>=p1))&&(decide (p0<=p2)))
def cR (N:Nat) (p0:Int):Option (Bool):=
 (mc N p0 (-1000000) 1000000).bind fun j=>some j
def gO (N:Nat) (p0: (List aI)):Option (Int):=
 bif (decide ((p0.length:Int)>2000)) then (some 2) else ((jz (fun(o:Int)=>(bif (decide (o< (p0.length:Int))) then ((idx p0 o).bind fun j=>((cR N j.X0).bind fun aa=>bif (!aa) then (some true) else ((cR N j.Y0).bind fun ab=>bif (!ab) then (some true) else ((cR N j.X1).bind fun ad=>bif (!ad) then (some true) else ((cR N j.Y1).bind fun ae=>some (!ae))))).bind fun af=>bif af then (some (.rt 1)) else (bif ((decide (j.X1<=j.X0))||(decide (j.Y1<=j.Y0))) then (some (.rt 13)) else (some (.nx (IntKind.wrap .i64 (o+1)))))) else (some (.br o)):Option (Fl (Int) Int))) N 0).bind fun ag=>ag.cs (fun(o:Int)=>some 0) (fun r=>some r))
def il (N:Nat) (p0 p1:aI):Option (Bool):=
 some ((decide (p0.Y0<p1.Y0))||((p0.Y0==p1.Y0)&&(decide (p0.X0<p1.X0))))
def fh (N:Nat) (p0: (List Int)) (p1:Int):Option ((List Int)):=
 (jz (fun(j:Int×Int)=>(bif (decide (j.1<j.2)) then ((idx p0 (IntKind.wrap .i64 (Int.tdiv (IntKind.wrap .i64 (j.1+j.2)) 2))).bind fun aa=>(bif (decide (aa<p1)) then (some ((IntKind.wrap .i64 ((IntKind.wrap .i64 (Int.tdiv (IntKind.wrap .i64 (j.1+j.2)) 2))+1)),j.2)) else (some (j.1,(IntKind.wrap .i64 (Int.tdiv (IntKind.wrap .i64 (j.1+j.2)) 2))))).bind fun o=>some (.nx (o.1,o.2))) else (some (.br (j.1,j.2))):Option (Fl (Int×Int) Empty))) N (0,(p0.length:Int))).bind fun ab=>ab.cs (fun(j:Int×Int)=>(bif (decide (j.1< (p0.length:Int))) then ((idx p0 j.1).bind fun ad=>some (ad==p1)) else (some false)).bind fun ae=>bif ae then (some p0) else ((sC p0 0 j.1).bind fun af=>(app 8 ([]: (List Int)) af).bind fun ag=>(app 8 ag ([p1]: (List Int))).bind fun ah=>(sC p0 j.1 (p0.length:Int)).bind fun ai=>(app 8 ah ai).bind fun aj=>some aj)) (fun r=>r.elim)
def gJ (N:Nat) (p0: (List aI)):Option ((List Int)):=
 (jz (fun(j: (List Int)×Int)=>(bif (decide (j.2< (p0.length:Int))) then ((idx p0 j.2).bind fun o=>(idx p0 j.2).bind fun aa=>(fh N j.1 o.Y0).bind fun ab=>(fh N ab aa.Y1).bind fun ad=>some (.nx (ad,(IntKind.wrap .i64 (j.2+1))))) else (some (.br (j.1,j.2))):Option (Fl ((List Int)×Int) Empty))) N (([]: (List Int)),0)).bind fun ae=>ae.cs (fun(j: (List Int)×Int)=>some j.1) (fun r=>r.elim)
def iq (N:Nat) (p0: (List aF)) (p1:aF):Option ((List aF)):=
 (jz (fun(o: (List aF)×Int)=>((bif (decide (o.2< (p0.length:Int))) then ((idx p0 o.2).bind fun ad=>some (decide (ad.to<p1.from_))) else (some false)).bind fun ae=>bif ae then ((idx p0 o.2).bind fun af=>(app 16 o.1 ([af]: (List aF))).bind fun ag=>some (.nx (ag,(IntKind.wrap .i64 (o.2+1))))) else (some (.br (o.1,o.2))):Option (Fl ((List aF)×Int) Empty))) N (([]: (List aF)),0)).bind fun ah=>ah.cs (fun(o: (List aF)×Int)=>(jz (fun(j:aF×Int)=>((bif (decide (j.2< (p0.length:Int))) then ((idx p0 j.2).bind fun ai=>some (decide (ai.from_<=j.1.to))) else (some false)).bind fun aj=>bif aj then ((idx p0 j.2).bind fun aa=>(idx p0 j.2).bind fun ab=>some (.nx ({{j.1 with from_:=(if aa.from_<j.1.from_ then aa.from_ else j.1.from_)} with to:=(if j.1.to<ab.to then ab.to else j.1.to)},(IntKind.wrap .i64 (j.2+1))))) else (some (.br (j.1,j.2))):Option (Fl (aF×Int) Empty))) N (p1,o.2)).bind fun ak=>ak.cs (fun(j:aF×Int)=>(app 16 o.1 ([j.1]: (List aF))).bind fun al=>(sC p0 j.2 (p0.length:Int)).bind fun an=>(app 16 al an).bind fun ao=>some ao) (fun r=>r.elim)) (fun r=>r.elim)
def gH (N:Nat) (p0: (List aI)) (p1:Int):Option ((List aF)):=
 (jz (fun(j: (List aF)×Int)=>(bif (decide (j.2< (p0.length:Int))) then (((idx p0 j.2).bind fun o=>bif (decide (o.Y0<=p1)) then ((idx p0 j.2).bind fun aa=>some (decide (p1<aa.Y1))) else (some false)).bind fun ab=>(bif ab then ((idx p0 j.2).bind fun ad=>(idx p0 j.2).bind fun ae=>(iq N j.1 (⟨ad.X0,ae.X1⟩:aF)).bind fun af=>some af) else (some j.1)).bind fun ag=>some (.nx (ag,(IntKind.wrap .i64 (j.2+1))))) else (some (.br (j.1,j.2))):Option (Fl ((List aF)×Int) Empty))) N (([]: (List aF)),0)).bind fun ah=>ah.cs (fun(j: (List aF)×Int)=>some j.1) (fun r=>r.elim)
def jv (N:Nat) (p0: (List aF)) (p1: (List aF)):Option (Bool):=
 bif ((p0.length:Int) != (p1.length:Int)) then (some false) else ((jz (fun(j:Int)=>(bif (decide (j< (p0.length:Int))) then ((idx p0 j).bind fun o=>(idx p1 j).bind fun aa=>bif (!(decide (o=aa))) then (some (.rt false)) else (some (.nx (IntKind.wrap .i64 (j+1))))) else (some (.br j)):Option (Fl (Int) Bool))) N 0).bind fun ab=>ab.cs (fun(j:Int)=>some true) (fun r=>some r))
def fL (N:Nat) (p0: (List aL)) (p1:aL):Option ((List aL)):=
 bif ((p1.iN.length:Int)==0) then (some p0) else ((bif (decide ((p0.length:Int)>0)) then ((idx p0 (IntKind.wrap .i64 ((p0.length:Int) - 1))).bind fun j=>bif (j.to==p1.from_) then ((idx p0 (IntKind.wrap .i64 ((p0.length:Int) - 1))).bind fun o=>(jv N o.iN p1.iN).bind fun aa=>some aa) else (some false)) else (some false)).bind fun ab=>bif ab then ((idx p0 (IntKind.wrap .i64 ((p0.length:Int) - 1))).bind fun ad=>some (p0.set (Int.toNat (IntKind.wrap .i64 ((p0.length:Int) - 1))) ({ad with to:=p1.to}))) else ((app 40 p0 ([p1]: (List aL))).bind fun ae=>some ae))
def iW (N:Nat) (p0: (List aL)):Option ((List aI)):=
 (jz (fun(j: (List aI)×Int)=>(bif (decide (j.2< (p0.length:Int))) then ((jz (fun(o: (List aI)×Int)=>((idx p0 j.2).bind fun aa=>bif (decide (o.2< (aa.iN.length:Int))) then ((idx p0 j.2).bind fun ab=>(idx ab.iN o.2).bind fun ad=>(idx p0 j.2).bind fun ae=>(idx p0 j.2).bind fun af=>(idx af.iN o.2).bind fun ag=>(idx p0 j.2).bind fun ah=>(app 32 o.1 ([(⟨ad.from_,ae.from_,ag.to,ah.to⟩:aI)]: (List aI))).bind fun ai=>some (.nx (ai,(IntKind.wrap .i64 (o.2+1))))) else (some (.br (o.1,o.2))):Option (Fl ((List aI)×Int) Empty))) N (j.1,0)).bind fun aj=>aj.cs (fun(o: (List aI)×Int)=>some (.nx (o.1,(IntKind.wrap .i64 (j.2+1))))) (fun r=>r.elim)) else (some (.br (j.1,j.2))):Option (Fl ((List aI)×Int) Empty))) N (([]: (List aI)),0)).bind fun ak=>ak.cs (fun(j: (List aI)×Int)=>some j.1) (fun r=>r.elim)
def eW (N:Nat) (p0: (List aI)):Option ((List aI)):=
 (gJ N p0).bind fun o=>(jz (fun(j: (List aL)×Int)=>(bif (decide (j.2< (o.length:Int))) then ((idx o (IntKind.wrap .i64 (j.2 - 1))).bind fun aa=>(idx o j.2).bind fun ab=>(idx o (IntKind.wrap .i64 (j.2 - 1))).bind fun ad=>(gH N p0 ad).bind fun ae=>(fL N j.1 (⟨aa,ab,ae⟩:aL)).bind fun af=>some (.nx (af,(IntKind.wrap .i64 (j.2+1))))) else (some (.br (j.1,j.2))):Option (Fl ((List aL)×Int) Empty))) N (([]: (List aL)),1)).bind fun ag=>ag.cs (fun(j: (List aL)×Int)=>(iW N j.1).bind fun ah=>some ah) (fun r=>r.elim)
def eX (N:Nat) (p0: (List aI)) (p1: (List aI)):Option (Bool):=
 bif ((p0.length:Int) != (p1.length:Int)) then (some false) else ((jz (fun(j:Int)=>(bif (decide (j< (p0.length:Int))) then ((idx p0 j).bind fun o=>(idx p1 j).bind fun aa=>bif (!(decide (o=aa))) then (some (.rt false)) else (some (.nx (IntKind.wrap .i64 (j+1))))) else (some (.br j)):Option (Fl (Int) Bool))) N 0).bind fun ab=>ab.cs (fun(j:Int)=>some true) (fun r=>some r))
def fm (N:Nat) (p0: (List aI)):Option (Int):=
 (gO N p0).bind fun o=>bif (o != 0) then (some o) else ((jz (fun(j:Int)=>(bif (decide (j< (p0.length:Int))) then ((idx p0 (IntKind.wrap .i64 (j - 1))).bind fun aa=>(idx p0 j).bind fun ab=>(il N aa ab).bind fun ad=>bif (!ad) then (some (.rt 8)) else (some (.nx (IntKind.wrap .i64 (j+1))))) else (some (.br j)):Option (Fl (Int) Int))) N 1).bind fun ae=>ae.cs (fun(j:Int)=>(eW N p0).bind fun af=>(eX N p0 af).bind fun ag=>bif (!ag) then (some 3) else (some 0)) (fun r=>some r))
def cK (N:Nat) (p0 p1 p2:Int):Option (Bool):=
 some ((decide (p0>=p1))&&(decide (p0<=p2)))
def fM (N:Nat) (p0:jc):Option (Bool):=
 ((cR N p0.X).bind fun j=>bif j then ((cR N p0.Y).bind fun o=>some o) else (some false)).bind fun aa=>some aa
def cG (N:Nat) (p0:cD):Option (aI):=
 some (⟨(IntKind.wrap .i64 (p0.At.X - (IntKind.wrap .i64 (Int.tdiv p0.dE 2)))),(IntKind.wrap .i64 (p0.At.Y - (IntKind.wrap .i64 (Int.tdiv p0.dE 2)))),(IntKind.wrap .i64 ((IntKind.wrap .i64 (p0.At.X - (IntKind.wrap .i64 (Int.tdiv p0.dE 2))))+p0.dE)),(IntKind.wrap .i64 ((IntKind.wrap .i64 (p0.At.Y - (IntKind.wrap .i64 (Int.tdiv p0.dE 2))))+p0.dE))⟩:aI)
def gz (N:Nat) (p0:cD):Option (Int):=
 ((cK N p0.dE 1 10000).bind fun o=>bif (!o) then (some true) else ((fM N p0.At).bind fun aa=>some (!aa))).bind fun ab=>bif ab then (some 1) else ((cG N p0).bind fun j=>((cR N j.X0).bind fun ad=>bif (!ad) then (some true) else ((cR N j.Y0).bind fun ae=>bif (!ae) then (some true) else ((cR N j.X1).bind fun af=>bif (!af) then (some true) else ((cR N j.Y1).bind fun ag=>some (!ag))))).bind fun ah=>bif ah then (some 1) else (some 0))
def ga (N:Nat) (p0:eG):Option (Bool):=
 (jz (fun(o:Int)=>(bif (decide (o< (p0.cY.length:Int))) then ((DT p0 o).bind fun j=>(bif (!((((decide ((j.toNat:Int)>=97))&&(decide ((j.toNat:Int)<=122)))||((decide ((j.toNat:Int)>=65))&&(decide ((j.toNat:Int)<=90))))||((decide ((j.toNat:Int)>=48))&&(decide ((j.toNat:Int)<=57))))) then ((gF N (⟨[95,43,45,35]⟩) (j.toNat:Int)).bind fun aa=>some (decide (aa<0))) else (some false)).bind fun ab=>bif ab then (some (.rt false)) else (some (.nx (IntKind.wrap .i64 (o+1))))) else (some (.br o)):Option (Fl (Int) Bool))) N 0).bind fun ad=>ad.cs (fun(o:Int)=>(cK N (p0.cY.length:Int) 1 40).bind fun ae=>some ae) (fun r=>some r)
def jk (N:Nat) (p0:eG):Option (Bool):=
 (lG N p0 (⟨[47]⟩)).bind fun o=>(jz (fun(j:Int)=>(bif (decide (j< (o.length:Int))) then ((idx o j).bind fun aa=>(ga N aa).bind fun ab=>bif (!ab) then (some (.rt false)) else (some (.nx (IntKind.wrap .i64 (j+1))))) else (some (.br j)):Option (Fl (Int) Bool))) N 0).bind fun ad=>ad.cs (fun(j:Int)=>some (decide ((p0.cY.length:Int)<=200))) (fun r=>some r)
def ir (N:Nat) (p0:ld) (p1:Int):Option (Int):=
 (idx p0.bV p1).bind fun j=>((jk N j.Part).bind fun aa=>bif (!aa) then (some true) else ((ga N j.fk).bind fun ab=>some (!ab))).bind fun ad=>bif ad then (some 5) else (((cK N j.cU 0 (IntKind.wrap .i64 ((p0.aJ.length:Int) - 1))).bind fun ae=>bif (!ae) then (some true) else ((fM N j.At).bind fun af=>some (!af))).bind fun ag=>bif ag then (some 1) else (bif (decide (p1>0)) then ((idx p0.bV (IntKind.wrap .i64 (p1 - 1))).bind fun o=>bif ((j.Part.sB o.Part)||((j.Part.sA o.Part)&&(j.fk.sB o.fk||j.fk.sA o.fk))) then (some 8) else (some 0)) else (some 0)))
def gQ (N:Nat) (p0:ld):Option (Int):=
 bif ((p0.aJ.length:Int)==0) then (some 9) else (bif (decide ((p0.aJ.length:Int)>16)) then (some 2) else ((jz (fun(j:Int×Int)=>(bif (decide (j.2< (p0.aJ.length:Int))) then ((idx p0.aJ j.2).bind fun ah=>(fm N ah).bind fun ad=>bif (ad != 0) then (some (.rt ad)) else ((idx p0.aJ j.2).bind fun ai=>some (.nx ((IntKind.wrap .i64 (j.1+ (ai.length:Int))),(IntKind.wrap .i64 (j.2+1)))))) else (some (.br (j.1,j.2))):Option (Fl (Int×Int) Int))) N ((p0.cE.length:Int),0)).bind fun aj=>aj.cs (fun(j:Int×Int)=>(fm N p0.cE).bind fun ae=>bif (ae != 0) then (some ae) else ((bif (decide (j.1>2000)) then (some true) else (some (decide ((p0.aO.length:Int)>500)))).bind fun ak=>bif ak then (some 2) else ((jz (fun(o:Int)=>(bif (decide (o< (p0.aO.length:Int))) then ((idx p0.aO o).bind fun ab=>(gz N ab).bind fun af=>bif (af != 0) then (some (.rt af)) else (((cK N ab.cN 0 (IntKind.wrap .i64 ((p0.aJ.length:Int) - 1))).bind fun al=>bif (!al) then (some true) else ((cK N ab.To ab.cN (IntKind.wrap .i64 ((p0.aJ.length:Int) - 1))).bind fun an=>some (!an))).bind fun ao=>bif ao then (some (.rt 1)) else (some (.nx (IntKind.wrap .i64 (o+1)))))) else (some (.br o)):Option (Fl (Int) Int))) N 0).bind fun aq=>aq.cs (fun(o:Int)=>bif (decide ((p0.bV.length:Int)>1000)) then (some 2) else ((jz (fun(aa:Int)=>(bif (decide (aa< (p0.bV.length:Int))) then ((ir N p0 aa).bind fun ag=>bif (ag != 0) then (some (.rt ag)) else (some (.nx (IntKind.wrap .i64 (aa+1))))) else (some (.br aa)):Option (Fl (Int) Int))) N 0).bind fun ar=>ar.cs (fun(aa:Int)=>some 0) (fun r=>some r))) (fun r=>some r)))) (fun r=>some r)))
def iu (N:Nat) (p0 p1:cD):Option (Bool):=
 some ((decide (p0.cN<=p1.To))&&(decide (p1.cN<=p0.To)))
def fN (N:Nat) (p0 p1:aI):Option (Bool):=
 (bif (decide ((if p1.X1<p0.X1 then p1.X1 else p0.X1)> (if p0.X0<p1.X0 then p1.X0 else p0.X0))) then (some (decide ((if p1.Y1<p0.Y1 then p1.Y1 else p0.Y1)> (if p0.Y0<p1.Y0 then p1.Y0 else p0.Y0)))) else (some false)).bind fun j=>some j
def eR (N:Nat) (p0:cD) (p1:Int):Option (Bool):=
 some ((decide (p0.cN<=p1))&&(decide (p1<=p0.To)))
def gh (N:Nat) (p0: (List aF)) (p1:Int):Option (Bool):=
 (jz (fun(j:Int)=>(bif (decide (j< (p0.length:Int))) then (((idx p0 j).bind fun o=>bif (decide (o.from_<=p1)) then ((idx p0 j).bind fun aa=>some (decide (p1<aa.to))) else (some false)).bind fun ab=>bif ab then (some (.rt true)) else (some (.nx (IntKind.wrap .i64 (j+1))))) else (some (.br j)):Option (Fl (Int) Bool))) N 0).bind fun ad=>ad.cs (fun(j:Int)=>some false) (fun r=>some r)
def jE (N:Nat) (p0: (List aF)) (p1: (List aF)) (p2:Int):Option ((List aF)):=
 (jz (fun(aa: (List Int)×Int)=>(bif (decide (aa.2< (p0.length:Int))) then ((idx p0 aa.2).bind fun ae=>(idx p0 aa.2).bind fun af=>(fh N aa.1 ae.from_).bind fun ag=>(fh N ag af.to).bind fun ah=>some (.nx (ah,(IntKind.wrap .i64 (aa.2+1))))) else (some (.br (aa.1,aa.2))):Option (Fl ((List Int)×Int) Empty))) N (([]: (List Int)),0)).bind fun ai=>ai.cs (fun(aa: (List Int)×Int)=>(jz (fun(j: (List Int)×Int)=>(bif (decide (j.2< (p1.length:Int))) then ((idx p1 j.2).bind fun aj=>(idx p1 j.2).bind fun ak=>(fh N j.1 aj.from_).bind fun al=>(fh N al ak.to).bind fun an=>some (.nx (an,(IntKind.wrap .i64 (j.2+1))))) else (some (.br (j.1,j.2))):Option (Fl ((List Int)×Int) Empty))) N (aa.1,0)).bind fun ao=>ao.cs (fun(j: (List Int)×Int)=>(jz (fun(o: (List aF)×Int)=>(bif (decide (o.2< (j.1.length:Int))) then ((idx j.1 (IntKind.wrap .i64 (o.2 - 1))).bind fun aq=>(idx j.1 (IntKind.wrap .i64 (o.2 - 1))).bind fun ar=>(gh N p0 aq).bind fun ab=>(gh N p1 ar).bind fun ad=>(bif ((((p2==1)&&(ab||ad))||(((p2==2)&&ab)&&ad))||(((p2==3)&&ab)&&(!ad))) then ((idx j.1 (IntKind.wrap .i64 (o.2 - 1))).bind fun au=>(idx j.1 o.2).bind fun av=>(iq N o.1 (⟨au,av⟩:aF)).bind fun aw=>some aw) else (some o.1)).bind fun ax=>some (.nx (ax,(IntKind.wrap .i64 (o.2+1))))) else (some (.br (o.1,o.2))):Option (Fl ((List aF)×Int) Empty))) N (([]: (List aF)),1)).bind fun ay=>ay.cs (fun(o: (List aF)×Int)=>some o.1) (fun r=>r.elim)) (fun r=>r.elim)) (fun r=>r.elim)
def gu (N:Nat) (p0: (List aI)) (p1: (List aI)) (p2:Int):Option ((List aI)):=
 (app 32 ([]: (List aI)) p0).bind fun aa=>(app 32 aa p1).bind fun ab=>(gJ N ab).bind fun o=>(jz (fun(j: (List aL)×Int)=>(bif (decide (j.2< (o.length:Int))) then ((idx o (IntKind.wrap .i64 (j.2 - 1))).bind fun ad=>(idx o j.2).bind fun ae=>(idx o (IntKind.wrap .i64 (j.2 - 1))).bind fun af=>(idx o (IntKind.wrap .i64 (j.2 - 1))).bind fun ag=>(gH N p0 af).bind fun ah=>(gH N p1 ag).bind fun ai=>(jE N ah ai p2).bind fun aj=>(fL N j.1 (⟨ad,ae,aj⟩:aL)).bind fun ak=>some (.nx (ak,(IntKind.wrap .i64 (j.2+1))))) else (some (.br (j.1,j.2))):Option (Fl ((List aL)×Int) Empty))) N (([]: (List aL)),1)).bind fun al=>al.cs (fun(j: (List aL)×Int)=>(iW N j.1).bind fun an=>some an) (fun r=>r.elim)
def j5 (N:Nat) (p0: (List aI)) (p1: (List aI)):Option ((List aI)):=
 (gu N p0 p1 3).bind fun j=>some j
def fX (N:Nat) (p0:ld) (p1:Int):Option ((List aI)):=
 (jz (fun(j: (List aI)×Int)=>(bif (decide (j.2< (p0.aO.length:Int))) then ((idx p0.aO j.2).bind fun o=>(eR N o p1).bind fun aa=>(bif aa then ((idx p0.aO j.2).bind fun ab=>(cG N ab).bind fun ad=>(app 32 j.1 ([ad]: (List aI))).bind fun ae=>some ae) else (some j.1)).bind fun af=>some (.nx (af,(IntKind.wrap .i64 (j.2+1))))) else (some (.br (j.1,j.2))):Option (Fl ((List aI)×Int) Empty))) N (([]: (List aI)),0)).bind fun ag=>ag.cs (fun(j: (List aI)×Int)=>(idx p0.aJ p1).bind fun ah=>(eW N j.1).bind fun ai=>(j5 N ah ai).bind fun aj=>some aj) (fun r=>r.elim)
def iL (N:Nat) (p0 p1:aI):Option (Bool):=
 some (((decide ((IntKind.wrap .i64 ((if p1.X1<p0.X1 then p1.X1 else p0.X1) - (if p0.X0<p1.X0 then p1.X0 else p0.X0)))>0))&&(decide ((IntKind.wrap .i64 ((if p1.Y1<p0.Y1 then p1.Y1 else p0.Y1) - (if p0.Y0<p1.Y0 then p1.Y0 else p0.Y0)))>=0)))||((decide ((IntKind.wrap .i64 ((if p1.X1<p0.X1 then p1.X1 else p0.X1) - (if p0.X0<p1.X0 then p1.X0 else p0.X0)))>=0))&&(decide ((IntKind.wrap .i64 ((if p1.Y1<p0.Y1 then p1.Y1 else p0.Y1) - (if p0.Y0<p1.Y0 then p1.Y0 else p0.Y0)))>0))))
def jl (N:Nat) (p0: (List (List aI))) (p1: (List aI)):Option ((List (List aI))):=
 (jz (fun(j:Int)=>((bif (decide (j>0)) then ((idx p1 0).bind fun o=>(idx p0 (IntKind.wrap .i64 (j - 1))).bind fun aa=>(idx aa 0).bind fun ab=>(il N o ab).bind fun ad=>some ad) else (some false)).bind fun ae=>bif ae then (some (.nx (IntKind.wrap .i64 (j - 1)))) else (some (.br j)):Option (Fl (Int) Empty))) N (p0.length:Int)).bind fun af=>af.cs (fun(j:Int)=>(sC p0 0 j).bind fun ag=>(app 24 ([]: (List (List aI))) ag).bind fun ah=>(app 24 ah ([p1]: (List (List aI)))).bind fun ai=>(sC p0 j (p0.length:Int)).bind fun aj=>(app 24 ai aj).bind fun ak=>some ak) (fun r=>r.elim)
def fw (N:Nat) (p0: (List aI)):Option ((List (List aI))):=
 (mk 1 (false:Bool) (p0.length:Int)).bind fun ad=>(jz (fun(o: (List Bool)×(List (List aI))×Int)=>(bif (decide (o.2.2< (p0.length:Int))) then ((idx o.1 o.2.2).bind fun ae=>bif ae then (some (.nx (o.1,o.2.1,(IntKind.wrap .i64 (o.2.2+1))))) else ((idx o.1 o.2.2).bind fun aw=>(idx p0 o.2.2).bind fun af=>(jz (fun(aa: (List Bool)×(List aI)×Int)=>(bif (decide (aa.2.2< (aa.2.1.length:Int))) then ((jz (fun(j: (List Bool)×(List aI)×Int)=>(bif (decide (j.2.2< (p0.length:Int))) then (((idx j.1 j.2.2).bind fun ag=>bif (!ag) then ((idx j.2.1 aa.2.2).bind fun ah=>(idx p0 j.2.2).bind fun ai=>(iL N ah ai).bind fun aj=>some aj) else (some false)).bind fun ak=>(bif ak then ((idx j.1 j.2.2).bind fun ax=>(idx p0 j.2.2).bind fun al=>(app 32 j.2.1 ([al]: (List aI))).bind fun an=>some ((j.1.set (Int.toNat j.2.2) true),an)) else (some (j.1,j.2.1))).bind fun ab=>some (.nx (ab.1,ab.2,(IntKind.wrap .i64 (j.2.2+1))))) else (some (.br (j.1,j.2.1,j.2.2))):Option (Fl ((List Bool)×(List aI)×Int) Empty))) N (aa.1,aa.2.1,0)).bind fun ao=>ao.cs (fun(j: (List Bool)×(List aI)×Int)=>some (.nx (j.1,j.2.1,(IntKind.wrap .i64 (aa.2.2+1))))) (fun r=>r.elim)) else (some (.br (aa.1,aa.2.1,aa.2.2))):Option (Fl ((List Bool)×(List aI)×Int) Empty))) N ((o.1.set (Int.toNat o.2.2) true),([af]: (List aI)),0)).bind fun aq=>aq.cs (fun(aa: (List Bool)×(List aI)×Int)=>(eW N aa.2.1).bind fun ar=>(jl N o.2.1 ar).bind fun au=>some (.nx (aa.1,au,(IntKind.wrap .i64 (o.2.2+1))))) (fun r=>r.elim))) else (some (.br (o.1,o.2.1,o.2.2))):Option (Fl ((List Bool)×(List (List aI))×Int) Empty))) N (ad,([]: (List (List aI))),0)).bind fun av=>av.cs (fun(o: (List Bool)×(List (List aI))×Int)=>some o.2.1) (fun r=>r.elim)
def dB (N:Nat) (p0:ld):Option (Int):=
 (gQ N p0).bind fun ab=>bif (ab != 0) then (some ab) else ((jz (fun(o:Int)=>(bif (decide (o< (p0.aO.length:Int))) then ((jz (fun(aa:Int)=>(bif (decide (aa<o)) then (((idx p0.aO o).bind fun ae=>(idx p0.aO aa).bind fun af=>(iu N ae af).bind fun ag=>bif ag then ((idx p0.aO o).bind fun ah=>(idx p0.aO aa).bind fun ai=>(cG N ah).bind fun aj=>(cG N ai).bind fun ak=>(fN N aj ak).bind fun al=>some al) else (some false)).bind fun an=>bif an then (some (.rt 12)) else (some (.nx (IntKind.wrap .i64 (aa+1))))) else (some (.br aa)):Option (Fl (Int) Int))) N 0).bind fun ao=>ao.cs (fun(aa:Int)=>some (.nx (IntKind.wrap .i64 (o+1)))) (fun r=>some (.rt r))) else (some (.br o)):Option (Fl (Int) Int))) N 0).bind fun aq=>aq.cs (fun(o:Int)=>(jz (fun(j:Int×Int)=>(bif (decide (j.2< (p0.aJ.length:Int))) then ((fX N p0 j.2).bind fun ad=>bif (decide ((ad.length:Int)>2000)) then (some (.rt 2)) else ((fw N ad).bind fun ar=>some (.nx ((IntKind.wrap .i64 (j.1+ (ar.length:Int))),(IntKind.wrap .i64 (j.2+1)))))) else (some (.br (j.1,j.2))):Option (Fl (Int×Int) Int))) N (0,0)).bind fun au=>au.cs (fun(j:Int×Int)=>bif (decide (j.1>2000)) then (some 2) else (some 0)) (fun r=>some r)) (fun r=>some r))
def iX (N:Nat) (p0: (List aI)) (p1:aI):Option (Bool):=
 (jz (fun(j:Int)=>(bif (decide (j< (p0.length:Int))) then ((idx p0 j).bind fun o=>(idx p0 j).bind fun aa=>(idx p0 j).bind fun ab=>(idx p0 j).bind fun ad=>bif (((decide ((IntKind.wrap .i64 ((if p1.X1<o.X1 then p1.X1 else o.X1) - (if aa.X0<p1.X0 then p1.X0 else aa.X0)))>0))&&((IntKind.wrap .i64 ((if p1.Y1<ab.Y1 then p1.Y1 else ab.Y1) - (if ad.Y0<p1.Y0 then p1.Y0 else ad.Y0)))==0))||(((IntKind.wrap .i64 ((if p1.X1<o.X1 then p1.X1 else o.X1) - (if aa.X0<p1.X0 then p1.X0 else aa.X0)))==0)&&(decide ((IntKind.wrap .i64 ((if p1.Y1<ab.Y1 then p1.Y1 else ab.Y1) - (if ad.Y0<p1.Y0 then p1.Y0 else ad.Y0)))>0)))) then (some (.rt true)) else (some (.nx (IntKind.wrap .i64 (j+1))))) else (some (.br j)):Option (Fl (Int) Bool))) N 0).bind fun ae=>ae.cs (fun(j:Int)=>some false) (fun r=>some r)
def cS (N:Nat) (p0: (List Int)) (p1:Int):Option (Bool):=
 (jz (fun(j:Int)=>(bif (decide (j< (p0.length:Int))) then ((idx p0 j).bind fun o=>bif (o==p1) then (some (.rt true)) else (some (.nx (IntKind.wrap .i64 (j+1))))) else (some (.br j)):Option (Fl (Int) Bool))) N 0).bind fun aa=>aa.cs (fun(j:Int)=>some false) (fun r=>some r)
def iv (N:Nat) (p0: (List Int)) (p1:Int):Option ((List Int)):=
 (jz (fun(j:Int)=>((bif (decide (j>0)) then ((idx p0 (IntKind.wrap .i64 (j - 1))).bind fun o=>some (decide (o>p1))) else (some false)).bind fun aa=>bif aa then (some (.nx (IntKind.wrap .i64 (j - 1)))) else (some (.br j)):Option (Fl (Int) Empty))) N (p0.length:Int)).bind fun ab=>ab.cs (fun(j:Int)=>(bif (decide (j>0)) then ((idx p0 (IntKind.wrap .i64 (j - 1))).bind fun ad=>some (ad==p1)) else (some false)).bind fun ae=>bif ae then (some p0) else ((sC p0 0 j).bind fun af=>(app 8 ([]: (List Int)) af).bind fun ag=>(app 8 ag ([p1]: (List Int))).bind fun ah=>(sC p0 j (p0.length:Int)).bind fun ai=>(app 8 ah ai).bind fun aj=>some aj)) (fun r=>r.elim)
def gj (N:Nat) (p0_7: (List (List Int))) (p1:Int) (p2: (List Bool)):Option (((List Int)×(List Int)×(List fk))×(List Bool)):=
 (idx p2 p1).bind fun ax=>(mk 1 (false:Bool) (p0_7.length:Int)).bind fun ae=>(jz (fun(o: (List Bool)×(List Int)×(List Int)×(List Bool)×(List Int)×Int)=>(bif (decide (o.2.2.2.2.2< (o.2.2.2.2.1.length:Int))) then ((jz (fun(j: (List Bool)×(List Int)×(List Int)×(List Bool)×(List Int)×Int)=>(bif (decide (j.2.2.2.2.2< (p0_7.length:Int))) then (((idx j.2.2.2.1 j.2.2.2.2.2).bind fun af=>bif af then (some true) else ((idx p0_7 j.2.2.2.2.2).bind fun ag=>(idx j.2.2.2.2.1 o.2.2.2.2.2).bind fun ah=>(cS N ag ah).bind fun ai=>some (!ai))).bind fun aj=>bif aj then (some (.nx (j.1,j.2.1,j.2.2.1,j.2.2.2.1,j.2.2.2.2.1,(IntKind.wrap .i64 (j.2.2.2.2.2+1))))) else ((idx j.2.2.2.1 j.2.2.2.2.2).bind fun ay=>(iv N j.2.2.1 j.2.2.2.2.2).bind fun ak=>(jz (fun(aa: (List Bool)×(List Int)×(List Int)×Int)=>((idx p0_7 j.2.2.2.2.2).bind fun al=>bif (decide (aa.2.2.2< (al.length:Int))) then ((idx p0_7 j.2.2.2.2.2).bind fun an=>(idx an aa.2.2.2).bind fun ab=>(idx aa.1 ab).bind fun ao=>(bif (!ao) then ((idx aa.1 ab).bind fun az=>(iv N aa.2.1 ab).bind fun aq=>(app 8 aa.2.2.1 ([ab]: (List Int))).bind fun ar=>some ((aa.1.set (Int.toNat ab) true),aq,ar)) else (some (aa.1,aa.2.1,aa.2.2.1))).bind fun ad=>some (.nx (ad.1,ad.2.1,ad.2.2,(IntKind.wrap .i64 (aa.2.2.2+1))))) else (some (.br (aa.1,aa.2.1,aa.2.2.1,aa.2.2.2))):Option (Fl ((List Bool)×(List Int)×(List Int)×Int) Empty))) N (j.1,j.2.1,j.2.2.2.2.1,0)).bind fun au=>au.cs (fun(aa: (List Bool)×(List Int)×(List Int)×Int)=>some (.nx (aa.1,aa.2.1,ak,(j.2.2.2.1.set (Int.toNat j.2.2.2.2.2) true),aa.2.2.1,(IntKind.wrap .i64 (j.2.2.2.2.2+1))))) (fun r=>r.elim))) else (some (.br (j.1,j.2.1,j.2.2.1,j.2.2.2.1,j.2.2.2.2.1,j.2.2.2.2.2))):Option (Fl ((List Bool)×(List Int)×(List Int)×(List Bool)×(List Int)×Int) Empty))) N (o.1,o.2.1,o.2.2.1,o.2.2.2.1,o.2.2.2.2.1,0)).bind fun av=>av.cs (fun(j: (List Bool)×(List Int)×(List Int)×(List Bool)×(List Int)×Int)=>some (.nx (j.1,j.2.1,j.2.2.1,j.2.2.2.1,j.2.2.2.2.1,(IntKind.wrap .i64 (o.2.2.2.2.2+1))))) (fun r=>r.elim)) else (some (.br (o.1,o.2.1,o.2.2.1,o.2.2.2.1,o.2.2.2.2.1,o.2.2.2.2.2))):Option (Fl ((List Bool)×(List Int)×(List Int)×(List Bool)×(List Int)×Int) Empty))) N ((p2.set (Int.toNat p1) true),([p1]: (List Int)),([]: (List Int)),ae,([p1]: (List Int)),0)).bind fun aw=>aw.cs (fun(o: (List Bool)×(List Int)×(List Int)×(List Bool)×(List Int)×Int)=>some ((o.2.1,o.2.2.1,([]: (List fk))),o.1)) (fun r=>r.elim)
def eM (N:Nat) (p0: (List aI)) (p1:jc):Option (Bool):=
 (gH N p0 p1.Y).bind fun j=>(gh N j p1.X).bind fun o=>some o
def gA (N:Nat) (p0_2: (List cD)) (p0_4: (List Int)) (p0_5: (List (List aI))) (p1:fK):Option (j9×Bool):=
 (jz (fun(o:Int)=>(bif (decide (o< (p0_5.length:Int))) then (((idx p0_4 o).bind fun aa=>bif (aa==p1.cU) then ((idx p0_5 o).bind fun ab=>(eM N ab p1.At).bind fun ad=>some ad) else (some false)).bind fun ae=>bif ae then (some (.rt ((⟨false,o⟩:j9),true))) else (some (.nx (IntKind.wrap .i64 (o+1))))) else (some (.br o)):Option (Fl (Int) (j9×Bool)))) N 0).bind fun af=>af.cs (fun(o:Int)=>(jz (fun(j:Int)=>(bif (decide (j< (p0_2.length:Int))) then (((idx p0_2 j).bind fun ag=>bif ag.fJ then ((idx p0_2 j).bind fun ah=>(eR N ah p1.cU).bind fun ai=>bif ai then ((idx p0_2 j).bind fun aj=>(cG N aj).bind fun ak=>(eM N ([ak]: (List aI)) p1.At).bind fun al=>some al) else (some false)) else (some false)).bind fun an=>bif an then (some (.rt ((⟨true,j⟩:j9),true))) else (some (.nx (IntKind.wrap .i64 (j+1))))) else (some (.br j)):Option (Fl (Int) (j9×Bool)))) N 0).bind fun ao=>ao.cs (fun(j:Int)=>some ((⟨false,0⟩:j9),false)) (fun r=>some r)) (fun r=>some r)
def dR (N:Nat) (p0_6: (List cO)) (p1:j9):Option (Int):=
 (jz (fun(j:Int)=>(bif (decide (j< (p0_6.length:Int))) then ((bif p1.cD then ((idx p0_6 j).bind fun o=>(cS N o.aO p1.Number).bind fun aa=>bif aa then (some true) else (bif (!p1.cD) then ((idx p0_6 j).bind fun ab=>(cS N ab.jP p1.Number).bind fun ad=>some ad) else (some false))) else (bif (!p1.cD) then ((idx p0_6 j).bind fun ae=>(cS N ae.jP p1.Number).bind fun af=>some af) else (some false))).bind fun ag=>bif ag then (some (.rt j)) else (some (.nx (IntKind.wrap .i64 (j+1))))) else (some (.br j)):Option (Fl (Int) Int))) N 0).bind fun ah=>ah.cs (fun(j:Int)=>some (-1)) (fun r=>some r)
def eI (N:Nat) (p0_2: (List cD)) (p0_4: (List Int)) (p0_5: (List (List aI))) (p0_6: (List cO)) (p1:fK):Option (Int):=
 (gA N p0_2 p0_4 p0_5 p1).bind fun j=>bif (!j.2) then (some (-1)) else ((dR N p0_6 j.1).bind fun o=>some o)
def eP (N:Nat) (p0_2: (List cD)) (p0_3: (List fK)) (p0_4: (List Int)) (p0_5: (List (List aI))) (p0_7: (List (List Int))):Option ((List cO)):=
 (mk 1 (false:Bool) (p0_5.length:Int)).bind fun ag=>(jz (fun(j: (List cO)×(List Bool)×Int)=>(bif (decide (j.2.2< (p0_5.length:Int))) then ((idx j.2.1 j.2.2).bind fun ah=>(bif (!ah) then ((gj N p0_7 j.2.2 j.2.1).bind fun ab=>(app 72 j.1 [(⟨ab.1.1,ab.1.2.1,ab.1.2.2⟩:cO)]).bind fun ai=>some (ai,ab.2)) else (some (j.1,j.2.1))).bind fun af=>some (.nx (af.1,af.2,(IntKind.wrap .i64 (j.2.2+1))))) else (some (.br (j.1,j.2.1,j.2.2))):Option (Fl ((List cO)×(List Bool)×Int) Empty))) N (([]: (List cO)),ag,0)).bind fun aj=>aj.cs (fun(j: (List cO)×(List Bool)×Int)=>(jz (fun(aa: (List cO)×Int)=>(bif (decide (aa.2< (p0_7.length:Int))) then (((idx p0_2 aa.2).bind fun ak=>bif ak.fJ then ((idx p0_7 aa.2).bind fun al=>some ((al.length:Int)==0)) else (some false)).bind fun an=>(bif an then ((app 72 aa.1 [(⟨([]: (List Int)),([aa.2]: (List Int)),([]: (List fk))⟩:cO)]).bind fun ao=>some ao) else (some aa.1)).bind fun aq=>some (.nx (aq,(IntKind.wrap .i64 (aa.2+1))))) else (some (.br (aa.1,aa.2))):Option (Fl ((List cO)×Int) Empty))) N (j.1,0)).bind fun ar=>ar.cs (fun(aa: (List cO)×Int)=>(jz (fun(o: (List cO)×Int)=>(bif (decide (o.2< (p0_3.length:Int))) then ((idx p0_3 o.2).bind fun ae=>(eI N p0_2 p0_4 p0_5 o.1 ae).bind fun ad=>(bif (decide (ad>=0)) then ((idx o.1 ad).bind fun au=>(app 32 au.fW ([(⟨ae.Part,ae.fk⟩:fk)]: (List fk))).bind fun av=>(idx o.1 ad).bind fun aw=>some (o.1.set (Int.toNat ad) {aw with fW:=av})) else (some o.1)).bind fun ax=>some (.nx (ax,(IntKind.wrap .i64 (o.2+1))))) else (some (.br (o.1,o.2))):Option (Fl ((List cO)×Int) Empty))) N (aa.1,0)).bind fun ay=>ay.cs (fun(o: (List cO)×Int)=>some o.1) (fun r=>r.elim)) (fun r=>r.elim)) (fun r=>r.elim)
def gK (N:Nat) (p0:ld):Option (((List (List aI))×(List aI)×(List cD)×(List fK)×(List Int)×(List (List aI))×(List cO)×(List (List Int)))):=
 (jz (fun(j: (List Int)×(List (List aI))×Int)=>(bif (decide (j.2.2< (p0.aJ.length:Int))) then ((fX N p0 j.2.2).bind fun ae=>(fw N ae).bind fun ad=>(jz (fun(o: (List Int)×(List (List aI))×Int)=>(bif (decide (o.2.2< (ad.length:Int))) then ((app 8 o.1 ([j.2.2]: (List Int))).bind fun af=>(idx ad o.2.2).bind fun ag=>(app 24 o.2.1 ([ag]: (List (List aI)))).bind fun ah=>some (.nx (af,ah,(IntKind.wrap .i64 (o.2.2+1))))) else (some (.br (o.1,o.2.1,o.2.2))):Option (Fl ((List Int)×(List (List aI))×Int) Empty))) N (j.1,j.2.1,0)).bind fun ai=>ai.cs (fun(o: (List Int)×(List (List aI))×Int)=>some (.nx (o.1,o.2.1,(IntKind.wrap .i64 (j.2.2+1))))) (fun r=>r.elim)) else (some (.br (j.1,j.2.1,j.2.2))):Option (Fl ((List Int)×(List (List aI))×Int) Empty))) N (([]: (List Int)),([]: (List (List aI))),0)).bind fun aj=>aj.cs (fun(j: (List Int)×(List (List aI))×Int)=>(jz (fun(aa: (List (List Int))×Int)=>(bif (decide (aa.2< (p0.aO.length:Int))) then ((jz (fun(ab: (List Int)×Int)=>((bif (decide (ab.2< (j.2.1.length:Int))) then ((idx p0.aO aa.2).bind fun ak=>some ak.fJ) else (some false)).bind fun al=>bif al then (((idx p0.aO aa.2).bind fun an=>(idx j.1 ab.2).bind fun ao=>(eR N an ao).bind fun aq=>bif aq then ((idx j.2.1 ab.2).bind fun ar=>(idx p0.aO aa.2).bind fun au=>(cG N au).bind fun av=>(iX N ar av).bind fun aw=>some aw) else (some false)).bind fun ax=>(bif ax then ((app 8 ab.1 ([ab.2]: (List Int))).bind fun ay=>some ay) else (some ab.1)).bind fun az=>some (.nx (az,(IntKind.wrap .i64 (ab.2+1))))) else (some (.br (ab.1,ab.2))):Option (Fl ((List Int)×Int) Empty))) N (([]: (List Int)),0)).bind fun a0=>a0.cs (fun(ab: (List Int)×Int)=>(app 24 aa.1 ([ab.1]: (List (List Int)))).bind fun a1=>some (.nx (a1,(IntKind.wrap .i64 (aa.2+1))))) (fun r=>r.elim)) else (some (.br (aa.1,aa.2))):Option (Fl ((List (List Int))×Int) Empty))) N (([]: (List (List Int))),0)).bind fun a2=>a2.cs (fun(aa: (List (List Int))×Int)=>(eP N p0.aO p0.bV j.1 j.2.1 aa.1).bind fun a3=>some (p0.aJ,p0.cE,p0.aO,p0.bV,j.1,j.2.1,a3,aa.1)) (fun r=>r.elim)) (fun r=>r.elim)
def eL (N:Nat) (p0:ld) (p1:Int):Option ((List aI)×Int):=
 (dB N p0).bind fun j=>bif (j != 0) then (some (([]: (List aI)),j)) else ((gK N p0).bind fun o=>(cK N p1 0 (IntKind.wrap .i64 ((o.2.2.2.2.2.1.length:Int) - 1))).bind fun aa=>bif (!aa) then (some (([]: (List aI)),9)) else ((idx o.2.2.2.2.2.1 p1).bind fun ab=>some (ab,0)))
def jV (N:Nat) (p0:ld) (p1:Int):Option ((List Int)×Int):=
 (iO N p0).bind fun j=>Gn j.1 (bif (j.2 != 0) then (some (([]: (List Int)),j.2)) else (none)) (fun(o: ((List (List aI))×(List aI)×(List cD)×(List fK)×(List (List aA))×(List aK)×(List (List Int))×(List cO)×(List Int)×(List Int)×(List Int)×(List j9)))=>bif (j.2 != 0) then (some (([]: (List Int)),j.2)) else ((fg N p1 0 (IntKind.wrap .i64 ((o.2.2.1.length:Int) - 1))).bind fun aa=>bif (!aa) then (some (([]: (List Int)),9)) else ((idx o.2.2.2.2.2.2.1 p1).bind fun ab=>some (ab,0))))
def fO (N:Nat) (p0:ld) (p1:Int):Option ((List Int)×Int):=
 (dB N p0).bind fun j=>bif (j != 0) then (some (([]: (List Int)),j)) else ((cK N p1 0 (IntKind.wrap .i64 ((p0.aO.length:Int) - 1))).bind fun o=>bif (!o) then (some (([]: (List Int)),9)) else ((gK N p0).bind fun aa=>(idx aa.2.2.2.2.2.2.2 p1).bind fun ab=>some (ab,0)))
def iM (N:Nat):Option (Bool):=
 (kC N (⟨⟨0,0⟩,2,0,0,false⟩:cD)).bind fun j=>(bif (j.2==0) then (some (decide (j.1= (⟨(-1),(-1),1,1⟩:aI)))) else (some false)).bind fun o=>some o
def fS (N:Nat) (p0:ld) (p1 p2:Int):Option (Bool):=
 (gZ N p0 p1).bind fun j=>(eL N p0 p1).bind fun o=>(jV N p0 p2).bind fun aa=>(fO N p0 p2).bind fun ab=>((eX N j.1 o.1).bind fun ad=>bif (ad&&(j.2==o.2)) then ((kO N aa.1 ab.1).bind fun ae=>bif (ae&&(aa.2==ab.2)) then ((iM N).bind fun af=>some af) else (some false)) else (some false)).bind fun ag=>some ag
end
end Go.Gk
namespace Go.Gk
open Go
def u7 {R:Type} (m:Nat) (e:Nat->Option R):Option R:=(List.range m).findSome? e
theorem nK {R:Type} {m:Nat} {e:Nat->Option R}:u7 m e=none↔∀k,k<m->e k=none:=by
 simp [u7]
theorem oE {R:Type} {m:Nat} {e:Nat->Option R} {r:R}:u7 m e=some r↔∃k,k<m/\e k=some r/\∀j,j<k->e j=none:=by
 constructor
 ·intro h
  obtain⟨l1,a,l2,hl,ha,hn⟩:=List.findSome?_eq_some_iff.1 h
  have hlen:l1.length<m:=by have:=congrArg List.length hl;simp at this;omega
  have hget: ∀i,i<l1.length->l1[i]? =some i:=fun i hi=>by
   have:=congrArg (·[i]?) hl
   simp only [gq hi,List.getElem?_range (show i<m by omega)] at this
   exact this.symm
  have hat:a=l1.length:=by
   have:=congrArg (·[l1.length]?) hl
   simp [List.getElem?_range hlen] at this
   exact this.symm
  refine⟨a,by omega,ha,fun j hj=>hn j ?_⟩
  exact eU (hget j (by omega))
 ·rintro⟨k,hk,he,hn⟩
  refine List.findSome?_eq_some_iff.2 ⟨List.range k,k,(List.range (m - k - 1)).map (· + (k+1)),?_,he,fun x hx=>hn x (qO.1 hx)⟩
  refine List.ext_getElem? fun i=>?_
  by_cases h1:i<k
  ·rw [gq (by simpa using h1),List.getElem?_range (by omega),List.getElem?_range h1]
  ·rw [gE (by simpa using h1),List.length_range]
   by_cases h2:i=k
   ·subst h2;simp [List.getElem?_range hk]
   ·obtain⟨d,rfl⟩: ∃d,i=k+1+d:=⟨i - (k+1),by omega⟩
    rw [show k+1+d - k=d+1 by omega,List.getElem?_cons_succ,gr]
    by_cases h3:k+1+d<m
    ·rw [List.getElem?_range h3,List.getElem?_range (by omega)];simp;omega
    ·rw [List.getElem?_eq_none (by simp;omega),List.getElem?_eq_none (by simp;omega)];rfl
section
variable {S R:Type}
def Fz (o:Option R) (s:S):Fl S R:=match o with | some r=> .rt r | none=> .nx s
def Ea (o:Option R) (s:S):Fo S R:=match o with | some r=> .rt r | none=> .go s
theorem C3 {body:Nat->S->Option (Fl S R)} (F:Nat->S) (e:Nat->Option R) (m:Nat): ∀(n k:Nat),k+n=m->
  (∀j,k<=j->j<m->(∀i,k<=i->i<j->e i=none)->body j (F j)=some (Fz (e j) (F (j+1))))->
  ∃o,Bv body n k (F k)=some o/\((∀j,k<=j->j<m->e j=none)/\o = .go (F m)\/∃j r,k<=j/\j<m/\e j=some r/\(∀i,k<=i->i<j->e i=none)/\o = .rt r)
 | 0,k,hk,_=>⟨_,rfl, .inl ⟨fun j h1 h2=>by omega,by rw [show k=m by omega]⟩⟩
 | n+1,k,hk,h=>by
  have hb:=h k (bT _) (by omega) (fun i h1 h2=>by omega)
  unfold Bv
  rw [hb]
  cases hx:e k with
  | some r=>exact⟨_,rfl, .inr ⟨k,r,bT _,by omega,hx,fun i h1 h2=>by omega,rfl⟩⟩
  | none=>
   obtain⟨o,ho,hc⟩:=C3 F e m n (k+1) (by omega) (fun j h1 h2 h3=>h j (by omega) h2 fun i h4 h5=>by
    by_cases h6:i=k
    ·subst h6;exact hx
    ·exact h3 i (by omega) h5)
   refine⟨o,ho,?_⟩
   rcases hc with ⟨h1,h2⟩ | ⟨j,r,h1,h2,h3,h4,h5⟩
   ·refine .inl ⟨fun j h3 h4=>?_,h2⟩
    by_cases h6:j=k
    ·subst h6;exact hx
    ·exact h1 j (by omega) h4
   ·refine .inr ⟨j,r,by omega,h2,h3,fun i h6 h7=>?_,h5⟩
    by_cases h8:i=k
    ·subst h8;exact hx
    ·exact h4 i (by omega) h7
theorem HT {body:Nat->S->Option (Fl S R)} {m:Nat} {s:S} (F:Nat->S) (e:Nat->Option R) (hm:m<=4611686018427387904) (hs:F 0=s)
  (h: ∀k,k<m->(∀i,i<k->e i=none)->body k (F k)=some (Fz (e k) (F (k+1)))):uY m body s=some (Ea (u7 m e) (F m)):=by
 subst hs
 unfold uY
 rw [aC hm]
 obtain⟨o,ho,hc⟩:=C3 F e m m 0 (by omega) (fun j _ h2 h3=>h j h2 fun i hi=>h3 i (dM _) hi)
 rw [ho]
 rcases hc with ⟨h1,h2⟩ | ⟨j,r,_,h2,h3,h4,h5⟩
 ·rw [nK.2 fun k hk=>h1 k (dM _) hk,h2];rfl
 ·rw [oE.2 ⟨j,h2,h3,fun i hi=>h4 i (dM _) hi⟩,h5];rfl
theorem rI {body:Nat->Unit->Option (Fl Unit R)} {m:Nat} (e:Nat->Option R) (hm:m<=4611686018427387904)
  (h: ∀k,k<m->(∀i,i<k->e i=none)->body k ()=some (Fz (e k) ())):uY m body ()=some (Ea (u7 m e) ()):=
 HT (fun _=>()) e hm rfl h
theorem wO {body:S->Option (Fl S R)} (Inv:S->Prop) (μ:S->Nat) (Go:S->Prop) (Rt:R->Prop)
  (h: ∀s,Inv s->∃fl,body s=some fl/\match fl with | .nx s'=>Inv s'/\μ s'<μ s | .br s'=>Go s' | .rt r=>Rt r):
  ∀(N:Nat) (s:S),Inv s->μ s<N->∃o,jz body N s=some o/\match o with | .go s'=>Go s' | .rt r=>Rt r
 | 0,s,_,hn=>by omega
 | N+1,s,hi,hn=>by
  obtain⟨fl,hb,hf⟩:=h s hi
  unfold jz
  rw [hb]
  cases fl with
  | nx s'=>exact wO Inv μ Go Rt h N s' hf.1 (by have:=hf.2;omega)
  | br s'=>exact⟨_,rfl,hf⟩
  | rt r=>exact⟨_,rfl,hf⟩
theorem C4 {body:Nat->S->Option (Fl S R)} (Inv:Nat->S->Prop) (Go:S->Prop) (Rt:R->Prop) (m:Nat)
  (h: ∀k s,k<m->Inv k s->∃fl,body k s=some fl/\match fl with | .nx s'=>Inv (k+1) s' | .br s'=>Go s' | .rt r=>Rt r) (hg: ∀s,Inv m s->Go s):
  ∀(n k:Nat) (s:S),k+n=m->Inv k s->∃o,Bv body n k s=some o/\match o with | .go s'=>Go s' | .rt r=>Rt r
 | 0,k,s,hk,hi=>⟨_,rfl,hg s (by rw [<-hk];exact hi)⟩
 | n+1,k,s,hk,hi=>by
  obtain⟨fl,hb,hf⟩:=h k s (by omega) hi
  unfold Bv
  rw [hb]
  cases fl with
  | nx s'=>exact C4 Inv Go Rt m h hg n (k+1) s' (by omega) hf
  | br s'=>exact⟨_,rfl,hf⟩
  | rt r=>exact⟨_,rfl,hf⟩
theorem HU {body:Nat->S->Option (Fl S R)} {m:Nat} {s:S} (Inv:Nat->S->Prop) (Go:S->Prop) (Rt:R->Prop) (hm:m<=4611686018427387904) (h0:Inv 0 s)
  (h: ∀k s,k<m->Inv k s->∃fl,body k s=some fl/\match fl with | .nx s'=>Inv (k+1) s' | .br s'=>Go s' | .rt r=>Rt r) (hg: ∀s,Inv m s->Go s):
  ∃o,uY m body s=some o/\match o with | .go s'=>Go s' | .rt r=>Rt r:=by
 unfold uY
 rw [aC hm]
 exact C4 Inv Go Rt m h hg m 0 s (by omega) h0
theorem C5 {body:Nat->S->Option S} (Inv:Nat->S->Prop) (m:Nat) (h: ∀k s,k<m->Inv k s->∃s',body k s=some s'/\Inv (k+1) s'):
  ∀(n k:Nat) (s:S),k+n=m->Inv k s->∃s',Gb body n k s=some s'/\Inv m s'
 | 0,k,s,hk,hi=>⟨_,rfl,by rw [<-hk];exact hi⟩
 | n+1,k,s,hk,hi=>by
  obtain⟨s',hb,hf⟩:=h k s (by omega) hi
  unfold Gb
  rw [hb]
  exact C5 Inv m h n (k+1) s' (by omega) hf
theorem yW {body:Nat->S->Option S} {m:Nat} {s:S} (Inv:Nat->S->Prop) (hm:m<=4611686018427387904) (h0:Inv 0 s)
  (h: ∀k s,k<m->Inv k s->∃s',body k s=some s'/\Inv (k+1) s'): ∃s',nE m body s=some s'/\Inv m s':=by
 unfold nE
 rw [aC hm]
 exact C5 Inv m h m 0 s (by omega) h0
end
section
variable {α β:Type}
theorem aB (x:α) (f:α->Option β): (some x).bind f=f x:=rfl
theorem kI (l:List α) (k:Nat) (h:k<l.length):idx l ((k:Nat):Int)=some l[k]:=by
 unfold idx;rw [aC (by omega),cH,aN h]
theorem dU {l:List α} {k:Nat} {x:α} (h:l[k]? =some x):idx l ((k:Nat):Int)=some x:=by
 unfold idx;rw [aC (by omega),cH,h]
theorem C6 (s:eG) (k:Nat) (h:k<s.cY.length):DT s ((k:Nat):Int)=some s.cY[k]:=by
 unfold DT;rw [aC (by omega),cH,aN h]
theorem i5 {k:Nat} (h:0<k) (hk:k<=4611686018427387904):IntKind.wrap .i64 (((k:Nat):Int) - 1)= ((k - 1:Nat):Int):=by
 rw [eT (by omega) (by omega)];omega
theorem qf (l:List α) (k:Nat) (h:k<=l.length):sC l 0 ((k:Nat):Int)=some (l.take k):=by
 unfold sC;rw [aC ⟨by omega,by omega,by omega⟩]
 simp only [Int.toNat_zero,List.drop_zero,Int.sub_zero,cH]
theorem oR (l:List α) (k:Nat) (h:k<=l.length):sC l ((k:Nat):Int) ((l.length:Nat):Int)=some (l.drop k):=by
 unfold sC;rw [aC ⟨by omega,by omega,by omega⟩]
 simp only [cH,Option.some.injEq]
 rw [lj];rw [iA];omega
theorem kq {b:Nat} {l ys:List α} (h: (l.length+ys.length)*b<=140737488355328):app b l ys=some (l++ys):=by unfold app;rw [aC h]
theorem qT {b:Nat} (z:α) {n:Nat} (h:n*b<=140737488355328):mk b z ((n:Nat):Int)=some (List.replicate n z):=by
 unfold mk
 have e: ((n:Nat):Int)* ((b:Nat):Int)= ((n*b:Nat):Int):=(Int.natCast_mul n b).symm
 rw [e]
 generalize n*b=q at h ⊢
 rw [aC ⟨by omega,by omega⟩,cH]
end
theorem eG.ext' {a b:eG} (h:a.cY=b.cY):a=b:=by cases a;cases b;simp at h;rw [h]
theorem BQ {a b:eG}:a.sA b=true↔a=b:=by
 unfold eG.sA;rw [beq_iff_eq];exact⟨eG.ext',fun h=>by rw [h]⟩
theorem yi: ∀(a:List UInt8),Op.bytesLess a a=false
 | []=>rfl
 | a::l=>by
  unfold Op.bytesLess
  rw [yi l];simp
theorem zm: ∀{a b c:List UInt8},Op.bytesLess a b=true->Op.bytesLess b c=true->Op.bytesLess a c=true
 | [],[],_,h,_=>by simp [Op.bytesLess] at h
 | [],_::_,[],_,h=>by simp [Op.bytesLess] at h
 | [],_::_,_::_,_,_=>rfl
 | _::_,[],_,h,_=>by simp [Op.bytesLess] at h
 | _::_,_::_,[],_,h=>by simp [Op.bytesLess] at h
 | a::l,b::m,c::n,h1,h2=>by
  unfold Op.bytesLess at h1 h2 ⊢
  simp only [dK,bW,bQ,beq_iff_eq] at h1 h2 ⊢
  rcases h1 with h1 | ⟨rfl,h1⟩
  ·rcases h2 with h2 | ⟨rfl,h2⟩
   ·exact .inl (UInt8.lt_trans h1 h2)
   ·exact .inl h1
  ·rcases h2 with h2 | ⟨rfl,h2⟩
   ·exact .inl h2
   ·exact .inr ⟨rfl,zm h1 h2⟩
theorem zn: ∀(a b:List UInt8),Op.bytesLess a b=true\/a=b\/Op.bytesLess b a=true
 | [],[]=> .inr (.inl rfl)
 | [],_::_=> .inl rfl
 | _::_,[]=> .inr (.inr rfl)
 | a::l,b::m=>by
  unfold Op.bytesLess
  simp only [dK,bW,bQ,beq_iff_eq]
  by_cases h1:a<b
  ·exact .inl (.inl h1)
  ·by_cases h2:b<a
   ·exact .inr (.inr (.inl h2))
   ·have e:a=b:=by
     simp only [UInt8.lt_iff_toNat_lt] at h1 h2
     exact UInt8.toNat_inj.1 (by omega)
    subst e
    rcases zn l m with h | h | h
    ·exact .inl (.inr ⟨rfl,h⟩)
    ·exact .inr (.inl (by rw [h]))
    ·exact .inr (.inr (.inr ⟨rfl,h⟩))
theorem vN: ∀(a b:List UInt8),Lib.compareBytes a b<0↔Op.bytesLess a b=true
 | [],[]=>by simp [Lib.compareBytes,Op.bytesLess]
 | [],_::_=>by simp [Lib.compareBytes,Op.bytesLess]
 | _::_,[]=>by simp [Lib.compareBytes,Op.bytesLess]
 | a::l,b::m=>by
  unfold Lib.compareBytes Op.bytesLess
  simp only [dK,bW,bQ,beq_iff_eq]
  split
  ·simp_all
  ·rename_i h1
   split
   ·rename_i h2
    have h3:a≠b:=fun e=>by subst e;exact h1 h2
    simp [h1,h3]
   ·rename_i h2
    have e:a=b:=by
     simp only [UInt8.lt_iff_toNat_lt] at h1 h2
     exact UInt8.toNat_inj.1 (by omega)
    subst e
    rw [vN l m];simp [h1]
theorem vO: ∀(a b:List UInt8),Lib.compareBytes a b=0↔a=b
 | [],[]=>by simp [Lib.compareBytes]
 | [],_::_=>by simp [Lib.compareBytes]
 | _::_,[]=>by simp [Lib.compareBytes]
 | a::l,b::m=>by
  unfold Lib.compareBytes
  split
  ·rename_i h1
   have h3:a≠b:=fun e=>by subst e;exact absurd h1 (by simp)
   simp [h3]
  ·rename_i h1
   split
   ·rename_i h2
    have h3:a≠b:=fun e=>by subst e;exact h1 h2
    simp [h3]
   ·rename_i h2
    have e:a=b:=by
     simp only [UInt8.lt_iff_toNat_lt] at h1 h2
     exact UInt8.toNat_inj.1 (by omega)
    subst e
    rw [vO l m];simp
def eG.lt (a b:eG):Prop:=a.sB b=true
theorem eG.lt_irrefl (a:eG): ¬eG.lt a a:=by unfold eG.lt eG.sB;rw [yi];decide
theorem eG.lt_trans {a b c:eG} (h1:eG.lt a b) (h2:eG.lt b c):eG.lt a c:=zm h1 h2
theorem eG.C7 (a b:eG):eG.lt a b\/a=b\/eG.lt b a:=by
 rcases zn a.cY b.cY with h | h | h
 ·exact .inl h
 ·exact .inr (.inl (eG.ext' h))
 ·exact .inr (.inr h)
theorem eG.IC {a b:eG} (h:eG.lt a b):a≠b:=fun e=>by subst e;exact eG.lt_irrefl a h
end Go.Gk
namespace Go.Gk
open Go
class Bk (α:Type) where
 bk:α->Nat
 pos: ∀x,1<=bk x
def bk {α:Type} [Bk α] (x:α):Nat:=Bk.bk x
theorem GP {α:Type} [Bk α] (x:α):1<=bk x:=Bk.pos x
instance:Bk eG:=⟨fun s=>s.cY.length+1,fun _=>by omega⟩
instance:Bk Int:=⟨fun _=>1,fun _=>by omega⟩
instance:Bk Bool:=⟨fun _=>1,fun _=>by omega⟩
instance {α:Type} [Bk α]:Bk (List α):=⟨fun l=>(l.map bk).sum+1,fun _=>by omega⟩
theorem GQ {α:Type} [Bk α]:bk ([]:List α)=1:=rfl
theorem BR {α:Type} [Bk α] (x:α) (l:List α):bk (x::l)=bk x+bk l:=by
 show (List.map bk (x::l)).sum+1=bk x+ ((List.map bk l).sum+1)
 simp;omega
theorem Eb {α:Type} [Bk α]: ∀{l:List α} {x:α},x∈l->bk x+1<=bk l
 | y::l,x,h=>by
  rw [BR]
  rcases dC.1 h with h | h
  ·subst h;have:=GP l;omega
  ·have:=Eb h;omega
theorem xK {α:Type} [Bk α]: ∀(l:List α),l.length+1<=bk l
 | []=>by rw [GQ];simp
 | x::l=>by rw [BR,dP];have:=xK l;have:=GP x;omega
theorem GR (s:eG):bk s=s.cY.length+1:=rfl
section
variable {α R:Type}
theorem FA {l:List α} {e:Nat->Option R} (f:α->Option R) (h: ∀k x,l[k]? =some x->e k=f x):u7 l.length e=l.findSome? f:=by
 cases hx:u7 l.length e with
 | none=>
  refine(List.findSome?_eq_none_iff.2 fun x hm=>?_).symm
  obtain⟨k,hk⟩:=dS hm
  rw [<-h k x hk];exact nK.1 hx k (bA.1 hk).1
 | some r=>
  obtain⟨k,hk,he,hn⟩:=oE.1 hx
  refine(List.findSome?_eq_some_iff.2 ⟨l.take k,l[k],l.drop (k+1),?_,?_,fun y hy=>?_⟩).symm
  ·rw [<-sD hk,List.take_append_drop]
  ·rw [<-h k l[k] (aN hk)];exact he
  ·obtain⟨j,hj⟩:=dS hy
   have hjk:j<k:=by have:=(bA.1 hj).1;rw [cL] at this;omega
   rw [List.getElem?_take_of_lt hjk] at hj
   rw [<-h j y hj];exact hn j hjk
theorem BS (l:List α) (p:α->Bool) (r:R):l.findSome? (fun x=>if p x=true then some r else none)=if l.any p=true then some r else none:=by
 induction l with
 | nil=>simp
 | cons x l ih=>
  rw [List.findSome?_cons,List.any_cons]
  cases h:p x <;> simp [ih]
theorem zo {l:List α} {body:Nat->Unit->Option (Fl Unit R)} (f:α->Option R) (hl:l.length<=4611686018427387904)
  (h: ∀k x,l[k]? =some x->body k ()=some (Fz (f x) ())):uY l.length body ()=some (Ea (l.findSome? f) ()):=by
 have h2:=rI (body:=body) (m:=l.length) (fun k=>(l[k]?).bind f) hl (fun k hk _=>by
  rw [h k l[k] (aN hk),aN hk];rfl)
 rw [h2,FA f (fun k x hx=>by rw [hx];rfl)]
theorem HV {l:List α} {body:Nat->Unit->Option (Fl Unit R)} (p:α->Bool) (r:R) (hl:l.length<=4611686018427387904)
  (h: ∀k x,l[k]? =some x->body k ()=some (if p x=true then .rt r else .nx ())):uY l.length body ()=some (if l.any p=true then .rt r else .go ()):=by
 rw [zo (fun x=>if p x=true then some r else none) hl (fun k x hx=>by rw [h k x hx];cases p x <;> rfl),BS]
 cases l.any p <;> rfl
end
theorem HW {β:Type} (b:Bool) (x y:β): (bif b then some x else some y)=some (bif b then x else y):=by cases b <;> rfl
section
variable {α β:Type}
def KP (l:List α) (p:α->Bool):Int:=match l.findIdx? p with | some k=>((k:Nat):Int) | none=> -1
theorem xL (l:List α) (p:α->Bool): (KP l p = -1/\∀x∈l,p x=false)\/∃k x,KP l p= ((k:Nat):Int)/\l[k]? =some x/\p x=true/\∀j y,j<k->l[j]? =some y->p y=false:=by
 unfold KP
 cases h:l.findIdx? p with
 | none=>exact .inl ⟨rfl,fun x hx=>by have:=List.findIdx?_eq_none_iff.1 h x hx;simpa using this⟩
 | some k=>
  obtain⟨hk,hp,hn⟩:=List.findIdx?_eq_some_iff_getElem.1 h
  refine .inr ⟨k,l[k],rfl,aN hk,hp,fun j y hj hy=>?_⟩
  have:=hn j hj
  rw [aN (by omega)] at hy
  injection hy with hy
  subst hy;simpa using this
theorem Jn (l:List α) (p:α->Bool):decide (KP l p>=0)=l.any p:=by
 rcases xL l p with ⟨h,hn⟩ | ⟨k,x,h,hx,hp,_⟩
 ·rw [h,List.any_eq_false.2 (fun x hx=>by rw [hn x hx];decide)];decide
 ·rw [h,kG.2 ⟨x,eU hx,hp⟩];simp
def sM (p0:List α) (p1:α->Option Bool):Option Int:=
 (uY p0.length (fun(k1:Nat) (_:Unit)=>((idx p0 ((k1:Nat):Int)).bind fun x7=>(p1 x7).bind fun x10=>bif x10 then (some (.rt ((k1:Nat):Int))) else (some (.nx ())):Option (Fl (Unit) Int))) ()).bind fun o11=>o11.cs (fun(_:Unit)=>some (-1)) (fun r=>some r)
theorem vr {l:List α} {φ:α->Option Bool} (p:α->Bool) (hl:l.length<=4611686018427387904) (h: ∀x∈l,φ x=some (p x)):sM l φ=some (KP l p):=by
 unfold sM
 rw [rI (fun k=>(l[k]?).bind fun x=>if p x=true then some ((k:Nat):Int) else none) hl (fun k hk _=>by
  rw [kI l k hk,aB,h _ (cM hk),aB,aN hk]
  cases hp:p l[k] <;> simp [Fz,hp]),aB]
 rcases xL l p with ⟨h1,h2⟩ | ⟨k,x,h1,h2,h3,h4⟩
 ·rw [nK.2 (fun k hk=>by rw [aN hk];simp [h2 _ (cM hk)])]
  simp [Ea,Fo.cs,h1]
 ·rw [(oE (r:=((k:Nat):Int))).2 ⟨k,(bA.1 h2).1,by rw [h2];simp [h3],fun j hj=>by
   cases hy:l[j]? with
   | none=>rfl
   | some y=>simp [h4 j y hj hy]⟩]
  simp [Ea,Fo.cs,h1]
def rk (p0:List α) (p1:α->Option Bool):Option Bool:=
 (sM p0 p1).bind fun x1=>some (decide (x1>=0))
theorem rJ {l:List α} {φ:α->Option Bool} (p:α->Bool) (hl:l.length<=4611686018427387904) (h: ∀x∈l,φ x=some (p x)):rk l φ=some (l.any p):=by
 unfold rk
 rw [vr p hl h,aB,Jn]
def Ec [DecidableEq α] (p0 p1:List α):Option Bool:=
 bif (((p0.length:Nat):Int) != ((p1.length:Nat):Int)) then (some false) else ((uY p0.length (fun(k1:Nat) (_:Unit)=>((idx p0 ((k1:Nat):Int)).bind fun x13=>(idx p1 ((k1:Nat):Int)).bind fun x16=>bif (!(decide (x13=x16))) then (some (.rt false)) else (some (.nx ())):Option (Fl (Unit) Bool))) ()).bind fun o23=>o23.cs (fun(_:Unit)=>some true) (fun r=>some r))
theorem A5 [DecidableEq α] {l m:List α} (hl:l.length<=4611686018427387904):Ec l m=some (decide (l=m)):=by
 unfold Ec
 by_cases h:l.length=m.length
 ·have e: (((l.length:Nat):Int) != ((m.length:Nat):Int))=false:=by rw [h];simp
  rw [e,aR]
  rw [rI (fun k=>if l[k]? =m[k]? then none else some false) hl (fun k hk _=>by
   rw [kI l k hk,aB,kI m k (by omega),aB,aN hk,aN (by omega:k<m.length)]
   by_cases hx:l[k]=m[k] <;> simp [Fz,hx]),aB]
  by_cases hx:l=m
  ·subst hx;rw [nK.2 (fun k _=>aC rfl)];simp [Ea,Fo.cs]
  ·have: ∃r,u7 l.length (fun k=>if l[k]? =m[k]? then none else some false)=some r:=by
    cases hf:u7 l.length (fun k=>if l[k]? =m[k]? then none else some false) with
    | some r=>exact⟨r,rfl⟩
    | none=>
     exfalso;refine hx (List.ext_getElem? fun i=>?_)
     by_cases hi:i<l.length
     ·have:=nK.1 hf i hi
      by_cases h6:l[i]? =m[i]?
      ·exact h6
      ·rw [aG h6] at this;cases this
     ·rw [List.getElem?_eq_none (by omega),List.getElem?_eq_none (by omega)]
   obtain⟨r,hr⟩:=this
   have hr2:r=false:=by
    obtain⟨k,_,hk,_⟩:=oE.1 hr
    split at hk
    ·cases hk
    ·injection hk with hk;exact hk.symm
   rw [hr,hr2];simp [Ea,Fo.cs,hx]
 ·have e: (((l.length:Nat):Int) != ((m.length:Nat):Int))=true:=by simp;omega
  rw [e,aP,cC (fun h'=>h (by rw [h']))]
def GS (key:α->eG) (l:List α):Prop:=∀(i j:Nat) (x y:α),i<j->l[i]? =some x->l[j]? =some y->eG.lt (key x) (key y)
theorem GS.inj {key:α->eG} {l:List α} (h:GS key l) {i j:Nat} {x y:α} (hx:l[i]? =some x) (hy:l[j]? =some y) (e:key x=key y):i=j:=by
 rcases Nat.lt_trichotomy i j with h1 | h1 | h1
 ·exact absurd e (eG.IC (h i j x y h1 hx hy))
 ·exact h1
 ·exact absurd e.symm (eG.IC (h j i y x h1 hy hx))
end
end Go.Gk
namespace Go.Gk
open Go Go.ChangeShapes Go.WideShapes Go.RowKit
structure UB (ub: (H:Type)->DataW H->Nat) (ua: (H:Type)->List (DataW H)->Nat):Prop where
 str: ∀(H:Type) (b:List UInt8),ub H (.lit (.string b))=b.length+1
 pos: ∀(H:Type) (d:DataW H),1<=ub H d
 sl: ∀(H:Type) (e s:List (DataW H)),ub H (.slice e s)=ua H e+ua H s+1
 ag: ∀(H:Type) (l:List (DataW H)),ub H (.agg l)=ua H l+1
 nil: ∀(H:Type),ua H []=0
 cons: ∀(H:Type) (x:DataW H) (l:List (DataW H)),ua H (x::l)=ub H x+ua H l
def Hw (w:World):eK:=fun b=>w.heap[b]?
structure kF (ub: (H:Type)->DataW H->Nat) (P:Program) (T:TypeId) (α:Type) [GT α] [Bk α]:Prop where
 trod: ∀{H:Type} {enc:TypeId×Value->H} {w:World} {base:Nat} {spare:Nat->Bool} {held:Bool} {fuel:Nat} {cs:List Value} {d:DataW H×List MemPlace},
  DataW.trod enc P w base spare held fuel T cs=some d->∃x:α,GT.ok (Hw w) cs x/\bk x<=ub H d.1
 KQ: ∀{w:World} {r:Reach} {base:Nat} {v:Value},Value.okWide P w r base T v->v=vB α v.cells.toList
section
variable {ub: (H:Type)->DataW H->Nat} {ua: (H:Type)->List (DataW H)->Nat} {P:Program} {T e:TypeId}
theorem FB (u:UB ub ua) (ht:P.underlying T=some (.int .i64)):kF ub P T Int where
 trod:=fun h=>by
  obtain⟨n,rfl,rfl,_⟩:=DataW.trod_int ht h
  exact⟨n,rfl,u.pos _ _⟩
 KQ:=fun h=>by obtain⟨n,rfl⟩:=okWide_int ht h;rfl
theorem Ed (u:UB ub ua) (ht:P.underlying T=some .bool):kF ub P T Bool where
 trod:=fun h=>by
  obtain⟨n,rfl,rfl⟩:=DataW.trod_bool ht h
  exact⟨n,rfl,u.pos _ _⟩
 KQ:=fun h=>by obtain⟨n,rfl⟩:=okWide_bool ht h;rfl
theorem FC (u:UB ub ua) (ht:P.underlying T=some .string):kF ub P T eG where
 trod:=fun h=>by
  obtain⟨s,rfl,rfl,_⟩:=DataW.trod_string ht h
  refine⟨⟨s.data.toList⟩,?_,?_⟩
  ·show [Value.string s]= [Gk.str ⟨s.data.toList⟩]
   cases s;rfl
  ·rw [u.str];exact bT _
 KQ:=fun h=>by obtain⟨n,rfl⟩:=okWide_string ht h;rfl
theorem yj {α:Type} {R:Nat->α->Prop}: ∀(n:Nat),(∀i,i<n->∃x,R i x)->∃l:List α,l.length=n/\∀i x,l[i]? =some x->R i x
 | 0,_=>⟨[],rfl,fun i x h=>by simp at h⟩
 | n+1,h=>by
  obtain⟨l,h1,h2⟩:=yj n (fun i hi=>h i (by omega))
  obtain⟨x,hx⟩:=h n (by omega)
  refine⟨l++[x],by simp [h1],fun i y hy=>?_⟩
  by_cases hi:i<n
  ·rw [gq (by omega)] at hy;exact h2 i y hy
  ·have:=(bA.1 hy).1
   rw [cZ] at this
   have:i=n:=by simp at this;omega
   subst this
   rw [gE (by omega),h1] at hy
   simp at hy;subst hy;exact hx
theorem A6 {H α:Type} [Bk α] (u:UB ub ua): ∀{l:List α} {es:List (DataW H×List MemPlace)},l.length=es.length->
  (∀(i:Nat) (x:α) (y:DataW H×List MemPlace),l[i]? =some x->es[i]? =some y->bk x<=ub H y.1)->bk l<=ua H (es.map (·.1))+1
 | [],[],_,_=>by rw [GQ];omega
 | x::l,y::es,hl,h=>by
  have h1:=h 0 x y rfl rfl
  have h2:=A6 (H:=H) u (l:=l) (es:=es) (by simpa using hl) (fun i x y hx hy=>h (i+1) x y (by simpa using hx) (by simpa using hy))
  rw [BR,dX,u.cons];omega
theorem C8 {w:World} {base:Nat} {a:Addr} {n:Nat} {cs:List Value} (h:w.cells? base a n=some cs):At (Hw w) a cs:=by
 intro j v hv
 obtain⟨_,hlen,hc⟩:=World.cells?_some h
 have hj:=(bA.1 hv).1
 have h2:=hc j (by omega)
 rw [hv] at h2
 unfold wg Hw
 unfold World.cell? at h2
 exact h2
theorem sN {α:Type} [GT α] [Bk α] (u:UB ub ua) (he:kF ub P e α) (ht:P.underlying T=some (.slice e):=by kernel_rfl) (hc:P.cellsOf e=GT.sz α:=by kernel_rfl):kF ub P T (List α) where
 trod:=fun{H enc w base spare held fuel cs d} h=>by
  rcases DataW.trod_slice ht h with ⟨rfl,rfl⟩ | ⟨a,len,cap,elems,rest,n,_,rfl,rfl,_,hlc,hcm,hlen,hel,_⟩
  ·exact⟨[],⟨_,rfl,none,0,0,rfl,rfl,bT _,by simp [maxLen],fun i x hx=>by simp at hx⟩,u.pos _ _⟩
  ·have each: ∀i,i<len->∃x:α,(∃c y,GT.ok (Hw w) c x/\At (Hw w) (a.add (i*GT.sz α)) c/\elems[i]? =some y/\bk x<=ub H y.1):=by
    intro i hi
    have h1:=hel i hi
    rw [aN (by omega:i<elems.length),Option.bind_eq_some_iff] at h1
    obtain⟨c,h2,h3⟩:=h1
    obtain⟨x,h4,h5⟩:=he.trod h3
    refine⟨x,c,_,h4,?_,aN (by omega),h5⟩
    rw [hc] at h2
    exact C8 h2
   obtain⟨l,hl,hr⟩:=yj len each
   refine⟨l,⟨_,rfl,some a,len,cap,rfl,hl.symm,hlc,hcm,fun i x hx=>?_⟩,?_⟩
   ·obtain⟨c,y,h1,h2,_⟩:=hr i x hx
    exact⟨a,c,rfl,h1,h2⟩
   ·have:=A6 (H:=H) u (l:=l) (es:=elems) (by omega) (fun i x y hx hy=>by
     obtain⟨c,y',_,_,h3,h4⟩:=hr i x hx
     rw [hy] at h3;injection h3 with h3;subst h3;exact h4)
    rw [u.sl];omega
 KQ:=fun h=>by obtain⟨a,n,c,rfl⟩:=okWide_slice ht h;rfl
def ES (ub: (H:Type)->DataW H->Nat) (ua: (H:Type)->List (DataW H)->Nat) (P:Program) (off:Nat) (fs:List Field) (β:Type) [GT β] (m:β->Nat):Prop:=
 ∀{H:Type} {enc:TypeId×Value->H} {w:World} {base:Nat} {spare:Nat->Bool} {held:Bool} {n:Nat} {cs:List Value} {ys:List (DataW H×List MemPlace)},
  (∀(i:Nat) (f:Field),fs[i]? =some f->DataW.trod enc P w base spare held n f.type ((cs.drop f.offset).take (P.cellsOf f.type))=ys[i]?)->ys.length=fs.length->
  cs.length=off+GT.sz β->∃x:β,GT.ok (Hw w) (cs.drop off) x/\m x<=ua H (ys.map (·.1))
theorem rK {β:Type} [GT β] [Bk β] {off:Nat} {f:Field} (u:UB ub ua) (h:kF ub P f.type β) (ho:f.offset=off) (hc:P.cellsOf f.type=GT.sz β:=by kernel_rfl):ES ub ua P off [f] β bk:=by
 intro H enc w base spare held n cs ys hf hl hcs
 match ys,hl with
 | [y],_=>
  have h1:=hf 0 f rfl
  rw [ho,hc,lj (by rw [iA];omega)] at h1
  obtain⟨x,h2,h3⟩:=h.trod (d:=y) h1
  exact⟨x,h2,by rw [dX,u.cons];omega⟩
theorem iI {α β:Type} [GT α] [GT β] [Bk α] {off off':Nat} {f:Field} {fs:List Field} {m:β->Nat} (u:UB ub ua) (h:kF ub P f.type α) (hr:ES ub ua P off' fs β m) (ho:f.offset=off:=by exact rfl) (hc:P.cellsOf f.type=GT.sz α:=by kernel_rfl) (hoff:off'=off+GT.sz α:=by exact rfl):ES ub ua P off (f::fs) (α×β) (fun x=>bk x.1+m x.2):=by
 intro H enc w base spare held n cs ys hf hl hcs
 have hsz:GT.sz (α×β)=GT.sz α+GT.sz β:=rfl
 match ys,hl with
 | y::ys,hl=>
  have h1:=hf 0 f rfl
  rw [ho,hc] at h1
  obtain⟨x,h2,h3⟩:=h.trod (d:=y) h1
  obtain⟨x',h4,h5⟩:=hr (n:=n) (cs:=cs) (ys:=ys) (fun i g hg=>hf (i+1) g hg) (by simpa using hl) (by omega)
  refine⟨(x,x'),⟨_,_,?_,h2,h4⟩,?_⟩
  ·rw [hoff,<-List.drop_drop,List.take_append_drop]
  ·rw [dX,u.cons];show bk x+m x'<=_;omega
theorem oh {γ β:Type} [GT β] [Bk γ] {fs:Array Field} {m:β->Nat} (u:UB ub ua) (f:γ->β) (g:β->γ) (hfg: ∀b,f (g b)=b) (ht:P.underlying T=some (.struct fs)) (h:ES ub ua P 0 fs.toList β m) (hm: ∀b,bk (g b)<=m b+1) (hc:P.cellsOf T=GT.sz β:=by kernel_rfl): @kF ub P T γ (GT.via f) _:=
 @kF.mk ub P T γ (GT.via f) _
  (fun{H enc w base spare held fuel cs d} hd=>by
   obtain⟨xs,n,_,rfl,hl,hlen,hf⟩:=DataW.trod_struct ht hd
   obtain⟨b,h1,h2⟩:=h (n:=n) (cs:=cs) (ys:=xs) (fun i g hg=>hf i g (by rw [<-Array.getElem?_toList];exact hg)) (by rw [hlen];simp) (by omega)
   refine⟨g b,?_,?_⟩
   ·show GT.ok (Hw w) cs (f (g b))
    rw [hfg];exact h1
   ·rw [u.ag];have:=hm b;omega)
  (fun hv=>by
   obtain⟨cs,rfl,_⟩:=okWide_struct ht hv
   cases cs;rfl)
theorem kF.arg {H:Type} {enc:TypeId×Value->H} {w:World} {base:Nat} {spare:Nat->Bool} {held:Bool} {r:Reach} {b0:Nat} {v:Value} {d:DataW H} {ps:List MemPlace} {α:Type} [GT α] [Bk α] (o:kF ub P T α)
  (hv:Value.okWide P w r b0 T v) (hd:DataW.Trod enc P w base spare held T v d ps): ∃x:α,vC (Hw w) v x/\bk x<=ub H d:=by
 obtain⟨fuel,hf⟩:=hd
 obtain⟨x,h1,h2⟩:=o.trod hf
 exact⟨x,⟨_,o.KQ hv,h1⟩,h2⟩
theorem kF.KR {H:Type} {enc:TypeId×Value->H} {w:World} {base:Nat} {spare:Nat->Bool} {held:Bool} {r:Reach} {b0:Nat} {v:Value} {d:DataW H} {ps:List MemPlace} {α:Type} [Sc α] [Bk α] (o:kF ub P T α)
  (hv:Value.okWide P w r b0 T v) (hd:DataW.Trod enc P w base spare held T v d ps): ∃x:α,v=Sc.toV x/\bk x<=ub H d:=by
 obtain⟨x,h1,h2⟩:=o.arg hv hd
 exact⟨x,Bs.1 h1,h2⟩
end
theorem Calls.fin {P:Program} {f:FuncId} {args:Array Value} {w:World} {R Q:Value->World->Prop} (h:Calls P f args w (gL R)) (k: ∀v w',R v w'->Q v w'):
  Calls P f args w (fun e W'=>∃v,e = .returned v/\Q v W'):=Calls.mono h fun _ w' ⟨v,e,hr⟩=>⟨v,e,k v w' hr⟩
def gD (W:World):HP:=⟨fun M h=>hle (Hw W) M/\h=qD,fun k ⟨a,b⟩=>⟨Fc a k,b⟩⟩
theorem Holds.begin (W:World):Holds W W [gD W]:=by
 refine⟨Hw W,fun _=>qD,⟨rfl,rfl,rfl,bT _,fun b o h=>h,fun i Pr hq=>?_,fun _ _ _ _ h=>(by cases h),fun _ _ _ _ h=>(by cases h),fun _ _ _ _ _ _ _ h=>(by cases h)⟩⟩
 match i,hq with
 | 0,hq=>simp at hq;subst hq;exact⟨F7 _,rfl⟩
theorem Holds.KS {α:Type} [GT α] {W:World} {Γ:List HP} {v:Value} {x:α} (h:Holds W W (Γ++[gD W])) (hv:Gk.vC (Hw W) v x):Holds W W (rd v x::(Γ++[gD W])):=
 h.As fun M hs g=>by
  have h1:=(g.sat Γ.length (gD W) (by simp)).1
  exact⟨hv.mono h1,rfl⟩
theorem Holds.kept {E W w:World} {Γ:List HP} (h:Holds E w (Γ++[gD W])) (he:E=W):Below W.heap.size W w:=by
 subst he
 obtain⟨M,hs,g⟩:=h
 have h1:=(g.sat Γ.length (gD E) (by simp)).1
 have h2: ∀k o,E.heap[k]? =some o->w.heap[k]? =some o:=fun k o ho=>g.im k o (h1 k o ho)
 refine⟨g.os,g.tape,g.out,?_,fun k hk=>?_⟩
 ·by_cases h0:E.heap.size=0
  ·omega
  ·have h3:=h2 (E.heap.size - 1) _ (gT (by omega))
   have:=(Array.getElem?_eq_some_iff.1 h3).1
   omega
 ·rw [gT hk];exact h2 k _ (gT hk)
section
variable {H:Type} {enc:TypeId×Value->H} {P:Program}
theorem FD {f:Func} {s:ChangeSpec} {apart fresh handsOn again:Bool} {W W':World} {args:Array Value} {v:Value} {ds gs:List (DataW H)} {before pa pv:List MemPlace}
  (hW:DataW.Whole enc P f.params.toList s.vars apart W args.toList ds gs before)
  (hres: ∀(b:Nat) (sp:Nat->Bool) (hd:Bool),DataW.TrodAll enc P W' b sp hd f.resultTypes.toList (v.resultList f.resultTypes.size) (s.fn H (ds++gs)).results [])
  (hargs: ∀sp:Nat->Bool,(∀p∈before,sp p.block=true)->DataW.TrodAll enc P W' 0 sp true f.params.toList args.toList (s.fn H (ds++gs)).args pa)
  (hvars: ∀sp:Nat->Bool,(∀p∈before,sp p.block=true)->DataW.TrodVars enc P W' sp s.vars (s.fn H (ds++gs)).vars pv)
  (hps:before=pa++pv) (hb:Below W.heap.size W W')
  (hok: ∀(j:Nat) (t:TypeId) (r:Value),f.resultTypes[j]? =some t->(v.resultList f.resultTypes.size)[j]? =some r->Value.okWide P W' .any 0 t r):
  s.post enc P f apart fresh handsOn again W args v W':=by
 have hlt: ∀p∈before,p.block<W.heap.size:=fun p hp=>hW.lt p hp
 have hold: ∀p∈before,(fun b=>decide (b<W.heap.size)) p.block=true:=fun p hp=>by simpa using hlt p hp
 refine⟨ds,gs,before,[],pa,pv,hW,hres _ _ _,hargs _ hold,hvars _ hold,World.keptBut_mono (fun p hp=>⟨hp,?_⟩) (hb.frame (· ∈before)),fun _=>?_⟩
 ·rw [hps,dA] at hp
  exact Or.inr hp
 ·obtain⟨_,_,_,_,_,hz,hn⟩:=hW
  refine⟨hok,_,_,([]++pa)++pv,⟨[]++pa,pv,trodAll_append (hargs _ (fun _ _=>rfl)) (hres _ _ _),hvars _ (fun _ _=>rfl),rfl,?_,?_⟩,?_⟩
  ·intro b off hp
   have hin:MemPlace.cell b off∈before:=by rw [hps];simpa using hp
   rw [hb.frozen (hlt _ hin)]
   exact hz b off hin
  ·intro ha
   have:=hn ha
   rw [hps] at this
   simpa using this
  ·intro p hp _
   rw [hps]
   simpa using hp
theorem vt {W W':World} (hl:laidOutB P=true) (hb:Below W.heap.size W W') {sp:Nat->Bool}: ∀{ts:List TypeId} {vs:List Value} {ds:List (DataW H)} {ps:List MemPlace},
  (∀t∈ts,P.readableRec t=true/\t<P.types.size)->DataW.TrodAll enc P W 0 (fun _=>true) true ts vs ds ps->(∀p∈ps,p.block<W.heap.size)->(∀p∈ps,sp p.block=true)->DataW.TrodAll enc P W' 0 sp true ts vs ds ps
 | [],_,_,_,_,h,_,_=>by
  obtain⟨rfl,rfl,rfl⟩:=trodAll_nil h
  rfl
 | t::ts,_,_,_,ht,h,hlt,hsp=>by
  obtain⟨v,vs,d,ds,p,q,rfl,rfl,rfl,h1,h2⟩:=trodAll_cons h
  refine⟨p,q,?_,vt hl hb (fun t h=>ht t (by simp [h])) h2 (fun x hx=>hlt x (by simp [hx])) (fun x hx=>hsp x (by simp [hx])),rfl⟩
  exact WideElems.Trod_stays hl (ht t (by simp)).1 (ht t (by simp)).2 h1 (fun x hx=>hb.same (hlt x (by simp [hx]))) (fun x hx=>hsp x (by simp [hx]))
end
end Go.Gk
namespace Go.Gk
open Go
instance:Bk aI:=⟨fun x=>bk x.X0+bk x.Y0+bk x.X1+bk x.Y1+1,fun _=>by omega⟩
theorem HX (x:aI):bk x=bk x.X0+bk x.Y0+bk x.X1+bk x.Y1+1:=rfl
instance:Bk jc:=⟨fun x=>bk x.X+bk x.Y+1,fun _=>by omega⟩
theorem GU (x:jc):bk x=bk x.X+bk x.Y+1:=rfl
instance:Bk cD:=⟨fun x=>bk x.At+bk x.dE+bk x.cN+bk x.To+bk x.fJ+1,fun _=>by omega⟩
theorem HY (x:cD):bk x=bk x.At+bk x.dE+bk x.cN+bk x.To+bk x.fJ+1:=rfl
instance:Bk fK:=⟨fun x=>bk x.Part+bk x.fk+bk x.cU+bk x.At+1,fun _=>by omega⟩
theorem ET (x:fK):bk x=bk x.Part+bk x.fk+bk x.cU+bk x.At+1:=rfl
instance:Bk ld:=⟨fun x=>bk x.aJ+bk x.cE+bk x.aO+bk x.bV+1,fun _=>by omega⟩
theorem GV (x:ld):bk x=bk x.aJ+bk x.cE+bk x.aO+bk x.bV+1:=rfl
instance:Bk aA:=⟨fun x=>bk x.Y0+bk x.Y1+bk x.Xs+1,fun _=>by omega⟩
instance:Bk fk:=⟨fun x=>bk x.Part+bk x.fk+1,fun _=>by omega⟩
instance:Bk aK:=⟨fun x=>bk x.cU+bk x.Set+bk x.gM+1,fun _=>by omega⟩
instance:Bk cO:=⟨fun x=>bk x.jP+bk x.aO+bk x.fW+1,fun _=>by omega⟩
instance:Bk j9:=⟨fun x=>bk x.cD+bk x.Number+1,fun _=>by omega⟩
instance:Bk aF:=⟨fun x=>bk x.from_+bk x.to+1,fun _=>by omega⟩
instance:Bk aL:=⟨fun x=>bk x.from_+bk x.to+bk x.iN+1,fun _=>by omega⟩
end Go.Gk
namespace Go.Gk
open Go Go.Proofs Go.Sort
section
variable {α:Type}
theorem yk {β:Type} (a:Array β) {n:Nat} (h:a.size=n):a.extract 0 n=a:=by subst h;exact Array.extract_size
theorem Jo {φ:α->α->Option Int} {l:List α} (cf:α->α->Int) (hφ: ∀x∈l,∀y∈l,φ x y=some (cf x y)) (h1: ∀x∈l,¬cf x x<0)
  (h2: ∀x∈l,∀y∈l,∀z∈l,cf x y<0->cf y z<0->cf x z<0) (h3: ∀x∈l,∀y∈l,∀z∈l,¬cf x y<0->¬cf y z<0->¬cf x z<0):SWO (ltOf (DJ φ l)):=by
 have hm: ∀i:Fin l.length,l[i]∈l:=fun i=>cM i.isLt
 have e: ∀i j:Fin l.length,DJ φ l i j=cf l[i] l[j]:=fun i j=>by unfold DJ;rw [hφ _ (hm i) _ (hm j)];rfl
 refine⟨fun x=>?_,fun x y z=>?_,fun x y z=>?_⟩
 ·simp only [ltOf,e,decide_eq_false_iff_not];exact h1 _ (hm _)
 ·simp only [ltOf,e,decide_eq_true_iff];exact h2 _ (hm _) _ (hm _) _ (hm _)
 ·simp only [ltOf,e,decide_eq_false_iff_not];exact h3 _ (hm _) _ (hm _) _ (hm _)
theorem zu {φ:α->α->Option Int} {l:List α} (cf:α->α->Int) (hφ: ∀x∈l,∀y∈l,φ x y=some (cf x y)) (h1: ∀x∈l,¬cf x x<0)
  (h2: ∀x∈l,∀y∈l,∀z∈l,cf x y<0->cf y z<0->cf x z<0) (h3: ∀x∈l,∀y∈l,∀z∈l,¬cf x y<0->¬cf y z<0->¬cf x z<0) (hl:l.length<4611686018427387904):
  ∃m,wv φ l=some m/\m.Perm l/\m.Pairwise (fun x y=>¬cf y x<0):=by
 have hO:=Jo cf hφ h1 h2 h3
 have hm: ∀i:Fin l.length,l[i]∈l:=fun i=>cM i.isLt
 have hc: (∀i j:Fin l.length,∃c,φ l[i] l[j]=some c):=fun i j=>⟨_,hφ _ (hm i) _ (hm j)⟩
 refine⟨EI φ l,by unfold wv;rw [aC ⟨⟨hc,hO⟩,hl⟩],?_⟩
 unfold EI
 by_cases hn:0<l.length
 ·rw [dif_pos hn]
  letI inh:Inhabited (Fin l.length):=⟨⟨0,hn⟩⟩
  have hds: (Array.ofFn fun i:Fin l.length=>i).size=l.length:=by simp
  obtain⟨hp,hs⟩:=pdq_sorts (ltOf (DJ φ l)) hO (Array.ofFn fun i:Fin l.length=>i) 0 l.length (Lib.bitLen l.length) true true (dM _) (by rw [hds];exact bT _) (Or.inl rfl)
  show (List.map (fun i=>l[i]) (pdq (ltOf (DJ φ l)) (Array.ofFn fun i:Fin l.length=>i) 0 l.length (Lib.bitLen l.length) true true).toList).Perm l/\_
  generalize pdq (ltOf (DJ φ l)) (Array.ofFn fun i:Fin l.length=>i) 0 l.length (Lib.bitLen l.length) true true=d' at hp hs
  obtain⟨hz,_,hpm⟩:=hp
  have hz':d'.size=l.length:=hz.trans hds
  rw [yk d' hz',yk _ hds] at hpm
  have hof: (Array.ofFn fun i:Fin l.length=>i).toList.map (fun i=>l[i])=l:=by
   rw [Array.toList_ofFn,List.map_ofFn]
   exact List.ofFn_getElem
  refine⟨(hpm.map (fun i=>l[i])).trans (List.Perm.of_eq hof),?_⟩
  rw [List.pairwise_map,mC]
  intro i j hi hj hij
  rw [Array.length_toList] at hi hj
  have:=hs i j (dM _) hij (by rw [<-hz'];exact hj)
  rw [getElem!_pos d' i hi,getElem!_pos d' j hj] at this
  have hij2:=hφ _ (hm (d'[j])) _ (hm (d'[i]))
  have hij3:DJ φ l d'[j] d'[i]=cf l[d'[j]] l[d'[i]]:=by unfold DJ;rw [hij2];rfl
  unfold ltOf at this
  rw [decide_eq_false_iff_not,hij3] at this
  exact this
 ·rw [dif_neg hn]
  have:l= []:=List.length_eq_zero_iff.1 (by omega)
  subst this
  exact⟨List.Perm.refl _,jH⟩
theorem A7 {φ:α->α->Option Int} {x:α} (h:φ x x=some 0):wv φ [x]=some [x]:=by
 obtain⟨m,h1,h2,_⟩:=zu (φ:=φ) (l:=[x]) (fun _ _=>0) (fun a ha b hb=>by simp at ha hb;rw [ha,hb];exact h) (fun _ _=>by decide) (fun _ _ _ _ _ _ h=>by simp at h) (fun _ _ _ _ _ _ _ _=>by decide) (by simp)
 rw [h1,List.perm_singleton.1 h2]
theorem AG {l:List Int} (h:l.Pairwise (fun x y=>x<=y)) (hl:l.length<4611686018427387904):tV l=some l:=by
 unfold tV
 rw [aC hl,List.mergeSort_of_pairwise (by simpa using h)]
end
end Go.Gk
namespace Go.Gk
open Go
def pq (l:List Int) (x:Int):Nat:=l.countP (fun a=>decide (a<=x))
def ox (l:List Int) (x:Int):Bool:=pq l x % 2==1
def jm (l:List Int):Prop:=l.Pairwise (· < ·)
theorem EU (x:Int):pq [] x=0:=rfl
theorem oZ (a:Int) (l:List Int) (x:Int):pq (a::l) x= (if a<=x then 1 else 0)+pq l x:=by
 unfold pq
 rw [List.countP_cons]
 by_cases h:a<=x <;> simp [h];omega
theorem zv (l m:List Int) (x:Int):pq (l++m) x=pq l x+pq m x:=List.countP_append
theorem EV {l:List Int} {x:Int} (h: ∀a∈l,a<=x):pq l x=l.length:=by
 unfold pq;rw [List.countP_eq_length];intro a ha;simpa using h a ha
theorem zw {l:List Int} {x:Int} (h: ∀a∈l,x<a):pq l x=0:=by
 unfold pq;rw [List.countP_eq_zero];intro a ha;have:=h a ha;simp;omega
theorem wY {l:List Int} {x:Int}:ox l x=true↔pq l x % 2=1:=by unfold ox;simp
theorem wZ {l:List Int} {x:Int} (h: ∀a∈l,x<a):ox l x=false:=by unfold ox;rw [zw h];rfl
theorem jm.head {a:Int} {l:List Int} (h:jm (a::l)): ∀b∈l,a<b:=(nS.1 h).1
theorem jm.tail {a:Int} {l:List Int} (h:jm (a::l)):jm l:=(nS.1 h).2
theorem w3 {a:Int} {l:List Int} (h:jm (a::l)):ox (a::l) a=true:=by
 rw [wY,oZ,aC (Int.le_refl _),zw h.head]
theorem zx: ∀{l m:List Int},jm l->jm m->(∀x,ox l x=ox m x)->l=m
 | [],[],_,_,_=>rfl
 | [],b::m,_,hm,h=>by have:=h b;rw [w3 hm] at this;cases this
 | a::l,[],hl,_,h=>by have:=h a;rw [w3 hl] at this;cases this
 | a::l,b::m,hl,hm,h=>by
  have hab:a=b:=by
   rcases Int.lt_trichotomy a b with h1 | h1 | h1
   ·have h2:=h a
    rw [w3 hl,wZ (l:=b::m) (fun c hc=>by
     rcases dC.1 hc with rfl | hc
     ·exact h1
     ·have:=hm.head c hc;omega)] at h2
    cases h2
   ·exact h1
   ·have h2:=h b
    rw [w3 hm,wZ (l:=a::l) (fun c hc=>by
     rcases dC.1 hc with rfl | hc
     ·exact h1
     ·have:=hl.head c hc;omega)] at h2
    cases h2
  subst hab
  rw [zx hl.tail hm.tail (fun x=>?_)]
  by_cases hx:a<=x
  ·have h2:=h x
   unfold ox at h2 ⊢
   rw [oZ,oZ,aC hx] at h2
   rw [fc] at h2 ⊢
   simp only [beq_iff_eq] at h2 ⊢
   omega
  ·rw [wZ (fun c hc=>by have:=hl.head c hc;omega),wZ (fun c hc=>by have:=hm.head c hc;omega)]
theorem w4 {l:List Int} {a b:Int} (hl: ∀c∈l,c<a) (he:l.length % 2=0) (hab:a<b) (x:Int):ox (l++[a,b]) x= (ox l x||(decide (a<=x)&&decide (x<b))):=by
 rw [fc,dK,bW,bQ,bQ,wY,wY,zv,oZ,oZ,EU]
 by_cases h1:a<=x
 ·have h2:pq l x=l.length:=EV fun c hc=>by have:=hl c hc;omega
  rw [h2,aC h1]
  by_cases h3:b<=x
  ·rw [aC h3];omega
  ·rw [aG h3];omega
 ·rw [aG h1,aG (by omega)];omega
theorem GW {l:List Int} {s e a b:Int} (hl: ∀c∈l,c<s) (he:l.length % 2=0) (hs:s<e) (h1:s<=a) (h2:a<=e) (hab:a<b) (x:Int):ox (l++[s,max e b]) x= (ox (l++[s,e]) x||(decide (a<=x)&&decide (x<b))):=by
 rw [w4 hl he (by omega),w4 hl he hs]
 rw [fc]
 simp only [dK,bW,bQ]
 constructor
 ·rintro(h | h)
  ·exact .inl (.inl h)
  ·by_cases hx:x<e
   ·exact .inl (.inr ⟨h.1,hx⟩)
   ·exact .inr ⟨by omega,by omega⟩
 ·rintro((h | h) | h)
  ·exact .inl h
  ·exact .inr ⟨h.1,by omega⟩
  ·exact .inr ⟨by omega,by omega⟩
theorem jm.snoc {l:List Int} {a b:Int} (h:jm l) (hl: ∀c∈l,c<a) (hab:a<b):jm (l++[a,b]):=by
 unfold jm
 rw [mB]
 refine⟨h,by simp [hab],fun c hc d hd=>?_⟩
 have:=hl c hc
 simp at hd
 rcases hd with rfl | rfl <;> omega
structure Bd where
 y0:Int
 y1:Int
 xs:List Int
def rowAt:List Bd->Int->List Int
 | [],_=>[]
 | b::s,y=>if b.y0<=y/\y<b.y1 then b.xs else rowAt s y
theorem mn (b:Bd) (s:List Bd) (y:Int):rowAt (b::s) y=if b.y0<=y/\y<b.y1 then b.xs else rowAt s y:=rfl
structure eQ (s:List Bd):Prop where
 each: ∀b∈s,b.y0<b.y1/\b.xs≠[]/\jm b.xs/\b.xs.length % 2=0
 ord:s.Pairwise (fun b c=>b.y1<=c.y0/\(b.y1=c.y0->b.xs≠c.xs))
theorem eQ.nil:eQ []:=⟨fun b h=>by simp at h,jH⟩
theorem eQ.tail {b:Bd} {s:List Bd} (h:eQ (b::s)):eQ s:=⟨fun c hc=>h.each c (gU _ hc),(nS.1 h.ord).2⟩
theorem lq {s:List Bd} {y:Int} (h: ∀b∈s,y<b.y0\/b.y1<=y):rowAt s y= []:=by
 induction s with
 | nil=>rfl
 | cons b s ih=>
  unfold rowAt
  have:=h b (by simp)
  rw [aG (by omega)]
  exact ih fun c hc=>h c (gU _ hc)
theorem pN (s t:List Bd) (y:Int):rowAt (s++t) y=if (∃b∈s,b.y0<=y/\y<b.y1) then rowAt s y else rowAt t y:=by
 induction s with
 | nil=>simp
 | cons b s ih=>
  rw [List.cons_append,mn,mn]
  by_cases h:b.y0<=y/\y<b.y1
  ·rw [aC h,aC ⟨b,by simp,h⟩,aC h]
  ·rw [aG h,ih]
   by_cases h2: ∃c∈s,c.y0<=y/\y<c.y1
   ·obtain⟨c,hc,hc2⟩:=h2
    rw [aC ⟨c,hc,hc2⟩,aC ⟨c,gU _ hc,hc2⟩,aG h]
   ·rw [aG h2,aG (show ¬∃c∈b::s,c.y0<=y/\y<c.y1 from ?_)]
    rintro⟨c,hc,hc2⟩
    rcases dC.1 hc with rfl | hc
    ·exact h hc2
    ·exact h2 ⟨c,hc,hc2⟩
theorem eQ.mo {b:Bd} {s:List Bd} {y:Int} (h0:b.y0<=y) (h1:y<b.y1):rowAt (b::s) y=b.xs:=by unfold rowAt;rw [aC ⟨h0,h1⟩]
theorem eQ.zy {b:Bd} {s:List Bd} (h:eQ (b::s)): ∀c∈s,b.y1<=c.y0:=fun c hc=>((nS.1 h.ord).1 c hc).1
theorem eQ.uL {b:Bd} {s:List Bd} (h:eQ (b::s)) {y:Int} (hy:y<b.y0):rowAt (b::s) y= []:=lq fun c hc=>by
 rcases dC.1 hc with rfl | hc
 ·exact .inl hy
 ·have:=h.zy c hc;have:=(h.each b (by simp)).1;exact .inl (by omega)
theorem eQ.EW {b:Bd} {s:List Bd} (h:eQ (b::s)):rowAt (b::s) b.y1≠b.xs:=by
 rw [mn,aG (by omega)]
 cases s with
 | nil=>exact fun e=>(h.each b (by simp)).2.1 e.symm
 | cons c s=>
  have h1:=(nS.1 h.ord).1 c (by simp)
  by_cases e:b.y1=c.y0
  ·rw [eQ.mo (by omega) (by have:=(h.tail.each c (by simp)).1;omega)]
   exact fun h=>h1.2 e h.symm
  ·rw [h.tail.uL (by have:=h1.1;omega)]
   exact fun e=>(h.each b (by simp)).2.1 e.symm
theorem zz: ∀{s t:List Bd},eQ s->eQ t->(∀y,rowAt s y=rowAt t y)->s=t
 | [],[],_,_,_=>rfl
 | [],c::t,_,ht,h=>by
  have hc:=ht.each c (by simp)
  have:=h c.y0
  rw [eQ.mo (Int.le_refl _) hc.1] at this
  exact absurd this.symm hc.2.1
 | b::s,[],hs,_,h=>by
  have hb:=hs.each b (by simp)
  have:=h b.y0
  rw [eQ.mo (Int.le_refl _) hb.1] at this
  exact absurd this hb.2.1
 | b::s,c::t,hs,ht,h=>by
  have hb:=hs.each b (by simp)
  have hc:=ht.each c (by simp)
  have e0:b.y0=c.y0:=by
   rcases Int.lt_trichotomy b.y0 c.y0 with h1 | h1 | h1
   ·have h2:=h b.y0
    rw [eQ.mo (Int.le_refl _) hb.1,ht.uL h1] at h2
    exact absurd h2 hb.2.1
   ·exact h1
   ·have h2:=h c.y0
    rw [eQ.mo (Int.le_refl _) hc.1,hs.uL h1] at h2
    exact absurd h2.symm hc.2.1
  have ex:b.xs=c.xs:=by
   have h2:=h b.y0
   rw [eQ.mo (Int.le_refl _) hb.1,eQ.mo (by omega) (by omega)] at h2
   exact h2
  have e1:b.y1=c.y1:=by
   rcases Int.lt_trichotomy b.y1 c.y1 with h1 | h1 | h1
   ·have h2:=h b.y1
    rw [eQ.mo (b:=c) (by omega) h1] at h2
    exact absurd (h2.trans ex.symm) hs.EW
   ·exact h1
   ·have h2:=h c.y1
    rw [eQ.mo (b:=b) (by omega) h1] at h2
    exact absurd (h2.symm.trans ex) ht.EW
  have ebc:b=c:=by cases b;cases c;simp_all
  subst ebc
  rw [zz hs.tail ht.tail (fun y=>?_)]
  by_cases hy:b.y1<=y
  ·have h2:=h y
   unfold rowAt at h2
   rw [aG (by omega),aG (by omega)] at h2
   exact h2
  ·rw [lq (fun d hd=>by have:=hs.zy d hd;exact .inl (by omega)),lq (fun d hd=>by have:=ht.zy d hd;exact .inl (by omega))]
def tO (s:List Bd) (x y:Int):Bool:=ox (rowAt s y) x
theorem A8 {s:List Bd} (h: ∀b∈s,jm b.xs) (y:Int):jm (rowAt s y):=by
 induction s with
 | nil=>exact jH
 | cons b s ih=>
  unfold rowAt
  split
  ·exact h b (by simp)
  ·exact ih fun c hc=>h c (gU _ hc)
theorem sV {s t:List Bd} (hs:eQ s) (ht:eQ t) (h: ∀x y,tO s x y=tO t x y):s=t:=
 zz hs ht fun y=>zx (A8 (fun b hb=>(hs.each b hb).2.2.1) y) (A8 (fun b hb=>(ht.each b hb).2.2.1) y) fun x=>h x y
def jw (s:List Bd) (b:Bd):List Bd:=
 if b.xs= []\/b.y1<=b.y0 then s else
  match s.getLast? with
  | some c=>if c.y1=b.y0/\c.xs=b.xs then s.dropLast++[⟨c.y0,b.y1,c.xs⟩] else s++[b]
  | none=>[b]
theorem qs {α:Type} {s:List α} {c:α} (h:s.getLast? =some c):s=s.dropLast++[c]:=by
 have hne:s≠[]:=fun e=>by rw [e] at h;cases h
 rw [List.getLast?_eq_some_getLast hne] at h
 injection h with h
 rw [<-h];exact(List.dropLast_concat_getLast hne).symm
theorem uM {s:List Bd} {b:Bd} (hs: ∀c∈s,c.y1<=b.y0) (hg: ∀c∈s,c.y0<c.y1) (hb:b.y1<=b.y0->b.y1=b.y0) (y:Int):rowAt (jw s b) y=if b.y0<=y/\y<b.y1 then b.xs else rowAt s y:=by
 have key: ∀(s:List Bd) (c:Bd),(∀d∈s,d.y1<=c.y0)->rowAt (s++[c]) y=if c.y0<=y/\y<c.y1 then c.xs else rowAt s y:=by
  intro s c h
  rw [pN]
  by_cases h1:c.y0<=y/\y<c.y1
  ·rw [aC h1,aG (by rintro⟨d,hd,hd2⟩;have:=h d hd;omega),eQ.mo h1.1 h1.2]
  ·rw [aG h1]
   by_cases h2: ∃d∈s,d.y0<=y/\y<d.y1
   ·rw [aC h2]
   ·rw [aG h2,mn,aG h1]
    refine(show rowAt [] y=_ from (lq (s:=s) fun d hd=>?_).symm)
    by_cases h3:d.y0<=y
    ·exact .inr (by have: ¬(d.y0<=y/\y<d.y1):=fun h4=>h2 ⟨d,hd,h4⟩;omega)
    ·exact .inl (by omega)
 unfold jw
 by_cases h0:b.xs= []\/b.y1<=b.y0
 ·rw [aC h0]
  by_cases h1:b.y0<=y/\y<b.y1
  ·rw [aC h1]
   rcases h0 with h0 | h0
   ·rw [h0];exact lq fun c hc=> .inr (by have:=hs c hc;omega)
   ·omega
  ·rw [aG h1]
 ·rw [aG h0]
  cases hl:s.getLast? with
  | none=>
   have:s= []:=by simpa using hl
   subst this
   rfl
  | some c=>
   dsimp only
   have hsp:=qs hl
   have hcm:c∈s:=by rw [hsp];simp
   by_cases h1:c.y1=b.y0/\c.xs=b.xs
   ·rw [aC h1]
    have hd: ∀d∈s.dropLast,d.y1<=c.y0\/True:=fun _ _=> .inr trivial
    rw [pN]
    have hrow:rowAt s y=if (∃d∈s.dropLast,d.y0<=y/\y<d.y1) then rowAt s.dropLast y else (if c.y0<=y/\y<c.y1 then c.xs else []):=by
     conv=>lhs;rw [hsp]
     rw [pN];rfl
    rw [hrow]
    have hcg:=hg c hcm
    by_cases h2: ∃d∈s.dropLast,d.y0<=y/\y<d.y1
    ·obtain⟨d,hd,hd2⟩:=h2
     have:=hs d (List.dropLast_subset _ hd)
     have he: ∃d∈s.dropLast,d.y0<=y/\y<d.y1:=⟨d,hd,hd2⟩
     rw [aC he,aC he,aG (by omega)]
    ·rw [aG h2,aG h2]
     show (if c.y0<=y/\y<b.y1 then c.xs else [])=_
     by_cases h3:b.y0<=y/\y<b.y1
     ·rw [aC h3,aC ⟨by omega,h3.2⟩,h1.2]
     ·rw [aG h3]
      by_cases h4:c.y0<=y/\y<c.y1
      ·rw [aC h4,aC ⟨h4.1,by omega⟩]
      ·rw [aG h4,aG (by omega)]
   ·rw [aG h1]
    exact key s b hs
theorem uN {s:List Bd} {b:Bd} (h:eQ s) (hs: ∀c∈s,c.y1<=b.y0) (hb:jm b.xs) (he:b.xs.length % 2=0):eQ (jw s b):=by
 unfold jw
 by_cases h0:b.xs= []\/b.y1<=b.y0
 ·rw [aC h0];exact h
 ·rw [aG h0]
  have hbg:b.y0<b.y1/\b.xs≠[]/\jm b.xs/\b.xs.length % 2=0:=⟨by omega,fun e=>h0 (.inl e),hb,he⟩
  cases hl:s.getLast? with
  | none=>exact⟨fun c hc=>by simp at hc;subst hc;exact hbg,List.pairwise_singleton _ _⟩
  | some c=>
   dsimp only
   have hsp:=qs hl
   have hcm:c∈s:=by rw [hsp];simp
   have hc:=h.each c hcm
   have hord:=h.ord
   rw [hsp,mB] at hord
   by_cases h1:c.y1=b.y0/\c.xs=b.xs
   ·rw [aC h1]
    refine⟨fun d hd=>?_,?_⟩
    ·rcases dA.1 hd with hd | hd
     ·exact h.each d (List.dropLast_subset _ hd)
     ·simp at hd;subst hd;exact⟨by show c.y0<b.y1;omega,hc.2⟩
    ·rw [mB]
     refine⟨hord.1,List.pairwise_singleton _ _,fun d hd e he=>?_⟩
     simp at he;subst he
     exact hord.2.2 d hd c (by simp)
   ·rw [aG h1]
    refine⟨fun d hd=>?_,?_⟩
    ·rcases dA.1 hd with hd | hd
     ·exact h.each d hd
     ·simp at hd;subst hd;exact hbg
    ·rw [mB]
     refine⟨h.ord,List.pairwise_singleton _ _,fun d hd e he=>?_⟩
     simp at he;subst he
     refine⟨hs d hd,fun e1 e2=>?_⟩
     rw [hsp] at hd
     rcases dA.1 hd with hd | hd
     ·have h2:=(hord.2.2 d hd c (by simp)).1
      have:=hs c hcm
      omega
     ·simp at hd;subst hd;exact h1 ⟨e1,e2⟩
theorem uO {s:List Bd} {b:Bd} (hs: ∀c∈s,c.y1<=b.y0) (hb:b.y0<=b.y1): ∀c∈jw s b,c.y1<=b.y1:=by
 intro c hc
 unfold jw at hc
 split at hc
 ·have:=hs c hc;omega
 ·split at hc
  ·split at hc
   ·rcases dA.1 hc with hc | hc
    ·have:=hs c (List.dropLast_subset _ hc);omega
    ·simp at hc;subst hc;exact Int.le_refl _
   ·rcases dA.1 hc with hc | hc
    ·have:=hs c hc;omega
    ·simp at hc;subst hc;exact Int.le_refl _
  ·simp at hc;subst hc;exact Int.le_refl _
end Go.Gk
namespace Go.Gk
open Go
section
variable {N:Nat}
def bY (b:aA):Bd:=⟨b.Y0,b.Y1,b.Xs⟩
def small (a:Int):Prop:= -1099511627776<=a/\a<=1099511627776
structure Ar (r:aI):Prop where
 x:r.X0<r.X1
 y:r.Y0<r.Y1
 s1:small r.X0
 s2:small r.X1
 s3:small r.Y0
 s4:small r.Y1
def Ee (l:List aI) (x:Int):Bool:=l.any (fun r=>decide (r.X0<=x)&&decide (x<r.X1))
def rX (l:List aI) (x y:Int):Bool:=l.any (fun r=>(decide (r.X0<=x)&&decide (x<r.X1))&&(decide (r.Y0<=y)&&decide (y<r.Y1)))
theorem zA {l:List aI} {x:Int}:Ee l x=true↔∃r∈l,r.X0<=x/\x<r.X1:=by unfold Ee;simp [kG]
theorem iK {l:List aI} {x y:Int}:rX l x y=true↔∃r∈l,(r.X0<=x/\x<r.X1)/\r.Y0<=y/\y<r.Y1:=by unfold rX;simp [kG]
theorem wrap_small {a b:Int} (ha:small a) (hb:small b):IntKind.wrap .i64 (a - b)=a - b:=by unfold small at *;exact eT (by omega) (by omega)
theorem zB {n:Nat} (h:0<n) (hn:n<=4611686018427387904):IntKind.wrap .i64 (((n:Nat):Int) - 1)= ((n - 1:Nat):Int):=i5 h hn
structure Mx (out:List Int) (m:List aI) (k:Nat):Prop where
 row: (k=0/\out= [])\/∃A s e,out=A++[s,e]/\jm A/\(∀c∈A,c<s)/\A.length % 2=0/\s<e/\∃j r,j<k/\m[j]? =some r/\s=r.X0
 ox: ∀x,ox out x=Ee (m.take k) x
 len:out.length<=2*k
 mem: ∀c∈out,∃r∈m,c=r.X0\/c=r.X1
theorem xP (l:List aI) (r:aI) (x:Int):Ee (l++[r]) x= (Ee l x||(decide (r.X0<=x)&&decide (x<r.X1))):=by unfold Ee;rw [List.any_append];simp
theorem BU {l:List aI} (hl:l.length<=268435456) (hok: ∀r∈l,Ar r): ∃row l',jB N l=some (row,l')/\l'.Perm l/\jm row/\row.length % 2=0/\(∀x,ox row x=Ee l x)/\row.length<=2*l.length/\∀c∈row,∃r∈l,c=r.X0\/c=r.X1:=by
 unfold jB
 obtain⟨m,h1,h2,h3⟩:=zu (φ:=gX N) (l:=l) (fun a b=>a.X0 - b.X0) (fun a ha b hb=>by
  unfold gX;rw [wrap_small (hok a ha).s1 (hok b hb).s1]) (fun a _=>by omega) (fun a _ b _ c _ h1 h2=>by omega) (fun a _ b _ c _ h1 h2=>by omega) (by omega)
 have hml:m.length=l.length:=h2.length_eq
 have hmok: ∀r∈m,Ar r:=fun r hr=>hok r (h2.subset hr)
 rw [h1,aB]
 obtain⟨out,a1,a2⟩:=yW (m:=m.length) (s:=([]:List Int)) (body:=fun(k32:Nat) (s33: (List Int))=>((idx m (k32:Int)).bind fun x79=>(bif (decide ((IntKind.wrap .i64 ((s33.length:Int) - 1))>=0)) then ((idx s33 (IntKind.wrap .i64 ((s33.length:Int) - 1))).bind fun x86=>some (decide (x79.X0<=x86))) else (some false)).bind fun s84=>(bif s84 then ((idx s33 (IntKind.wrap .i64 ((s33.length:Int) - 1))).bind fun x94=>(idx s33 (IntKind.wrap .i64 ((s33.length:Int) - 1))).bind fun x95=>some (s33.set (Int.toNat (IntKind.wrap .i64 ((s33.length:Int) - 1))) (if x94<x79.X1 then x79.X1 else x94))) else ((app 8 s33 ([x79.X0,x79.X1]: (List Int))).bind fun x97=>some x97)).bind fun s92=>some s92:Option ((List Int))))
  (fun k out=>Mx out m k) (by omega) ⟨.inl ⟨rfl,rfl⟩,fun x=>rfl,by simp,fun c hc=>by cases hc⟩ (fun k out hk ⟨i1,i2,i3,i4⟩=>by
   have hx:m[k]? =some m[k]:=aN hk
   have hr:=hmok _ (cM hk)
   rw [dU hx,aB]
   have hts:m.take (k+1)=m.take k++[m[k]]:=eF hk
   rcases i1 with ⟨rfl,rfl⟩ | ⟨A,s,e,rfl,hA,hAs,hAe,hse,j,r,hj,hjr,hsr⟩
   ·rw [show decide (IntKind.wrap .i64 (((([]:List Int).length:Nat):Int) - 1)>=0)=false by decide,aR,aB,aR,kq (by simp),aB,aB]
    refine⟨_,rfl, .inr ⟨[],_,_,rfl,jH,fun c hc=>by simp at hc,rfl,hr.x,0,m[0],by omega,hx,rfl⟩,fun x=>?_,by simp,fun c hc=>⟨m[0],cM hk,by simpa using hc⟩⟩
    rw [hts,xP,<-i2 x]
    exact w4 (l:=[]) (fun c hc=>by simp at hc) rfl hr.x x
   ·have hlen: (A++[s,e]).length=A.length+2:=by simp
    have hwp:IntKind.wrap .i64 ((((A++[s,e]).length:Nat):Int) - 1)= ((A.length+1:Nat):Int):=by rw [zB (by omega) (by omega),hlen];rfl
    have hlast: (A++[s,e])[A.length+1]? =some e:=by rw [gE (by omega)];simp
    have hs:s<=m[k].X0:=by
     have:=mC.1 h3 j k (by have:=(bA.1 hjr).1;omega) hk hj
     rw [hsr,<-(bA.1 hjr).2];omega
    rw [hwp,bR (by omega),aP,dU hlast,aB,aB]
    by_cases hc:m[k].X0<=e
    ·rw [bR hc,aP,aB,aB,aB,cH]
     have mD: (A++[s,e]).set (A.length+1) (if e<m[k].X1 then m[k].X1 else e)=A++[s,max e m[k].X1]:=by
      rw [List.set_append_right _ _ (by omega)]
      have:A.length+1 - A.length=1:=by omega
      rw [this,Int.max_def]
      simp only [List.set_cons_succ,List.set_cons_zero]
      congr 2
      split <;> split <;> simp <;> omega
     rw [mD]
     refine⟨_,rfl, .inr ⟨A,s,_,rfl,hA,hAs,hAe,by omega,j,r,by omega,hjr,hsr⟩,fun x=>?_,by simp at i3 ⊢;omega,fun c hc=>by
      rcases dA.1 hc with h | h
      ·exact i4 c (List.mem_append_left _ h)
      ·simp at h
       rcases h with h | h
       ·exact i4 c (by simp [h])
       ·rw [Int.max_def] at h
        split at h
        ·exact⟨_,cM hk, .inr h⟩
        ·exact i4 c (by simp [h])⟩
     rw [hts,xP,<-i2 x]
     exact GW hAs hAe hse hs hc hr.x x
    ·rw [cC hc,aR,kq (by rw [hlen];simp;omega),aB,aB]
     have hall: ∀c∈A++[s,e],c<m[k].X0:=fun c hc'=>by
      rcases dA.1 hc' with h | h
      ·have:=hAs c h;omega
      ·simp at h;omega
     refine⟨_,rfl, .inr ⟨A++[s,e],_,_,rfl,hA.snoc hAs hse,hall,by rw [hlen];omega,hr.x,k,m[k],by omega,hx,rfl⟩,fun x=>?_,by simp at i3 ⊢;omega,fun c hc=>by
      rcases dA.1 hc with h | h
      ·exact i4 c h
      ·exact⟨m[k],cM hk,by simpa using h⟩⟩
     rw [hts,xP,<-i2 x]
     exact w4 hall (by rw [hlen];omega) hr.x x)
 rw [a1,aB]
 refine⟨out,m,rfl,h2,?_,?_,fun x=>?_,by rw [<-hml];exact a2.len,fun c hc=>by obtain⟨r,hr,h⟩:=a2.mem c hc;exact⟨r,h2.subset hr,h⟩⟩
 ·rcases a2.row with ⟨_,h⟩ | ⟨A,s,e,rfl,hA,hAs,hAe,hse,_⟩
  ·rw [h];exact jH
  ·exact hA.snoc hAs hse
 ·rcases a2.row with ⟨_,h⟩ | ⟨A,s,e,rfl,hA,hAs,hAe,hse,_⟩
  ·rw [h];rfl
  ·simp;omega
 ·rw [a2.ox x,eO,fc,zA,zA]
  constructor
  ·rintro⟨r,hr,h⟩;exact⟨r,h2.subset hr,h⟩
  ·rintro⟨r,hr,h⟩;exact⟨r,h2.symm.subset hr,h⟩
theorem A9 {l m:List Int} (hl:l.length<=4611686018427387904):kO N l m=some (decide (l=m)):=A5 hl
theorem EX {s:List aA} {b:aA} (hs:s.length<=1048576000) (hx: ∀c∈s,c.Xs.length<=1048576000): ∃s',jh N s b=some s'/\s'.map bY=jw (s.map bY) (bY b):=by
 unfold jh jw
 by_cases h0:b.Xs= []\/b.Y1<=b.Y0
 ·have e: ((((b.Xs.length:Nat):Int)==0)||(decide (b.Y1<=b.Y0)))=true:=by
   rw [dK]
   rcases h0 with h | h
   ·left;rw [h];rfl
   ·right;exact bR h
  rw [e,aP,aC (show (bY b).xs= []\/(bY b).y1<=(bY b).y0 from h0)]
  exact⟨s,rfl,rfl⟩
 ·have e: ((((b.Xs.length:Nat):Int)==0)||(decide (b.Y1<=b.Y0)))=false:=by
   rw [Bool.or_eq_false_iff]
   constructor
   ·rw [beq_eq_false_iff_ne];intro h;exact h0 (.inl (List.eq_nil_of_length_eq_zero (by omega)))
   ·exact cC fun h=>h0 (.inr h)
  rw [e,aR,aG (show ¬((bY b).xs= []\/(bY b).y1<=(bY b).y0) from h0)]
  rcases List.eq_nil_or_concat s with rfl | ⟨A,c,hA⟩
  ·rw [show decide (IntKind.wrap .i64 (((([]:List aA).length:Nat):Int) - 1)>=0)=false by decide,aR,aB,aR,kq (by simp),aB]
   exact⟨_,rfl,rfl⟩
  ·rw [List.concat_eq_append] at hA
   subst hA
   have hlen: (A++[c]).length=A.length+1:=by simp
   have hwp:IntKind.wrap .i64 ((((A++[c]).length:Nat):Int) - 1)= ((A.length:Nat):Int):=by rw [zB (by omega) (by omega),hlen];rfl
   have hlast: (A++[c])[A.length]? =some c:=by simp
   rw [hwp,bR (by omega),aP,dU hlast,aB,aB,A9 (by have:=hx c (by simp);omega),aB,aB,cH,kq (by rw [hlen];simp;omega),aB]
   have hl2: ((A++[c]).map bY).getLast? =some (bY c):=by simp
   have hd2: ((A++[c]).map bY).dropLast=A.map bY:=by simp
   rw [hl2,hd2]
   dsimp only
   by_cases h1:c.Y1=b.Y0/\c.Xs=b.Xs
   ·rw [aC (show (bY c).y1= (bY b).y0/\(bY c).xs= (bY b).xs from h1),show (c.Y1==b.Y0)=true by rw [h1.1];simp,aP,bR h1.2,aB,aP]
    refine⟨_,rfl,?_⟩
    rw [List.set_append_right _ _ (bT _),Nat.sub_self]
    simp [bY]
   ·rw [aG (show ¬((bY c).y1= (bY b).y0/\(bY c).xs= (bY b).xs) from h1)]
    have e2: (bif (c.Y1==b.Y0) then (some (decide (c.Xs=b.Xs))) else (some false))=some false:=by
     by_cases h2:c.Y1=b.Y0
     ·rw [show (c.Y1==b.Y0)=true by rw [h2];simp,aP,cC (fun h=>h1 ⟨h2,h⟩)]
     ·rw [show (c.Y1==b.Y0)=false by simpa using h2,aR]
    rw [e2,aB,aR]
    exact⟨_,rfl,by simp⟩
end
end Go.Gk
namespace Go.Gk
open Go
def dD (l:List (Int×Int)):List Int:=l.flatMap fun s=>[s.1,s.2]
def i7 (l:List (Int×Int)) (x:Int):Bool:=l.any fun s=>decide (s.1<=x)&&decide (x<s.2)
theorem i9 (s:Int×Int) (l:List (Int×Int)):dD (s::l)=s.1::s.2::dD l:=rfl
theorem sW (l m:List (Int×Int)):dD (l++m)=dD l++dD m:=List.flatMap_append
theorem jO (l:List (Int×Int)): (dD l).length=2*l.length:=by
 induction l with
 | nil=>rfl
 | cons s l ih=>rw [i9,dP,dP,dP,ih];omega
theorem Ba (s:Int×Int) (l:List (Int×Int)) (x:Int):i7 (s::l) x= ((decide (s.1<=x)&&decide (x<s.2))||i7 l x):=rfl
theorem yl (l m:List (Int×Int)) (x:Int):i7 (l++m) x= (i7 l x||i7 m x):=List.any_append
theorem rY {l:List (Int×Int)} {x:Int}:i7 l x=true↔∃s∈l,s.1<=x/\x<s.2:=by
 unfold i7;simp
theorem FE {a b:Int} {m:List Int} (h:jm (a::b::m)) (x:Int):ox (a::b::m) x= ((decide (a<=x)&&decide (x<b))||ox m x):=by
 have hab:a<b:=h.head b (by simp)
 have hm:=h.tail.head
 rw [fc,dK,bW,bQ,bQ,wY,wY,oZ,oZ]
 by_cases h1:a<=x
 ·rw [aC h1]
  by_cases h2:b<=x
  ·rw [aC h2];omega
  ·rw [aG h2,zw (fun c hc=>by have:=hm c hc;omega)];omega
 ·rw [aG h1,aG (by omega)];omega
theorem rZ: ∀{l:List (Int×Int)},jm (dD l)->∀x,ox (dD l) x=i7 l x
 | [],_,x=>rfl
 | s::l,h,x=>by
  rw [i9] at h ⊢
  rw [FE h,Ba,rZ h.tail.tail]
theorem Bb: ∀{l m:List (Int×Int)},dD l=dD m->l=m
 | [],[],_=>rfl
 | [],s::m,h=>by cases h
 | s::l,[],h=>by cases h
 | (a,b)::l,(c,d)::m,h=>by
  rw [i9,i9] at h
  injection h with h1 h2
  injection h2 with h2 h3
  simp only at h1 h2
  rw [h1,h2,Bb h3]
theorem xQ {l:List (Int×Int)} {c:Int} (h:c∈dD l): ∃s∈l,c=s.1\/c=s.2:=by
 obtain⟨s,hs,hc⟩:=List.mem_flatMap.1 h
 exact⟨s,hs,by simpa using hc⟩
theorem uv {l:List (Int×Int)} (h:jm (dD l)): ∀s∈l,s.1<s.2:=by
 induction l with
 | nil=>intro s hs;cases hs
 | cons a l ih=>
  rw [i9] at h
  intro s hs
  rcases dC.1 hs with rfl | hs
  ·exact h.head _ (by simp)
  ·exact ih h.tail.tail s hs
theorem r5 {l m:List (Int×Int)}:jm (dD (l++m))↔jm (dD l)/\jm (dD m)/\∀s∈l,∀t∈m,s.2<t.1:=by
 rw [sW]
 unfold jm
 rw [mB]
 constructor
 ·rintro⟨h1,h2,h3⟩
  exact⟨h1,h2,fun s hs t ht=>h3 s.2 (List.mem_flatMap.2 ⟨s,hs,by simp⟩) t.1 (List.mem_flatMap.2 ⟨t,ht,by simp⟩)⟩
 ·rintro⟨h1,h2,h3⟩
  refine⟨h1,h2,fun a ha b hb=>?_⟩
  obtain⟨s,hs,ha⟩:=xQ ha
  obtain⟨t,ht,hb⟩:=xQ hb
  have h4:=h3 s hs t ht
  have h5:=uv (l:=l) h1 s hs
  have h6:=uv (l:=m) h2 t ht
  rcases ha with rfl | rfl <;> rcases hb with rfl | rfl <;> omega
def kb (s:Int×Int):List (Int×Int)->(Int×Int)×List (Int×Int)
 | []=>(s,[])
 | a::l=>if a.1<=s.2 then kb (min s.1 a.1,max s.2 a.2) l else (s,a::l)
def lr (l:List (Int×Int)) (s:Int×Int):List (Int×Int):=
 l.takeWhile (fun a=>decide (a.2<s.1))++(kb s (l.dropWhile fun a=>decide (a.2<s.1))).1::(kb s (l.dropWhile fun a=>decide (a.2<s.1))).2
theorem ym: ∀(l:List (Int×Int)) (s:Int×Int),s.1<s.2->jm (dD l)->(∀a∈l,s.1<=a.2)->
  (kb s l).1.1< (kb s l).1.2/\((kb s l).1.1=s.1\/∃a∈l,(kb s l).1.1=a.1)/\jm (dD (kb s l).2)/\(∀t∈(kb s l).2,(kb s l).1.2<t.1)/\
  ∀x,i7 ((kb s l).1::(kb s l).2) x= ((decide (s.1<=x)&&decide (x<s.2))||i7 l x)
 | [],s,h,_,_=>⟨h, .inl rfl,jH,fun t (ht:t∈([]:List (Int×Int)))=>(by cases ht),fun x=>rfl⟩
 | a::l,s,h,hi,hs=>by
  have hsp:=uv hi
  have ha:=hsp a (by simp)
  have hi':=hi
  rw [i9] at hi'
  have hsa:=hs a (by simp)
  unfold kb
  by_cases hc:a.1<=s.2
  ·rw [aC hc]
   have hlt: (min s.1 a.1,max s.2 a.2).1< (min s.1 a.1,max s.2 a.2).2:=by dsimp only;omega
   obtain⟨h1,h2,h3,h4,h5⟩:=ym l (min s.1 a.1,max s.2 a.2) hlt hi'.tail.tail (fun b hb=>by
    have:=(r5 (l:=[a]) (m:=l)).1 hi
    have h6:=this.2.2 a (by simp) b hb
    have h7:=hsp b (gU _ hb)
    dsimp only;omega)
   refine⟨h1,?_,h3,h4,fun x=>?_⟩
   ·rcases h2 with h2 | ⟨b,hb,h2⟩
    ·rw [h2]
     rcases Int.le_total s.1 a.1 with h6 | h6
     ·exact .inl (by simp only;omega)
     ·exact .inr ⟨a,by simp,by simp only;omega⟩
    ·exact .inr ⟨b,gU _ hb,h2⟩
   ·rw [h5,Ba,<-Bool.or_assoc]
    congr 1
    clear h1 h2 h3 h4 h5
    rw [fc]
    simp only [dK,bW,bQ]
    constructor
    ·intro h6
     by_cases h7:s.1<=x/\x<s.2
     ·exact .inl h7
     ·exact .inr (by omega)
    ·rintro(h6 | h6) <;> omega
  ·rw [aG hc]
   refine⟨h, .inl rfl,hi,fun t ht=>?_,fun x=>rfl⟩
   show s.2<t.1
   rcases dC.1 ht with rfl | ht
   ·omega
   ·have:=((r5 (l:=[a]) (m:=l)).1 hi).2.2 a (by simp) t ht
    omega
theorem BV {l:List (Int×Int)} {c:Int} (h:jm (dD l)): ∀a∈l.dropWhile (fun a=>decide (a.2<c)),c<=a.2:=by
 induction l with
 | nil=>intro a ha;cases ha
 | cons b l ih=>
  have h':=h
  rw [i9] at h'
  rw [List.dropWhile_cons]
  by_cases hb:b.2<c
  ·rw [aC (by simpa using hb)];exact ih h'.tail.tail
  ·rw [aG (by simpa using hb)]
   intro a ha
   rcases dC.1 ha with rfl | ha
   ·omega
   ·have h1:=((r5 (l:=[b]) (m:=l)).1 h).2.2 b (by simp) a ha
    have h2:=uv h a (gU _ ha)
    omega
theorem BW (l:List (Int×Int)) (c:Int): ∀a∈l.takeWhile (fun a=>decide (a.2<c)),a.2<c:=by
 induction l with
 | nil=>intro a ha;cases ha
 | cons b l ih=>
  rw [List.takeWhile_cons]
  by_cases hb:b.2<c
  ·rw [aC (by simpa using hb)]
   intro a ha
   rcases dC.1 ha with rfl | ha
   ·exact hb
   ·exact ih a ha
  ·rw [aG (by simpa using hb)]
   intro a ha;cases ha
theorem w5 {l:List (Int×Int)} {s:Int×Int} (h:jm (dD l)) (hs:s.1<s.2):
  jm (dD (lr l s))/\∀x,i7 (lr l s) x= ((decide (s.1<=x)&&decide (x<s.2))||i7 l x):=by
 have hsplit:=h
 rw [<-List.takeWhile_append_dropWhile (p:=fun a:Int×Int=>decide (a.2<s.1)) (l:=l),r5] at hsplit
 obtain⟨h1,h2,h3⟩:=hsplit
 obtain⟨m1,m2,m3,m4,m5⟩:=ym (l.dropWhile fun a=>decide (a.2<s.1)) s hs h2 (BV h)
 unfold lr
 refine⟨r5.2 ⟨h1,?_,fun a ha t ht=>?_⟩,fun x=>?_⟩
 ·rw [i9]
  have h4: ∀c∈dD (kb s (l.dropWhile fun a=>decide (a.2<s.1))).2,(kb s (l.dropWhile fun a=>decide (a.2<s.1))).1.2<c:=fun c hc=>by
   obtain⟨t,ht,hc⟩:=xQ hc
   have:=m4 t ht
   have:=uv m3 t ht
   rcases hc with rfl | rfl <;> omega
  exact nS.2 ⟨fun c hc=>by
   rcases dC.1 hc with rfl | hc
   ·exact m1
   ·have:=h4 c hc;omega,nS.2 ⟨h4,m3⟩⟩
 ·have ha1:=BW l s.1 a ha
  rcases dC.1 ht with rfl | ht
  ·rcases m2 with m2 | ⟨b,hb,m2⟩
   ·rw [m2];exact ha1
   ·rw [m2];exact h3 a ha b hb
  ·have h5:=m4 t ht
   rcases m2 with m2 | ⟨b,hb,m2⟩
   ·rw [m2] at m1;omega
   ·have:=h3 a ha b hb;rw [m2] at m1;omega
 ·rw [yl,m5]
  conv=>rhs;rw [<-List.takeWhile_append_dropWhile (p:=fun a:Int×Int=>decide (a.2<s.1)) (l:=l),yl]
  rw [Bool.or_left_comm]
end Go.Gk
namespace Go.Gk
open Go
def j3:List Int->List (Int×Int)
 | a::b::l=>(a,b)::j3 (b::l)
 | _=>[]
theorem p5: ∀{xs:List Int},jm xs->∀s∈j3 xs,s.1∈xs/\s.2∈xs/\s.1<s.2/\∀c∈xs,c<=s.1\/s.2<=c
 | [],_,s,hs=>by cases hs
 | [a],_,s,hs=>by cases hs
 | a::b::l,h,s,hs=>by
  have hab:=h.head b (by simp)
  rcases dC.1 hs with rfl | hs
  ·refine⟨by simp,by simp,hab,fun c hc=>?_⟩
   rcases dC.1 hc with rfl | hc
   ·exact .inl (Int.le_refl _)
   ·rcases dC.1 hc with rfl | hc
    ·exact .inr (Int.le_refl _)
    ·exact .inr (by have:=h.tail.head c hc;show b<=c;omega)
  ·obtain⟨h1,h2,h3,h4⟩:=p5 h.tail s hs
   refine⟨gU _ h1,gU _ h2,h3,fun c hc=>?_⟩
   rcases dC.1 hc with rfl | hc
   ·exact .inl (by have:=h.head s.1 h1;omega)
   ·exact h4 c hc
theorem vU: ∀{xs:List Int},jm xs->∀x,(∃s∈j3 xs,s.1<=x/\x<s.2)\/(∀c∈xs,x<c)\/(∀c∈xs,c<=x)
 | [],_,x=> .inr (.inl fun c hc=>by cases hc)
 | [a],_,x=>by
  by_cases h:x<a
  ·exact .inr (.inl fun c hc=>by simp at hc;omega)
  ·exact .inr (.inr fun c hc=>by simp at hc;omega)
 | a::b::l,h,x=>by
  have hab:=h.head b (by simp)
  rcases vU h.tail x with ⟨s,hs,h1⟩ | h1 | h1
  ·exact .inl ⟨s,gU _ hs,h1⟩
  ·by_cases h2:x<a
   ·exact .inr (.inl fun c hc=>by
     rcases dC.1 hc with rfl | hc
     ·exact h2
     ·exact h1 c hc)
   ·exact .inl ⟨(a,b),by simp [j3],by show a<=x;omega,h1 b (by simp)⟩
  ·exact .inr (.inr fun c hc=>by
    rcases dC.1 hc with rfl | hc
    ·have:=h1 b (by simp);omega
    ·exact h1 c hc)
def Ends (a:List (Int×Int)) (xs:List Int):Prop:=∀s∈a,s.1∈xs/\s.2∈xs
theorem yX {a:List (Int×Int)} {xs:List Int} (he:Ends a xs) (hx:jm xs) {s:Int×Int} (hs:s∈j3 xs) {x:Int} (h1:s.1<=x) (h2:x<s.2):i7 a x=i7 a s.1:=by
 obtain⟨_,_,h3,h4⟩:=p5 hx s hs
 rw [fc,rY,rY]
 constructor
 ·rintro⟨t,ht,h5,h6⟩
  have:=h4 _ (he t ht).1
  exact⟨t,ht,by omega,by omega⟩
 ·rintro⟨t,ht,h5,h6⟩
  have:=h4 _ (he t ht).2
  exact⟨t,ht,by omega,by omega⟩
theorem EY {a:List (Int×Int)} {xs:List Int} (he:Ends a xs) {x:Int} (h: (∀c∈xs,x<c)\/(∀c∈xs,c<=x)):i7 a x=false:=by
 rw [<-jI,rY]
 rintro⟨t,ht,h5,h6⟩
 obtain⟨e1,e2⟩:=he t ht
 rcases h with h | h
 ·have:=h _ e1;omega
 ·have:=h _ e2;omega
def lR (gD:Bool->Bool->Bool) (a b:List (Int×Int)) (ss:List (Int×Int)) (out:List (Int×Int)):List (Int×Int):=
 ss.foldl (fun out s=>if gD (i7 a s.1) (i7 b s.1)=true then lr out s else out) out
theorem uw (gD:Bool->Bool->Bool) (a b:List (Int×Int)): ∀(ss out:List (Int×Int)),jm (dD out)->(∀s∈ss,s.1<s.2)->
  jm (dD (lR gD a b ss out))/\∀x,i7 (lR gD a b ss out) x= (i7 out x||ss.any fun s=>gD (i7 a s.1) (i7 b s.1)&&(decide (s.1<=x)&&decide (x<s.2)))
 | [],out,h,_=>⟨h,fun x=>by simp [lR]⟩
 | s::ss,out,h,hs=>by
  have h0:=hs s (by simp)
  unfold lR
  rw [List.foldl_cons]
  by_cases hk:gD (i7 a s.1) (i7 b s.1)=true
  ·rw [aC hk]
   obtain⟨j1,j2⟩:=w5 h h0
   obtain⟨m1,m2⟩:=uw gD a b ss (lr out s) j1 (fun t ht=>hs t (gU _ ht))
   refine⟨m1,fun x=>?_⟩
   rw [show i7 (List.foldl _ (lr out s) ss) x=_ from m2 x,j2,List.any_cons,hk,Bool.true_and]
   cases i7 out x <;> simp
  ·rw [aG hk]
   obtain⟨m1,m2⟩:=uw gD a b ss out h (fun t ht=>hs t (gU _ ht))
   refine⟨m1,fun x=>?_⟩
   rw [show i7 (List.foldl _ out ss) x=_ from m2 x,List.any_cons,eq_false_of_ne_true hk,Bool.false_and,Bool.false_or]
theorem C9 {gD:Bool->Bool->Bool} (hk:gD false false=false) {a b:List (Int×Int)} {xs:List Int} (hx:jm xs) (ha:Ends a xs) (hb:Ends b xs):
  jm (dD (lR gD a b (j3 xs) []))/\∀x,i7 (lR gD a b (j3 xs) []) x=gD (i7 a x) (i7 b x):=by
 obtain⟨m1,m2⟩:=uw gD a b (j3 xs) [] jH (fun s hs=>(p5 hx s hs).2.2.1)
 refine⟨m1,fun x=>?_⟩
 rw [m2,show i7 [] x=false from rfl,Bool.false_or]
 rcases vU hx x with ⟨s,hs,h1,h2⟩ | h
 ·rw [fc,kG]
  constructor
  ·rintro⟨t,ht,h3⟩
   rw [bW,bW,bQ,bQ] at h3
   rw [yX ha hx ht h3.2.1 h3.2.2,yX hb hx ht h3.2.1 h3.2.2];exact h3.1
  ·intro h3
   rw [yX ha hx hs h1 h2,yX hb hx hs h1 h2] at h3
   exact⟨s,hs,by rw [h3,bR h1,bR h2];rfl⟩
 ·rw [EY ha h,EY hb h,hk,<-jI,kG]
  rintro⟨t,ht,h3⟩
  rw [bW,bW,bQ,bQ] at h3
  obtain⟨e1,e2,_⟩:=p5 hx t ht
  rcases h with h | h
  ·have:=h _ e1;omega
  ·have:=h _ e2;omega
def lS (f:Int->List Int) (ss:List (Int×Int)) (out:List Bd):List Bd:=ss.foldl (fun out s=>jw out ⟨s.1,s.2,f s.1⟩) out
theorem yn (f:Int->List Int) (hf: ∀y,jm (f y)/\(f y).length % 2=0): ∀(ys:List Int) (out:List Bd),jm ys->eQ out->(∀c∈out,∀y∈ys,c.y1<=y)->
  eQ (lS f (j3 ys) out)/\∀y,rowAt (lS f (j3 ys) out) y=match (j3 ys).find? (fun s=>decide (s.1<=y)&&decide (y<s.2)) with | some s=>f s.1 | none=>rowAt out y
 | [],out,_,h,_=>⟨h,fun y=>rfl⟩
 | [a],out,_,h,_=>⟨h,fun y=>rfl⟩
 | a::b::l,out,hi,h,ho=>by
  have hab:=hi.head b (by simp)
  have ho1: ∀c∈out,c.y1<=(⟨a,b,f a⟩:Bd).y0:=fun c hc=>ho c hc a (by simp)
  have hc:=uN (b:=⟨a,b,f a⟩) h ho1 (hf a).1 (hf a).2
  have htop:=uO (b:=⟨a,b,f a⟩) ho1 (by show a<=b;omega)
  obtain⟨m1,m2⟩:=yn f hf (b::l) (jw out ⟨a,b,f a⟩) hi.tail hc (fun c hc' y hy=>by
   have h1:=htop c hc'
   have h2:b<=y:=by
    rcases dC.1 hy with rfl | hy
    ·exact Int.le_refl _
    ·have:=hi.tail.head y hy;omega
   have h3:c.y1<=b:=h1
   omega)
  refine⟨m1,fun y=>?_⟩
  show rowAt (lS f (j3 (b::l)) (jw out ⟨a,b,f a⟩)) y=_
  rw [m2 y,show j3 (a::b::l)= (a,b)::j3 (b::l) from rfl,List.find?_cons]
  have hrow:=uM (s:=out) (b:=⟨a,b,f a⟩) ho1 (fun c hc=>(h.each c hc).1) (fun h=>absurd h (by show ¬b<=a;omega)) y
  by_cases hy:a<=y/\y<b
  ·have e: (decide (a<=y)&&decide (y<b))=true:=by rw [bR hy.1,bR hy.2];rfl
   have hn: (j3 (b::l)).find? (fun s=>decide (s.1<=y)&&decide (y<s.2))=none:=by
    rw [List.find?_eq_none]
    intro s hs
    have:=(p5 hi.tail s hs).1
    have h5:b<=s.1:=by
     rcases dC.1 this with h6 | h6
     ·omega
     ·have:=hi.tail.head _ h6;omega
    simp;omega
   rw [hn]
   show rowAt (jw out ⟨a,b,f a⟩) y=_
   rw [hrow,aC hy,e]
  ·have e: (decide (a<=y)&&decide (y<b))=false:=by
    rw [Bool.and_eq_false_iff,decide_eq_false_iff_not,decide_eq_false_iff_not];omega
   rw [e]
   cases (j3 (b::l)).find? (fun s=>decide (s.1<=y)&&decide (y<s.2)) with
   | some s=>rfl
   | none=>
    show rowAt (jw out ⟨a,b,f a⟩) y=rowAt out y
    rw [hrow,aG hy]
theorem yo {f:Int->List Int} (hf: ∀y,jm (f y)/\(f y).length % 2=0) {ys:List Int} (hy:jm ys) (h1: ∀s∈j3 ys,∀y,s.1<=y->y<s.2->f y=f s.1) (h2: ∀y,((∀c∈ys,y<c)\/(∀c∈ys,c<=y))->f y= []):
  eQ (lS f (j3 ys) [])/\∀y,rowAt (lS f (j3 ys) []) y=f y:=by
 obtain⟨m1,m2⟩:=yn f hf ys [] hy eQ.nil (fun c hc=>by cases hc)
 refine⟨m1,fun y=>?_⟩
 rw [m2 y]
 cases IZ: (j3 ys).find? (fun s=>decide (s.1<=y)&&decide (y<s.2)) with
 | some s=>
  have h3:=List.find?_some IZ
  rw [bW,bQ,bQ] at h3
  exact(h1 s (List.mem_of_find?_eq_some IZ) y h3.1 h3.2).symm
 | none=>
  show rowAt [] y=f y
  rcases vU hy y with ⟨s,hs,h3,h4⟩ | h3
  ·have:=List.find?_eq_none.1 IZ s hs
   rw [bR h3,bR h4] at this
   exact absurd rfl this
  ·rw [h2 y h3];rfl
end Go.Gk
namespace Go.Gk
open Go
def Ok {β:Type} (o:Option β) (P:β->Prop):Prop:=∃r,o=some r/\P r
section
variable {α β S R:Type} {P:α->Prop} {Q:β->Prop}
theorem Ok.ret {x:β} (h:Q x):Ok (some x) Q:=⟨x,rfl,h⟩
theorem Ok.of {o:Option β} {x:β} (h:o=some x) (hq:Q x):Ok o Q:=⟨x,h,hq⟩
theorem Ok.mono {o:Option α} {P':α->Prop} (h:Ok o P) (k: ∀x,P x->P' x):Ok o P':=by obtain⟨x,h1,h2⟩:=h;exact⟨x,h1,k x h2⟩
theorem Ok.bind {o:Option α} {f:α->Option β} (h:Ok o P) (k: ∀x,P x->Ok (f x) Q):Ok (o.bind f) Q:=by
 obtain⟨x,h1,h2⟩:=h;rw [h1];exact k x h2
theorem Ok.eq {o:Option α} {f:α->Option β} {x:α} (h:o=some x) (k:Ok (f x) Q):Ok (o.bind f) Q:=by rw [h];exact k
theorem Ok.bif {b:Bool} {x y:Option β} (ht:b=true->Ok x Q) (hf:b=false->Ok y Q):Ok (bif b then x else y) Q:=by
 cases b with
 | true=>exact ht rfl
 | false=>exact hf rfl
theorem Ok.get {o:Option β} {x:β} (h:Ok o (fun r=>r=x)):o=some x:=by obtain⟨r,h1,h2⟩:=h;rw [h1,h2]
def KX (Go:S->Prop) (Rt:R->Prop):Fo S R->Prop | .go s=>Go s | .rt r=>Rt r
def Hu (Nx Br:S->Prop) (Rt:R->Prop):Fl S R->Prop | .nx s=>Nx s | .br s=>Br s | .rt r=>Rt r
theorem Ok.nx {Nx Br:S->Prop} {Rt:R->Prop} {s:S} (h:Nx s):Ok (some (Fl.nx s)) (Hu Nx Br Rt):=⟨_,rfl,h⟩
theorem Ok.br {Nx Br:S->Prop} {Rt:R->Prop} {s:S} (h:Br s):Ok (some (Fl.br s)) (Hu Nx Br Rt):=⟨_,rfl,h⟩
theorem Ok.rt {Nx Br:S->Prop} {Rt:R->Prop} {r:R} (h:Rt r):Ok (some (Fl.rt r:Fl S R)) (Hu Nx Br Rt):=⟨_,rfl,h⟩
theorem Ok.cs {Go:S->Prop} {Rt:R->Prop} {o:Fo S R} {f:S->Option β} {g:R->Option β} (h:KX Go Rt o) (hf: ∀s,Go s->Ok (f s) Q) (hg: ∀r,Rt r->Ok (g r) Q):Ok (o.cs f g) Q:=by
 cases o with
 | go s=>exact hf s h
 | rt r=>exact hg r h
theorem Ok.nE {body:Nat->S->Option S} {m:Nat} {s:S} (Inv:Nat->S->Prop) (hm:m<=4611686018427387904) (h0:Inv 0 s) (h: ∀k s,k<m->Inv k s->Ok (body k s) (Inv (k+1))):Ok (nE m body s) (Inv m):=
 yW Inv hm h0 h
theorem Ok.uY {body:Nat->S->Option (Fl S R)} {m:Nat} {s:S} (Inv:Nat->S->Prop) {Go:S->Prop} {Rt:R->Prop} (hm:m<=4611686018427387904) (h0:Inv 0 s)
  (h: ∀k s,k<m->Inv k s->Ok (body k s) (Hu (Inv (k+1)) Go Rt)) (hg: ∀s,Inv m s->Go s):Ok (uY m body s) (KX Go Rt):=by
 obtain⟨o,h1,h2⟩:=HU (R:=R) Inv Go Rt hm h0 (fun k s hk hi=>by
  obtain⟨fl,a1,a2⟩:=h k s hk hi
  exact⟨fl,a1,by cases fl <;> exact a2⟩) hg
 exact⟨o,h1,by cases o <;> exact h2⟩
theorem Ok.jz {body:S->Option (Fl S R)} {N:Nat} {s:S} (Inv:S->Prop) (μ:S->Nat) {Go:S->Prop} {Rt:R->Prop}
  (h: ∀s,Inv s->Ok (body s) (Hu (fun s'=>Inv s'/\μ s'<μ s) Go Rt)) (hi:Inv s) (hn:μ s<N):Ok (jz body N s) (KX Go Rt):=by
 obtain⟨o,h1,h2⟩:=wO (R:=R) Inv μ Go Rt (fun s hi=>by
  obtain⟨fl,a1,a2⟩:=h s hi
  exact⟨fl,a1,by cases fl <;> exact a2⟩) N s hi hn
 exact⟨o,h1,by cases o <;> exact h2⟩
theorem Ok.app {b:Nat} {l ys:List α} {f:List α->Option β} (h: (l.length+ys.length)*b<=140737488355328) (k:Ok (f (l++ys)) Q):Ok ((Go.Gk.app b l ys).bind f) Q:=by rw [kq h];exact k
theorem Ok.idx {l:List α} {i:Nat} {f:α->Option β} (h:i<l.length) (k:Ok (f l[i]) Q):Ok ((Go.Gk.idx l ((i:Nat):Int)).bind f) Q:=by rw [kI l i h];exact k
theorem Ok.ix {l:List α} {i:Nat} {x:α} {f:α->Option β} (h:l[i]? =some x) (k:Ok (f x) Q):Ok ((Go.Gk.idx l ((i:Nat):Int)).bind f) Q:=by rw [dU h];exact k
end
theorem Da {n:Nat} (h:n<=4611686018427387904):IntKind.wrap .i64 ((n:Nat):Int)= ((n:Nat):Int):=eT (by omega) (by omega)
theorem wrap_add {n m:Nat} (h:n+m<=4611686018427387904):IntKind.wrap .i64 (((n:Nat):Int)+ ((m:Nat):Int))= ((n+m:Nat):Int):=by rw [eT (by omega) (by omega)];simp
theorem bP {n:Nat} (h:n+1<=4611686018427387904):IntKind.wrap .i64 (((n:Nat):Int)+1)= ((n+1:Nat):Int):=by rw [eT (by omega) (by omega)];simp
theorem Bc {n:Nat} (h:n+2<=4611686018427387904):IntKind.wrap .i64 (((n:Nat):Int)+2)= ((n+2:Nat):Int):=by rw [eT (by omega) (by omega)];simp
theorem fD {α:Type} [DecidableEq α]: ∀{l m:List α},l.Nodup->(∀x∈l,x∈m)->l.length<=m.length
 | [],m,_,_=>dM _
 | a::l,m,hn,hs=>by
  have ha:a∈m:=hs a (by simp)
  have hn':=List.nodup_cons.1 hn
  have:=fD (l:=l) (m:=m.erase a) hn'.2 (fun x hx=>by
   rw [List.mem_erase_of_ne (fun e=>hn'.1 (by rw [<-e];exact hx))]
   exact hs x (gU _ hx))
  rw [List.length_erase_of_mem ha] at this
  have:=List.length_pos_of_mem ha
  simp;omega
section
variable {α:Type} {N:Nat}
def KY (z:α) (N:Nat) (p0:List α) (p1:α->Option Bool):Option (List α):=
 (sM p0 p1).bind fun x31=>bif (x31==(-1)) then (some p0) else ((jz (fun(s33: (List α)×Int×Int)=>(bif (decide (s33.2.2< (s33.1.length:Int))) then ((idx s33.1 s33.2.2).bind fun x54=>(p1 x54).bind fun x58=>(bif (!x58) then ((idx s33.1 s33.2.1).bind fun x63=>some ((s33.1.set (Int.toNat s33.2.1) x54),(IntKind.wrap .i64 (s33.2.1+1)))) else (some (s33.1,s33.2.1))).bind fun s61=>some (.nx (s61.1,s61.2,(IntKind.wrap .i64 (s33.2.2+1))))) else (some (.br (s33.1,s33.2.1,s33.2.2))):Option (Fl ((List α)×Int×Int) Empty))) N (p0,x31,(IntKind.wrap .i64 (x31+1)))).bind fun o67=>o67.cs (fun(s33: (List α)×Int×Int)=>(sC s33.1 s33.2.1 (s33.1.length:Int)).bind fun x64=>(sC (s33.1.take (Int.toNat s33.2.1)++List.replicate (s33.1.length - Int.toNat s33.2.1) z) 0 s33.2.1).bind fun x65=>some x65) (fun r=>r.elim))
theorem GX {z:α} {l:List α} {φ:α->Option Bool} (p:α->Bool) (hφ: ∀x∈l,φ x=some (p x)) (hl:l.length<=4611686018427387000) (hN:l.length<N):KY z N l φ=some (l.filter (fun x=> !p x)):=by
 unfold KY
 rw [vr p (by omega) hφ,aB]
 rcases xL l p with ⟨h1,h2⟩ | ⟨k,x,h1,h2,h3,h4⟩
 ·rw [h1]
  have:l.filter (fun x=> !p x)=l:=List.filter_eq_self.2 fun a ha=>by rw [h2 a ha];rfl
  rw [this];rfl
 ·rw [h1,show (((k:Nat):Int)== -1)=false by simp,aR]
  have hk:=(bA.1 h2).1
  have hpre: (l.take k).filter (fun x=> !p x)=l.take k:=List.filter_eq_self.2 fun a ha=>by
   obtain⟨j,hj⟩:=dS ha
   have hjk:j<k:=by have:=(bA.1 hj).1;rw [cL] at this;omega
   rw [List.getElem?_take_of_lt hjk] at hj
   rw [h4 j a hjk hj];rfl
  have hst:l.take (k+1)=l.take k++[x]:=by
   rw [eF hk];congr 1
   have:=(bA.1 h2).2;rw [this]
  have hk1:IntKind.wrap .i64 (((k:Nat):Int)+1)= ((k+1:Nat):Int):=by rw [eT (by omega) (by omega)];omega
  rw [hk1]
  obtain⟨o,a1,a2⟩:=wO (S:=(List α)×Int×Int) (R:=Empty) (body:=fun(s33: (List α)×Int×Int)=>(bif (decide (s33.2.2< (s33.1.length:Int))) then ((idx s33.1 s33.2.2).bind fun x54=>(φ x54).bind fun x58=>(bif (!x58) then ((idx s33.1 s33.2.1).bind fun x63=>some ((s33.1.set (Int.toNat s33.2.1) x54),(IntKind.wrap .i64 (s33.2.1+1)))) else (some (s33.1,s33.2.1))).bind fun s61=>some (.nx (s61.1,s61.2,(IntKind.wrap .i64 (s33.2.2+1))))) else (some (.br (s33.1,s33.2.1,s33.2.2))):Option (Fl ((List α)×Int×Int) Empty)))
   (fun s=>∃i j:Nat,s.2.1= ((i:Nat):Int)/\s.2.2= ((j:Nat):Int)/\i<j/\j<=l.length/\s.1.length=l.length/\s.1.take i= (l.take j).filter (fun x=> !p x)/\∀m,j<=m->s.1[m]? =l[m]?)
   (fun s=>l.length - s.2.2.toNat) (fun s=>∃i:Nat,s.2.1= ((i:Nat):Int)/\i<=l.length/\s.1.length=l.length/\s.1.take i=l.filter (fun x=> !p x)) (fun _=>True) (fun s ⟨i,j,e1,e2,hij,hj,hlen,ht,hd⟩=>by
    obtain⟨s,a,b⟩:=s
    dsimp only at e1 e2 hlen ht hd ⊢
    subst e1;subst e2
    by_cases hlt:j<l.length
    ·rw [bR (by rw [hlen];omega),aP]
     have hx:s[j]? =some l[j]:=by rw [hd j (bT _)];exact aN hlt
     have w1:IntKind.wrap .i64 (((j:Nat):Int)+1)= ((j+1:Nat):Int):=by rw [eT (by omega) (by omega)];omega
     have w2:IntKind.wrap .i64 (((i:Nat):Int)+1)= ((i+1:Nat):Int):=by rw [eT (by omega) (by omega)];omega
     have hs2:l.take (j+1)=l.take j++[l[j]]:=eF hlt
     rw [dU hx,aB,hφ _ (cM hlt),aB,w1]
     cases hp:p l[j] with
     | true=>
      refine⟨.nx (s,((i:Nat):Int),((j+1:Nat):Int)),by rw [lT,aR,aB],⟨i,j+1,rfl,rfl,by omega,by omega,hlen,?_,fun m hm=>hd m (by omega)⟩,?_⟩
      ·rw [hs2,ki,ht];simp [hp]
      ·simp only [cH];omega
     | false=>
      refine⟨.nx (s.set i l[j],((i+1:Nat):Int),((j+1:Nat):Int)),by rw [nU,aP,kI _ _ (by omega),aB,cH,w2,aB],⟨i+1,j+1,rfl,rfl,by omega,by omega,by simp [hlen],?_,fun m hm=>?_⟩,?_⟩
      ·rw [hs2,ki,<-ht]
       have: (s.set i l[j]).take (i+1)=s.take i++[l[j]]:=by
        rw [eF (by simp;omega),List.take_set_of_le (bT _)];simp
       rw [this];simp [hp]
      ·rw [fe,aG (by omega)];exact hd m (by omega)
      ·simp only [cH];omega
    ·rw [cC (by rw [hlen];omega),aR]
     have hje:j=l.length:=by omega
     subst hje
     rw [eO] at ht
     exact⟨.br (s,((i:Nat):Int),((l.length:Nat):Int)),rfl,i,rfl,by omega,hlen,ht⟩)
   N (l,((k:Nat):Int),((k+1:Nat):Int)) ⟨k,k+1,rfl,rfl,by omega,by omega,rfl,by rw [hst,ki,hpre];simp [h3],fun _ _=>rfl⟩ (by simp only [cH];omega)
  rw [a1,aB]
  cases o with
  | rt r=>exact r.elim
  | go s=>
   obtain⟨i,e1,hi,hlen,ht⟩:=a2
   obtain⟨s,a,b⟩:=s
   dsimp only at e1 hlen ht
   subst e1
   simp only [Fo.cs]
   rw [oR _ _ (by omega),aB,cH,qf _ _ (by simp;omega),aB,List.take_append_of_le_length (by simp;omega),List.take_take,Nat.min_self,ht]
end
section
variable {κ ν:Type} [DecidableEq κ]
theorem xR (m:List (κ×ν)) (k k':κ) (x z:ν):jg (uZ m k x) k' z=if k'=k then x else jg m k' z:=by
 induction m with
 | nil=>unfold uZ jg;by_cases h:k'=k <;> simp [h]
 | cons p m ih=>
  unfold uZ
  by_cases h:k=p.1
  ·rw [aC h]
   by_cases h':k'=k
   ·subst h';simp [jg]
   ·simp only [jg,List.find?_cons,aG h',cC h']
    rw [cC (fun e=>h' (e.trans h.symm))]
  ·rw [aG h]
   by_cases h':k'=p.1
   ·have:k'≠k:=fun e=>h (e.symm.trans h')
    simp only [jg,List.find?_cons,bR h',aG this]
   ·unfold jg at ih ⊢
    simp only [List.find?_cons,cC h']
    exact ih
theorem FF (m:List (κ×ν)) (k k':κ) (x:ν):tt (uZ m k x) k'= (decide (k'=k)||tt m k'):=by
 induction m with
 | nil=>unfold uZ tt;simp
 | cons p m ih=>
  unfold uZ
  by_cases h:k=p.1
  ·rw [aC h]
   by_cases h':k'=k
   ·simp [tt,h']
   ·simp only [tt,List.any_cons,cC h',Bool.false_or]
    rw [cC (fun e=>h' (e.trans h.symm)),Bool.false_or]
  ·rw [aG h]
   unfold tt at ih ⊢
   simp only [List.any_cons]
   rw [ih]
   cases decide (k'=p.1) <;> cases decide (k'=k) <;> simp
end
end Go.Gk
namespace Go.Gk
open Go
section
variable {N:Nat}
theorem zC (l:List Int) (a b:Nat) (h:a+b<l.length):DY l ((a:Nat):Int) ((b:Nat):Int)=some l[a+b]:=by
 unfold DY
 rw [aC (by omega),show ((a:Nat):Int)+ ((b:Nat):Int)= ((a+b:Nat):Int) by omega,kI _ _ h]
theorem jm.GY {l:List Int} {a:Int} (h:jm l) (hl: ∀c∈l,c<a):jm (l++[a]):=by
 unfold jm
 rw [mB]
 exact⟨h,List.pairwise_singleton _ _,fun c hc d hd=>by simp at hd;subst hd;exact hl c hc⟩
theorem jm.last {l:List Int} {a:Int} (h:jm l) (hl:l.getLast? =some a): ∀c∈l,c<=a:=by
 intro c hc
 have hs:=qs hl
 rw [hs] at h hc
 rcases dA.1 hc with h1 | h1
 ·have:=(mB.1 h).2.2 c h1 a (by simp);omega
 ·simp at h1;omega
theorem BX {l:List Int} (hs:l.Pairwise (fun x y=>x<=y)) (hl:l.length<=4611686018427387000) (hN:l.length<N):
  Ok (gW N l) (fun m=>jm m/\∀c,c∈m↔c∈l):=by
 unfold gW
 refine Ok.bif (fun h2=>Ok.ret ⟨?_,fun c=>Iff.rfl⟩) (fun h2=>?_)
 ·have h2:=of_decide_eq_true h2
  match l,h2 with
  | [],_=>exact jH
  | [a],_=>exact List.pairwise_singleton _ _
  | a::b::l,h2=>simp at h2;omega
 ·have h2:=of_decide_eq_false h2
  have le: ∀(i j:Nat) (x y:Int),i<j->l[i]? =some x->l[j]? =some y->x<=y:=fun i j x y hij hx hy=>by
   have:=mC.1 hs i j (bA.1 hx).1 (bA.1 hy).1 hij
   rw [(bA.1 hx).2,(bA.1 hy).2] at this;exact this
  refine Ok.bind (Ok.jz (Go:=fun _=>jm l) (Rt:=fun m=>jm m/\∀c,c∈m↔c∈l) (fun s=>∃k:Nat,s= ((k:Nat):Int)/\1<=k/\k<=l.length/\jm (l.take k)) (fun s=>l.length - s.toNat) ?_ ⟨1,rfl,bT _,by omega,?_⟩ (by simp;omega)) ?_
  ·rintro s ⟨k,rfl,hk1,hkl,hinc⟩
   refine Ok.bif (fun h=>?_) (fun h=>Ok.br ?_)
   ·have hk:k<l.length:=by have:=of_decide_eq_true h;omega
    refine Ok.idx hk ?_
    rw [i5 hk1 (by omega)]
    refine Ok.idx (by omega) ?_
    refine Ok.bif (fun he=>?_) (fun he=>?_)
    ·have he:l[k]=l[k - 1]:=by simpa using he
     refine Ok.eq (oR l k hkl) ?_
     refine Ok.bind (Ok.jz (Go:=fun s=>∃i:Nat,s.2.1= ((i:Nat):Int)/\i<=l.length/\s.1.length=l.length/\jm (s.1.take i)/\∀c,c∈s.1.take i↔c∈l) (Rt:=fun _=>True)
      (fun s=>∃i j:Nat,s.2.1= ((i:Nat):Int)/\s.2.2= ((j:Nat):Int)/\1<=j/\k+j<=l.length/\i<=k+j - 1/\s.1.length=l.length/\jm (s.1.take i)/\(s.1.take i).getLast? =l[k+j - 1]? /\
       (∀c,c∈s.1.take i↔c∈l.take (k+j))/\∀m,k+j - 1<=m->s.1[m]? =l[m]?) (fun s=>l.length - s.2.2.toNat) ?_ ?_ (by simp;omega)) ?_
     ·rintro⟨u,a,b⟩ ⟨i,j,e1,e2,hj,hjl,hij,hlen,hi,hlast,hmem,hrest⟩
      dsimp only at e1 e2 hlen hi hlast hmem hrest ⊢
      subst e1;subst e2
      rw [cH]
      refine Ok.bif (fun h=>?_) (fun h=>Ok.br ?_)
      ·have hlt:k+j<l.length:=by have:=of_decide_eq_true h;omega
       have hx:u[k+j]'(by omega)=l[k+j]:=by have:=hrest (k+j) (by omega);rw [aN (by omega),aN hlt] at this;injection this
       have hy:u[k+ (j - 1)]'(by omega)=l[k+ (j - 1)]:=by have:=hrest (k+ (j - 1)) (by omega);rw [aN (by omega),aN (by omega)] at this;injection this
       refine Ok.eq (zC u k j (by omega)) ?_
       rw [i5 hj (by omega)]
       refine Ok.eq (zC u k (j - 1) (by omega)) ?_
       rw [hx,hy]
       have hts:l.take (k+j+1)=l.take (k+j)++[l[k+j]]:=eF hlt
       have hlast': (u.take i).getLast? =some l[k+ (j - 1)]:=by rw [hlast,show k+j - 1=k+ (j - 1) by omega,aN (by omega)]
       have hxy:l[k+ (j - 1)]<=l[k+j]:=le (k+ (j - 1)) (k+j) _ _ (by omega) (aN _) (aN _)
       refine Ok.bind (P:=fun s'=>s'.1.length=l.length/\∃i':Nat,s'.2= ((i':Nat):Int)/\i'<=k+j/\jm (s'.1.take i')/\(s'.1.take i').getLast? =l[k+j]? /\(∀c,c∈s'.1.take i'↔c∈l.take (k+j+1))/\∀m,k+j<=m->s'.1[m]? =l[m]?) ?_ ?_
       ·refine Ok.bif (fun hne=>?_) (fun hne=>Ok.ret ?_)
        ·have hne:l[k+j]≠l[k+ (j - 1)]:=by simpa using hne
         refine Ok.eq (zC u k j (by omega)) ?_
         rw [hx]
         refine Ok.idx (by omega) (Ok.ret ⟨by simp [hlen],i+1,?_,by omega,?_⟩)
         ·rw [bP (by omega)]
         ·dsimp only
          rw [cH]
          have ht: (u.set i l[k+j]).take (i+1)=u.take i++[l[k+j]]:=by
           rw [eF (by simp;omega),List.take_set_of_le (bT _)];simp
          rw [ht]
          refine⟨hi.GY fun c hc=>?_,by simp [aN hlt],fun c=>?_,fun m hm=>?_⟩
          ·have:=hi.last hlast' c hc;omega
          ·rw [hts,dA,dA,hmem]
          ·rw [fe,aG (by omega)];exact hrest m (by omega)
        ·have he:l[k+j]=l[k+ (j - 1)]:=by simpa using hne
         refine⟨hlen,i,rfl,by omega,hi,?_,fun c=>?_,fun m hm=>hrest m (by omega)⟩
         ·dsimp only;rw [hlast',aN hlt,he]
         ·rw [hts,dA,<-hmem]
          constructor
          ·exact .inl
          ·rintro(h | h)
           ·exact h
           ·simp at h;subst h
            rw [he];exact List.mem_of_getLast? hlast'
       ·rintro⟨v,a⟩ ⟨g1,i',g2,g3,g4,g5,g6,g7⟩
        dsimp only at g1 g2 g4 g5 g6 g7 ⊢
        refine Ok.nx ⟨⟨i',j+1,g2,?_,by omega,by omega,by omega,g1,g4,?_,g6,fun m hm=>g7 m (by omega)⟩,?_⟩
        ·rw [bP (by omega)]
        ·rw [show k+ (j+1) - 1=k+j by omega];exact g5
        ·rw [bP (by omega)];simp only [cH];omega
      ·have hge:k+j=l.length:=by have:=of_decide_eq_false h;omega
       refine⟨i,rfl,by omega,hlen,hi,fun c=>?_⟩
       rw [hmem,hge,eO]
     ·refine⟨k,1,rfl,rfl,bT _,by omega,by omega,rfl,hinc,?_,fun c=>?_,fun m _=>rfl⟩
      ·dsimp only
       rw [show k+1 - 1=k by omega,aN hk,he,List.getLast?_eq_getElem?,cL,Nat.min_eq_left hkl,List.getElem?_take_of_lt (by omega),aN (by omega)]
      ·dsimp only
       rw [eF hk,dA]
       constructor
       ·exact .inl
       ·rintro(h | h)
        ·exact h
        ·simp at h;subst h;rw [he]
         refine eU (i:=k - 1) ?_
         rw [List.getElem?_take_of_lt (by omega),aN (by omega)]
     ·rintro o ho
      refine Ok.cs ho ?_ (fun r=>r.elim)
      rintro⟨u,a,b⟩ ⟨i,e1,hi,hlen,hinc',hmem⟩
      dsimp only at e1 hlen hinc' hmem ⊢
      subst e1
      refine Ok.eq (oR u i (by omega)) ?_
      rw [cH]
      refine Ok.eq (qf _ i (by simp;omega)) (Ok.rt ?_)
      rw [List.take_append_of_le_length (by simp;omega),List.take_take,Nat.min_self]
      exact⟨hinc',hmem⟩
    ·have he:l[k]≠l[k - 1]:=by simpa using he
     refine Ok.nx ⟨⟨k+1,by rw [bP (by omega)],by omega,by omega,?_⟩,by rw [bP (by omega)];simp only [cH];omega⟩
     rw [eF hk]
     refine hinc.GY fun c hc=>?_
     have hlast: (l.take k).getLast? =some l[k - 1]:=by
      rw [List.getLast?_eq_getElem?,cL,Nat.min_eq_left hkl,List.getElem?_take_of_lt (by omega),aN (by omega)]
     have h3:=hinc.last hlast c hc
     have h4:=le (k - 1) k _ _ (by omega) (aN (by omega:k - 1<l.length)) (aN hk)
     omega
   ·have hge:k=l.length:=by have:=of_decide_eq_false h;omega
    subst hge;rw [eO] at hinc;exact hinc
  ·match l,h2 with
   | [],h2=>simp at h2
   | a::l,_=>exact List.pairwise_singleton _ _
  ·rintro o ho
   exact Ok.cs ho (fun s h=>Ok.ret ⟨h,fun c=>Iff.rfl⟩) (fun r h=>Ok.ret h)
def r6 (l:List aI):List Int:=l.flatMap fun r=>[r.X0,r.X1]
def je (l:List aI):List Int:=l.flatMap fun r=>[r.Y0,r.Y1]
theorem r7 {l:List aI} {c:Int}:c∈r6 l↔∃r∈l,c=r.X0\/c=r.X1:=by unfold r6;simp [List.mem_flatMap]
theorem kY {l:List aI} {c:Int}:c∈je l↔∃r∈l,c=r.Y0\/c=r.Y1:=by unfold je;simp [List.mem_flatMap]
theorem lz (l:List aI): (r6 l).length=2*l.length:=by
 induction l with
 | nil=>rfl
 | cons r l ih=>unfold r6 at *;simp [List.flatMap_cons,ih];omega
theorem jo (l:List aI): (je l).length=2*l.length:=by
 induction l with
 | nil=>rfl
 | cons r l ih=>unfold je at *;simp [List.flatMap_cons,ih];omega
def v9 (X Y:List Int) (s:List Bd):Prop:=∀b∈s,b.y0∈Y/\b.y1∈Y/\∀c∈b.xs,c∈X
theorem v9.push {X Y:List Int} {s:List Bd} {b:Bd} (h:v9 X Y s) (h0:b.y0∈Y) (h1:b.y1∈Y) (h2: ∀c∈b.xs,c∈X):v9 X Y (jw s b):=by
 intro c hc
 unfold jw at hc
 split at hc
 ·exact h c hc
 ·split at hc
  ·rename_i d hd
   have hdm:d∈s:=List.mem_of_getLast? hd
   split at hc
   ·rcases dA.1 hc with hc | hc
    ·exact h c (List.dropLast_subset _ hc)
    ·simp at hc;subst hc;exact⟨(h d hdm).1,h1,(h d hdm).2.2⟩
   ·rcases dA.1 hc with hc | hc
    ·exact h c hc
    ·simp at hc;subst hc;exact⟨h0,h1,h2⟩
  ·simp at hc;subst hc;exact⟨h0,h1,h2⟩
theorem jm.nodup {l:List Int} (h:jm l):l.Nodup:=List.Pairwise.imp (fun h=>by omega) h
theorem v9.row {X Y:List Int} {s:List Bd} (h:v9 X Y s) (hc:eQ s) {b:Bd} (hb:b∈s):b.xs.length<=X.length:=fD (hc.each b hb).2.2.1.nodup (h b hb).2.2
theorem v9.len {X Y:List Int} {s:List Bd} (h:v9 X Y s) (hc:eQ s):s.length<=Y.length:=by
 have hn: (s.map Bd.y0).Nodup:=by
  unfold List.Nodup
  rw [List.pairwise_map]
  refine List.Pairwise.imp_of_mem (fun{a b} ha hb hab=>?_) hc.ord
  have:=(hc.each a ha).1
  have:=hab.1
  omega
 have:=fD hn (m:=Y) (fun x hx=>by
  obtain⟨b,hb,rfl⟩:=dH.1 hx
  exact(h b hb).1)
 rwa [cV] at this
theorem v9.mono {X Y X' Y':List Int} {s:List Bd} (h:v9 X Y s) (hx: ∀c∈X,c∈X') (hy: ∀c∈Y,c∈Y'):v9 X' Y' s:=fun b hb=>⟨hy _ (h b hb).1,hy _ (h b hb).2.1,fun c hc=>hx c ((h b hb).2.2 c hc)⟩
theorem FG (s:List Bd) (b:Bd): (jw s b).length<=s.length+1:=by
 unfold jw
 split
 ·omega
 ·split
  ·rename_i d hd
   have hsp:=qs hd
   have:s.length=s.dropLast.length+1:=by
    conv=>lhs;rw [hsp]
    simp
   split <;> simp <;> omega
  ·simp
theorem jm.lt {l:List Int} (h:jm l) {i j:Nat} {x y:Int} (hij:i<j) (hx:l[i]? =some x) (hy:l[j]? =some y):x<y:=by
 have:=mC.1 h i j (bA.1 hx).1 (bA.1 hy).1 hij
 rw [(bA.1 hx).2,(bA.1 hy).2] at this;exact this
theorem jm.next {l:List Int} (h:jm l) {k:Nat} {x y c:Int} (hx:l[k]? =some x) (hy:l[k+1]? =some y) (hc:c∈l) (hxc:x<c):y<=c:=by
 obtain⟨j,hj⟩:=dS hc
 rcases Nat.lt_trichotomy j (k+1) with h1 | h1 | h1
 ·exfalso
  by_cases e:j=k
  ·subst e;rw [hx] at hj;injection hj with hj;omega
  ·have:=h.lt (show j<k by omega) hj hx;omega
 ·subst h1;rw [hy] at hj;injection hj with hj;omega
 ·have:=h.lt h1 hy hj;omega
theorem vV {l:List aI} {φ:aI->Option Bool} (p:aI->Bool) (hφ: ∀x∈l,φ x=some (p x)) (hl:l.length<=4611686018427387000) (hN:l.length<N):iE N l φ=some (l.filter (fun x=> !p x)):=
 GX (z:=(⟨0,0,0,0⟩:aI)) p hφ hl hN
theorem AH {l:List aI} (hl:l.length<=268435456):jt N l=some l:=by
 unfold jt;rw [kq (by simp;omega),aB,List.nil_append]
structure KZ (l m:List aI) (ys:List Int) (k:Nat) (out:List aA) (now:List aI) (nx:Nat):Prop where
 can:eQ (out.map bY)
 top: ∀c∈out,∀y,ys[k]? =some y->c.Y1<=y
 cover: ∀x y,tO (out.map bY) x y= (rX l x y&&decide (∀a,ys[k]? =some a->y<a))
 lim:v9 (r6 l) (je l) (out.map bY)
 MU: ∀r∈now,r∈m.take nx
 MV: ∀r∈m.take nx,∀y,ys[k]? =some y->y<r.Y1->r∈now
 len:now.length<=nx
 My:nx<=m.length
 rest: ∀(j:Nat) r y,nx<=j->m[j]? =some r->ys[k]? =some y->y<=r.Y0
 low: ∀r∈now,∀y,ys[k]? =some y->r.Y0<=y
theorem HZ {l m:List aI} (h: ∀r,r∈l↔r∈m) (x y:Int):rX l x y=rX m x y:=by
 rw [fc,iK,iK]
 constructor
 ·rintro⟨r,hr,h1⟩;exact⟨r,(h r).1 hr,h1⟩
 ·rintro⟨r,hr,h1⟩;exact⟨r,(h r).2 hr,h1⟩
structure r8 (l:List aI) (s:List aA):Prop where
 can:eQ (s.map bY)
 cover: ∀x y,tO (s.map bY) x y=rX l x y
 lim:v9 (r6 l) (je l) (s.map bY)
theorem oF {l:List aI} (hl:l.length<=134217728) (hok: ∀r∈l,Ar r) (hN:4294967296<=N):Ok (ij N l) (r8 l):=by
 unfold ij
 refine Ok.eq (AH (by omega)) ?_
 obtain⟨m,h1,h2,h3⟩:=zu (φ:=jQ N) (l:=l) (fun a b=>a.Y0 - b.Y0) (fun a ha b hb=>by
  unfold jQ;rw [wrap_small (hok a ha).s3 (hok b hb).s3]) (fun a _=>by omega) (fun a _ b _ c _ h1 h2=>by omega) (fun a _ b _ c _ h1 h2=>by omega) (by omega)
 refine Ok.eq h1 ?_
 have hml:m.length=l.length:=h2.length_eq
 have hmem: ∀r,r∈m↔r∈l:=fun r=>h2.mem_iff
 refine Ok.bind (Ok.nE (fun k s=>s=je (m.take k)) (by omega) rfl (fun k s hk e=>?_)) ?_
 ·subst e
  refine Ok.idx hk (Ok.app ?_ (Ok.ret ?_))
  ·rw [jo];simp;omega
  ·rw [eF hk]
   unfold je;rw [List.flatMap_append];rfl
 rintro s rfl
 rw [eO]
 have hgs:tV (je m)=some ((je m).mergeSort (fun x y=>decide (x<=y))):=by unfold tV;rw [aC (by rw [jo];omega)]
 refine Ok.eq hgs ?_
 have hsp: ((je m).mergeSort (fun x y=>decide (x<=y))).Pairwise (fun x y=>x<=y):=by
  have:=List.pairwise_mergeSort (le:=fun(x y:Int)=>decide (x<=y)) (fun a b c h1 h2=>by simp at *;omega) (fun a b=>by simp;omega) (je m)
  exact List.Pairwise.imp (fun h=>by simpa using h) this
 have hsm: ∀c,c∈(je m).mergeSort (fun x y=>decide (x<=y))↔c∈je m:=fun c=>List.mem_mergeSort
 have hsl: ((je m).mergeSort (fun x y=>decide (x<=y))).length=2*m.length:=by rw [List.length_mergeSort,jo]
 generalize (je m).mergeSort (fun x y=>decide (x<=y))=sy at hsp hsm hsl
 refine Ok.bind (BX (N:=N) hsp (by omega) (by omega)) ?_
 rintro ys ⟨hy,hym⟩
 have hyl:ys.length<=2*m.length:=by
  have:=fD hy.nodup (m:=sy) (fun c hc=>(hym c).1 hc)
  omega
 have y0m: ∀r∈m,r.Y0∈ys:=fun r hr=>(hym _).2 ((hsm _).2 (kY.2 ⟨r,hr, .inl rfl⟩))
 have y1m: ∀r∈m,r.Y1∈ys:=fun r hr=>(hym _).2 ((hsm _).2 (kY.2 ⟨r,hr, .inr rfl⟩))
 have yml: ∀c∈ys,c∈je l:=fun c hc=>by
  obtain⟨r,hr,h⟩:=kY.1 ((hsm _).1 ((hym _).1 hc))
  exact kY.2 ⟨r,(hmem r).1 hr,h⟩
 refine Ok.bind (Ok.jz (Go:=fun s=>r8 l s.1) (Rt:=fun _=>True) (fun s=>∃k nx:Nat,s.2.2.2= ((k:Nat):Int)/\s.2.2.1= ((nx:Nat):Int)/\(k<ys.length\/k=0)/\KZ l m ys k s.1 s.2.1 nx) (fun s=>ys.length - s.2.2.2.toNat) ?_ ?_ (by simp;omega)) ?_
 ·rintro⟨out,now,a,b⟩ ⟨k,nx,e1,e2,hk,I⟩
  dsimp only at e1 e2 I ⊢
  subst e1;subst e2
  rw [bP (by omega)]
  refine Ok.bif (fun h=>?_) (fun h=>Ok.br ?_)
  ·have hk1:k+1<ys.length:=by have:=of_decide_eq_true h;omega
   have hyk:ys[k]? =some ys[k]:=aN _
   have hyk1:ys[k+1]? =some ys[k+1]:=aN hk1
   have hlt:=hy.lt (Nat.lt_succ_self k) hyk hyk1
   have hcov:=I.cover
   simp only [hyk,Option.some.injEq,forall_eq'] at hcov
   refine Ok.eq (vV (fun r=>decide (r.Y1<=ys[k])) (fun r _=>by unfold nY;rw [kI ys k (by omega),aB]) (by have:=I.len;have:=I.My;omega) (by have:=I.len;have:=I.My;omega)) ?_
   have hfl:=ni (fun r:aI=> !decide (r.Y1<=ys[k])) now
   have hIl:=I.len
   have hIn:=I.My
   refine Ok.bind (Ok.jz (Go:=fun s=>∃nx':Nat,s.2= ((nx':Nat):Int)/\nx'<=m.length/\s.1.length<=nx'/\(∀r∈s.1,r∈m.take nx')/\(∀r∈m.take nx',ys[k]<r.Y1->r∈s.1)/\(∀r∈s.1,r.Y0<=ys[k]/\ys[k]<r.Y1)/\(∀(j:Nat) r,nx'<=j->m[j]? =some r->ys[k]<r.Y0)) (Rt:=fun _=>True)
    (fun s=>∃nx':Nat,s.2= ((nx':Nat):Int)/\nx<=nx'/\nx'<=m.length/\s.1.length<=nx'/\(∀r∈s.1,r∈m.take nx')/\(∀r∈m.take nx',ys[k]<r.Y1->r∈s.1)/\(∀r∈s.1,r.Y0<=ys[k]/\ys[k]<r.Y1)) (fun s=>m.length - s.2.toNat) ?_ ?_ (by simp;omega)) ?_
   ·rintro⟨nw,b⟩ ⟨nx',e1,g0,g1,g2,g3,g4,g5⟩
    dsimp only at e1 g2 g3 g4 g5 ⊢
    subst e1
    refine Ok.bind (P:=fun b=>b=true↔∃h:nx'<m.length,m[nx'].Y0<=ys[k]) ?_ ?_
    ·refine Ok.bif (fun h=>?_) (fun h=>Ok.ret ?_)
     ·have hlt:nx'<m.length:=by have:=of_decide_eq_true h;omega
      refine Ok.idx hlt (Ok.idx (by omega) (Ok.ret ?_))
      rw [bQ];exact⟨fun h=>⟨hlt,h⟩,fun⟨_,h⟩=>h⟩
     ·have:=of_decide_eq_false h
      constructor
      ·intro h;cases h
      ·rintro⟨h,_⟩;omega
    ·intro bb hbb
     refine Ok.bif (fun h=>?_) (fun h=>Ok.br ?_)
     ·obtain⟨hlt,h0⟩:=hbb.1 h
      have hts:m.take (nx'+1)=m.take nx'++[m[nx']]:=eF hlt
      refine Ok.idx hlt (Ok.app (by simp;omega) (Ok.nx ⟨⟨nx'+1,by rw [bP (by omega)],by omega,by omega,by simp;omega,fun r hr=>?_,fun r hr hr2=>?_,fun r hr=>?_⟩,by rw [bP (by omega)];simp only [cH];omega⟩))
      ·rw [hts]
       rcases dA.1 hr with h | h
       ·exact List.mem_append_left _ (g3 r h)
       ·exact List.mem_append_right _ h
      ·rw [hts] at hr
       rcases dA.1 hr with h | h
       ·exact List.mem_append_left _ (g4 r h hr2)
       ·exact List.mem_append_right _ h
      ·rcases dA.1 hr with h | h
       ·exact g5 r h
       ·simp at h;subst h
        refine⟨h0,?_⟩
        have:=(hok m[nx'] ((hmem _).1 (cM hlt))).y
        have:=I.rest nx' _ ys[k] g0 (aN hlt) hyk
        omega
     ·refine⟨nx',rfl,g1,g2,g3,g4,g5,fun j r hj hr=>?_⟩
      have hjl:=(bA.1 hr).1
      have hlt:nx'<m.length:=by omega
      have h0: ¬m[nx'].Y0<=ys[k]:=fun h0=>by rw [hbb.2 ⟨hlt,h0⟩] at h;cases h
      by_cases e:nx'=j
      ·subst e;rw [aN hlt] at hr;injection hr with hr;subst hr;omega
      ·have:=mC.1 h3 nx' j hlt hjl (by omega)
       have hr':=(bA.1 hr).2
       rw [hr'] at this;omega
   ·refine⟨nx,rfl,bT _,hIn,by dsimp only;omega,fun r hr=>I.MU r (jr.1 hr).1,fun r hr h=>jr.2 ⟨I.MV r hr ys[k] hyk h,by simpa using h⟩,fun r hr=>?_⟩
    have hr:=jr.1 hr
    have hr2:ys[k]<r.Y1:=by simpa using hr.2
    exact⟨I.low r hr.1 ys[k] hyk,hr2⟩
   ·rintro o ho
    refine Ok.cs ho ?_ (fun r=>r.elim)
    rintro⟨nw,b⟩ ⟨nx',e1,g1,g2,g3,g4,g5,g6⟩
    dsimp only at e1 g2 g3 g4 g5 ⊢
    subst e1
    refine Ok.idx (by omega) (Ok.idx hk1 ?_)
    have hnm: ∀r∈nw,r∈l:=fun r hr=>(hmem r).1 (List.take_subset _ _ (g3 r hr))
    obtain⟨row,nw',s1,s2,s3,s4,s5,s6,s7⟩:=BU (N:=N) (l:=nw) (by omega) (fun r hr=>hok r (hnm r hr))
    refine Ok.eq s1 ?_
    have hlimx: ∀c∈row,c∈r6 l:=fun c hc=>by
     obtain⟨r,hr,h⟩:=s7 c hc
     exact r7.2 ⟨r,hnm r hr,h⟩
    have hol:out.length<=2*l.length:=by have:=I.lim.len I.can;rw [jo,cV] at this;exact this
    have hox: ∀c∈out,c.Xs.length<=2*l.length:=fun c hc=>by
     have:=I.lim.row I.can (b:=bY c) (dH.2 ⟨c,hc,rfl⟩)
     rw [lz] at this;exact this
    obtain⟨out',p1,p2⟩:=EX (N:=N) (s:=out) (b:=⟨ys[k],ys[k+1],row⟩) (by omega) (fun c hc=>by have:=hox c hc;omega)
    refine Ok.eq p1 ?_
    have htop: ∀c∈out.map bY,c.y1<=(bY ⟨ys[k],ys[k+1],row⟩).y0:=fun c hc=>by
     obtain⟨d,hd,rfl⟩:=dH.1 hc
     exact I.top d hd ys[k] hyk
    have hcan:=uN I.can htop s3 s4
    refine Ok.nx ⟨⟨k+1,nx',rfl,rfl, .inl hk1,⟨by dsimp only;rw [p2];exact hcan,fun c hc y hy1=>?_,fun x y=>?_,?_,fun r hr=>g3 r (s2.subset hr),fun r hr y hy1 h=>?_,by rw [s2.length_eq];exact g2,g1,fun j r y hj hr hy1=>?_,fun r hr y hy1=>?_⟩⟩,by simp only [cH];omega⟩
    ·rw [hyk1] at hy1;injection hy1 with hy1;subst hy1
     have hm':bY c∈jw (out.map bY) (bY ⟨ys[k],ys[k+1],row⟩):=by rw [<-p2];exact dH.2 ⟨c,hc,rfl⟩
     exact uO htop (by show ys[k]<=ys[k+1];omega) _ hm'
    ·simp only [hyk1,Option.some.injEq,forall_eq']
     unfold tO
     rw [p2,uM htop (fun c hc=>(I.can.each c hc).1) (fun h=>absurd h (by show ¬ys[k+1]<=ys[k];omega))]
     by_cases hyy:ys[k]<=y/\y<ys[k+1]
     ·rw [aC (show (bY ⟨ys[k],ys[k+1],row⟩).y0<=y/\y< (bY ⟨ys[k],ys[k+1],row⟩).y1 from hyy),bR hyy.2,Bool.and_true]
      show ox row x=_
      rw [s5,fc,zA,iK]
      constructor
      ·rintro⟨r,hr,h⟩
       have hrm:=List.take_subset _ _ (g3 r hr)
       have h5:=g5 r hr
       have:=hy.next hyk hyk1 (y1m r hrm) h5.2
       exact⟨r,hnm r hr,h,by omega,by omega⟩
      ·rintro⟨r,hr,h,h7,h8⟩
       have hrm:=(hmem r).2 hr
       have h9:r.Y0<=ys[k]:=by
        by_cases h10:r.Y0<=ys[k]
        ·exact h10
        ·have:=hy.next hyk hyk1 (y0m r hrm) (by omega);omega
       have h11:r∈m.take nx':=by
        obtain⟨j,hj⟩:=dS hrm
        by_cases h12:j<nx'
        ·exact eU (i:=j) (by rw [List.getElem?_take_of_lt h12];exact hj)
        ·have:=g6 j r (by omega) hj;omega
       exact⟨r,g4 r h11 (by omega),h⟩
     ·rw [aG (show ¬((bY ⟨ys[k],ys[k+1],row⟩).y0<=y/\y< (bY ⟨ys[k],ys[k+1],row⟩).y1) from hyy)]
      show tO (out.map bY) x y=_
      rw [hcov]
      by_cases h1:y<ys[k]
      ·rw [bR h1,bR (show y<ys[k+1] by omega)]
      ·rw [cC h1,cC (show ¬y<ys[k+1] by omega)]
    ·show v9 (r6 l) (je l) (out'.map bY)
     rw [p2]
     exact I.lim.push (yml _ (cM _)) (yml _ (cM _)) hlimx
    ·rw [hyk1] at hy1;injection hy1 with hy1;subst hy1
     exact s2.symm.subset (g4 r hr (by omega))
    ·rw [hyk1] at hy1;injection hy1 with hy1;subst hy1
     exact hy.next hyk hyk1 (y0m r (eU hr)) (g6 j r hj hr)
    ·rw [hyk1] at hy1;injection hy1 with hy1;subst hy1
     have:=(g5 r (s2.subset hr)).1;omega
  ·have hge: ¬k+1<ys.length:=by have:=of_decide_eq_false h;omega
   refine⟨I.can,fun x y=>?_,I.lim⟩
   rw [I.cover]
   by_cases hyn:ys= []
   ·have:rX l x y=false:=by
     rw [<-jI,iK]
     rintro⟨r,hr,_⟩
     have:=y0m r ((hmem r).2 hr)
     rw [hyn] at this;cases this
    rw [this];rfl
   ·have hkl:k<ys.length:=by
     rcases hk with h | h
     ·exact h
     ·subst h;exact List.length_pos_iff.2 hyn
    rw [aN hkl]
    simp only [Option.some.injEq,forall_eq']
    cases hc:rX l x y with
    | false=>rfl
    | true=>
     obtain⟨r,hr,_,h7,h8⟩:=iK.1 hc
     have:=y1m r ((hmem r).2 hr)
     obtain⟨j,hj⟩:=dS this
     have hjl:=(bA.1 hj).1
     have:r.Y1<=ys[k]:=by
      by_cases e:j=k
      ·subst e;rw [aN hkl] at hj;injection hj with hj;omega
      ·have:=hy.lt (show j<k by omega) hj (aN hkl);omega
     rw [bR (show y<ys[k] by omega)];rfl
 ·refine⟨0,0,rfl,rfl, .inr rfl,?_⟩
  show KZ l m ys 0 [] [] 0
  refine⟨eQ.nil,fun c hc=>(by cases hc),fun x y=>?_,fun b hb=>(by cases hb),fun r hr=>(by cases hr),fun r hr=>(by rw [List.take_zero] at hr;cases hr),bT _,dM _,fun j r y _ hr hy0=>?_,fun r hr=>(by cases hr)⟩
  ·show false=_
   symm
   rw [Bool.and_eq_false_iff]
   cases hc:rX l x y with
   | false=>exact .inl rfl
   | true=>
    right
    obtain⟨r,hr,_,h7,h8⟩:=iK.1 hc
    have hr0:=y0m r ((hmem r).2 hr)
    have hpos:0<ys.length:=List.length_pos_of_mem hr0
    rw [decide_eq_false_iff_not]
    intro h
    have h:=h ys[0] (aN hpos)
    obtain⟨j,hj⟩:=dS hr0
    by_cases e:j=0
    ·subst e;rw [aN hpos] at hj;injection hj with hj;omega
    ·have:=hy.lt (show 0<j by omega) (aN hpos) hj;omega
  ·obtain⟨j',hj'⟩:=dS (y0m r (eU hr))
   by_cases e:j'=0
   ·subst e;rw [hy0] at hj';injection hj' with hj';omega
   ·have:=hy.lt (show 0<j' by omega) hy0 hj';omega
 ·rintro o ho
  refine Ok.cs ho (fun s h=>Ok.ret h) (fun r=>r.elim)
end
end Go.Gk
namespace Go.Gk
open Go
section
variable {N:Nat}
def zD:List Int->List (Int×Int)
 | a::b::l=>(a,b)::zD l
 | _=>[]
theorem yY: ∀(xs:List Int),(zD xs).length=xs.length / 2
 | []=>rfl
 | [a]=>by simp [zD]
 | a::b::l=>by unfold zD;rw [dP,yY l];simp only [dP];omega
theorem w6: ∀(xs:List Int) (j:Nat) (h:2*j+1<xs.length),(zD xs)[j]? =some (xs[2*j],xs[2*j+1])
 | [],j,h=>by simp at h
 | [a],j,h=>by simp at h
 | a::b::l,0,h=>rfl
 | a::b::l,j+1,h=>by
  have:=w6 l j (by simp at h;omega)
  unfold zD
  rw [List.getElem?_cons_succ,this]
  have e1: (a::b::l)[2* (j+1)]=l[2*j]'(by simp at h;omega):=by simp [show 2* (j+1)=2*j+1+1 by omega]
  have e2: (a::b::l)[2* (j+1)+1]=l[2*j+1]'(by simp at h;omega):=by simp [show 2* (j+1)+1=2*j+1+1+1 by omega]
  rw [e1,e2]
theorem w7: ∀{xs:List Int},xs.length % 2=0->dD (zD xs)=xs
 | [],_=>rfl
 | [a],h=>by simp at h
 | a::b::l,h=>by unfold zD;rw [i9,w7 (by simp at h;omega)]
theorem H0 {xs:List Int} (h:jm xs) (he:xs.length % 2=0) (x:Int):ox xs x=i7 (zD xs) x:=by
 have:=rZ (l:=zD xs) (by rw [w7 he];exact h) x
 rwa [w7 he] at this
theorem BZ {xs:List Int}: ∀p∈zD xs,p.1∈xs/\p.2∈xs:=by
 intro p hp
 obtain⟨j,hj⟩:=dS hp
 have hjl:=(bA.1 hj).1
 rw [yY] at hjl
 rw [w6 xs j (by omega)] at hj
 injection hj with hj;subst hj
 exact⟨cM _,cM _⟩
theorem Ef {xs:List Int} (h:jm xs): ∀p∈zD xs,p.1<p.2:=by
 intro p hp
 obtain⟨j,hj⟩:=dS hp
 have hjl:=(bA.1 hj).1
 rw [yY] at hjl
 rw [w6 xs j (by omega)] at hj
 injection hj with hj;subst hj
 exact h.lt (show 2*j<2*j+1 by omega) (aN _) (aN _)
def mq (b:aA):List aI:=(zD b.Xs).map fun p=>⟨p.1,b.Y0,p.2,b.Y1⟩
def aS (s:List aA):List aI:=s.flatMap mq
theorem mu (b:aA) (s:List aA):aS (b::s)=mq b++aS s:=rfl
theorem mL (b:aA): (mq b).length=b.Xs.length / 2:=by unfold mq;rw [cV,yY]
theorem nc (s t:List aA):aS (s++t)=aS s++aS t:=List.flatMap_append
theorem xS (s:List aA) (k:Nat): (aS (s.take k)).length<=(aS s).length:=by
 conv=>rhs;rw [<-List.take_append_drop k s,nc,cZ]
 omega
theorem zF {s:List aA} {A B:Nat} (h1:s.length<=A) (h2: ∀b∈s,b.Xs.length<=B): (aS s).length<=A*B:=by
 induction s generalizing A with
 | nil=>simp [aS]
 | cons b s ih=>
  rw [mu,cZ,mL]
  simp at h1
  obtain⟨A',rfl⟩: ∃A',A=A'+1:=⟨A - 1,by omega⟩
  have:=ih (A:=A') (by omega) (fun c hc=>h2 c (gU _ hc))
  have:=h2 b (by simp)
  rw [Nat.add_mul];omega
theorem zG {s:List aA} (he: ∀b∈s,b.Xs.length % 2=0) (h1:s.length<=1099511627776) (h2: ∀b∈s,b.Xs.length<=1099511627776/\b.Xs.length<N) (h3: (aS s).length<=1099511627776):jC N s=some (aS s):=by
 refine Ok.get ?_
 unfold jC
 refine Ok.bind (Ok.nE (fun k t=>t=aS (s.take k)) (by omega) rfl (fun k t hk e=>?_)) (fun t e=>Ok.ret (by rw [e,eO]))
 subst e
 refine Ok.idx hk ?_
 have hm:=cM hk
 generalize hb:s[k]=b at hm ⊢
 have heb:=he b hm
 have hbl:=h2 b hm
 have hts:aS (s.take (k+1))=aS (s.take k)++mq b:=by
  rw [eF hk,nc,hb];simp [aS]
 have hle:=xS s (k+1)
 rw [hts,cZ,mL] at hle
 refine Ok.bind (Ok.jz (Go:=fun s'=>s'.1=aS (s.take (k+1))) (Rt:=fun _=>True) (fun s'=>∃j:Nat,s'.2= ((2*j:Nat):Int)/\2*j<=b.Xs.length/\s'.1=aS (s.take k)++(mq b).take j) (fun s'=>b.Xs.length - s'.2.toNat) ?_ ⟨0,rfl,by omega,by simp⟩ (by simp;omega)) ?_
 ·rintro⟨acc,i⟩ ⟨j,e1,hj,e2⟩
  dsimp only at e1 e2 ⊢
  subst e1;subst e2
  refine Ok.bif (fun h=>?_) (fun h=>Ok.br ?_)
  ·have hlt:2*j+1<b.Xs.length:=by have:=of_decide_eq_true h;omega
   refine Ok.idx (by omega) ?_
   rw [bP (by omega)]
   refine Ok.idx hlt (Ok.app ?_ (Ok.nx ⟨⟨j+1,?_,by omega,?_⟩,?_⟩))
   ·simp;rw [mL];omega
   ·rw [Bc (by omega)];congr 1
   ·rw [kh]
    congr 1
    have hg: (mq b)[j]? =some ⟨b.Xs[2*j],b.Y0,b.Xs[2*j+1],b.Y1⟩:=by
     unfold mq;rw [gr,w6 _ _ hlt];rfl
    have hjl:=(bA.1 hg).1
    rw [eF hjl,(bA.1 hg).2]
   ·rw [Bc (by omega)];simp only [cH];omega
  ·have hge:2*j=b.Xs.length:=by have:=of_decide_eq_false h;omega
   show aS (s.take k)++(mq b).take j=_
   rw [hts,lj (l:=mq b) (by rw [mL];omega)]
 ·rintro o ho
  exact Ok.cs ho (fun s' h=>Ok.ret h) (fun r=>r.elim)
theorem H2 {s:List aA} (h1:s.length<=1099511627776) (h2: ∀b∈s,b.Xs.length<=1099511627776) (h3: (aS s).length<=1099511627776):mb N s=some (((aS s).length:Nat):Int):=by
 refine Ok.get ?_
 unfold mb
 refine Ok.bind (Ok.nE (fun k t=>t= (((aS (s.take k)).length:Nat):Int)) (by omega) rfl (fun k t hk e=>?_)) (fun t e=>Ok.ret (by rw [e,eO]))
 subst e
 refine Ok.idx hk (Ok.ret ?_)
 have hm:=cM hk
 have hbl:=h2 _ hm
 have hts:aS (s.take (k+1))=aS (s.take k)++mq s[k]:=by
  rw [eF hk,nc];simp [aS]
 have hle:=xS s (k+1)
 rw [hts,cZ,mL] at hle
 have e:Int.tdiv ((s[k].Xs.length:Nat):Int) 2= ((s[k].Xs.length / 2:Nat):Int):=by
  rw [show (2:Int)= ((2:Nat):Int) by rfl,<-Int.ofNat_tdiv]
 rw [e,Da (by omega),wrap_add (by omega),hts,cZ,mL]
theorem Eg (l m:List aI) (x y:Int):rX (l++m) x y= (rX l x y||rX m x y):=List.any_append
theorem GZ {b:aA} (h:jm b.Xs) (he:b.Xs.length % 2=0) (x y:Int):rX (mq b) x y= (ox b.Xs x&&(decide (b.Y0<=y)&&decide (y<b.Y1))):=by
 rw [H0 h he,fc,iK,bW,rY,bW,bQ,bQ]
 unfold mq
 constructor
 ·rintro⟨r,hr,h1,h2⟩
  obtain⟨p,hp,rfl⟩:=dH.1 hr
  exact⟨⟨p,hp,h1⟩,h2⟩
 ·rintro⟨⟨p,hp,h1⟩,h2⟩
  exact⟨_,dH.2 ⟨p,hp,rfl⟩,h1,h2⟩
theorem oG: ∀{s:List aA},eQ (s.map bY)->∀x y,rX (aS s) x y=tO (s.map bY) x y
 | [],_,x,y=>rfl
 | b::s,h,x,y=>by
  rw [mu,Eg,oG h.tail x y]
  have hb:=h.each (bY b) (by simp)
  rw [GZ hb.2.2.1 hb.2.2.2]
  unfold tO
  rw [dX,mn]
  by_cases hy:b.Y0<=y/\y<b.Y1
  ·rw [aC (show (bY b).y0<=y/\y< (bY b).y1 from hy),lq (fun c hc=> .inl (by have:=h.zy c hc;have e: (bY b).y1=b.Y1:=rfl;omega)),bR hy.1,bR hy.2]
   show (ox b.Xs x&&true||false)=ox b.Xs x
   simp
  ·rw [aG (show ¬((bY b).y0<=y/\y< (bY b).y1) from hy)]
   have: (decide (b.Y0<=y)&&decide (y<b.Y1))=false:=by rw [Bool.and_eq_false_iff,decide_eq_false_iff_not,decide_eq_false_iff_not];omega
   rw [this];simp
theorem p6 {s:List aA} {r:aI} (h:r∈aS s): ∃b∈s,∃p∈zD b.Xs,r= ⟨p.1,b.Y0,p.2,b.Y1⟩:=by
 unfold aS mq at h
 obtain⟨b,hb,h⟩:=List.mem_flatMap.1 h
 obtain⟨p,hp,rfl⟩:=dH.1 h
 exact⟨b,hb,p,hp,rfl⟩
theorem zH {s:List aA} {X Y:List Int} (h:eQ (s.map bY)) (hl:v9 X Y (s.map bY)) (hx: ∀c∈X,small c) (hy: ∀c∈Y,small c): ∀r∈aS s,Ar r/\(r.X0∈X/\r.X1∈X)/\r.Y0∈Y/\r.Y1∈Y:=by
 intro r hr
 obtain⟨b,hb,p,hp,rfl⟩:=p6 hr
 have hm:bY b∈s.map bY:=dH.2 ⟨b,hb,rfl⟩
 have hc:=h.each _ hm
 have hll:=hl _ hm
 have h1:=BZ p hp
 have h2:=hll.2.2 p.1 h1.1
 have h3:=hll.2.2 p.2 h1.2
 exact⟨⟨Ef hc.2.2.1 p hp,hc.1,hx _ h2,hx _ h3,hy _ hll.1,hy _ hll.2.1⟩,⟨h2,h3⟩,hll.1,hll.2.1⟩
theorem vW {l:List Int} {x:Int} (h: ∀c∈l,c<=x):ox l x= (l.length % 2==1):=by unfold ox;rw [EV h]
theorem xT {l:List Int} {a x:Int} (h:x<a):ox (l++[a]) x=ox l x:=by unfold ox;rw [zv,oZ,aG (by omega),EU];rfl
def FH (l:List Int):Bool:=l.length % 2==1
theorem zI (l:List Int) (a:Int):FH (l++[a]) = !FH l:=by
 unfold FH
 rw [cZ,fc,Bool.not_eq_true',beq_iff_eq,beq_eq_false_iff_ne]
 simp;omega
structure Db (gD:Bool->Bool->Bool) (a b a' b' out:List Int) (inA inB is:Bool) (pa pb:List Int):Prop where
 ea:a=pa++a'
 eb:b=pb++b'
 oa:inA=FH pa
 ob:inB=FH pb
 oo:is=FH out
 ok:is=gD inA inB
 low: ∀c,(c∈pa\/c∈pb\/c∈out)->∀d,(d∈a'\/d∈b')->c<d
 inc:jm out
 K0: ∀x,(∀d,(d∈a'\/d∈b')->x<d)->ox out x=gD (ox pa x) (ox pb x)
 mem: ∀c∈out,c∈pa\/c∈pb
 len:out.length<=pa.length+pb.length
theorem Db.step {gD:Bool->Bool->Bool} {a b a' b' out:List Int} {inA inB is:Bool} {pa pb:List Int} (I:Db gD a b a' b' out inA inB is pa pb) (ha:jm a) (hb:jm b) (x:Int) (ta tb:List Int) (wa wb:Bool)
  (h1:a'= (if wa then x::ta else ta)) (h2:b'= (if wb then x::tb else tb)) (hw:wa=true\/wb=true) (hx: ∀d,(d∈ta\/d∈tb)->x<d):
  Db gD a b ta tb (if gD (inA ^^ wa) (inB ^^ wb)=is then out else out++[x]) (inA ^^ wa) (inB ^^ wb) (gD (inA ^^ wa) (inB ^^ wb)) (if wa then pa++[x] else pa) (if wb then pb++[x] else pb):=by
 have hxm:x∈a'\/x∈b':=by
  rcases hw with h | h
  ·left;rw [h1,aC h];simp
  ·right;rw [h2,aC h];simp
 have hsub: ∀d,(d∈ta\/d∈tb)->d∈a'\/d∈b':=fun d hd=>by
  rcases hd with h | h
  ·left;rw [h1];split
   ·exact gU _ h
   ·exact h
  ·right;rw [h2];split
   ·exact gU _ h
   ·exact h
 have hlow: ∀c,(c∈pa\/c∈pb\/c∈out)->c<x:=fun c hc=>I.low c hc x hxm
 have hpa: ∀c∈(if wa then pa++[x] else pa),c∈pa\/(wa=true/\c=x):=fun c hc=>by
  split at hc
  ·rename_i h
   rcases dA.1 hc with h' | h'
   ·exact .inl h'
   ·simp at h';exact .inr ⟨h,h'⟩
  ·exact .inl hc
 have hpb: ∀c∈(if wb then pb++[x] else pb),c∈pb\/(wb=true/\c=x):=fun c hc=>by
  split at hc
  ·rename_i h
   rcases dA.1 hc with h' | h'
   ·exact .inl h'
   ·simp at h';exact .inr ⟨h,h'⟩
  ·exact .inl hc
 have hout: ∀c∈(if gD (inA ^^ wa) (inB ^^ wb)=is then out else out++[x]),c∈out\/c=x:=fun c hc=>by
  split at hc
  ·exact .inl hc
  ·rcases dA.1 hc with h' | h'
   ·exact .inl h'
   ·simp at h';exact .inr h'
 have ooA: (inA ^^ wa)=FH (if wa then pa++[x] else pa):=by
  rw [I.oa];cases wa <;> simp [zI]
 have ooB: (inB ^^ wb)=FH (if wb then pb++[x] else pb):=by
  rw [I.ob];cases wb <;> simp [zI]
 have ooO:gD (inA ^^ wa) (inB ^^ wb)=FH (if gD (inA ^^ wa) (inB ^^ wb)=is then out else out++[x]):=by
  split
  ·rename_i h;rw [h];exact I.oo
  ·rename_i h
   rw [zI,<-I.oo]
   cases hk:gD (inA ^^ wa) (inB ^^ wb) <;> cases his:is <;> simp_all
 refine⟨?_,?_,ooA,ooB,ooO,rfl,?_,?_,?_,?_,?_⟩
 ·rw [I.ea,h1];split <;> simp
 ·rw [I.eb,h2];split <;> simp
 ·intro c hc d hd
  have hd':=hx d hd
  have hdd:=hsub d hd
  rcases hc with h | h | h
  ·rcases hpa c h with h' | ⟨_,rfl⟩
   ·exact I.low c (.inl h') d hdd
   ·exact hd'
  ·rcases hpb c h with h' | ⟨_,rfl⟩
   ·exact I.low c (.inr (.inl h')) d hdd
   ·exact hd'
  ·rcases hout c h with h' | rfl
   ·exact I.low c (.inr (.inr h')) d hdd
   ·exact hd'
 ·split
  ·exact I.inc
  ·exact I.inc.GY fun c hc=>hlow c (.inr (.inr hc))
 ·intro y hy
  by_cases hxy:y<x
  ·have e1:ox (if wa then pa++[x] else pa) y=ox pa y:=by split;exact xT hxy;rfl
   have e2:ox (if wb then pb++[x] else pb) y=ox pb y:=by split;exact xT hxy;rfl
   have e3:ox (if gD (inA ^^ wa) (inB ^^ wb)=is then out else out++[x]) y=ox out y:=by split;rfl;exact xT hxy
   rw [e1,e2,e3]
   refine I.K0 y fun d hd=>?_
   have:x<=d:=by
    rcases hd with h | h
    ·rw [h1] at h
     split at h
     ·rcases dC.1 h with rfl | h
      ·exact Int.le_refl _
      ·have:=hx d (.inl h);omega
     ·have:=hx d (.inl h);omega
    ·rw [h2] at h
     split at h
     ·rcases dC.1 h with rfl | h
      ·exact Int.le_refl _
      ·have:=hx d (.inr h);omega
     ·have:=hx d (.inr h);omega
   omega
  ·rw [vW (l:=if wa then pa++[x] else pa),vW (l:=if wb then pb++[x] else pb),vW]
   ·have e1:=ooA;have e2:=ooB;have e3:=ooO
    unfold FH at e1 e2 e3
    rw [<-e1,<-e2,<-e3]
   ·intro c hc
    rcases hout c hc with h | rfl
    ·have:=hlow c (.inr (.inr h));omega
    ·omega
   ·intro c hc
    rcases hpb c hc with h | ⟨_,rfl⟩
    ·have:=hlow c (.inr (.inl h));omega
    ·omega
   ·intro c hc
    rcases hpa c hc with h | ⟨_,rfl⟩
    ·have:=hlow c (.inl h);omega
    ·omega
 ·intro c hc
  have m1: ∀c,c∈pa->c∈(if wa then pa++[x] else pa):=fun c h=>by split;exact List.mem_append_left _ h;exact h
  have m2: ∀c,c∈pb->c∈(if wb then pb++[x] else pb):=fun c h=>by split;exact List.mem_append_left _ h;exact h
  rcases hout c hc with h | rfl
  ·rcases I.mem c h with h | h
   ·exact .inl (m1 c h)
   ·exact .inr (m2 c h)
  ·rcases hw with h | h
   ·left;rw [aC h];simp
   ·right;rw [aC h];simp
 ·have:=I.len
  have h3: (if wa then pa++[x] else pa).length+ (if wb then pb++[x] else pb).length>=pa.length+pb.length+1:=by
   rcases hw with h | h
   ·subst h;cases wb <;> simp <;> omega
   ·subst h;cases wa <;> simp <;> omega
  split
  ·omega
  ·simp at h3 ⊢;omega
end
end Go.Gk
namespace Go.Gk
open Go
section
variable {N:Nat}
theorem jF (x:Int) (l:List Int):idx (x::l) 0=some x:=rfl
theorem r9 {α:Type} (x:α) (l:List α):sC (x::l) 1 (((x::l).length:Nat):Int)=some l:=oR (x::l) 1 (by simp)
theorem ku {α:Type} (x:α) (l:List α):decide ((((x::l).length:Nat):Int)>0)=true:=bR (by simp)
theorem uP {α:Type} (x:α) (l:List α): ((((x::l).length:Nat):Int)==0)=false:=by rw [beq_eq_false_iff_ne];simp;omega
theorem Eh {a b:List Int} (ha:jm a) (hb:jm b) (h:a≠[]\/b≠[]): ∃x ta tb wa wb,a= (if wa then x::ta else ta)/\b= (if wb then x::tb else tb)/\(wa=true\/wb=true)/\(∀d,(d∈ta\/d∈tb)->x<d):=by
 match a,b,ha,hb,h with
 | [],[],_,_,h=>rcases h with h | h <;> exact absurd rfl h
 | x::ta,[],ha,_,_=>exact⟨x,ta,[],true,false,rfl,rfl, .inl rfl,fun d hd=>by rcases hd with h | h;exact ha.head d h;cases h⟩
 | [],y::tb,_,hb,_=>exact⟨y,[],tb,false,true,rfl,rfl, .inr rfl,fun d hd=>by rcases hd with h | h;cases h;exact hb.head d h⟩
 | x::ta,y::tb,ha,hb,_=>
  rcases Int.lt_trichotomy x y with h | h | h
  ·refine⟨x,ta,y::tb,true,false,rfl,rfl, .inl rfl,fun d hd=>?_⟩
   rcases hd with h1 | h1
   ·exact ha.head d h1
   ·rcases dC.1 h1 with rfl | h1
    ·exact h
    ·have:=hb.head d h1;omega
  ·subst h
   exact⟨x,ta,tb,true,true,rfl,rfl, .inl rfl,fun d hd=>by rcases hd with h | h;exact ha.head d h;exact hb.head d h⟩
  ·refine⟨y,x::ta,tb,false,true,rfl,rfl, .inr rfl,fun d hd=>?_⟩
   rcases hd with h1 | h1
   ·rcases dC.1 h1 with rfl | h1
    ·exact h
    ·have:=ha.head d h1;omega
   ·exact hb.head d h1
theorem FI {φ:Bool->Bool->Option Bool} {gD:Bool->Bool->Bool} (hφ: ∀p q,φ p q=some (gD p q)) (hk:gD false false=false) {a b:List Int} (ha:jm a) (hb:jm b) (hae:a.length % 2=0) (hbe:b.length % 2=0)
  (hal:a.length<=1099511627776) (hbl:b.length<=1099511627776) (hN:a.length+b.length<N):
  Ok (p7 N a b φ) (fun m=>jm m/\m.length % 2=0/\(∀x,ox m x=gD (ox a x) (ox b x))/\∀c∈m,c∈a\/c∈b):=by
 unfold p7
 refine Ok.bind (Ok.jz (Go:=fun s=>jm s.2.2.1/\s.2.2.1.length % 2=0/\(∀x,ox s.2.2.1 x=gD (ox a x) (ox b x))/\∀c∈s.2.2.1,c∈a\/c∈b) (Rt:=fun _=>True)
  (fun s=>∃pa pb,Db gD a b s.1 s.2.1 s.2.2.1 s.2.2.2.1 s.2.2.2.2.1 s.2.2.2.2.2 pa pb) (fun s=>s.1.length+s.2.1.length) ?_ ?_ hN) ?_
 ·rintro⟨a',b',out,inA,inB,is⟩ ⟨pa,pb,I⟩
  dsimp only at I ⊢
  have ha':jm a':=by have:=ha;rw [I.ea] at this;exact(mB.1 this).2.1
  have hb':jm b':=by have:=hb;rw [I.eb] at this;exact(mB.1 this).2.1
  have hle:pa.length+a'.length=a.length:=by rw [I.ea];simp
  have hlb:pb.length+b'.length=b.length:=by rw [I.eb];simp
  have hlo:=I.len
  by_cases hne:a'≠[]\/b'≠[]
  ·obtain⟨x,ta,tb,wa,wb,h1,h2,hw,hx⟩:=Eh ha' hb' hne
   have J:=I.step ha hb x ta tb wa wb h1 h2 hw hx
   have fin: ∀(sa sb:List Int×Bool),sa= (ta,inA ^^ wa)->sb= (tb,inB ^^ wb)->
     Ok ((φ sa.2 sb.2).bind fun x220=>(bif (x220 != is) then ((app 8 out ([x]: (List Int))).bind fun x227=>some (x227,x220)) else (some (out,is))).bind fun s224=>some (Fl.nx (sa.1,sb.1,s224.1,sa.2,sb.2,s224.2)))
      (Hu (fun s':List Int×List Int×List Int×Bool×Bool×Bool=>(∃pa pb,Db gD a b s'.1 s'.2.1 s'.2.2.1 s'.2.2.2.1 s'.2.2.2.2.1 s'.2.2.2.2.2 pa pb)/\s'.1.length+s'.2.1.length<a'.length+b'.length) (fun s=>jm s.2.2.1/\s.2.2.1.length % 2=0/\(∀x,ox s.2.2.1 x=gD (ox a x) (ox b x))/\∀c∈s.2.2.1,c∈a\/c∈b) (fun _:Empty=>True)):=by
    rintro _ _ rfl rfl
    refine Ok.eq (hφ _ _) ?_
    have hlt:ta.length+tb.length<a'.length+b'.length:=by
     rw [h1,h2]
     rcases hw with h | h
     ·subst h;cases wb <;> simp <;> omega
     ·subst h;cases wa <;> simp <;> omega
    by_cases he:gD (inA ^^ wa) (inB ^^ wb)=is
    ·rw [aC he] at J
     refine Ok.eq (x:=(out,is)) (by rw [he,show (is != is)=false by simp,aR]) ?_
     rw [he] at J
     exact Ok.nx ⟨⟨_,_,J⟩,hlt⟩
    ·rw [aG he] at J
     refine Ok.eq (x:=(out++[x],gD (inA ^^ wa) (inB ^^ wb))) (by rw [show (gD (inA ^^ wa) (inB ^^ wb) != is)=true by simp [he],aP,kq (by simp;omega),aB]) (Ok.nx ⟨⟨_,_,J⟩,hlt⟩)
   rcases hw with rfl | rfl
   ·rw [aC rfl] at h1
    subst h1
    refine Ok.eq (x:=true) (by rw [ku,aP]) ?_
    rw [aP]
    have hle2: (bif (((b'.length:Nat):Int)==0) then (some true) else (bif (decide ((((x::ta).length:Nat):Int)>0)) then ((idx (x::ta) 0).bind fun x181=>(idx b' 0).bind fun x183=>some (decide (x181<=x183))) else (some false)))=some true:=by
     cases b' with
     | nil=>rfl
     | cons y b''=>
      rw [uP,aR,ku,aP,jF,aB,jF,aB]
      have:x<=y:=by
       cases wb with
       | true=>simp at h2;omega
       | false=>have:=hx y (.inr (by simp at h2;rw [<-h2];simp));omega
      rw [bR this]
    refine Ok.eq hle2 ?_
    rw [aP]
    refine Ok.eq (x:=x) (by rw [jF,aB]) ?_
    refine Ok.eq (x:=true) (by rw [ku,aP,jF,aB];simp) ?_
    refine Ok.eq (x:=(ta,!inA)) (by rw [aP,r9,aB]) ?_
    cases wb with
    | true=>
     rw [aC rfl] at h2
     subst h2
     refine Ok.eq (x:=true) (by rw [ku,aP,jF,aB];simp) ?_
     refine Ok.eq (x:=(tb,!inB)) (by rw [aP,r9,aB]) ?_
     exact fin _ _ (by simp) (by simp)
    | false=>
     have h2:b'=tb:=h2
     subst h2
     refine Ok.eq (x:=false) ?_ ?_
     ·cases b' with
      | nil=>rfl
      | cons y b''=>
       have:=hx y (.inr (by simp))
       rw [ku,aP,jF,aB,show (y==x)=false by rw [beq_eq_false_iff_ne];omega]
     ·refine Ok.eq (x:=(b',inB)) (by rw [aR]) ?_
      exact fin _ _ (by simp) (by simp)
   ·cases wa with
    | true=>
     rw [aC rfl] at h1 h2
     subst h1;subst h2
     refine Ok.eq (x:=true) (by rw [ku,aP]) ?_
     rw [aP]
     refine Ok.eq (x:=true) (by rw [uP,aR,ku,aP,jF,aB,jF,aB];simp) ?_
     rw [aP]
     refine Ok.eq (x:=x) (by rw [jF,aB]) ?_
     refine Ok.eq (x:=true) (by rw [ku,aP,jF,aB];simp) ?_
     refine Ok.eq (x:=(ta,!inA)) (by rw [aP,r9,aB]) ?_
     refine Ok.eq (x:=true) (by rw [ku,aP,jF,aB];simp) ?_
     refine Ok.eq (x:=(tb,!inB)) (by rw [aP,r9,aB]) ?_
     exact fin _ _ (by simp) (by simp)
    | false=>
     have h1:a'=ta:=h1
     rw [aC rfl] at h2
     subst h1;subst h2
     refine Ok.eq (x:=true) (by rw [ku,HW];simp) ?_
     rw [aP]
     refine Ok.eq (x:=false) ?_ ?_
     ·rw [uP,aR]
      cases a' with
      | nil=>rfl
      | cons y a''=>
       have:=hx y (.inl (by simp))
       rw [ku,aP,jF,aB,jF,aB,cC (by omega)]
     ·rw [aR]
      refine Ok.eq (x:=x) (by rw [jF,aB]) ?_
      refine Ok.eq (x:=false) ?_ ?_
      ·cases a' with
       | nil=>rfl
       | cons y a''=>
        have:=hx y (.inl (by simp))
        rw [ku,aP,jF,aB,show (y==x)=false by rw [beq_eq_false_iff_ne];omega]
      ·refine Ok.eq (x:=(a',inA)) (by rw [aR]) ?_
       refine Ok.eq (x:=true) (by rw [ku,aP,jF,aB];simp) ?_
       refine Ok.eq (x:=(tb,!inB)) (by rw [aP,r9,aB]) ?_
       exact fin _ _ (by simp) (by simp)
  ·have ea:a'= []:=Classical.byContradiction fun h=>hne (.inl h)
   have eb:b'= []:=Classical.byContradiction fun h=>hne (.inr h)
   subst ea;subst eb
   refine Ok.eq (x:=false) rfl ?_
   refine Ok.br ⟨I.inc,?_,fun x=>?_,fun c hc=>?_⟩
   ·have h1:=I.ea;have h2:=I.eb
    rw [nT] at h1 h2
    have h3:FH out=false:=by
     rw [<-I.oo,I.ok,I.oa,I.ob,<-h1,<-h2]
     unfold FH;rw [hae,hbe];exact hk
    unfold FH at h3
    rw [beq_eq_false_iff_ne] at h3
    dsimp only;omega
   ·have:=I.K0 x (fun d hd=>by rcases hd with h | h <;> cases h)
    have h1:=I.ea;have h2:=I.eb
    rw [nT] at h1 h2
    rw [h1,h2];exact this
   ·have h1:=I.ea;have h2:=I.eb
    rw [nT] at h1 h2
    rw [h1,h2];exact I.mem c hc
 ·exact⟨[],[],rfl,rfl,rfl,rfl,rfl,hk.symm,fun c hc=>(by rcases hc with h | h | h <;> cases h),jH,fun x _=>hk.symm,fun c hc=>(by cases hc),bT _⟩
 ·rintro o ho
  exact Ok.cs ho (fun s h=>Ok.ret h) (fun r=>r.elim)
theorem eQ.app {s t:List Bd} (h:eQ (s++t)):eQ t:=⟨fun b hb=>h.each b (List.mem_append_right _ hb),(mB.1 h.ord).2.1⟩
theorem eQ.low {b:Bd} {s:List Bd} (h:eQ (b::s)): ∀c∈b::s,b.y0<=c.y0:=fun c hc=>by
 rcases dC.1 hc with rfl | hc
 ·exact Int.le_refl _
 ·have:=h.zy c hc;have:=(h.each b (by simp)).1;omega
theorem eQ.high {s:List Bd} {b:Bd} (h:eQ (s++[b])): ∀c∈s++[b],c.y1<=b.y1:=fun c hc=>by
 rcases dA.1 hc with hc | hc
 ·have:=((mB.1 h.ord).2.2 c hc b (by simp)).1
  have:=(h.each b (by simp)).1;omega
 ·simp at hc;subst hc;exact Int.le_refl _
def DN (s:List aA) (y e:Int):List Int×Int:=match s with
 | []=>([],e)
 | b::_=>if y<b.Y0 then ([],if b.Y0<e then b.Y0 else e) else (b.Xs,if b.Y1<e then b.Y1 else e)
theorem G0 {α:Type} (x:α) (l:List α):idx (x::l) 0=some x:=rfl
theorem ID (s:List aA) (y e:Int):mJ N s y e=some (DN s y e):=by
 unfold mJ DN
 cases s with
 | nil=>rfl
 | cons b s=>
  dsimp only
  rw [uP,aR,G0,aB,aB,aB,aB]
  by_cases h:y<b.Y0
  ·rw [bR h,aP,aC h]
  ·rw [cC h,aR,aG h]
theorem EZ {s:List aA} {y e:Int} {X Y:List Int} (hc:eQ (s.map bY)) (hl:v9 X Y (s.map bY)) (hh: ∀b t,s=b::t->y<b.Y1) (hy:y<e):
  y< (DN s y e).2/\(DN s y e).2<=e/\(∀y',y<=y'->y'< (DN s y e).2->rowAt (s.map bY) y'= (DN s y e).1)/\jm (DN s y e).1/\(DN s y e).1.length % 2=0/\((DN s y e).2=e\/(DN s y e).2∈Y)/\∀c∈(DN s y e).1,c∈X:=by
 cases s with
 | nil=>exact⟨hy,Int.le_refl _,fun y' _ _=>rfl,jH,rfl, .inl rfl,fun c hc=>(by cases hc)⟩
 | cons b t=>
  have hb:=hc.each (bY b) (by simp)
  have hlb:=hl (bY b) (by simp)
  have h1:=hh b t rfl
  unfold DN
  dsimp only
  by_cases h:y<b.Y0
  ·rw [aC h]
   dsimp only
   refine⟨by split <;> omega,by split <;> omega,fun y' h2 h3=>?_,jH,rfl,?_,fun c hc=>(by cases hc)⟩
   ·exact hc.uL (by show y'<b.Y0;split at h3 <;> omega)
   ·split
    ·exact .inr hlb.1
    ·exact .inl rfl
  ·rw [aG h]
   dsimp only
   refine⟨by split <;> omega,by split <;> omega,fun y' h2 h3=>?_,hb.2.2.1,hb.2.2.2,?_,hlb.2.2⟩
   ·exact eQ.mo (b:=bY b) (by show b.Y0<=y';omega) (by show y'<b.Y1;split at h3 <;> omega)
   ·split
    ·exact .inr hlb.2.1
    ·exact .inl rfl
theorem Be {y:Int} {a:List aA} (hN:a.length<N) {body:List aA->Option (Fl (List aA) Empty)}
  (hb:body=fun(s373: (List aA))=>((bif (decide ((s373.length:Int)>0)) then ((idx s373 0).bind fun x407=>some (decide (x407.Y1<=y))) else (some false)).bind fun s405=>bif s405 then ((sC s373 1 (s373.length:Int)).bind fun x410=>some (.nx x410)) else (some (.br s373)):Option (Fl ((List aA)) Empty))):
  Ok (jz body N a) (KX (fun a'=>∃p,a=p++a'/\(∀c∈p,c.Y1<=y)/\∀b t,a'=b::t->y<b.Y1) (fun _=>True)):=by
 subst hb
 refine Ok.jz (fun a'=>∃p,a=p++a'/\∀c∈p,c.Y1<=y) List.length ?_ ⟨[],rfl,fun c hc=>(by cases hc)⟩ hN
 rintro a' ⟨p,e,hp⟩
 cases a' with
 | nil=>exact Ok.eq (x:=false) rfl (Ok.br ⟨p,e,hp,fun b t h=>(by cases h)⟩)
 | cons b t=>
  refine Ok.eq (x:=decide (b.Y1<=y)) (by rw [ku,aP,G0,aB]) ?_
  refine Ok.bif (fun h=>?_) (fun h=>Ok.br ⟨p,e,hp,fun b' t' h'=>?_⟩)
  ·have h:=of_decide_eq_true h
   refine Ok.eq (r9 b t) (Ok.nx ⟨⟨p++[b],by rw [e];simp,fun c hc=>?_⟩,by simp⟩)
   rcases dA.1 hc with hc | hc
   ·exact hp c hc
   ·simp at hc;subst hc;exact h
  ·have h:=of_decide_eq_false h
   injection h' with h1 h2;subst h1;omega
theorem Dc {p a':List Bd} {y y':Int} (hp: ∀c∈p,c.y1<=y) (h:y<=y'):rowAt (p++a') y'=rowAt a' y':=by
 rw [pN,aG]
 rintro⟨b,hb,h1⟩
 have:=hp b hb;omega
structure B0 (gD:Bool->Bool->Bool) (X Y:List Int) (a b s:List aA):Prop where
 can:eQ (s.map bY)
 cover: ∀x y,tO (s.map bY) x y=gD (tO (a.map bY) x y) (tO (b.map bY) x y)
 lim:v9 X Y (s.map bY)
theorem zJ {s:List aA} (hs:s≠[]) (hl:s.length<=1099511627776) (hc:eQ (s.map bY)): ∃f l,idx s 0=some f/\idx s (IntKind.wrap .i64 (((s.length:Nat):Int) - 1))=some l/\f∈s/\l∈s/\∀c∈s,f.Y0<=c.Y0/\c.Y1<=l.Y1:=by
 cases s with
 | nil=>exact absurd rfl hs
 | cons f t=>
  rw [i5 (by simp) (by omega)]
  have hlt: (f::t).length - 1< (f::t).length:=by simp
  refine⟨f,(f::t)[(f::t).length - 1],rfl,kI _ _ hlt,by simp,cM _,fun c hcm=>⟨?_,?_⟩⟩
  ·exact hc.low (bY c) (dH.2 ⟨c,hcm,rfl⟩)
  ·have e: (f::t)= (f::t).dropLast++[(f::t)[(f::t).length - 1]]:=by
    have:=List.dropLast_concat_getLast (show f::t≠[] by simp)
    rw [<-List.getLast_eq_getElem (h:=by simp)];exact this.symm
   generalize (f::t)[(f::t).length - 1]=l at e
   have hc2:=hc
   rw [e,dN] at hc2
   have hm:bY c∈(List.map bY (f::t).dropLast++[bY l]):=by
    have:bY c∈(f::t).map bY:=dH.2 ⟨c,hcm,rfl⟩
    rw [e,dN] at this;exact this
   exact eQ.high hc2 (bY c) hm
theorem Ei {φ:Bool->Bool->Option Bool} {gD:Bool->Bool->Bool} (hφ: ∀p q,φ p q=some (gD p q)) (hk:gD false false=false) {a b:List aA} {X Y:List Int} (ca:eQ (a.map bY)) (cb:eQ (b.map bY))
  (la:v9 X Y (a.map bY)) (lb:v9 X Y (b.map bY)) (hX:X.length<=1048576000) (hY:Y.length<=1048576000) (hs: ∀c∈Y,small c) (hN:4398046511104<=N):Ok (oL N a b φ) (B0 gD X Y a b):=by
 have hal:a.length<=Y.length:=by have:=la.len ca;rwa [cV] at this
 have hbl:b.length<=Y.length:=by have:=lb.len cb;rwa [cV] at this
 unfold oL
 rw [wrap_add (by omega)]
 refine Ok.bif (fun h=>Ok.ret ?_) (fun h=>?_)
 ·have h:a.length+b.length=0:=by have:=beq_iff_eq.1 h;omega
  have e1:a= []:=List.eq_nil_of_length_eq_zero (by omega)
  have e2:b= []:=List.eq_nil_of_length_eq_zero (by omega)
  subst e1;subst e2
  exact⟨eQ.nil,fun x y=>hk.symm,fun c hc=>(by cases hc)⟩
 have h0:a≠[]\/b≠[]:=by
  rw [beq_eq_false_iff_ne] at h
  by_cases e:a= []
  ·right;intro e2;subst e;subst e2;exact h rfl
  ·exact .inl e
 refine Ok.bind (Ok.nE (fun k s=>match k with | 0=>True | 1=>a= []\/((∀c∈a,s.1<=c.Y0/\c.Y1<=s.2)/\s.1∈Y/\s.2∈Y) | _=>((∀c∈a,s.1<=c.Y0/\c.Y1<=s.2)/\(∀c∈b,s.1<=c.Y0/\c.Y1<=s.2)/\s.1∈Y/\s.2∈Y)) (by simp) trivial (fun k s hk hI=>?_)) ?_
 ·obtain⟨y,e⟩:=s
  have hk:k=0\/k=1:=by simp at hk;omega
  rcases hk with rfl | rfl
  ·refine Ok.ix (x:=a) rfl ?_
   by_cases ea:a= []
   ·subst ea
    exact Ok.eq (x:=(y,e)) rfl (Ok.ret (.inl rfl))
   ·obtain⟨f,l,f1,f2,f3,f4,f5⟩:=zJ ea (by omega) ca
    have hpos:decide (((a.length:Nat):Int)>0)=true:=bR (by have:=List.length_pos_iff.2 ea;omega)
    refine Ok.eq (x:=(f.Y0,l.Y1)) ?_ (Ok.ret (.inr ⟨f5,(la _ (dH.2 ⟨f,f3,rfl⟩)).1,(la _ (dH.2 ⟨l,f4,rfl⟩)).2.1⟩))
    rw [hpos,aP]
    show ((some true).bind _)=_
    rw [aB,aP,f1,aB,f2,aB,aB,aB,aB]
    simp
  ·refine Ok.ix (x:=b) rfl ?_
   have hI:a= []\/((∀c∈a,y<=c.Y0/\c.Y1<=e)/\y∈Y/\e∈Y):=hI
   by_cases eb:b= []
   ·subst eb
    refine Ok.eq (x:=(y,e)) rfl (Ok.ret ?_)
    rcases hI with h | ⟨h1,h2,h3⟩
    ·rcases h0 with h' | h'
     ·exact absurd h h'
     ·exact absurd rfl h'
    ·exact⟨h1,fun c hc=>(by cases hc),h2,h3⟩
   ·obtain⟨f,l,f1,f2,f3,f4,f5⟩:=zJ eb (by omega) cb
    have hpos:decide (((b.length:Nat):Int)>0)=true:=bR (by have:=List.length_pos_iff.2 eb;omega)
    have g1:f.Y0∈Y:=(lb _ (dH.2 ⟨f,f3,rfl⟩)).1
    have g2:l.Y1∈Y:=(lb _ (dH.2 ⟨l,f4,rfl⟩)).2.1
    by_cases ea:a= []
    ·subst ea
     refine Ok.eq (x:=(f.Y0,l.Y1)) ?_ (Ok.ret ⟨fun c hc=>(by cases hc),f5,g1,g2⟩)
     rw [hpos,aP]
     show ((some true).bind _)=_
     rw [aB,aP,f1,aB,f2,aB,aB,aB,aB]
     simp
    ·obtain⟨h1,h2,h3⟩:=hI.resolve_left ea
     refine Ok.eq (x:=(if f.Y0<y then f.Y0 else y,if e<l.Y1 then l.Y1 else e)) ?_ (Ok.ret ⟨fun c hc=>?_,fun c hc=>?_,?_,?_⟩)
     ·rw [hpos,aP]
      have ez: (((a.length:Nat):Int)==0)=false:=by rw [beq_eq_false_iff_ne];have:=List.length_pos_iff.2 ea;omega
      rw [ez]
      show ((some false).bind _)=_
      rw [aB,aR,aB,f1,aB,f2,aB]
     ·have:=h1 c hc;dsimp only;split <;> split <;> omega
     ·have:=f5 c hc;dsimp only;split <;> split <;> omega
     ·dsimp only;split
      ·exact g1
      ·exact h2
     ·dsimp only;split
      ·exact g2
      ·exact h3
 ·rintro⟨y0,e0⟩ hI
  have hI: (∀c∈a,y0<=c.Y0/\c.Y1<=e0)/\(∀c∈b,y0<=c.Y0/\c.Y1<=e0)/\y0∈Y/\e0∈Y:=hI
  obtain⟨ia,ib,iy,ie⟩:=hI
  have sy:=hs _ iy
  have se:=hs _ ie
  unfold small at sy se
  dsimp only
  refine Ok.bind (Ok.jz (Go:=fun s=>B0 gD X Y a b s.2.2.1) (Rt:=fun _=>True)
   (fun s=>∃pa pb,a=pa++s.1/\b=pb++s.2.1/\(∀c∈pa,c.Y1<=s.2.2.2)/\(∀c∈pb,c.Y1<=s.2.2.2)/\y0<=s.2.2.2/\s.2.2.2<=max y0 e0/\s.2.2.2∈Y/\eQ (s.2.2.1.map bY)/\v9 X Y (s.2.2.1.map bY)/\(∀c∈s.2.2.1,c.Y1<=s.2.2.2)/\
    ∀x y,tO (s.2.2.1.map bY) x y= (gD (tO (a.map bY) x y) (tO (b.map bY) x y)&&decide (y<s.2.2.2)))
   (fun s=>(e0 - s.2.2.2).toNat) ?_ ?_ (by dsimp only;omega)) ?_
  ·rintro⟨a',b',out,y⟩ ⟨pa,pb,ea,eb,hpa,hpb,hy0,hye,hyY,hcan,hlim,htop,hcov⟩
   dsimp only at ea eb hpa hpb hy0 hye hyY hcan hlim htop hcov ⊢
   refine Ok.bif (fun h=>?_) (fun h=>Ok.br ?_)
   ·have hlt:y<e0:=of_decide_eq_true h
    have hsl: ∀(p s t:List aA),t=p++s->s.length<=t.length:=fun p s t e=>by rw [e];simp
    have hal':=hsl _ _ _ ea
    have hbl':=hsl _ _ _ eb
    refine Ok.bind (Be (y:=y) (a:=a') (by omega) rfl) (fun o ho=>Ok.cs ho ?_ (fun r=>r.elim))
    rintro a2 ⟨qa,ea2,hqa,hha⟩
    refine Ok.bind (Be (y:=y) (a:=b') (by omega) rfl) (fun o ho=>Ok.cs ho ?_ (fun r=>r.elim))
    rintro b2 ⟨qb,eb2,hqb,hhb⟩
    have ea3:a= (pa++qa)++a2:=by rw [ea,ea2];simp
    have eb3:b= (pb++qb)++b2:=by rw [eb,eb2];simp
    have hPa: ∀c∈pa++qa,c.Y1<=y:=fun c hc=>by rcases dA.1 hc with h | h;exact hpa c h;exact hqa c h
    have hPb: ∀c∈pb++qb,c.Y1<=y:=fun c hc=>by rcases dA.1 hc with h | h;exact hpb c h;exact hqb c h
    have ca2:eQ (a2.map bY):=by have:=ca;rw [ea3,dN] at this;exact this.app
    have cb2:eQ (b2.map bY):=by have:=cb;rw [eb3,dN] at this;exact this.app
    have la2:v9 X Y (a2.map bY):=fun c hc=>la c (by rw [ea3,dN];exact List.mem_append_right _ hc)
    have lb2:v9 X Y (b2.map bY):=fun c hc=>lb c (by rw [eb3,dN];exact List.mem_append_right _ hc)
    refine Ok.eq (ID a2 y e0) (Ok.eq (ID b2 y e0) ?_)
    obtain⟨a1,a3,a4,a5,a6,a7,a8⟩:=EZ ca2 la2 hha hlt
    obtain⟨b1,b3,b4,b5,b6,b7,b8⟩:=EZ cb2 lb2 hhb hlt
    have hal2: (DN a2 y e0).1.length<=X.length:=fD a5.nodup a8
    have hbl2: (DN b2 y e0).1.length<=X.length:=fD b5.nodup b8
    generalize DN a2 y e0=pa2 at *
    generalize DN b2 y e0=pb2 at *
    obtain⟨xa,n⟩:=pa2
    obtain⟨xb,m⟩:=pb2
    dsimp only at *
    refine Ok.bind (FI hφ hk a5 b5 a6 b6 (by omega) (by omega) (by omega)) ?_
    rintro row ⟨r1,r2,r3,r4⟩
    have hnx: ∃nx,nx= (if m<n then m else n)/\y<nx/\nx<=e0/\nx<=n/\nx<=m/\nx∈Y:=by
     refine⟨_,rfl,by split <;> omega,by split <;> omega,by split <;> omega,by split <;> omega,?_⟩
     split
     ·rcases b7 with h | h
      ·rw [h];exact ie
      ·exact h
     ·rcases a7 with h | h
      ·rw [h];exact ie
      ·exact h
    obtain⟨nx,hnx,n1,n2,n3,n4,n5⟩:=hnx
    rw [<-hnx]
    have hol:out.length<=Y.length:=by have:=hlim.len hcan;rwa [cV] at this
    obtain⟨out',p1,p2⟩:=EX (N:=N) (s:=out) (b:=⟨y,nx,row⟩) (by omega) (fun c hc=>by
     have:=hlim.row hcan (b:=bY c) (dH.2 ⟨c,hc,rfl⟩)
     have e: (bY c).xs=c.Xs:=rfl
     rw [e] at this;omega)
    refine Ok.eq p1 ?_
    have htop': ∀c∈out.map bY,c.y1<=(bY ⟨y,nx,row⟩).y0:=fun c hc=>by
     obtain⟨d,hd,rfl⟩:=dH.1 hc
     exact htop d hd
    refine Ok.nx ⟨⟨pa++qa,pb++qb,ea3,eb3,fun c hc=>by have:=hPa c hc;dsimp only;omega,fun c hc=>by have:=hPb c hc;dsimp only;omega,by dsimp only;omega,by dsimp only;omega,n5,by dsimp only;rw [p2];exact uN hcan htop' r1 r2,?_,fun c hc=>?_,fun x y'=>?_⟩,by dsimp only;omega⟩
    ·dsimp only;rw [p2]
     refine hlim.push hyY n5 (fun c hc=>?_)
     rcases r4 c hc with h | h
     ·exact a8 c h
     ·exact b8 c h
    ·have hm':bY c∈jw (out.map bY) (bY ⟨y,nx,row⟩):=by rw [<-p2];exact dH.2 ⟨c,hc,rfl⟩
     exact uO htop' (by show y<=nx;omega) _ hm'
    ·show ox (rowAt (out'.map bY) y') x=_
     rw [p2,uM htop' (fun c hc=>(hcan.each c hc).1) (fun h=>absurd h (by show ¬nx<=y;omega))]
     by_cases hyy:y<=y'/\y'<nx
     ·rw [aC (show (bY ⟨y,nx,row⟩).y0<=y'/\y'< (bY ⟨y,nx,row⟩).y1 from hyy),bR hyy.2,Bool.and_true]
      show ox row x=_
      have mp: ∀p q:List aA,(∀c∈p++q,c.Y1<=y)->∀c∈(p++q).map bY,c.y1<=y:=fun p q h c hc=>by
       obtain⟨d,hd,rfl⟩:=dH.1 hc
       exact h d hd
      have q1:tO (a.map bY) x y'=ox xa x:=by
       unfold tO
       rw [ea3,dN,Dc (mp _ _ hPa) hyy.1,a4 y' hyy.1 (by omega)]
      have q2:tO (b.map bY) x y'=ox xb x:=by
       unfold tO
       rw [eb3,dN,Dc (mp _ _ hPb) hyy.1,b4 y' hyy.1 (by omega)]
      rw [r3,q1,q2]
     ·rw [aG (show ¬((bY ⟨y,nx,row⟩).y0<=y'/\y'< (bY ⟨y,nx,row⟩).y1) from hyy)]
      show tO (out.map bY) x y'=_
      rw [hcov]
      by_cases h1:y'<y
      ·rw [bR h1,bR (show y'<nx by omega)]
      ·rw [cC h1,cC (show ¬y'<nx by omega)]
   ·have hge:e0<=y:=by have:=of_decide_eq_false h;omega
    refine⟨hcan,fun x y'=>?_,hlim⟩
    dsimp only
    rw [hcov]
    by_cases h1:y'<y
    ·rw [bR h1,Bool.and_true]
    ·have z: ∀s:List aA,(∀c∈s,y0<=c.Y0/\c.Y1<=e0)->tO (s.map bY) x y'=false:=fun s h=>by
      unfold tO
      rw [lq fun c hc=>?_]
      ·rfl
      ·obtain⟨d,hd,rfl⟩:=dH.1 hc
       exact .inr (by have:=(h d hd).2;show d.Y1<=y';omega)
     rw [z a ia,z b ib,hk];rfl
  ·refine⟨[],[],rfl,rfl,fun c hc=>(by cases hc),fun c hc=>(by cases hc),Int.le_refl _,by dsimp only;omega,iy,eQ.nil,fun c hc=>(by cases hc),fun c hc=>(by cases hc),fun x y=>?_⟩
   dsimp only
   show false=_
   by_cases h1:y<y0
   ·have z: ∀s:List aA,(∀c∈s,y0<=c.Y0/\c.Y1<=e0)->tO (s.map bY) x y=false:=fun s h=>by
     unfold tO
     rw [lq fun c hc=>?_]
     ·rfl
     ·obtain⟨d,hd,rfl⟩:=dH.1 hc
      exact .inl (by have:=(h d hd).1;show y<d.Y0;omega)
    rw [z a ia,z b ib,hk];rfl
   ·rw [cC h1,Bool.and_false]
  ·rintro o ho
   exact Ok.cs ho (fun s h=>Ok.ret h) (fun r=>r.elim)
theorem FJ {a b:List aA} {X Y:List Int} (ca:eQ (a.map bY)) (cb:eQ (b.map bY)) (la:v9 X Y (a.map bY)) (lb:v9 X Y (b.map bY)) (hX:X.length<=1048576000) (hY:Y.length<=1048576000) (hs: ∀c∈Y,small c) (hN:4398046511104<=N):
  Ok (kR N a b) (B0 (fun p q=>p&& !q) X Y a b):=by
 unfold kR
 exact Ok.bind (Ei (gD:=fun p q=>p&& !q) (fun p q=>rfl) rfl ca cb la lb hX hY hs hN) (fun s h=>Ok.ret h)
end
end Go.Gk
namespace Go.Gk
open Go
section
variable {N:Nat}
structure UF (n:Nat) (up:List Int) (r:Nat->Nat):Prop where
 len:up.length=n
 rt: ∀i,i<n->∃u:Nat,up[i]? =some ((u:Nat):Int)/\u<=i/\r u=r i/\(u=i↔r i=i)
theorem UF.le {n:Nat} {up:List Int} {r:Nat->Nat} (h:UF n up r): ∀i,i<n->r i<=i:=by
 intro i
 induction i using Nat.strongRecOn with
 | ind i ih=>
  intro hi
  obtain⟨u,_,h2,h3,h4⟩:=h.rt i hi
  by_cases e:u=i
  ·rw [h4.1 e];exact bT _
  ·rw [<-h3];have:=ih u (by omega) (by omega);omega
theorem UF.rr {n:Nat} {up:List Int} {r:Nat->Nat} (h:UF n up r): ∀i,i<n->r (r i)=r i:=by
 intro i
 induction i using Nat.strongRecOn with
 | ind i ih=>
  intro hi
  obtain⟨u,_,h2,h3,h4⟩:=h.rt i hi
  by_cases e:u=i
  ·rw [h4.1 e,h4.1 e]
  ·rw [<-h3];exact ih u (by omega) (by omega)
theorem np {l:List Int} {j:Nat} {v:Int} {i:Nat} (hj:j<l.length): (l.set j v)[i]? =if i=j then some v else l[i]? :=by
 rw [fe]
 by_cases e:j=i
 ·rw [aC e,aC e.symm,aC hj]
 ·rw [aG e,aG (fun h=>e h.symm)]
theorem UF.init (n:Nat) (up:List Int) (h1:up.length=n) (h2: ∀i,i<n->up[i]? =some ((i:Nat):Int)):UF n up (fun i=>i):=
 ⟨h1,fun i hi=>⟨i,h2 i hi,bT _,rfl,by simp⟩⟩
theorem Dd {n:Nat} (hn:n<=1048576000): ∃up,kS N ((n:Nat):Int)=some up/\UF n up (fun i=>i):=by
 unfold kS
 rw [qT 0 (by omega),aB]
 have h0: (List.replicate n (0:Int)).length=n:=by simp
 obtain⟨s',h1,h2⟩:=yW (m:=(List.replicate n (0:Int)).length) (s:=List.replicate n (0:Int)) (body:=fun(k34:Nat) (s35: (List Int))=>((idx s35 (k34:Int)).bind fun x38=>some (s35.set (Int.toNat (k34:Int)) (k34:Int)):Option ((List Int))))
  (fun k s=>s.length=n/\∀i,i<k->s[i]? =some ((i:Nat):Int)) (by omega) ⟨h0,fun i hi=>by omega⟩ (fun k s hk ⟨hs,hi⟩=>by
   refine⟨s.set k ((k:Nat):Int),?_,by simp [hs],fun i hi'=>?_⟩
   ·rw [kI _ _ (by omega),aB,cH]
   ·rw [np (by omega)]
    split
    ·rename_i e;rw [e]
    ·exact hi i (by omega))
 rw [h1,aB]
 exact⟨s',rfl,UF.init n s' h2.1 (fun i hi=>h2.2 i (by omega))⟩
theorem B1 {n:Nat} {up:List Int} {r:Nat->Nat} (h:UF n up r) {i:Nat} (hi:i<n) (hn:n<N): ∃up',gG N up ((i:Nat):Int)=some (((r i:Nat):Int),up')/\UF n up' r:=by
 unfold gG
 obtain⟨o,h1,h2⟩:=wO (R:=Empty) (body:=fun(s32: (List Int)×Int)=>((idx s32.1 s32.2).bind fun x43=>bif (x43 != s32.2) then ((idx s32.1 s32.2).bind fun x44=>(idx s32.1 x44).bind fun x45=>(idx s32.1 s32.2).bind fun x46=>(idx (s32.1.set (Int.toNat s32.2) x45) s32.2).bind fun x47=>some (.nx ((s32.1.set (Int.toNat s32.2) x45),x47))) else (some (.br (s32.1,s32.2))):Option (Fl ((List Int)×Int) Empty)))
  (fun s=>UF n s.1 r/\∃j:Nat,s.2= ((j:Nat):Int)/\j<n/\r j=r i) (fun s=>s.2.toNat) (fun s=>s.2= ((r i:Nat):Int)/\UF n s.1 r) (fun _=>True) (fun s ⟨hu,j,hj,hjn,hr⟩=>by
   obtain⟨l,y⟩:=s
   dsimp only at hu hj ⊢
   subst hj
   obtain⟨u,a1,a2,a3,a4⟩:=hu.rt j hjn
   rw [dU a1,aB]
   by_cases e:u=j
   ·subst e
    refine⟨.br (l,((u:Nat):Int)),by rw [show (((u:Nat):Int) != ((u:Nat):Int))=false by simp,aR],?_,hu⟩
    show ((u:Nat):Int)=_
    rw [<-hr,a4.1 rfl]
   ·obtain⟨v,b1,b2,b3,b4⟩:=hu.rt u (by omega)
    have hl:=hu.len
    refine⟨.nx (l.set j ((v:Nat):Int),((v:Nat):Int)),by
     rw [show (((u:Nat):Int) != ((j:Nat):Int))=true by simp;omega,aP,aB,dU b1,aB,aB,cH,
      dU (x:=((v:Nat):Int)) (by rw [np (by omega),aC rfl]),aB],⟨⟨by simp [hl],fun k hk=>?_⟩,v,rfl,by omega,?_⟩,?_⟩
    ·rw [np (by omega)]
     by_cases e2:k=j
     ·subst e2
      rw [aC rfl]
      refine⟨v,rfl,by omega,by rw [b3,a3],?_⟩
      constructor
      ·intro h;omega
      ·intro h;exact absurd (a4.2 h) e
     ·rw [aG e2];exact hu.rt k hk
    ·rw [b3,a3,hr]
    ·simp only [cH];omega)
  N (up,((i:Nat):Int)) ⟨h,i,rfl,hi,rfl⟩ (by simp only [cH];omega)
 rw [h1,aB]
 cases o with
 | go s'=>exact⟨s'.1,by rw [<-h2.1];rfl,h2.2⟩
 | rt r=>exact r.elim
def ot (r:Nat->Nat) (a b:Nat):Nat->Nat:=fun x=>if r x=max a b then min a b else r x
theorem G1 (a b:Nat): (if ((a:Nat):Int)< ((b:Nat):Int) then ((b:Nat):Int) else ((a:Nat):Int))= ((max a b:Nat):Int):=by
 rw [Nat.max_def];split <;> split <;> omega
theorem G2 (a b:Nat): (if ((b:Nat):Int)< ((a:Nat):Int) then ((b:Nat):Int) else ((a:Nat):Int))= ((min a b:Nat):Int):=by
 rw [Nat.min_def];split <;> split <;> omega
theorem H3 {n:Nat} {up:List Int} {r:Nat->Nat} (h:UF n up r) {i k:Nat} (hi:i<n) (hk:k<n) (hn:n<N):
  ∃up',gY N up ((i:Nat):Int) ((k:Nat):Int)=some up'/\UF n up' (ot r (r i) (r k)):=by
 obtain⟨u1,a1,a2⟩:=B1 h hi hn
 obtain⟨u2,b1,b2⟩:=B1 a2 hk hn
 have hri:=h.le i hi
 have hrk:=h.le k hk
 have rri:=h.rr i hi
 have rrk:=h.rr k hk
 unfold gY
 rw [a1,aB,b1,aB]
 dsimp only
 rw [G1,G2]
 have hm:max (r i) (r k)<n:=by omega
 have hl:=b2.len
 rw [kI _ _ (by omega),aB,cH]
 refine⟨_,rfl,by simp [hl],fun x hx=>?_⟩
 have rmax:r (max (r i) (r k))=max (r i) (r k):=by rcases Nat.le_total (r i) (r k) with e | e <;> simp [Nat.max_def] <;> split <;> omega
 have rmin:r (min (r i) (r k))=min (r i) (r k):=by rcases Nat.le_total (r i) (r k) with e | e <;> simp [Nat.min_def] <;> split <;> omega
 rw [np (by omega)]
 by_cases e:x=max (r i) (r k)
 ·subst e
  rw [aC rfl]
  refine⟨min (r i) (r k),rfl,by omega,?_,?_⟩
  ·unfold ot;rw [rmin,rmax,aC rfl];split <;> rfl
  ·unfold ot;rw [rmax,aC rfl]
 ·rw [aG e]
  obtain⟨u,c1,c2,c3,c4⟩:=b2.rt x hx
  refine⟨u,c1,c2,?_,?_⟩
  ·unfold ot;rw [c3]
  ·unfold ot
   split
   ·rename_i e2
    constructor
    ·intro hu;have:=c4.1 hu;omega
    ·intro hu
     have h1:=b2.le x hx
     have:min (r i) (r k)=max (r i) (r k)\/x<max (r i) (r k):=by omega
     have h3:x=max (r i) (r k):=by omega
     exact absurd h3 e
   ·exact c4
def qt (r:Nat->Nat) (E:List (Nat×Nat)):Prop:=∀p∈E,r p.1=r p.2
def zK (n:Nat) (r:Nat->Nat) (E:List (Nat×Nat)):Prop:=∀S:Nat->Prop,(∀p∈E,S p.1↔S p.2)->∀i j,i<n->j<n->r i=r j->S i->S j
theorem qt.join {r:Nat->Nat} {E:List (Nat×Nat)} (h:qt r E) (i k:Nat) (_h2:r (r i)=r i):qt (ot r (r i) (r k)) (E++[(i,k)]):=fun p hp=>by
 rcases dA.1 hp with hp | hp
 ·unfold ot;rw [h p hp]
 ·simp at hp;subst hp
  unfold ot
  dsimp only
  split <;> split <;> omega
theorem zK.join {n:Nat} {r:Nat->Nat} {E:List (Nat×Nat)} (h:zK n r E) {i k:Nat} (hi:i<n) (hk:k<n):zK n (ot r (r i) (r k)) (E++[(i,k)]):=fun S hS x y hx hy hr hSx=>by
 have hE: ∀p∈E,S p.1↔S p.2:=fun p hp=>hS p (List.mem_append_left _ hp)
 have hik:S i↔S k:=hS (i,k) (by simp)
 have key:=h S hE
 unfold ot at hr
 by_cases h1:r x=r y
 ·exact key x y hx hy h1 hSx
 ·have: (r x=r i/\r y=r k)\/(r x=r k/\r y=r i):=by
   split at hr <;> split at hr <;> omega
  rcases this with ⟨e1,e2⟩ | ⟨e1,e2⟩
  ·exact key k y hk hy e2.symm (hik.1 (key x i hx hi e1 hSx))
  ·exact key i y hi hy e2.symm (hik.2 (key x k hx hk e1 hSx))
theorem zK.id (n:Nat):zK n (fun i=>i) []:=fun S _ i j _ _ h hs=>by
 have h:i=j:=h
 subst h;exact hs
theorem qt.id:qt (fun i=>i) []:=fun p hp=>by simp at hp
def bK (n:Nat) (r:Nat->Nat):List Nat:=(List.range n).filter (fun k=>decide (r k=k))
def cls (n:Nat) (r:Nat->Nat) (k:Nat):List Nat:=(List.range n).filter (fun i=>decide (r i=k))
theorem gm (n:Nat) (r:Nat->Nat):bK (n+1) r=if r n=n then bK n r++[n] else bK n r:=by
 unfold bK
 rw [List.range_succ,ki]
 by_cases h:r n=n
 ·rw [aC h];simp [h]
 ·rw [aG h];simp [h]
theorem ux (n:Nat) (r:Nat->Nat) (k:Nat):cls (n+1) r k=if r n=k then cls n r k++[n] else cls n r k:=by
 unfold cls
 rw [List.range_succ,ki]
 by_cases h:r n=k
 ·rw [aC h];simp [h]
 ·rw [aG h];simp [h]
theorem kZ (n:Nat) (r:Nat->Nat): (bK n r).length<=n:=by
 have:=ni (fun k=>decide (r k=k)) (List.range n)
 rw [List.length_range] at this;exact this
theorem yZ (n:Nat) (r:Nat->Nat) (k:Nat): (cls n r k).length<=n:=by
 have:=ni (fun i=>decide (r i=k)) (List.range n)
 rw [List.length_range] at this;exact this
theorem ja {n k:Nat} {r:Nat->Nat}:k∈bK n r↔k<n/\r k=k:=by unfold bK;simp
theorem mw (n:Nat) (r:Nat->Nat): (bK n r).Nodup:=List.Nodup.sublist List.filter_sublist List.nodup_range
def qu (n:Nat) (r:Nat->Nat):List (List Int):=(bK n r).map (fun k=>(cls n r k).map (fun i=>((i:Nat):Int)))
theorem E0 {n k:Nat} {r:Nat->Nat} (h: ∀i,i<n->r i<=i) (hk:n<=k):cls n r k= []:=by
 unfold cls
 rw [List.filter_eq_nil_iff]
 intro i hi
 have h1:=qO.1 hi
 have:=h i h1
 simp;omega
theorem uy {α β:Type} (f g:α->β) (l:List α) (j:Nat) (a:α) (hn:l.Nodup) (hj:l[j]? =some a) (hf: ∀b,b∈l->b≠a->f b=g b): (l.map f).set j (g a)=l.map g:=by
 apply List.ext_getElem?
 intro i
 have hjl:=(bA.1 hj).1
 rw [fe,cV,gr,gr]
 by_cases e:j=i
 ·subst e;rw [aC rfl,aC hjl,hj];rfl
 ·rw [aG e]
  cases hb:l[i]? with
  | none=>rfl
  | some b=>
   have hne:b≠a:=fun he=>by
    subst he
    have hil:=(bA.1 hb).1
    exact e ((List.getElem_inj hn).1 (by rw [(bA.1 hb).2,(bA.1 hj).2]) |>.symm)
   show some (f b)=some (g b)
   rw [hf b (eU hb) hne]
def K1 (n:Nat) (r:Nat->Nat) (m:List (Int×Int)):Prop:=∀(j k:Nat),(bK n r)[j]? =some k->jg m ((k:Nat):Int) 0= ((j:Nat):Int)
theorem H4 {n:Nat} {up:List Int} {r:Nat->Nat} (h:UF n up r) (hn:n<N) (hn2:n<=1048576000): ∃up',jT N up=some (qu n r,up')/\UF n up' r:=by
 unfold jT
 have hlen:=h.len
 have hle:=h.le
 have hrr:=h.rr
 obtain⟨s',h1,h2⟩:=yW (m:=up.length) (s:=(up,([]: (List (List Int))),([]: (List (Int×Int)))))
  (body:=fun(k32:Nat) (s33: (List Int)×(List (List Int))×(List (Int×Int)))=>((gG N s33.1 (k32:Int)).bind fun x117=>(bif (x117.1==(k32:Int)) then ((app 24 s33.2.1 [([]: (List Int))]).bind fun x126=>some (x126,(uZ s33.2.2 (k32:Int) (s33.2.1.length:Int)))) else (some (s33.2.1,s33.2.2))).bind fun s122=>(idx s122.1 (jg s122.2 x117.1 (0:Int))).bind fun x128=>(app 8 x128 ([(k32:Int)]: (List Int))).bind fun x134=>(idx s122.1 (jg s122.2 x117.1 (0:Int))).bind fun x136=>some (x117.2,(s122.1.set (Int.toNat (jg s122.2 x117.1 (0:Int))) x134),s122.2):Option ((List Int)×(List (List Int))×(List (Int×Int)))))
  (fun k s=>UF n s.1 r/\s.2.1=qu k r/\K1 k r s.2.2) (by omega) ⟨h,rfl,fun j k hj=>by simp [bK] at hj⟩ (fun k s hk ⟨hu,hs,hm⟩=>by
   obtain⟨l,ss,m⟩:=s
   dsimp only at hu hs hm ⊢
   subst hs
   rw [hlen] at hk
   obtain⟨u',a1,a2⟩:=B1 hu hk hn
   rw [a1,aB]
   dsimp only
   have hhl:=kZ k r
   have hsl: (qu k r).length= (bK k r).length:=by unfold qu;simp
   have hrk:=hle k hk
   by_cases e:r k=k
   ·
    rw [show (((r k:Nat):Int)==((k:Nat):Int))=true by rw [e];simp,aP,kq (by rw [hsl];simp;omega),aB,aB]
    dsimp only
    rw [e,xR,aC rfl,hsl]
    have hi: (qu k r++[([]:List Int)])[(bK k r).length]? =some []:=by rw [<-hsl,gE (bT _),Nat.sub_self];rfl
    rw [dU hi,aB,kq (by simp),aB,aB,cH]
    refine⟨_,rfl,a2,?_,fun j q hj=>?_⟩
    ·dsimp only
     rw [<-hsl,List.set_append_right _ _ (bT _),Nat.sub_self]
     unfold qu
     rw [gm,aC e,dN]
     congr 1
     ·apply List.map_congr_left
      intro a ha
      have:=(ja.1 ha).1
      rw [ux,aG (by omega)]
     ·simp only [List.set_cons_zero,dX,List.map_nil,List.nil_append]
      rw [ux,aC e,E0 (fun i hi=>hle i (by omega)) (bT _)];rfl
    ·dsimp only
     rw [gm,aC e] at hj
     rw [xR]
     by_cases e2:j< (bK k r).length
     ·rw [gq e2] at hj
      have:=(ja.1 (eU hj)).1
      rw [aG (by omega)];exact hm j q hj
     ·rw [gE (by omega)] at hj
      have hj0:j - (bK k r).length=0:=by
       have:=(bA.1 hj).1;simp at this;omega
      rw [hj0] at hj;simp at hj;subst hj
      rw [aC rfl];congr 1;omega
   ·rw [show (((r k:Nat):Int)==((k:Nat):Int))=false by simp;omega,aR,aB]
    dsimp only
    have hh:r k∈bK k r:=ja.2 ⟨by omega,hrr k hk⟩
    obtain⟨j,hj⟩:=dS hh
    rw [hm j (r k) hj]
    have hcl:=yZ k r (r k)
    have hi: (qu k r)[j]? =some ((cls k r (r k)).map (fun i=>((i:Nat):Int))):=by unfold qu;rw [gr,hj];rfl
    rw [dU hi,aB,kq (by simp;omega),aB,aB,cH]
    refine⟨_,rfl,a2,?_,fun j' q hj'=>?_⟩
    ·unfold qu
     rw [gm,aG e]
     have:=uy (fun a=>(cls k r a).map (fun i=>((i:Nat):Int))) (fun a=>(cls (k+1) r a).map (fun i=>((i:Nat):Int))) (bK k r) j (r k) (mw k r) hj (fun b hb hne=>by
      rw [ux,aG (fun h=>hne h.symm)])
     rw [ux,aC rfl,dN] at this
     exact this
    ·rw [gm,aG e] at hj';exact hm j' q hj')
 rw [h1,aB]
 obtain⟨l,ss,m⟩:=s'
 dsimp only at h2
 rw [hlen] at h2
 refine⟨l,?_,h2.1⟩
 rw [<-h2.2.1]
end
end Go.Gk
namespace Go.Gk
open Go
section
variable {N:Nat}
theorem B2 {n:Nat} {up:List Int} {r:Nat->Nat} (h:UF n up r) {i:Nat} (hi:i<n) (hn:n<N): ∃up',fu N ((i:Nat):Int) up=some (((r i:Nat):Int),up')/\UF n up' r:=by
 unfold fu
 have:=Ok.bind (β:=Int×List Int) (Q:=fun x=>x.1= ((r i:Nat):Int)/\UF n x.2 r) (Ok.jz (body:=fun(s32:Int×(List Int))=>((idx s32.2 s32.1).bind fun x43=>bif (x43 != s32.1) then ((idx s32.2 s32.1).bind fun x44=>(idx s32.2 x44).bind fun x45=>(idx s32.2 s32.1).bind fun x46=>(idx (s32.2.set (Int.toNat s32.1) x45) s32.1).bind fun x47=>some (.nx (x47,(s32.2.set (Int.toNat s32.1) x45)))) else (some (.br (s32.1,s32.2))):Option (Fl (Int×(List Int)) Empty)))
  (N:=N) (s:=(((i:Nat):Int),up)) (Go:=fun s=>s.1= ((r i:Nat):Int)/\UF n s.2 r) (Rt:=fun _=>True) (fun s=>UF n s.2 r/\∃j:Nat,s.1= ((j:Nat):Int)/\j<n/\r j=r i) (fun s=>s.1.toNat) (by
   rintro⟨y,l⟩ ⟨hu,j,hj,hjn,hr⟩
   dsimp only at hu hj ⊢
   subst hj
   obtain⟨u,a1,a2,a3,a4⟩:=hu.rt j hjn
   refine Ok.ix a1 ?_
   by_cases e:u=j
   ·subst e
    rw [show (((u:Nat):Int) != ((u:Nat):Int))=false by simp,aR]
    refine Ok.br ⟨?_,hu⟩
    show ((u:Nat):Int)=_
    rw [<-hr,a4.1 rfl]
   ·obtain⟨v,b1,b2,b3,b4⟩:=hu.rt u (by omega)
    have hl:=hu.len
    rw [show (((u:Nat):Int) != ((j:Nat):Int))=true by simp;omega,aP]
    refine Ok.ix a1 (Ok.ix b1 (Ok.ix a1 (Ok.ix (x:=((v:Nat):Int)) (by rw [cH,np (by omega),aC rfl]) (Ok.nx ⟨⟨⟨by simp [hl],fun k hk=>?_⟩,v,rfl,by omega,?_⟩,?_⟩))))
    ·rw [cH,np (by omega)]
     by_cases e2:k=j
     ·subst e2
      rw [aC rfl]
      refine⟨v,rfl,by omega,by rw [b3,a3],?_⟩
      constructor
      ·intro h;omega
      ·intro h;exact absurd (a4.2 h) e
     ·rw [aG e2];exact hu.rt k hk
    ·rw [b3,a3,hr]
    ·simp only [cH];omega)
  ⟨h,i,rfl,hi,rfl⟩ (by simp only [cH];omega))
  (fun o ho=>Ok.cs (f:=fun(s32:Int×(List Int))=>some (s32.1,s32.2)) (g:=fun r:Empty=>r.elim) ho (fun s h=>Ok.ret h) (fun r=>r.elim))
 obtain⟨⟨x,up'⟩,h1,h2,h3⟩:=this
 exact⟨up',by rw [<-h2];exact h1,h3⟩
theorem G3 {n:Nat} {up:List Int} {r:Nat->Nat} (h:UF n up r) {i k:Nat} (hi:i<n) (hk:k<n) {f:List Int->Option (List Int)} (hn:n<N):
  ∃up',((fu N ((i:Nat):Int) up).bind fun x840=>(fu N ((k:Nat):Int) x840.2).bind fun x842=>(idx x842.2 (if x840.1<x842.1 then x842.1 else x840.1)).bind fun x844=>some (x842.2.set (Int.toNat (if x840.1<x842.1 then x842.1 else x840.1)) (if x842.1<x840.1 then x842.1 else x840.1)))=some up'/\UF n up' (ot r (r i) (r k)):=by
 obtain⟨u1,a1,a2⟩:=B2 h hi hn
 obtain⟨u2,b1,b2⟩:=B2 a2 hk hn
 obtain⟨v1,c1,c2⟩:=B1 h hi hn
 have hri:=h.le i hi
 have hrk:=h.le k hk
 have rri:=h.rr i hi
 have rrk:=h.rr k hk
 rw [a1,aB,b1,aB]
 dsimp only
 rw [G1,G2]
 have hm:max (r i) (r k)<n:=by omega
 have hl:=b2.len
 rw [kI _ _ (by omega),aB,cH]
 refine⟨_,rfl,by simp [hl],fun x hx=>?_⟩
 have rmax:r (max (r i) (r k))=max (r i) (r k):=by rcases Nat.le_total (r i) (r k) with e | e <;> simp [Nat.max_def] <;> split <;> omega
 have rmin:r (min (r i) (r k))=min (r i) (r k):=by rcases Nat.le_total (r i) (r k) with e | e <;> simp [Nat.min_def] <;> split <;> omega
 rw [np (by omega)]
 by_cases e:x=max (r i) (r k)
 ·subst e
  rw [aC rfl]
  refine⟨min (r i) (r k),rfl,by omega,?_,?_⟩
  ·unfold ot;rw [rmin,rmax,aC rfl];split <;> rfl
  ·unfold ot;rw [rmax,aC rfl]
 ·rw [aG e]
  obtain⟨u,c1,c2,c3,c4⟩:=b2.rt x hx
  refine⟨u,c1,c2,?_,?_⟩
  ·unfold ot;rw [c3]
  ·unfold ot
   split
   ·rename_i e2
    constructor
    ·intro hu;have:=c4.1 hu;omega
    ·intro hu
     have h1:=b2.le x hx
     have h3:x=max (r i) (r k):=by omega
     exact absurd h3 e
   ·exact c4
def iT (s:List aA) (k:Nat):Nat:=(aS (s.take k)).length
theorem xU {s:List aA} {k:Nat} (h:k<s.length):iT s (k+1)=iT s k+s[k].Xs.length / 2:=by
 unfold iT
 rw [eF h,nc,cZ]
 show _+ (aS [s[k]]).length=_
 rw [show aS [s[k]]=mq s[k] by simp [aS],mL]
theorem xV {s:List aA} {k m:Nat} (h:k<=m):iT s k<=iT s m:=by
 unfold iT
 have:=xS (s.take m) k
 rwa [List.take_take,Nat.min_eq_left h] at this
theorem De (s:List aA):iT s s.length= (aS s).length:=by unfold iT;rw [eO]
theorem H5 {s:List aA} {k t:Nat} (h:k<s.length) (ht:2*t+1<s[k].Xs.length): (aS s)[iT s k+t]? =some ⟨s[k].Xs[2*t],s[k].Y0,s[k].Xs[2*t+1],s[k].Y1⟩:=by
 have e:aS s=aS (s.take k)++(mq s[k]++aS (s.drop (k+1))):=by
  conv=>lhs;rw [<-List.take_append_drop k s,sD h]
  rw [nc,mu]
 rw [e]
 unfold iT
 rw [gE (by omega),Nat.add_sub_cancel_left,gq (by rw [mL];omega)]
 unfold mq
 rw [gr,w6 _ _ ht];rfl
theorem E1 {s:List aA} {i:Nat} (h:i< (aS s).length): ∃k,k<s.length/\iT s k<=i/\i<iT s (k+1):=by
 have key: ∀m,m<=s.length->i<iT s m->∃k,k<m/\iT s k<=i/\i<iT s (k+1):=by
  intro m
  induction m with
  | zero=>intro _ h;unfold iT at h;simp [aS] at h
  | succ m ih=>
   intro hm hi
   by_cases h1:i<iT s m
   ·obtain⟨k,hk,h2⟩:=ih (by omega) h1
    exact⟨k,by omega,h2⟩
   ·exact⟨m,by omega,by omega,hi⟩
 exact key s.length (bT _) (by rw [De];exact h)
def B3 (a c:aI):Prop:=a.Y1=c.Y0/\a.X0<c.X1/\c.X0<a.X1
def xv (all:List aI) (i j:Nat):Prop:=∃a c,all[i]? =some a/\all[j]? =some c/\B3 a c
theorem uQ {s:List aA} (he: ∀b∈s,b.Xs.length % 2=0) {k i:Nat} (hk:k<s.length) (h1:iT s k<=i) (h2:i<iT s (k+1)): ∃t,i=iT s k+t/\∃h:2*t+1<s[k].Xs.length,(aS s)[i]? =some ⟨s[k].Xs[2*t],s[k].Y0,s[k].Xs[2*t+1],s[k].Y1⟩:=by
 rw [xU hk] at h2
 have:=he _ (cM hk)
 refine⟨i - iT s k,by omega,by omega,?_⟩
 have h3:=H5 (t:=i - iT s k) hk (by omega)
 rwa [show iT s k+ (i - iT s k)=i by omega] at h3
theorem zL {s:List aA} (hc:eQ (s.map bY)) {p q:Nat} (hp:p<s.length) (hq:q<s.length) (h:p<q):s[p].Y1<=s[q].Y0:=by
 have:=mC.1 hc.ord p q (by simp;omega) (by simp;omega) h
 simp only [List.getElem_map] at this
 exact this.1
theorem zM {s:List aA} (hc:eQ (s.map bY)) {p:Nat} (hp:p<s.length):s[p].Y0<s[p].Y1:=(hc.each (bY s[p]) (dH.2 ⟨_,cM hp,rfl⟩)).1
theorem sd {s:List aA} (hc:eQ (s.map bY)): ∀b∈s,b.Xs.length % 2=0:=fun b hb=>(hc.each (bY b) (dH.2 ⟨b,hb,rfl⟩)).2.2.2
theorem E2 {s:List aA} (hc:eQ (s.map bY)): ∀b∈s,jm b.Xs:=fun b hb=>(hc.each (bY b) (dH.2 ⟨b,hb,rfl⟩)).2.2.1
theorem Df {s:List aA} (hc:eQ (s.map bY)) {i j q:Nat} (hq:q<s.length) (h1:iT s q<=j) (h2:j<iT s (q+1)) (ht:xv (aS s) i j): ∃hq0:0<q,s[q - 1].Y1=s[q].Y0/\iT s (q - 1)<=i/\i<iT s q:=by
 obtain⟨a,c,ha,hb,e1,e2,e3⟩:=ht
 obtain⟨t,e4,ht,hj⟩:=uQ (sd hc) hq h1 h2
 rw [hj] at hb;injection hb with hb;subst hb
 have hil:=(bA.1 ha).1
 obtain⟨p,hp,p1,p2⟩:=E1 hil
 obtain⟨u,e5,hu,hi⟩:=uQ (sd hc) hp p1 p2
 rw [hi] at ha;injection ha with ha;subst ha
 have e1:s[p].Y1=s[q].Y0:=e1
 have hpp:=zM hc hp
 have hqq:=zM hc hq
 have hpq:p+1=q:=by
  rcases Nat.lt_trichotomy p q with h | h | h
  ·by_cases h':p+1=q
   ·exact h'
   ·have h3:=zL hc hp (show p+1<s.length by omega) (by omega)
    have h4:=zL hc (show p+1<s.length by omega) hq (by omega)
    have h5:=zM hc (show p+1<s.length by omega)
    omega
  ·subst h;omega
  ·have:=zL hc hq hp h;omega
 subst hpq
 exact⟨by omega,e1,p1,p2⟩
structure PJ (all:List aI) (n:Nat) (up:List Int) (r:Nat->Nat) (E:List (Nat×Nat)):Prop where
 uf:UF n up r
 co:qt r E
 fi:zK n r E
 so: ∀p∈E,xv all p.1 p.2
theorem PJ.join {all:List aI} {n:Nat} {up up':List Int} {r:Nat->Nat} {E:List (Nat×Nat)} (h:PJ all n up r E) {i j:Nat} (hi:i<n) (hj:j<n) (hu:UF n up' (ot r (r i) (r j))) (ht:xv all i j):PJ all n up' (ot r (r i) (r j)) (E++[(i,j)]):=
 ⟨hu,h.co.join i j (h.uf.rr i hi),h.fi.join hi hj,fun p hp=>by
  rcases dA.1 hp with hp | hp
  ·exact h.so p hp
  ·simp at hp;subst hp;exact ht⟩
structure Joined (all:List aI) (r:Nat->Nat):Prop where
 le: ∀i,i<all.length->r i<=i
 rr: ∀i,i<all.length->r (r i)=r i
 co: ∀i j,xv all i j->r i=r j
 fi: ∀S:Nat->Prop,(∀i j,xv all i j->(S i↔S j))->∀i j,i<all.length->j<all.length->r i=r j->S i->S j
def ng (all:List aI) (n:Nat) (r:Nat->Nat) (h:Nat):List aI:=(cls n r h).filterMap (fun i=>all[i]?)
theorem zN (all:List aI) (n:Nat) (r:Nat->Nat) (h:Nat): (ng all n r h).length<=n:=by
 have h1:=List.length_filterMap_le (fun i=>all[i]?) (cls n r h)
 have h2:=yZ n r h
 unfold ng;omega
theorem uR {all:List aI} {n:Nat} {r:Nat->Nat} (h:Nat) {x:aI} (hx:all[n]? =some x):ng all (n+1) r h=if r n=h then ng all n r h++[x] else ng all n r h:=by
 unfold ng
 rw [ux]
 split
 ·rw [List.filterMap_append];simp [hx]
 ·rfl
theorem lA {all:List aI} {n:Nat} {r:Nat->Nat} {h:Nat} {x:aI}:x∈ng all n r h↔∃i,i<n/\r i=h/\all[i]? =some x:=by
 unfold ng cls
 rw [List.mem_filterMap]
 constructor
 ·rintro⟨i,hi,h⟩
  have:=jr.1 hi
  exact⟨i,qO.1 this.1,by simpa using this.2,h⟩
 ·rintro⟨i,h1,h2,h3⟩
  exact⟨i,jr.2 ⟨qO.2 h1,by simpa using h2⟩,h3⟩
structure qW (s:List aA) (r:Nat->Nat) (ps:List (List aA)):Prop where
 join:Joined (aS s) r
 len:ps.length= (bK (aS s).length r).length
 each: ∀(j h:Nat) (p:List aA),(bK (aS s).length r)[j]? =some h->ps[j]? =some p->r8 (ng (aS s) (aS s).length r h) p
def Mz (n:Nat) (r:Nat->Nat) (m:List (Int×Int)):Prop:=(∀(j k:Nat),(bK n r)[j]? =some k->jg m ((k:Nat):Int) 0= ((j:Nat):Int))/\∀k:Nat,tt m ((k:Nat):Int)=decide (k∈bK n r)
theorem Ej {s:List aA} {X Y:List Int} (hc:eQ (s.map bY)) (hl:v9 X Y (s.map bY)) (hX: ∀c∈X,small c) (hY: ∀c∈Y,small c) (h1:s.length<=1073741824) (h2: ∀b∈s,b.Xs.length<=1073741824) (h3: (aS s).length<=134217728) (hN:4398046511104<=N):
  Ok (lx N s) (fun ps=>∃r,qW s r ps):=by
 unfold lx
 have hev:=sd hc
 have hinc:=E2 hc
 refine Ok.eq (zG hev (by omega) (fun b hb=>by have:=h2 b hb;omega) (by omega)) ?_
 have hok:=zH hc hl hX hY
 have hall:iT s s.length= (aS s).length:=De s
 generalize hn: (aS s).length=n at *
 refine Ok.eq (qT 0 (by omega)) ?_
 rw [show ((List.replicate n (0:Int)).length)=n by simp]
 refine Ok.bind (Ok.nE (fun k up=>up.length=n/\∀i,i<k->up[i]? =some ((i:Nat):Int)) (by omega) ⟨by simp,fun i hi=>by omega⟩ (fun k up hk hI=>?_)) ?_
 ·obtain⟨hs,hi⟩:=hI
  refine Ok.idx (by omega) (Ok.ret ⟨by simp [hs],fun i hi'=>?_⟩)
  rw [cH,np (by omega)]
  split
  ·rename_i e;rw [e]
  ·exact hi i (by omega)
 rintro up0 ⟨hu1,hu2⟩
 refine Ok.bind (Ok.nE (fun k st=>st.2.1= ((iT s k:Nat):Int)/\(0<k->st.2.2= ((iT s (k - 1):Nat):Int))/\∃r E,PJ (aS s) n st.1 r E/\∀q,q<k->∀i j,iT s q<=j->j<iT s (q+1)->xv (aS s) i j->(i,j)∈E) (by omega)
  ⟨rfl,fun h=>by omega,_,_,⟨UF.init n up0 hu1 hu2,qt.id,zK.id n,fun p hp=>(by cases hp)⟩,fun q hq=>by omega⟩ (fun k st hk hI=>?_)) ?_
 ·obtain⟨up,a,b⟩:=st
  obtain⟨e1,e2,r,E,hP,hE⟩:=hI
  dsimp only at e1 e2 hP ⊢
  subst e1
  refine Ok.idx hk ?_
  have hoff:=xU hk
  have hoffle:iT s (k+1)<=n:=by rw [<-hall];exact xV hk
  have hkm:=cM hk
  have hlen:IntKind.wrap .i64 (Int.tdiv ((s[k].Xs.length:Nat):Int) 2)= ((s[k].Xs.length / 2:Nat):Int):=by
   have:=h2 _ hkm
   rw [show (2:Int)= ((2:Nat):Int) by rfl,<-Int.ofNat_tdiv,Da (by omega)]
  rw [hlen,wrap_add (by omega),<-hoff]
  refine Ok.bind (P:=fun c=>c=true↔∃h0:0<k,s[k - 1].Y1=s[k].Y0) ?_ (fun c hcc=>?_)
  ·refine Ok.bif (fun h=>?_) (fun h=>Ok.ret ?_)
   ·have hpos:0<k:=by have:=of_decide_eq_true h;omega
    rw [i5 hpos (by omega)]
    refine Ok.idx (by omega) (Ok.ret ?_)
    rw [beq_iff_eq]
    exact⟨fun h=>⟨hpos,h⟩,fun⟨_,h⟩=>h⟩
   ·have:=of_decide_eq_false h
    constructor
    ·intro h;cases h
    ·rintro⟨h0,_⟩;omega
  refine Ok.bind (P:=fun up'=>∃r E,PJ (aS s) n up' r E/\∀q,q<k+1->∀i j,iT s q<=j->j<iT s (q+1)->xv (aS s) i j->(i,j)∈E) ?_ (fun up' hI=>Ok.ret ⟨rfl,fun _=>rfl,hI⟩)
  refine Ok.bif (fun h=>?_) (fun h=>Ok.ret ⟨r,E,hP,fun q hq i j q1 q2 ht=>?_⟩)
  ·obtain⟨hpos,hyy⟩:=hcc.1 h
   rw [e2 hpos]
   have hoffp:=xU (show k - 1<s.length by omega)
   rw [show k - 1+1=k by omega] at hoffp
   refine Ok.bind (Ok.jz (Go:=fun st=>∃r E,PJ (aS s) n st.1 r E/\∀q,q<k+1->∀i j,iT s q<=j->j<iT s (q+1)->xv (aS s) i j->(i,j)∈E) (Rt:=fun _=>True)
    (fun st=>∃i j:Nat,st.2.1= ((i:Nat):Int)/\st.2.2= ((j:Nat):Int)/\iT s (k - 1)<=i/\i<=iT s k/\iT s k<=j/\j<=iT s (k+1)/\∃r E,PJ (aS s) n st.1 r E/\(∀q,q<k->∀i j,iT s q<=j->j<iT s (q+1)->xv (aS s) i j->(i,j)∈E)/\
     ∀i' j',iT s (k - 1)<=i'->i'<iT s k->iT s k<=j'->j'<iT s (k+1)->(i'<i\/j'<j)->xv (aS s) i' j'->(i',j')∈E)
    (fun st=>(n - st.2.1.toNat)+ (n - st.2.2.toNat)) ?_ ?_ (by simp only [cH];omega)) (fun o ho=>Ok.cs ho (fun st h=>Ok.ret h) (fun r=>r.elim))
   ·rintro⟨up,a,b⟩ ⟨i,j,e3,e4,i1,i2,j1,j2,r,E,hP,hE,hE2⟩
    dsimp only at e3 e4 hP ⊢
    subst e3;subst e4
    refine Ok.bif (fun h=>?_) (fun h=>Ok.br ?_)
    ·rw [bW,bQ,bQ] at h
     have hi:i<iT s k:=by omega
     have hj:j<iT s (k+1):=by omega
     obtain⟨t,et,_,hri⟩:=uQ hev (show k - 1<s.length by omega) i1 (by rw [show k - 1+1=k by omega];exact hi)
     obtain⟨u,eu,_,hrj⟩:=uQ hev hk j1 hj
     have xi:=hinc _ (cM (show k - 1<s.length by omega))
     have xj:=hinc _ hkm
     have farI: ∀i' a,i<i'->i'<iT s k->(aS s)[i']? =some a->s[k - 1].Xs[2*t+1]<a.X0:=fun i' a h4 h5 h6=>by
      obtain⟨t',et',ht',hr'⟩:=uQ hev (show k - 1<s.length by omega) (show iT s (k - 1)<=i' by omega) (by rw [show k - 1+1=k by omega];exact h5)
      rw [hr'] at h6;injection h6 with h6;subst h6
      exact xi.lt (show 2*t+1<2*t' by omega) (aN _) (aN _)
     have farJ: ∀j' a,j<j'->j'<iT s (k+1)->(aS s)[j']? =some a->s[k].Xs[2*u+1]<a.X0:=fun j' a h4 h5 h6=>by
      obtain⟨u',eu',hu',hr'⟩:=uQ hev hk (show iT s k<=j' by omega) h5
      rw [hr'] at h6;injection h6 with h6;subst h6
      exact xj.lt (show 2*u+1<2*u' by omega) (aN _) (aN _)
     refine Ok.bind (P:=fun c=>c=true↔xv (aS s) i j) ?_ (fun c hct=>?_)
     ·refine Ok.ix hri (Ok.ix hrj (Ok.bif (fun h=>Ok.ix hrj (Ok.ix hri (Ok.ret ?_))) (fun h=>Ok.ret ?_)))
      ·rw [bQ] at h ⊢
       constructor
       ·intro h';exact⟨_,_,hri,hrj,hyy,h,h'⟩
       ·rintro⟨a,c,ha,hc',_,_,h'⟩
        rw [hri] at ha;injection ha with ha;subst ha
        rw [hrj] at hc';injection hc' with hc';subst hc'
        exact h'
      ·constructor
       ·intro h;cases h
       ·rintro⟨a,c,ha,hc',_,h',_⟩
        rw [hri] at ha;injection ha with ha;subst ha
        rw [hrj] at hc';injection hc' with hc';subst hc'
        rw [decide_eq_false_iff_not] at h;exact absurd h' h
     refine Ok.bind (P:=fun up'=>∃r E',PJ (aS s) n up' r E'/\(∀p∈E,p∈E')/\(xv (aS s) i j->(i,j)∈E')) ?_ ?_
     ·refine Ok.bif (fun h=>?_) (fun h=>Ok.ret ⟨r,E,hP,fun p hp=>hp,fun ht=>by rw [hct.2 ht] at h;cases h⟩)
      obtain⟨up',u1,u2⟩:=G3 (N:=N) (f:=fun x=>some x) hP.uf (i:=i) (k:=j) (by omega) (by omega) (by omega)
      refine⟨up',u1,_,_,hP.join (by omega) (by omega) u2 (hct.1 h),fun p hp=>List.mem_append_left _ hp,fun _=>by simp⟩
     ·rintro up' ⟨r',E',hP',hsub,hij⟩
      refine Ok.ix hri (Ok.ix hrj ?_)
      dsimp only
      by_cases hx:s[k - 1].Xs[2*t+1]<s[k].Xs[2*u+1]
      ·rw [bR hx,aP]
       refine Ok.eq (x:=(((i+1:Nat):Int),((j:Nat):Int))) (by rw [bP (by omega)]) (Ok.nx ⟨⟨i+1,j,rfl,rfl,by omega,by omega,j1,j2,r',E',hP',fun q hq i j q1 q2 ht=>hsub _ (hE q hq i j q1 q2 ht),fun i' j' g1 g2 g3 g4 g5 ht=>?_⟩,by simp only [cH];omega⟩)
       by_cases h5:i'<i\/j'<j
       ·exact hsub _ (hE2 i' j' g1 g2 g3 g4 h5 ht)
       ·have:i'=i:=by omega
        subst this
        by_cases h6:j'=j
        ·subst h6;exact hij ht
        ·exfalso
         obtain⟨a,c,ha,hc',_,_,h'⟩:=ht
         rw [hri] at ha;injection ha with ha;subst ha
         have:=farJ j' c (by omega) g4 hc'
         dsimp only at h';omega
      ·rw [cC hx,aR]
       refine Ok.eq (x:=(((i:Nat):Int),((j+1:Nat):Int))) (by rw [bP (by omega)]) (Ok.nx ⟨⟨i,j+1,rfl,rfl,i1,i2,by omega,by omega,r',E',hP',fun q hq i j q1 q2 ht=>hsub _ (hE q hq i j q1 q2 ht),fun i' j' g1 g2 g3 g4 g5 ht=>?_⟩,by simp only [cH];omega⟩)
       by_cases h5:i'<i\/j'<j
       ·exact hsub _ (hE2 i' j' g1 g2 g3 g4 h5 ht)
       ·have:j'=j:=by omega
        subst this
        by_cases h6:i'=i
        ·subst h6;exact hij ht
        ·exfalso
         obtain⟨a,c,ha,hc',_,h',_⟩:=ht
         rw [hrj] at hc';injection hc' with hc';subst hc'
         have:=farI i' a (by omega) g2 ha
         dsimp only at h';omega
    ·refine⟨r,E,hP,fun q hq i' j' q1 q2 ht=>?_⟩
     by_cases hqk:q<k
     ·exact hE q hqk i' j' q1 q2 ht
     ·have:q=k:=by omega
      subst this
      obtain⟨_,_,g1,g2⟩:=Df hc hk q1 q2 ht
      refine hE2 i' j' g1 g2 q1 q2 ?_ ht
      rw [Bool.and_eq_false_iff,decide_eq_false_iff_not,decide_eq_false_iff_not] at h
      omega
   ·exact⟨iT s (k - 1),iT s k,rfl,rfl,bT _,xV (by omega),bT _,xV (by omega),r,E,hP,hE,fun i' j' g1 g2 g3 g4 g5=>by omega⟩
  ·by_cases hqk:q<k
   ·exact hE q hqk i j q1 q2 ht
   ·have:q=k:=by omega
    subst this
    obtain⟨g0,g1,_⟩:=Df hc hk q1 q2 ht
    rw [hcc.2 ⟨g0,g1⟩] at h;cases h
 ·rintro⟨up,a,b⟩ ⟨_,_,r,E,hP,hE⟩
  dsimp only at hP ⊢
  have hEq: ∀i j,xv (aS s) i j->(i,j)∈E:=fun i j ht=>by
   have hjl:j< (aS s).length:=by obtain⟨a,c,_,hb,_⟩:=ht;exact(bA.1 hb).1
   obtain⟨q,hq,q1,q2⟩:=E1 hjl
   exact hE q hq i j q1 q2 ht
  have hJ:Joined (aS s) r:=⟨by rw [hn];exact hP.uf.le,by rw [hn];exact hP.uf.rr,fun i j ht=>hP.co (i,j) (hEq i j ht),fun S hS i j hi hj=>by
   rw [hn] at hi hj
   exact hP.fi S (fun p hp=>hS p.1 p.2 (hP.so p hp)) i j hi hj⟩
  refine Ok.bind (Ok.nE (fun k st=>UF n st.1 r/\Mz k r st.2.1/\st.2.2= (bK k r).map (ng (aS s) k r)) (by omega) ⟨hP.uf,⟨fun j k hj=>by simp [bK] at hj,fun k=>rfl⟩,rfl⟩ (fun k st hk hI=>?_)) ?_
  ·obtain⟨l,m,ls⟩:=st
   obtain⟨hu,⟨hm1,hm2⟩,hs⟩:=hI
   dsimp only at hu hm1 hm2 hs ⊢
   subst hs
   have hkx: (aS s)[k]? =some ((aS s)[k]'(by omega)):=aN (by omega)
   refine Ok.ix hkx ?_
   obtain⟨u',a1,a2⟩:=B2 (N:=N) hu hk (by omega)
   refine Ok.eq a1 ?_
   dsimp only
   have hhl:=kZ k r
   have hrk:=hP.uf.le k hk
   have hrr:=hP.uf.rr k hk
   have hcl:=zN (aS s) k r (r k)
   have hmap: ((bK k r).map (ng (aS s) k r)).length= (bK k r).length:=by simp
   rw [hm2]
   by_cases e:r k=k
   ·have hnot:r k∉bK k r:=fun h=>by have:=(ja.1 h).1;omega
    refine Ok.eq (x:=(uZ m ((r k:Nat):Int) (((bK k r).length:Nat):Int),(bK k r).map (ng (aS s) k r)++[([]:List aI)],(((bK k r).length:Nat):Int))) ?_ ?_
    ·rw [cC hnot,nU,aP,kq (by simp;omega),aB,hmap]
    ·dsimp only
     have hi: ((bK k r).map (ng (aS s) k r)++[([]:List aI)])[(bK k r).length]? =some []:=by rw [<-hmap,gE (bT _),Nat.sub_self];rfl
     refine Ok.ix hi (Ok.app (by simp) (Ok.ix hi (Ok.ret ⟨a2,⟨fun j q hj=>?_,fun q=>?_⟩,?_⟩)))
     ·dsimp only
      rw [gm,aC e] at hj
      rw [xR]
      by_cases e2:j< (bK k r).length
      ·rw [gq e2] at hj
       have:=(ja.1 (eU hj)).1
       rw [aG (by omega)];exact hm1 j q hj
      ·rw [gE (by omega)] at hj
       have hj0:j - (bK k r).length=0:=by
        have:=(bA.1 hj).1;simp at this;omega
       rw [hj0] at hj;simp at hj;subst hj
       rw [aC (by rw [e])];congr 1;omega
     ·dsimp only
      rw [FF,hm2,gm,aC e,fc]
      rw [dK,bQ,bQ,bQ,dA,qP,e]
      constructor
      ·rintro(h | h)
       ·exact .inr (by omega)
       ·exact .inl h
      ·rintro(h | h)
       ·exact .inr h
       ·exact .inl (by omega)
     ·dsimp only
      rw [cH,<-hmap,List.set_append_right _ _ (bT _),Nat.sub_self,gm,aC e,dN]
      congr 1
      ·apply List.map_congr_left
       intro a ha
       have:=(ja.1 ha).1
       rw [uR a hkx,aG (by omega)]
      ·simp only [List.set_cons_zero,dX,List.map_nil,List.nil_append]
       rw [uR k hkx,aC e]
       have:ng (aS s) k r k= []:=by unfold ng;rw [E0 (fun i hi=>hP.uf.le i (by omega)) (bT _)];rfl
       rw [this];rfl
   ·have hh:r k∈bK k r:=ja.2 ⟨by omega,hrr⟩
    obtain⟨j,hj⟩:=dS hh
    refine Ok.eq (x:=(m,(bK k r).map (ng (aS s) k r),((j:Nat):Int))) ?_ ?_
    ·rw [bR hh,lT,aR,hm1 j (r k) hj]
    ·dsimp only
     have hi: ((bK k r).map (ng (aS s) k r))[j]? =some (ng (aS s) k r (r k)):=by rw [gr,hj];rfl
     refine Ok.ix hi (Ok.app (by simp;omega) (Ok.ix hi (Ok.ret ⟨a2,⟨fun j' q hj'=>?_,fun q=>?_⟩,?_⟩)))
     ·rw [gm,aG e] at hj';exact hm1 j' q hj'
     ·rw [gm,aG e];exact hm2 q
     ·dsimp only
      rw [cH,gm,aG e]
      have:=uy (ng (aS s) k r) (ng (aS s) (k+1) r) (bK k r) j (r k) (mw k r) hj (fun b hb hne=>by
       rw [uR b hkx,aG (fun h=>hne h.symm)])
      rw [uR (r k) hkx,aC rfl] at this
      exact this
  ·rintro⟨l,m,ls⟩ ⟨_,_,hs⟩
   dsimp only at hs ⊢
   subst hs
   have hhl:=kZ n r
   refine Ok.bind (Ok.nE (fun k ps=>ps.length=k/\∀(j h:Nat) (p:List aA),j<k->(bK n r)[j]? =some h->ps[j]? =some p->r8 (ng (aS s) n r h) p) (by simp;omega) ⟨rfl,fun j h p hj=>by omega⟩ (fun k ps hk hI=>?_)) ?_
   ·obtain⟨hp1,hp2⟩:=hI
    have hk':k< (bK n r).length:=by simpa using hk
    refine Ok.ix (x:=ng (aS s) n r (bK n r)[k]) (by rw [gr,aN hk'];rfl) ?_
    have hcl:=zN (aS s) n r (bK n r)[k]
    refine Ok.bind (oF (N:=N) (by omega) (fun x hx=>?_) (by omega)) ?_
    ·obtain⟨i,_,_,h⟩:=lA.1 hx
     exact(hok x (eU h)).1
    ·intro p hp
     refine Ok.app (by rw [hp1];simp;omega) (Ok.ret ⟨by simp [hp1],fun j h q hj hh hq=>?_⟩)
     by_cases hjk:j<k
     ·rw [gq (by omega)] at hq
      exact hp2 j h q hjk hh hq
     ·have:j=k:=by omega
      subst this
      rw [gE (by omega),hp1,Nat.sub_self] at hq
      simp at hq;subst hq
      rw [aN hk'] at hh;injection hh with hh;subst hh
      exact hp
   ·rintro ps ⟨hp1,hp2⟩
    refine Ok.ret ⟨r,hJ,?_,fun j h p hh hp=>?_⟩
    ·rw [hp1,hn];simp
    ·rw [hn] at hh ⊢
     exact hp2 j h p (by have:=(bA.1 hp).1;omega) hh hp
end
end Go.Gk
namespace Go.Gk
open Go
section
variable {N:Nat}
theorem w8 {n:Int} (h: -9223372036854775808<=n/\n<=9223372036854775807):IntKind.wrap .i64 n=n:=by rw [IntKind.wrap_i64];omega
def fF (n lo hi:Int):Bool:=decide (n>=lo)&&decide (n<=hi)
def lh (n:Int):Bool:=fF n (-1000000) 1000000
def qw (p:jc):Bool:=lh p.X&&lh p.Y
def fj (r:aI):Bool:=lh r.X0&&(lh r.Y0&&(lh r.X1&&lh r.Y1))
theorem zO (n:Int):lk N n=some (lh n):=rfl
theorem yp (p:jc):jK N p=some (qw p):=by
 unfold jK qw
 rw [zO,aB,zO]
 cases lh p.X <;> rfl
theorem yq (p:jc):fM N p=some (qw p):=by
 have e: ∀n,cR N n=some (lh n):=fun _=>rfl
 unfold fM qw
 rw [e,aB,e]
 cases lh p.X <;> rfl
theorem zP (r:aI):mF N r=some (fj r):=by
 unfold mF fj
 simp only [zO,aB]
 cases lh r.X0 <;> cases lh r.Y0 <;> cases lh r.X1 <;> rfl
theorem Dg {a b:Int} (h:a≠b):gW (N+4) [a,b]=some [a,b]:=by
 have e: (b==a)=false:=by rw [beq_eq_false_iff_ne];exact fun e=>h e.symm
 have w1:IntKind.wrap .i64 ((1:Int) - 1)=0:=by decide
 have w2:IntKind.wrap .i64 ((1:Int)+1)=2:=by decide
 unfold gW
 have e1:idx [a,b] 1=some b:=rfl
 have e2:idx [a,b] 0=some a:=rfl
 have l2: (([a,b]:List Int).length:Int)=2:=rfl
 rw [l2,show decide ((2:Int)<2)=false by decide,aR]
 rw [jz.eq_def]
 dsimp only
 rw [show decide ((1:Int)<2)=true by decide,aP,e1,aB,w1,e2,aB,e,aR,aB,w2]
 dsimp only
 rw [jz.eq_def]
 dsimp only
 rw [show decide ((2:Int)<2)=false by decide,aR,aB]
 rfl
theorem IE (x:Int):IntKind.wrap .i64 (x - x)=0:=by rw [Int.sub_self];decide
theorem FK {r:aI} (hx:r.X0<r.X1) (hy:r.Y0<r.Y1):ij (N+16) [r]=some [⟨r.Y0,r.Y1,[r.X0,r.X1]⟩]:=by
 have s1:wv (jQ (N+16)) [r]=some [r]:=A7 (by unfold jQ;rw [IE])
 have s2:wv (gX (N+16)) [r]=some [r]:=A7 (by unfold gX;rw [IE])
 have s3:tV [r.Y0,r.Y1]=some [r.Y0,r.Y1]:=AG (by simp;omega) (by simp)
 have c1:jt (N+16) [r]=some [r]:=rfl
 have f1: ∀φ,iE (N+16) [] φ=some []:=fun φ=>rfl
 have st:jB (N+16) [r]=some ([r.X0,r.X1],[r]):=by
  unfold jB
  rw [s2,aB]
  rfl
 have pu: ∀b:aA,b.Xs= [r.X0,r.X1]->b.Y0<b.Y1->jh (N+16) [] b=some [b]:=fun b h1 h2=>by
  unfold jh
  rw [h1,cC (show ¬b.Y1<=b.Y0 by omega)]
  rfl
 unfold ij
 rw [c1,aB,s1,aB]
 have ys: (nE ([r]:List aI).length (fun(k35:Nat) (s36: (List Int))=>((idx [r] (k35:Int)).bind fun x54=>(app 8 s36 ([x54.Y0,x54.Y1]: (List Int))).bind fun x58=>some x58:Option ((List Int)))) ([]: (List Int)))=some [r.Y0,r.Y1]:=rfl
 rw [ys,aB,s3,aB,Dg (N:=N+12) (by omega),aB]
 have l2: (([r.Y0,r.Y1]:List Int).length:Int)=2:=rfl
 have l1: (([r]:List aI).length:Int)=1:=rfl
 have w1:IntKind.wrap .i64 ((0:Int)+1)=1:=by decide
 have w2:IntKind.wrap .i64 ((1:Int)+1)=2:=by decide
 have i0:idx [r.Y0,r.Y1] 0=some r.Y0:=rfl
 have i1:idx [r.Y0,r.Y1] 1=some r.Y1:=rfl
 have j0:idx [r] 0=some r:=rfl
 have a1:app 32 ([]:List aI) [r]=some [r]:=rfl
 rw [l2,l1]
 rw [jz.eq_def]
 dsimp only
 rw [w1,show decide ((1:Int)<2)=true by decide,aP,f1,aB]
 rw [jz.eq_def]
 dsimp only
 rw [show decide ((0:Int)<1)=true by decide,aP,j0,aB,i0,aB,aB,show decide (r.Y0<=r.Y0)=true by simp,aP,aB,a1,aB,w1,aB]
 dsimp only
 rw [jz.eq_def]
 dsimp only
 rw [show decide ((1:Int)<1)=false by decide,aR,aB,aR,aB,aB]
 unfold Fo.cs
 dsimp only
 rw [aB,i1,aB,st,aB,pu _ rfl hy,aB,aB]
 dsimp only
 rw [jz.eq_def]
 dsimp only
 rw [w2,show decide ((2:Int)<2)=false by decide,aR,aB]
 rfl
theorem G4 {r:aI} (hx:r.X0<r.X1):l9 N [⟨r.Y0,r.Y1,[r.X0,r.X1]⟩]=some (fj r):=by
 have ar:mG N [⟨r.Y0,r.Y1,[r.X0,r.X1]⟩]=some r:=by
  have e1: (if r.X0<r.X0 then r.X0 else r.X0)=r.X0:=by split <;> rfl
  have e2: (if r.X1<r.X1 then r.X1 else r.X1)=r.X1:=by split <;> rfl
  show some ({X0:=(if r.X0<r.X0 then r.X0 else r.X0),Y0:=r.Y0,X1:=(if r.X1<r.X1 then r.X1 else r.X1),Y1:=r.Y1}:aI)=some r
  rw [e1,e2]
 unfold l9
 rw [ar,aB,zP]
 rfl
def tP (b:cD):aI:=⟨b.At.X - b.dE / 2,b.At.Y - b.dE / 2,b.At.X - b.dE / 2+b.dE,b.At.Y - b.dE / 2+b.dE⟩
def pB (b:cD):Bool:=fF b.dE 1 10000&&qw b.At
def lY (b:cD):aI×Int:=if pB b&&fj (tP b) then (tP b,0) else (⟨0,0,0,0⟩,1)
theorem qX {b:cD} (h:pB b=true): (1<=b.dE/\b.dE<=10000)/\(-1000000<=b.At.X/\b.At.X<=1000000)/\(-1000000<=b.At.Y/\b.At.Y<=1000000):=by
 simp only [pB,fF,qw,lh,bW,decide_eq_true_iff] at h
 omega
theorem mx {b:cD} (h:pB b=true):gp N b=some (tP b):=by
 obtain⟨h1,h2,h3⟩:=qX h
 have t:Int.tdiv b.dE 2=b.dE / 2:=Int.tdiv_eq_ediv_of_nonneg (by omega)
 unfold gp tP
 rw [t,w8 (n:=b.dE / 2) (by omega),w8 (n:=b.At.X - b.dE / 2) (by omega),w8 (n:=b.At.Y - b.dE / 2) (by omega),w8 (by omega),w8 (by omega)]
theorem sf {b:cD}:kC (N+16) b=some (lY b):=by
 have e0:fg (N+16) b.dE 1 10000=some (fF b.dE 1 10000):=rfl
 have e1: (bif (!(fF b.dE 1 10000)) then (some true) else (some (!(qw b.At))))=some (!pB b):=by unfold pB;cases fF b.dE 1 10000 <;> rfl
 unfold kC lY
 rw [e0,aB,yp,aB,e1,aB]
 cases hf:pB b with
 | false=>rfl
 | true=>
  obtain⟨h1,h2,h3⟩:=qX hf
  have hx: (tP b).X0< (tP b).X1:=by simp only [tP];omega
  have hy: (tP b).Y0< (tP b).Y1:=by simp only [tP];omega
  rw [lT,aR,mx hf,aB,FK hx hy,aB,G4 hx,aB]
  cases fj (tP b) <;> rfl
theorem FL:iM (N+16)=some true:=by
 unfold iM
 rw [sf,aB]
 rfl
end
end Go.Gk
namespace Go.Gk
open Go
section
variable {N:Nat}
def Dh (c:UInt8):Bool:=
 ((((decide (((c.toNat:Nat):Int)<65))||(decide (((c.toNat:Nat):Int)>90)))&&((decide (((c.toNat:Nat):Int)<97))||(decide (((c.toNat:Nat):Int)>122))))&&((decide (((c.toNat:Nat):Int)<48))||(decide (((c.toNat:Nat):Int)>57))))&&decide (Lib.indexByte [95,43,45,35] c<0)
def isWord (s:eG):Bool:= !s.cY.any Dh&&(decide (1<=s.cY.length)&&decide (s.cY.length<=40))
theorem sX (s:eG) (c:UInt8):gF N s ((c.toNat:Nat):Int)=some (Lib.indexByte s.cY c):=by
 show some (Lib.indexByte s.cY (Int.toNat ((c.toNat:Nat):Int)).toUInt8)=_
 rw [cH];simp
theorem Ek {R:Type} (b1:Bool) (c:UInt8) (r:R):
  ((bif b1 then ((gF N (⟨[95,43,45,35]⟩) ((c.toNat:Nat):Int)).bind fun x14=>some (decide (x14<0))) else (some false)).bind fun s12=>bif s12 then (some (.rt r)) else (some (.nx ())):Option (Fl Unit R))=some (if (b1&&decide (Lib.indexByte [95,43,45,35] c<0))=true then .rt r else .nx ()):=by
 rw [sX,aB]
 cases b1
 ·rfl
 ·rw [aP,aB,Bool.true_and]
  cases decide (Lib.indexByte [95,43,45,35] c<0) <;> rfl
theorem qY {s:eG} (h:s.cY.length<=1048576):ji N s=some (isWord s):=by
 unfold ji
 rw [HV Dh false (by omega) (fun k x hx=>by
  have hk:=(bA.1 hx).1
  have e:DT s ((k:Nat):Int)=some x:=by rw [C6 s k hk,<-aN hk,hx]
  rw [e,aB]
  exact Ek (R:=Bool) _ x false),aB]
 unfold isWord
 cases s.cY.any Dh
 ·simp only [Fo.cs,nU,Bool.true_and,Bool.false_eq_true,if_false,Option.some.injEq]
  rw [fc,bW,bW]
  simp only [bQ]
  omega
 ·simp [Fo.cs]
def cutAt (c:UInt8):List UInt8->List (List UInt8)
 | []=>[[]]
 | b::l=>if b==c then []::cutAt c l else match cutAt c l with | h::t=>(b::h)::t | []=>[[b]]
theorem zQ {c:UInt8}: ∀{l:List UInt8},c∉l->cutAt c l= [l]
 | [],_=>rfl
 | b::l,h=>by
  unfold cutAt
  have hb: (b==c)=false:=by rw [beq_eq_false_iff_ne];rintro rfl;exact h (by simp)
  rw [hb,zQ (fun h'=>h (by simp [h']))];rfl
theorem Di {c:UInt8}: ∀{a b:List UInt8},c∉a->cutAt c (a++c::b)=a::cutAt c b
 | [],b,_=>by rw [List.nil_append];show (if (c==c)=true then _ else _)=_;simp
 | x::a,b,h=>by
  have hb: (x==c)=false:=by rw [beq_eq_false_iff_ne];rintro rfl;exact h (by simp)
  have ih:=Di (c:=c) (a:=a) (b:=b) (fun h'=>h (by simp [h']))
  show (if (x==c)=true then []::cutAt c (a++c::b) else match cutAt c (a++c::b) with | h::t=>(x::h)::t | []=>[[x]])=_
  rw [hb,ih];rfl
theorem uz: ∀(l:List UInt8) (c:UInt8),(Lib.indexByte l c = -1/\c∉l)\/∃a b,l=a++c::b/\c∉a/\Lib.indexByte l c= ((a.length:Nat):Int)
 | [],c=> .inl ⟨rfl,by simp⟩
 | x::l,c=>by
  unfold Lib.indexByte
  by_cases hx:x=c
  ·subst hx;exact .inr ⟨[],l,rfl,by simp,by simp⟩
  ·have hb: (x==c)=false:=by rw [beq_eq_false_iff_ne];exact hx
   rcases uz l c with ⟨h1,h2⟩ | ⟨a,b,h1,h2,h3⟩
   ·left;rw [hb,h1];refine⟨by simp,?_⟩;simp [h2];exact fun h=>hx h.symm
   ·right
    refine⟨x::a,b,by rw [h1];rfl,by simp [h2];exact fun h=>hx h.symm,?_⟩
    rw [hb,h3]
    have: (((a.length:Nat):Int)== -1)=false:=by rw [beq_eq_false_iff_ne];omega
    rw [this];simp
theorem G5 (s:eG) (c:UInt8):lF N s ⟨[c]⟩=some (Lib.indexByte s.cY c):=by
 show (ko N s ⟨[c]⟩).bind _=_
 unfold ko
 by_cases h:eG.sA ⟨[c]⟩ s=true
 ·have:s= ⟨[c]⟩:=(BQ.1 h).symm
  subst this
  rw [h];simp [Lib.indexByte]
 ·rw [jI] at h
  rw [h]
  show ((iR N s ((c.toNat:Nat):Int)).bind _).bind _=_
  have:=sX (N:=N) s c
  simp only [gF] at this
  rw [this];rfl
theorem G6 (s:eG) (c:UInt8):mZ N s ⟨[c]⟩=some ((s.cY.count c:Nat):Int):=by
 unfold mZ
 show (some _:Option Int)=_
 simp [Lib.countByte]
theorem FM {s:eG} {k:Nat} (h:k<=s.cY.length):vE s 0 ((k:Nat):Int)=some ⟨s.cY.take k⟩:=by
 unfold vE;rw [aC ⟨by omega,by omega,by omega⟩]
 simp only [Int.toNat_zero,List.drop_zero,Int.sub_zero,cH]
theorem FN {s:eG} {k:Nat} (h:k<=s.cY.length):vE s ((k:Nat):Int) ((s.cY.length:Nat):Int)=some ⟨s.cY.drop k⟩:=by
 unfold vE;rw [aC ⟨by omega,by omega,by omega⟩]
 simp only [cH]
 rw [lj];rw [iA];omega
def nB (s:eG) (c:UInt8):List eG:=(cutAt c s.cY).map eG.mk
theorem Dj {s:eG} (c:UInt8) (h:s.cY.length<=1048576) (hN:4194304<=N):lG N s ⟨[c]⟩=some (nB s c):=by
 have hc:s.cY.count c<=s.cY.length:=List.count_le_length
 unfold lG mH
 rw [show ((-1:Int)==0)=false by decide,aR,show eG.sA ⟨[c]⟩ ⟨[]⟩=false by simp [eG.sA],aR,G6,aB]
 rw [eT (x:=((s.cY.count c:Nat):Int)+1) (by omega) (by omega),show decide ((-1:Int)<0)=true by decide,aP,aB]
 rw [eT (x:=((s.cY.length:Nat):Int)+1) (by omega) (by omega)]
 have e1: (if ((s.cY.length:Nat):Int)+1< ((s.cY.count c:Nat):Int)+1 then ((s.cY.length:Nat):Int)+1 else ((s.cY.count c:Nat):Int)+1)= ((s.cY.count c+1:Nat):Int):=by
  rw [aG (by omega)];omega
 rw [e1,qT _ (by omega),aB]
 rw [eT (x:=((s.cY.count c+1:Nat):Int) - 1) (by omega) (by omega)]
 have key:=wO (S:=eG×List eG×Int) (R:=Empty) (body:=(fun(s7:eG×(List eG)×Int)=>(bif (decide (s7.2.2< ((s.cY.count c+1:Nat):Int) - 1)) then ((lF N s7.1 ⟨[c]⟩).bind fun x23=>bif (decide (x23<0)) then (some (.br (s7.1,s7.2.1,s7.2.2))) else ((vE s7.1 0 (IntKind.wrap .i64 (x23+0))).bind fun x24=>(idx s7.2.1 s7.2.2).bind fun x25=>(vE s7.1 (IntKind.wrap .i64 (x23+ (((⟨[c]⟩:eG).cY.length:Nat):Int))) ((s7.1.cY.length:Nat):Int)).bind fun x27=>some (.nx (x27,(s7.2.1.set (Int.toNat s7.2.2) x24),(IntKind.wrap .i64 (s7.2.2+1)))))) else (some (.br (s7.1,s7.2.1,s7.2.2))):Option (Fl (eG×(List eG)×Int) Empty))))
  (fun st=>∃ws:List (List UInt8),st.2.2= ((ws.length:Nat):Int)/\cutAt c s.cY=ws++cutAt c st.1.cY/\ws.length+st.1.cY.count c=s.cY.count c/\st.1.cY.length<=s.cY.length/\st.2.1=ws.map eG.mk++List.replicate (s.cY.count c+1 - ws.length) ⟨[]⟩)
  (fun st=>s.cY.count c+1 - st.2.2.toNat)
  (fun st=>∃ws:List (List UInt8),st.2.2= ((ws.length:Nat):Int)/\cutAt c s.cY=ws++[st.1.cY]/\ws.length=s.cY.count c/\st.2.1=ws.map eG.mk++[⟨[]⟩])
  (fun _=>True) (by
   rintro⟨r,arr,i⟩ ⟨ws,h1,h2,h3,h4,h5⟩
   simp only at h1 h2 h3 h4 h5
   subst h1 h5
   by_cases hlt:ws.length<s.cY.count c
   ·have hd:decide (((ws.length:Nat):Int)< ((s.cY.count c+1:Nat):Int) - 1)=true:=by rw [bQ];omega
    simp only [hd,aP,G5,aB]
    rcases uz r.cY c with ⟨_,hn⟩ | ⟨a,b,hr,ha,hi⟩
    ·rw [List.count_eq_zero_of_not_mem hn] at h3;omega
    ·have hrl:r.cY.length=a.length+ (b.length+1):=by rw [hr];simp
     rw [hi,cC (by omega),aR]
     rw [show ((a.length:Nat):Int)+0= ((a.length:Nat):Int) by omega,eT (x:=((a.length:Nat):Int)) (by omega) (by omega),FM (by omega),aB]
     rw [kI _ _ (by simp;omega),aB]
     rw [show ((a.length:Nat):Int)+ (((⟨[c]⟩:eG).cY.length:Nat):Int)= ((a.length+1:Nat):Int) by simp,eT (x:=((a.length+1:Nat):Int)) (by omega) (by omega),FN (by omega),aB]
     refine⟨_,rfl,⟨ws++[a],?_,?_,?_,?_,?_⟩,?_⟩
     ·simp only;rw [eT (by omega) (by omega)];simp
     ·simp only
      rw [h2,hr,Di ha];simp
     ·simp only
      rw [hr] at h3 ⊢
      simp [List.count_eq_zero_of_not_mem ha] at h3 ⊢;omega
     ·simp;omega
     ·simp only [cH]
      rw [List.set_append_right _ _ (by simp)]
      simp only [cV,Nat.sub_self]
      obtain⟨d,hd'⟩: ∃d,s.cY.count c+1 - ws.length=d+1:=⟨s.cY.count c - ws.length,by omega⟩
      rw [hd',List.replicate_succ,List.set_cons_zero,show s.cY.count c+1 - (ws++[a]).length=d by simp;omega]
      simp [hr]
     ·simp only;rw [eT (by omega) (by omega)];omega
   ·have hd:decide (((ws.length:Nat):Int)< ((s.cY.count c+1:Nat):Int) - 1)=false:=by rw [decide_eq_false_iff_not];omega
    simp only [hd,aR]
    refine⟨_,rfl,ws,rfl,?_,by omega,?_⟩
    ·have h0:r.cY.count c=0:=by omega
     rw [h2,zQ (List.count_eq_zero.1 h0)]
    ·rw [show s.cY.count c+1 - ws.length=1 by omega];rfl)
  N (s,List.replicate (s.cY.count c+1) ⟨[]⟩,0) ⟨[],rfl,rfl,by simp,bT _,by simp⟩ (by simp only;omega)
 obtain⟨o,ho,hgo⟩:=key
 rw [ho,aB]
 cases o with
 | rt r=>exact r.elim
 | go st=>
  obtain⟨r,arr,i⟩:=st
  obtain⟨ws,h1,h2,h3,h4⟩:=hgo
  simp only at h1 h2 h3 h4
  subst h1 h4
  simp only [Fo.cs]
  rw [kI _ _ (by simp),aB,eT (by omega) (by omega)]
  rw [show ((ws.length:Nat):Int)+1= ((ws.length+1:Nat):Int) by omega,qf _ _ (by simp),aB,aB]
  unfold nB
  rw [h2]
  rw [cH,List.set_append_right _ _ (by simp),lj (by simp)]
  simp
def mW (s:eG):Bool:=decide (s.cY.length<=200)&&(nB s 47).all isWord
theorem uS {c:UInt8}: ∀{l x:List UInt8},x∈cutAt c l->x.length<=l.length
 | [],x,h=>by simp [cutAt] at h;subst h;simp
 | b::l,x,h=>by
  unfold cutAt at h
  split at h
  ·rcases dC.1 h with h | h
   ·subst h;simp
   ·have:=uS h;simp;omega
  ·split at h
   ·rename_i t e
    rcases dC.1 h with h | h
    ·subst h;have:=uS (c:=c) (l:=l) (by rw [e];exact List.mem_cons_self);simp;omega
    ·have:=uS (c:=c) (l:=l) (by rw [e];exact gU _ h);simp;omega
   ·simp at h;subst h;simp
theorem Bf (c:UInt8): ∀(l:List UInt8),(cutAt c l).length<=l.length+1
 | []=>by simp [cutAt]
 | b::l=>by
  have:=Bf c l
  unfold cutAt
  split
  ·simp;omega
  ·split
   ·rename_i e;rw [e] at this;simp at this ⊢;omega
   ·simp
theorem Bg {s x:eG} {c:UInt8} (h:x∈nB s c):x.cY.length<=s.cY.length:=by
 obtain⟨y,hy,rfl⟩:=dH.1 h
 exact uS hy
theorem Bh (s:eG) (c:UInt8): (nB s c).length<=s.cY.length+1:=by unfold nB;rw [cV];exact Bf c _
theorem w9 {s:eG} (h:s.cY.length<=1048576) (hN:4194304<=N):ma N s=some (mW s):=by
 unfold ma mW
 by_cases hl:s.cY.length<=200
 ·rw [bR (by omega),aP,Dj 47 h hN,aB]
  have e:=rJ (l:=nB s 47) (φ:=iG N) (fun x=> !isWord x) (by have:=Bh s 47;omega) (fun x hx=>by
   unfold iG
   rw [qY (by have:=Bg hx;omega)];rfl)
  have e2:iF N (nB s 47) (iG N)=rk (nB s 47) (iG N):=rfl
  rw [e2,e,aB,aB,bR hl,Bool.true_and]
  congr 1
  rw [fc]
  simp
 ·rw [cC (by omega),aR,aB,cC hl,Bool.false_and]
end
end Go.Gk
namespace Go.Gk
open Go Classical
section
variable {N:Nat}
theorem G7 {a b:aA} (h:bY a=bY b):a=b:=by cases a;cases b;unfold bY at h;simp at h;obtain⟨h1,h2,h3⟩:=h;subst h1;subst h2;subst h3;rfl
theorem xc: ∀{s t:List aA},s.map bY=t.map bY->s=t
 | [],[],_=>rfl
 | [],_::_,h=>by cases h
 | _::_,[],h=>by cases h
 | a::s,b::t,h=>by
  rw [dX,dX] at h
  injection h with h1 h2
  rw [G7 h1,xc h2]
theorem G8 {s t:List aA} (hs:eQ (s.map bY)) (ht:eQ (t.map bY)) (h: ∀x y,tO (s.map bY) x y=tO (t.map bY) x y):s=t:=xc (sV hs ht h)
theorem r8.unique {l:List aI} {s t:List aA} (hs:r8 l s) (ht:r8 l t):s=t:=G8 hs.can ht.can fun x y=>by rw [hs.cover,ht.cover]
theorem r8.Dk {l:List aI} {s:List aA} (h:r8 l s):s.length<=2*l.length/\(∀b∈s,b.Xs.length<=2*l.length)/\(aS s).length<=2*l.length* (2*l.length):=by
 have h1:s.length<=2*l.length:=by have:=h.lim.len h.can;rwa [cV,jo] at this
 have h2: ∀b∈s,b.Xs.length<=2*l.length:=fun b hb=>by
  have:=h.lim.row h.can (b:=bY b) (dH.2 ⟨b,hb,rfl⟩)
  rwa [lz] at this
 exact⟨h1,h2,zF h1 h2⟩
theorem uT {n:Int} (h:lh n=true): -1000000<=n/\n<=1000000:=by
 unfold lh fF at h
 rw [bW,bQ,bQ] at h;omega
theorem my {r:aI} (h:fj r=true): (-1000000<=r.X0/\r.X0<=1000000)/\(-1000000<=r.Y0/\r.Y0<=1000000)/\(-1000000<=r.X1/\r.X1<=1000000)/\(-1000000<=r.Y1/\r.Y1<=1000000):=by
 unfold fj at h
 simp only [bW] at h
 exact⟨uT h.1,uT h.2.1,uT h.2.2.1,uT h.2.2.2⟩
theorem zR {r:aI} (h: (-1000000<=r.X0/\r.X0<=1000000)/\(-1000000<=r.Y0/\r.Y0<=1000000)/\(-1000000<=r.X1/\r.X1<=1000000)/\(-1000000<=r.Y1/\r.Y1<=1000000)):fj r=true:=by
 unfold fj lh fF
 simp only [bW,bQ]
 omega
theorem B4 {r:aI} (h:fj r=true) (hx:r.X0<r.X1) (hy:r.Y0<r.Y1):Ar r:=by
 have:=my h
 refine⟨hx,hy,?_,?_,?_,?_⟩ <;> unfold small <;> omega
def kx (r:aI):Option Int:=if fj r=true then (if r.X1<=r.X0\/r.Y1<=r.Y0 then some 13 else none) else some 1
def k6 (l:List aI):Int:=if 2000<l.length then 2 else (l.findSome? kx).getD 0
theorem AJ {l:List aI} (hl:l.length<=4611686018427387904):kN N l=some (k6 l):=by
 unfold kN k6
 by_cases h:2000<l.length
 ·rw [bR (by omega),aP,aC h]
 ·rw [cC (by omega),aR,aG h,zo kx hl (fun k x hx=>by
   rw [dU hx,aB,zP,aB]
   unfold kx
   cases hr:fj x with
   | false=>rfl
   | true=>
    rw [lT,aR,aC rfl]
    by_cases h2:x.X1<=x.X0\/x.Y1<=x.Y0
    ·rw [aC h2,show (decide (x.X1<=x.X0)||decide (x.Y1<=x.Y0))=true by rw [dK,bQ,bQ];exact h2];rfl
    ·rw [aG h2,show (decide (x.X1<=x.X0)||decide (x.Y1<=x.Y0))=false by rw [<-jI,dK,bQ,bQ];exact h2];rfl),aB]
  cases l.findSome? kx <;> rfl
theorem xd {r:aI}:kx r=none↔fj r=true/\r.X0<r.X1/\r.Y0<r.Y1:=by
 unfold kx
 by_cases h:fj r=true
 ·rw [aC h]
  by_cases h2:r.X1<=r.X0\/r.Y1<=r.Y0
  ·rw [aC h2]
   constructor
   ·intro h;cases h
   ·rintro⟨_,h3,h4⟩;omega
  ·rw [aG h2]
   exact⟨fun _=>⟨h,by omega,by omega⟩,fun _=>rfl⟩
 ·rw [aG h]
  constructor
  ·intro h;cases h
  ·rintro⟨h3,_⟩;exact absurd h3 h
theorem Dl {r:aI} {e:Int} (h:kx r=some e):e≠0:=by
 unfold kx at h
 split at h
 ·split at h
  ·injection h with h;omega
  ·cases h
 ·injection h with h;omega
theorem oI {l:List aI}:k6 l=0↔l.length<=2000/\∀r∈l,fj r=true/\r.X0<r.X1/\r.Y0<r.Y1:=by
 unfold k6
 by_cases h:2000<l.length
 ·rw [aC h];constructor
  ·intro h;omega
  ·intro h;omega
 ·rw [aG h]
  cases hf:l.findSome? kx with
  | none=>
   rw [List.findSome?_eq_none_iff] at hf
   exact⟨fun _=>⟨by omega,fun r hr=>xd.1 (hf r hr)⟩,fun _=>rfl⟩
  | some e=>
   obtain⟨r,hr,he⟩:=List.exists_of_findSome?_eq_some hf
   constructor
   ·intro h0;exact absurd h0 (Dl he)
   ·rintro⟨_,h2⟩
    rw [xd.2 (h2 r hr)] at he;cases he
def Jp (l:List aI):Prop:=∀(k:Nat) a b,l[k]? =some a->l[k+1]? =some b->¬(b.Y0<a.Y0\/(b.Y0=a.Y0/\b.X0<=a.X0))
def zS (l:List aI):Prop:=∃s,r8 l s/\aS s=l
noncomputable def jJ (l:List aI):Int:=if k6 l≠0 then k6 l else if Jp l then (if zS l then 0 else 3) else 8
theorem zT {l:List aI} (h:k6 l=0):l.length<=2000/\∀r∈l,Ar r:=⟨(oI.1 h).1,fun r hr=>by have:=(oI.1 h).2 r hr;exact B4 this.1 this.2.1 this.2.2⟩
theorem El {l m:List aI} (hl:l.length<=4611686018427387904):km N l m=some (decide (l=m)):=by
 have:=A5 (l:=l) (m:=m) hl
 unfold Ec at this
 unfold km
 rw [show (decide (l=m)) = @decide (l=m) (instDecidableEqList l m) from decide_eq_decide.2 Iff.rfl]
 exact this
theorem uA {l:List aI} (hl:l.length<=1073741824) (hN:4398046511104<=N):ju N l=some (jJ l):=by
 refine Ok.get ?_
 unfold ju
 refine Ok.eq (AJ (by omega)) ?_
 unfold jJ
 refine Ok.bif (fun h=>Ok.ret ?_) (fun h=>?_)
 ·rw [aC (by simpa using h)]
 ·have h0:k6 l=0:=by simpa using h
  rw [aG (by simpa using h0)]
  obtain⟨hlen,hok⟩:=zT h0
  refine Ok.bind (Ok.jz (Go:=fun _=>Jp l) (Rt:=fun r=>r=8/\¬Jp l) (fun s=>∃k:Nat,s= ((k:Nat):Int)/\1<=k/\∀(j:Nat) a b,j+1<k->l[j]? =some a->l[j+1]? =some b->¬(b.Y0<a.Y0\/(b.Y0=a.Y0/\b.X0<=a.X0))) (fun s=>l.length - s.toNat) ?_ ⟨1,rfl,bT _,fun j a b hj=>by omega⟩ (by simp;omega)) ?_
  ·rintro s ⟨k,rfl,hk,hI⟩
   refine Ok.bif (fun h=>?_) (fun h=>Ok.br fun j a b ha hb=>hI j a b ?_ ha hb)
   ·have hk2:k<l.length:=by have:=of_decide_eq_true h;omega
    rw [i5 hk (by omega)]
    refine Ok.idx (by omega) (Ok.idx hk2 (Ok.bif (fun hb=>Ok.rt ⟨rfl,fun hu=>?_⟩) (fun hb=>Ok.nx ⟨⟨k+1,by rw [bP (by omega)],by omega,fun j a b hj ha hb'=>?_⟩,by rw [bP (by omega)];simp only [cH];omega⟩)))
    ·refine hu (k - 1) l[k - 1] l[k] (aN _) (by rw [show k - 1+1=k by omega];exact aN _) ?_
     rw [dK,bW,bQ,bQ,beq_iff_eq] at hb;exact hb
    ·by_cases e:j+1<k
     ·exact hI j a b e ha hb'
     ·have:j+1=k:=by omega
      subst this
      rw [aN (by omega)] at ha hb'
      injection ha with ha;injection hb' with hb'
      subst ha;subst hb'
      rw [<-jI,dK,bW,bQ,bQ,beq_iff_eq] at hb;exact hb
   ·have:=of_decide_eq_false h
    have:=(bA.1 hb).1;omega
  ·rintro o ho
   refine Ok.cs ho (fun s hu=>?_) (fun r hr=>Ok.ret (by rw [hr.1,aG hr.2]))
   rw [aC hu]
   refine Ok.bind (oF (N:=N) (by omega) hok (by omega)) ?_
   intro s hs
   obtain⟨z1,z2,z3⟩:=hs.Dk
   have z4:2*l.length* (2*l.length)<=4000*4000:=Nat.mul_le_mul (by omega) (by omega)
   refine Ok.eq (zG (sd hs.can) (by omega) (fun b hb=>by have:=z2 b hb;omega) (by omega)) (Ok.eq (El (by omega)) ?_)
   have hiff:zS l↔aS s=l:=⟨fun⟨t,h1,h2⟩=>by rw [hs.unique h1];exact h2,fun h=>⟨s,hs,h⟩⟩
   refine Ok.bif (fun h=>Ok.ret ?_) (fun h=>Ok.ret ?_)
   ·have h: ¬aS s=l:=by simpa using h
    rw [aG (fun h'=>h (hiff.1 h'))]
   ·have h:aS s=l:=by simpa using h
    rw [aC (hiff.2 h)]
theorem uB {l:List aI}:jJ l=0↔k6 l=0/\Jp l/\zS l:=by
 unfold jJ
 by_cases h:k6 l=0
 ·rw [aG (by simpa using h)]
  by_cases h2:Jp l
  ·rw [aC h2]
   by_cases h3:zS l
   ·rw [aC h3];exact⟨fun _=>⟨h,h2,h3⟩,fun _=>rfl⟩
   ·rw [aG h3];constructor
    ·intro h;omega
    ·rintro⟨_,_,h4⟩;exact absurd h4 h3
  ·rw [aG h2];constructor
   ·intro h;omega
   ·rintro⟨_,h4,_⟩;exact absurd h4 h2
 ·rw [aC h]
  constructor
  ·intro h2;exact absurd h2 h
  ·rintro⟨h2,_⟩;exact absurd h2 h
theorem vX (n lo hi:Int):fg N n lo hi=some (fF n lo hi):=rfl
theorem FO {b:cD} (hN:16<=N):kC N b=some (lY b):=by
 have:=sf (N:=N - 16) (b:=b)
 rwa [show N - 16+16=N by omega] at this
def lu (n:Nat) (b:cD):Option Int:=if (lY b).2≠0 then some (lY b).2 else if fF b.cN 0 (((n:Nat):Int) - 1)=true/\fF b.To b.cN (((n:Nat):Int) - 1)=true then none else some 1
def iU (a:ld):Int:=if 500<a.aO.length then 2 else (a.aO.findSome? (lu a.aJ.length)).getD 0
theorem AK {a:ld} (h1:a.aJ.length<=4611686018427387904) (h2:a.aO.length<=4611686018427387904) (hN:16<=N):kn N a=some (iU a):=by
 unfold kn iU
 by_cases h:500<a.aO.length
 ·rw [bR (by omega),aP,aC h]
 ·have hw:IntKind.wrap .i64 (((a.aJ.length:Nat):Int) - 1)= ((a.aJ.length:Nat):Int) - 1:=eT (by omega) (by omega)
  rw [cC (by omega),aR,aG h,zo (lu a.aJ.length) h2 (fun k x hx=>by
   rw [dU hx,aB,FO hN,aB]
   unfold lu
   by_cases h0: (lY x).2=0
   ·rw [aG (by simpa using h0),h0,show ((0:Int) != 0)=false by rfl,aR,hw,vX,aB,vX,aB]
    cases h3:fF x.cN 0 (((a.aJ.length:Nat):Int) - 1) <;> cases h4:fF x.To x.cN (((a.aJ.length:Nat):Int) - 1) <;> rfl
   ·rw [aC h0,show ((lY x).2 != 0)=true by simpa using h0];rfl),aB]
  cases a.aO.findSome? (lu a.aJ.length) <;> rfl
theorem Dm {b:cD} (h: (lY b).2=0):pB b=true/\fj (tP b)=true:=by
 unfold lY at h
 split at h
 ·rename_i h';rwa [bW] at h'
 ·cases h
theorem lL {a:ld} (h:iU a=0):a.aO.length<=500/\∀b∈a.aO,pB b=true/\fj (tP b)=true/\0<=b.cN/\b.cN<=b.To/\b.To< ((a.aJ.length:Nat):Int):=by
 unfold iU at h
 split at h
 ·omega
 ·refine⟨by omega,fun b hb=>?_⟩
  have hn:lu a.aJ.length b=none:=by
   cases hf:a.aO.findSome? (lu a.aJ.length) with
   | none=>exact List.findSome?_eq_none_iff.1 hf b hb
   | some e=>
    rw [hf] at h
    obtain⟨c,hc,he⟩:=List.exists_of_findSome?_eq_some hf
    have h:e=0:=h
    subst h
    unfold lu at he
    split at he
    ·rename_i h';injection he with he;exact absurd he h'
    ·split at he
     ·cases he
     ·injection he with he;omega
  unfold lu at hn
  split at hn
  ·cases hn
  ·rename_i h0
   split at hn
   ·rename_i h1
    have h0: (lY b).2=0:=by simpa using h0
    have:=Dm h0
    unfold fF at h1
    simp only [bW,bQ] at h1
    exact⟨this.1,this.2,by omega,by omega,by omega⟩
   ·cases hn
theorem IF {b:cD} (h1:pB b=true) (h2:fj (tP b)=true):Ar (tP b):=by
 have hf:=qX h1
 refine B4 h2 ?_ ?_
 ·show b.At.X - b.dE / 2<b.At.X - b.dE / 2+b.dE;omega
 ·show b.At.Y - b.dE / 2<b.At.Y - b.dE / 2+b.dE;omega
def kJ (p q:fk):Int:=if Lib.compareBytes p.Part.cY q.Part.cY≠0 then Lib.compareBytes p.Part.cY q.Part.cY else Lib.compareBytes p.fk.cY q.fk.cY
theorem yN (p q:fk):jD N p q=some (kJ p q):=by
 unfold jD kJ
 show (bif (Lib.compareBytes p.Part.cY q.Part.cY != 0) then _ else _)=_
 by_cases h:Lib.compareBytes p.Part.cY q.Part.cY=0
 ·rw [h,aG (by simp)];rfl
 ·rw [aC h,show (Lib.compareBytes p.Part.cY q.Part.cY != 0)=true by simpa using h];rfl
def mM (l:fK):fk:=⟨l.Part,l.fk⟩
theorem Bi (l:fK):mI N l=some (mM l):=rfl
def j6 (a:ld) (k:Nat):Option Int:=(a.bV[k]?).bind fun x=>
 if (mW x.Part&&isWord x.fk)=true then
  if (fF x.cU 0 (((a.aJ.length:Nat):Int) - 1)&&qw x.At)=true then
   if 0<k/\(∃y,a.bV[k - 1]? =some y/\kJ (mM x) (mM y)<=0) then some 8 else none
  else some 1
 else some 5
noncomputable def mz (a:ld):Int:=if 1000<a.bV.length then 2 else (u7 a.bV.length (j6 a)).getD 0
end
end Go.Gk
namespace Go.Gk
open Go Classical
section
variable {N:Nat}
def zU (a:ld):Prop:=∀x∈a.bV,x.Part.cY.length<=1048576/\x.fk.cY.length<=1048576
theorem AL {a:ld} (h1:a.aJ.length<=1073741824) (h2:a.bV.length<=1073741824) (h3:zU a) (hN:4194304<=N):kp N a=some (mz a):=by
 unfold kp mz
 by_cases h:1000<a.bV.length
 ·rw [bR (by omega),aP,aC h]
 ·have hw:IntKind.wrap .i64 (((a.aJ.length:Nat):Int) - 1)= ((a.aJ.length:Nat):Int) - 1:=eT (by omega) (by omega)
  rw [cC (by omega),aR,aG h,rI (j6 a) (by omega) (fun k hk _=>by
   have hx:a.bV[k]? =some a.bV[k]:=aN hk
   have hs:=h3 _ (cM hk)
   rw [dU hx,aB,w9 hs.1 hN,aB]
   have hle:j6 a k= (if (mW a.bV[k].Part&&isWord a.bV[k].fk)=true then
     if (fF a.bV[k].cU 0 (((a.aJ.length:Nat):Int) - 1)&&qw a.bV[k].At)=true then
      if 0<k/\(∃y,a.bV[k - 1]? =some y/\kJ (mM a.bV[k]) (mM y)<=0) then some 8 else none
     else some 1
    else some 5):=by unfold j6;rw [hx];rfl
   rw [hle]
   have e1: ((bif (!mW a.bV[k].Part) then (some true) else ((ji N a.bV[k].fk).bind fun x225=>some (!x225))):Option Bool)=some (!(mW a.bV[k].Part&&isWord a.bV[k].fk)):=by
    rw [qY hs.2,aB]
    cases mW a.bV[k].Part <;> rfl
   have e2: ((fg N a.bV[k].cU 0 (IntKind.wrap .i64 (((a.aJ.length:Nat):Int) - 1))).bind fun x318=>bif (!x318) then (some true) else ((jK N a.bV[k].At).bind fun x321=>some (!x321)))=some (!(fF a.bV[k].cU 0 (((a.aJ.length:Nat):Int) - 1)&&qw a.bV[k].At)):=by
    rw [hw,vX,aB,yp,aB]
    cases fF a.bV[k].cU 0 (((a.aJ.length:Nat):Int) - 1) <;> rfl
   show ((bif (!mW a.bV[k].Part) then (some true) else ((ji N a.bV[k].fk).bind fun x225=>some (!x225))):Option Bool).bind _=_
   rw [e1,aB]
   cases h4: (mW a.bV[k].Part&&isWord a.bV[k].fk) with
   | false=>rfl
   | true=>
    rw [lT,aR,aC rfl]
    show (((fg N a.bV[k].cU 0 (IntKind.wrap .i64 (((a.aJ.length:Nat):Int) - 1))).bind fun x318=>bif (!x318) then (some true) else ((jK N a.bV[k].At).bind fun x321=>some (!x321)))).bind _=_
    rw [e2,aB]
    cases h5: (fF a.bV[k].cU 0 (((a.aJ.length:Nat):Int) - 1)&&qw a.bV[k].At) with
    | false=>rfl
    | true=>
     rw [lT,aR,aC rfl]
     by_cases h0:0<k
     ·rw [bR (by omega),aP,i5 h0 (by omega),kI _ _ (by omega:k - 1<a.bV.length)]
      simp only [Bi,aB,yN]
      by_cases h6:kJ (mM a.bV[k]) (mM a.bV[k - 1])<=0
      ·rw [bR h6,aC ⟨h0,_,aN (by omega:k - 1<a.bV.length),h6⟩];rfl
      ·rw [cC h6,aG (by
        rintro⟨_,y,hy,h7⟩
        rw [aN (by omega:k - 1<a.bV.length)] at hy;injection hy with hy
        rw [<-hy] at h7;exact h6 h7)];rfl
     ·rw [cC (by omega),aG (fun h=>h0 h.1)];rfl),aB]
  cases u7 a.bV.length (j6 a) <;> rfl
def jG (b:cD) (k:Int):Bool:=decide (b.cN<=k)&&decide (k<=b.To)
theorem zV (b:cD) (k:Int):kQ N b k=some (jG b k):=rfl
def jL (bs:List cD) (k:Int):List aI:=(bs.filter (fun b=>jG b k)).map tP
structure kg (bs:List cD):Prop where
 len:bs.length<=500
 ok: ∀b∈bs,pB b=true/\fj (tP b)=true
structure sY (r hs:List aI) (s:List aA):Prop where
 can:eQ (s.map bY)
 cover: ∀x y,tO (s.map bY) x y= (rX r x y&& !rX hs x y)
 lim:v9 (r6 r++r6 hs) (je r++je hs) (s.map bY)
theorem xW {bs:List cD} (h:kg bs) (k:Int): (jL bs k).length<=500:=by
 unfold jL
 rw [cV]
 have:=ni (fun b=>jG b k) bs
 have:=h.len;omega
theorem qx {bs:List cD} (h:kg bs) (k:Int): ∀r∈jL bs k,Ar r/\fj r=true:=by
 intro r hr
 unfold jL at hr
 obtain⟨b,hb,rfl⟩:=dH.1 hr
 have:=h.ok b (jr.1 hb).1
 exact⟨IF this.1 this.2,this.2⟩
theorem sY.small {r hs:List aI} {s:List aA} (h:sY r hs s) (h1: ∀x∈r,Ar x) (h2: ∀x∈hs,Ar x): (∀c∈r6 r++r6 hs,small c)/\∀c∈je r++je hs,small c:=by
 constructor
 ·intro c hc
  rcases dA.1 hc with h | h
  ·obtain⟨x,hx,rfl | rfl⟩:=r7.1 h
   ·exact(h1 x hx).s1
   ·exact(h1 x hx).s2
  ·obtain⟨x,hx,rfl | rfl⟩:=r7.1 h
   ·exact(h2 x hx).s1
   ·exact(h2 x hx).s2
 ·intro c hc
  rcases dA.1 hc with h | h
  ·obtain⟨x,hx,rfl | rfl⟩:=kY.1 h
   ·exact(h1 x hx).s3
   ·exact(h1 x hx).s4
  ·obtain⟨x,hx,rfl | rfl⟩:=kY.1 h
   ·exact(h2 x hx).s3
   ·exact(h2 x hx).s4
theorem uU {s:List aA} {X Y:List Int} {A:Nat} (hc:eQ (s.map bY)) (h:v9 X Y (s.map bY)) (hX:X.length<=A) (hY:Y.length<=A):s.length<=A/\(∀b∈s,b.Xs.length<=A)/\(aS s).length<=A*A:=by
 have h1:s.length<=A:=by have:=h.len hc;rw [cV] at this;omega
 have h2: ∀b∈s,b.Xs.length<=A:=fun b hb=>by
  have:=h.row hc (b:=bY b) (dH.2 ⟨b,hb,rfl⟩)
  have e: (bY b).xs=b.Xs:=rfl
  rw [e] at this;omega
 exact⟨h1,h2,zF h1 h2⟩
theorem AM {r hs:List aI} (h1:r.length<=2000) (h2: ∀x∈r,Ar x) (h3:hs.length<=500) (h4: ∀x∈hs,Ar x) (hN:4398046511104<=N) {β:Type} {f:List aA->Option β} {Q:β->Prop} (k: ∀s,sY r hs s->Ok (f s) Q):
  Ok ((ij N r).bind fun x378=>(ij N hs).bind fun x380=>(kR N x378 x380).bind f) Q:=by
 refine Ok.bind (oF (N:=N) (by omega) h2 (by omega)) (fun s hs1=>?_)
 refine Ok.bind (oF (N:=N) (by omega) h4 (by omega)) (fun t ht=>?_)
 have hz: ∀c∈je r++je hs,small c:=by
  intro c hc
  rcases dA.1 hc with h | h
  ·obtain⟨x,hx,rfl | rfl⟩:=kY.1 h
   ·exact(h2 x hx).s3
   ·exact(h2 x hx).s4
  ·obtain⟨x,hx,rfl | rfl⟩:=kY.1 h
   ·exact(h4 x hx).s3
   ·exact(h4 x hx).s4
 refine Ok.bind (FJ (X:=r6 r++r6 hs) (Y:=je r++je hs) hs1.can ht.can (hs1.lim.mono (fun c h=>List.mem_append_left _ h) (fun c h=>List.mem_append_left _ h)) (ht.lim.mono (fun c h=>List.mem_append_right _ h) (fun c h=>List.mem_append_right _ h))
  (by rw [cZ,lz,lz];omega) (by rw [cZ,jo,jo];omega) hz hN) (fun u hu=>?_)
 exact k u ⟨hu.can,fun x y=>by rw [hu.cover,hs1.cover,ht.cover],hu.lim⟩
def eJ:Nat->List (List (List aA))->List aK
 | _,[]=>[]
 | k,ps::r=>ps.map (fun p=>⟨((k:Nat):Int),p,aS p⟩)++eJ (k+1) r
theorem sZ (ps:List (List aA)): ∀(r:List (List (List aA))) (k:Nat),eJ k (r++[ps])=eJ k r++ps.map (fun p=>⟨((k+r.length:Nat):Int),p,aS p⟩)
 | [],k=>by unfold eJ;simp [eJ]
 | q::r,k=>by
  show _++eJ (k+1) (r++[ps])= (_++eJ (k+1) r)++_
  rw [sZ ps r (k+1),kh]
  congr 3
  simp only [dP]
  rw [show k+ (r.length+1)=k+1+r.length by omega]
theorem zW {s p:List aA} {ps:List (List aA)} {r:Nat->Nat} {X Y:List Int} (h:qW s r ps) (hc:eQ (s.map bY)) (hl:v9 X Y (s.map bY)) (hX: ∀c∈X,small c) (hY: ∀c∈Y,small c) (hp:p∈ps):
  ∃j k:Nat,ps[j]? =some p/\(bK (aS s).length r)[j]? =some k/\r8 (ng (aS s) (aS s).length r k) p/\v9 X Y (p.map bY):=by
 obtain⟨j,hj⟩:=dS hp
 have hjl:=(bA.1 hj).1
 rw [h.len] at hjl
 have hh: (bK (aS s).length r)[j]? =some (bK (aS s).length r)[j]:=aN hjl
 have hs:=h.each j _ p hh hj
 refine⟨j,_,hj,hh,hs,hs.lim.mono (fun c hcx=>?_) (fun c hcx=>?_)⟩
 ·obtain⟨x,hx,hxc⟩:=r7.1 hcx
  obtain⟨i,_,_,hi⟩:=lA.1 hx
  have:=zH hc hl hX hY x (eU hi)
  rcases hxc with rfl | rfl
  ·exact this.2.1.1
  ·exact this.2.1.2
 ·obtain⟨x,hx,hxc⟩:=kY.1 hcx
  obtain⟨i,_,_,hi⟩:=lA.1 hx
  have:=zH hc hl hX hY x (eU hi)
  rcases hxc with rfl | rfl
  ·exact this.2.2.1
  ·exact this.2.2.2
structure vY (cs:List (List aI)) (bs:List cD) (k:Nat) (mY:List (List aA)) (gI:List (List (List aA))):Prop where
 len:mY.length=k
 yO:gI.length=k
 dr: ∀(i:Nat) r s,i<k->cs[i]? =some r->mY[i]? =some s->sY r (jL bs ((i:Nat):Int)) s
 pt: ∀(i:Nat) s ps,i<k->mY[i]? =some s->gI[i]? =some ps->∃u,qW s u ps
 yP: (eJ 0 gI).length<=k*25000000
theorem qW.yP {s:List aA} {u:Nat->Nat} {ps:List (List aA)} (h:qW s u ps):ps.length<=(aS s).length:=by
 rw [h.len];exact kZ _ _
theorem Em {cs:List (List aI)} {bs:List cD} (hcs:cs.length<=16) (hc: ∀r∈cs,r.length<=2000/\∀x∈r,Ar x) (hb:kg bs) (hN:4398046511104<=N):
  Ok (jR N cs bs [] []) (fun x=>∃gI,vY cs bs cs.length x.2.1 gI/\x.2.2=eJ 0 gI/\(x.1=true↔(∀s∈x.2.1,(aS s).length<=2000)/\x.2.2.length<=2000)):=by
 unfold jR
 refine Ok.bind (P:=fun(st:List (List aA)×List aK×Bool)=>∃gI,vY cs bs cs.length st.1 gI/\st.2.1=eJ 0 gI/\(st.2.2=true↔∀s∈st.1,(aS s).length<=2000)) (Ok.nE (fun(k:Nat) (st:List (List aA)×List aK×Bool)=>∃gI,vY cs bs k st.1 gI/\st.2.1=eJ 0 gI/\(st.2.2=true↔∀s∈st.1,(aS s).length<=2000)) (by omega)
  ⟨[],⟨rfl,rfl,fun i r s hi=>by omega,fun i s ps hi=>by omega,by simp [eJ]⟩,rfl,by simp⟩ (fun k st hk hI=>?_)) ?_
 ·obtain⟨mY,pcs,okk⟩:=st
  obtain⟨gI,D,e1,e2⟩:=hI
  dsimp only at D e1 e2 ⊢
  subst e1
  have hkx:cs[k]? =some cs[k]:=aN hk
  obtain⟨hr1,hr2⟩:=hc _ (cM hk)
  refine Ok.ix hkx ?_
  refine Ok.bind (P:=fun t=>t=jL bs ((k:Nat):Int)) (Ok.mono (Ok.nE (fun j t=>t=jL (bs.take j) ((k:Nat):Int)) (by have:=hb.len;omega) rfl (fun j t hj e=>?_)) (fun t e=>by rw [e,eO])) (fun t e=>?_)
  ·subst e
   refine Ok.idx hj (Ok.eq (zV _ _) ?_)
   have hts:bs.take (j+1)=bs.take j++[bs[j]]:=eF hj
   have hgb:=hb.ok _ (cM hj)
   have hl: (jL (bs.take j) ((k:Nat):Int)).length<=500:=by
    unfold jL
    rw [cV]
    have:=ni (fun b=>jG b ((k:Nat):Int)) (bs.take j)
    rw [cL] at this
    have:=hb.len;omega
   cases ht:jG bs[j] ((k:Nat):Int) with
   | false=>
    rw [aR]
    refine Ok.eq rfl (Ok.ret ?_)
    unfold jL
    rw [hts,ki];simp [ht]
   | true=>
    rw [aP]
    refine Ok.eq (x:=jL (bs.take j) ((k:Nat):Int)++[tP bs[j]]) (by rw [mx hgb.1,aB,kq (by simp;omega),aB]) (Ok.ret ?_)
    unfold jL
    rw [hts,ki,dN];simp [ht]
  ·subst e
   have hho:=qx hb ((k:Nat):Int)
   have hhl:=xW hb ((k:Nat):Int)
   refine AM hr1 hr2 hhl (fun x hx=>(hho x hx).1) hN (fun s hs=>?_)
   obtain⟨sx,sy⟩:=hs.small hr2 (fun x hx=>(hho x hx).1)
   obtain⟨z1,z2,z3⟩:=uU (A:=5000) hs.can hs.lim (by rw [cZ,lz,lz];omega) (by rw [cZ,jo,jo];omega)
   have hmany:=H2 (N:=N) (s:=s) (by omega) (fun b hb=>by have:=z2 b hb;omega) (by omega)
   refine Ok.eq (x:=(okk&&decide ((aS s).length<=2000),s)) ?_ ?_
   ·cases okk with
    | false=>rfl
    | true=>
     rw [aP,hmany,aB,Bool.true_and]
     rw [show decide ((((aS s).length:Nat):Int)<=2000)=decide ((aS s).length<=2000) from decide_eq_decide.2 (by omega)]
   dsimp only
   refine Ok.app (by rw [D.len];simp;omega) ?_
   refine Ok.bind (Ej (N:=N) hs.can hs.lim sx sy (by omega) (fun b hb=>by have:=z2 b hb;omega) (by omega) hN) ?_
   rintro ps ⟨u,hu⟩
   have hfew:=hu.yP
   have hk16:k*25000000<=16*25000000:=Nat.mul_le_mul_right _ (by omega)
   have hDf:=D.yP
   refine Ok.bind (P:=fun t=>t=eJ 0 gI++ps.map (fun p=>(⟨((k:Nat):Int),p,aS p⟩:aK))) (Ok.mono (Ok.nE (fun j t=>t=eJ 0 gI++(ps.take j).map (fun p=>(⟨((k:Nat):Int),p,aS p⟩:aK))) (by omega) (by simp) (fun j t hj e=>?_)) (fun t e=>by rw [e,eO])) (fun t e=>Ok.ret ?_)
   ·subst e
    have hjx:ps[j]? =some ps[j]:=aN hj
    refine Ok.ix hjx ?_
    obtain⟨_,_,_,_,mD,hpl⟩:=zW hu hs.can hs.lim sx sy (cM hj)
    obtain⟨y1,y2,y3⟩:=uU (A:=5000) mD.can hpl (by rw [cZ,lz,lz];omega) (by rw [cZ,jo,jo];omega)
    refine Ok.eq (zG (sd mD.can) (by omega) (fun b hb=>by have:=y2 b hb;omega) (by omega)) (Ok.app ?_ (Ok.ret ?_))
    ·simp only [cZ,cV,cL,List.length_singleton];omega
    ·rw [eF hj,dN,kh];rfl
   ·subst e
    refine⟨gI++[ps],⟨by simp [D.len],by simp [D.yO],fun i r s' hi hr hs'=>?_,fun i s' ps' hi hs' hps'=>?_,?_⟩,?_,?_⟩
    ·dsimp only at hs'
     by_cases hik:i<k
     ·rw [gq (by rw [D.len];exact hik)] at hs'
      exact D.dr i r s' hik hr hs'
     ·have:i=k:=by omega
      subst this
      rw [gE (by rw [D.len];omega),D.len,Nat.sub_self] at hs'
      simp at hs';subst hs'
      rw [hkx] at hr;injection hr with hr;subst hr
      exact hs
    ·dsimp only at hs'
     by_cases hik:i<k
     ·rw [gq (by rw [D.len];exact hik)] at hs'
      rw [gq (by rw [D.yO];exact hik)] at hps'
      exact D.pt i s' ps' hik hs' hps'
     ·have:i=k:=by omega
      subst this
      rw [gE (by rw [D.len];omega),D.len,Nat.sub_self] at hs'
      rw [gE (by rw [D.yO];omega),D.yO,Nat.sub_self] at hps'
      simp at hs' hps';subst hs';subst hps'
      exact⟨u,hu⟩
    ·rw [sZ,cZ,cV];omega
    ·dsimp only
     rw [sZ,D.yO,iB]
    ·dsimp only
     rw [bW,e2,bQ]
     constructor
     ·rintro⟨h1,h2⟩ s' hs'
      rcases dA.1 hs' with h | h
      ·exact h1 s' h
      ·simp at h;subst h;exact h2
     ·intro h
      exact⟨fun s' hs'=>h s' (List.mem_append_left _ hs'),h s (by simp)⟩
 ·rintro⟨mY,pcs,okk⟩ ⟨gI,D,e1,e2⟩
  dsimp only at D e1 e2 ⊢
  subst e1
  refine Ok.bind (P:=fun b=>b=true↔(∀s∈mY,(aS s).length<=2000)/\(eJ 0 gI).length<=2000) (Ok.bif (fun h=>Ok.ret ?_) (fun h=>Ok.ret ?_)) (fun b hb=>Ok.ret ⟨gI,D,rfl,hb⟩)
  ·rw [bQ]
   constructor
   ·intro h';exact⟨e2.1 h,by omega⟩
   ·rintro⟨_,h'⟩;omega
  ·constructor
   ·intro h';cases h'
   ·rintro⟨h',_⟩;rw [e2.2 h'] at h;cases h
end
end Go.Gk
namespace Go.Gk
open Go Classical
section
variable {N:Nat}
section
variable {α:Type}
def nP (P:α->Bool) (l:List α) (n:Nat):List Nat:=(List.range n).filter (fun k=>(l[k]?).any P)
theorem vZ {P:α->Bool} {l:List α} {n:Nat} {x:α} (h:l[n]? =some x):nP P l (n+1)=if P x=true then nP P l n++[n] else nP P l n:=by
 unfold nP
 rw [List.range_succ,ki]
 by_cases hp:P x=true
 ·rw [aC hp];simp [h,hp]
 ·rw [aG hp];simp [h,hp]
theorem xX (P:α->Bool) (l:List α) (n:Nat): (nP P l n).length<=n:=by
 have:=ni (fun k=>(l[k]?).any P) (List.range n)
 rw [List.length_range] at this;exact this
theorem FP {P:α->Bool} {l:List α} {n k:Nat}:k∈nP P l n↔k<n/\(l[k]?).any P=true:=by unfold nP;simp
theorem xe {β:Type} {l:List α} (P:α->Bool) (g:Nat->β):u7 l.length (fun k=>(l[k]?).bind fun x=>if P x=true then some (g k) else none)= (l.findIdx? P).map g:=by
 cases h:l.findIdx? P with
 | none=>
  rw [List.findIdx?_eq_none_iff] at h
  refine nK.2 fun k hk=>?_
  rw [aN hk]
  have:=h _ (cM hk)
  simp [this]
 | some j=>
  obtain⟨hj,hp,hn⟩:=List.findIdx?_eq_some_iff_getElem.1 h
  refine oE.2 ⟨j,hj,by rw [aN hj];simp [hp],fun i hi=>?_⟩
  rw [aN (by omega)]
  have:=hn i hi
  simp [this]
end
def ints (l:List Nat):List Int:=l.map fun i=>((i:Nat):Int)
theorem o0 (l m:List Nat):ints (l++m)=ints l++ints m:=dN
theorem k7 (l:List Nat): (ints l).length=l.length:=cV _
theorem o4 {l:List Nat} {x:Int}:x∈ints l↔∃i∈l,x= ((i:Nat):Int):=by
 unfold ints;rw [dH]
 constructor
 ·rintro⟨i,h1,h2⟩;exact⟨i,h1,h2.symm⟩
 ·rintro⟨i,h1,h2⟩;exact⟨i,h1,h2.symm⟩
def pO (p0 p1:aI):Bool:=((((decide (p0.X0<p1.X1))&&(decide (p1.X0<p0.X1)))&&((p0.Y1==p1.Y0)||(p1.Y1==p0.Y0)))||(((decide (p0.Y0<p1.Y1))&&(decide (p1.Y0<p0.Y1)))&&((p0.X1==p1.X0)||(p1.X1==p0.X0))))
def gS (b:cD) (p:aK):Bool:=b.fJ&&(jG b p.cU&&p.gM.any (fun r=>pO r (tP b)))
def iV (bs:List cD) (pcs:List aK):List (List Int):=bs.map fun b=>ints (nP (gS b) pcs pcs.length)
theorem qZ {l:List aI} {φ:aI->Option Bool} (p:aI->Bool) (hl:l.length<=4611686018427387904) (h: ∀x∈l,φ x=some (p x)):gN N l φ=some (l.any p):=
 rJ p hl h
theorem G9 {bs:List cD} {pcs:List aK} (hb:kg bs) (hp:pcs.length<=1073741824) (hr: ∀p∈pcs,p.gM.length<=1073741824):jS N bs pcs []=some (iV bs pcs):=by
 refine Ok.get ?_
 have hbl:=hb.len
 unfold jS
 refine Ok.bind (Ok.nE (fun k st=>st=iV (bs.take k) pcs) (by omega) rfl (fun k st hk e=>?_)) (fun st e=>Ok.ret (by rw [e,eO]))
 subst e
 have hg:=hb.ok _ (cM hk)
 refine Ok.idx hk ?_
 refine Ok.bind (P:=fun t=>t=ints (nP (gS bs[k]) pcs pcs.length)) (Ok.nE (fun j t=>t=ints (nP (gS bs[k]) pcs j)) (by omega) rfl (fun j t hj e=>?_)) (fun t e=>?_)
 ·subst e
  have hjx:pcs[j]? =some pcs[j]:=aN hj
  have hl:=xX (gS bs[k]) pcs j
  refine Ok.ix hjx ?_
  refine Ok.eq (x:=gS bs[k] pcs[j]) ?_ ?_
  ·unfold gS
   cases bs[k].fJ with
   | false=>rfl
   | true=>
    rw [aP,zV,aB,Bool.true_and]
    cases jG bs[k] pcs[j].cU with
    | false=>rfl
    | true=>
     rw [aP,qZ (fun r=>pO r (tP bs[k])) (by have:=hr _ (cM hj);omega) (fun r _=>by
      unfold j4;rw [mx hg.1];rfl),aB,Bool.true_and]
  ·rw [vZ hjx]
   cases ht:gS bs[k] pcs[j] with
   | false=>rw [aR,aG (by simp)];exact Ok.eq rfl (Ok.ret rfl)
   | true=>
    rw [aP,aC rfl]
    refine Ok.eq (x:=ints (nP (gS bs[k]) pcs j)++[((j:Nat):Int)]) (by rw [kq (by rw [k7];simp;omega),aB]) (Ok.ret ?_)
    rw [o0];rfl
 ·subst e
  refine Ok.app ?_ (Ok.ret ?_)
  ·unfold iV;simp;omega
  ·unfold iV
   rw [eF hk,dN];rfl
def yr (r:List aI) (p:jc):Bool:=r.any (fun x=>decide (p.X>=x.X0)&&(decide (p.X<x.X1)&&(decide (p.Y>=x.Y0)&&decide (p.Y<x.Y1))))
theorem xf {r:List aI} {p:jc} (hl:r.length<=4611686018427387904):ke N r p=some (yr r p):=by
 unfold ke
 rw [qZ (fun x=>decide (p.X>=x.X0)&&(decide (p.X<x.X1)&&(decide (p.Y>=x.Y0)&&decide (p.Y<x.Y1)))) hl (fun x _=>by
  unfold ll
  cases decide (p.X>=x.X0) <;> cases decide (p.X<x.X1) <;> cases decide (p.Y>=x.Y0) <;> rfl)];rfl
def k8 (l:fK) (b:cD):Bool:=b.fJ&&(jG b l.cU&&yr [tP b] l.At)
def ky (l:fK) (p:aK):Bool:=(p.cU==l.cU)&&yr p.gM l.At
def yQ (bs:List cD) (pcs:List aK) (l:fK):Option j9:=match bs.findIdx? (k8 l) with
 | some k=>some ⟨true,((k:Nat):Int)⟩
 | none=>(pcs.findIdx? (ky l)).map fun k=>⟨false,((k:Nat):Int)⟩
theorem Ha {bs:List cD} {pcs:List aK} (hb:kg bs) (hp:pcs.length<=1073741824) (hr: ∀p∈pcs,p.gM.length<=1073741824) (l:fK):
  jU N bs pcs l=some ((yQ bs pcs l).getD ⟨false,0⟩,(yQ bs pcs l).isSome):=by
 have hbl:=hb.len
 unfold jU
 rw [rI (fun k=>(bs[k]?).bind fun x=>if k8 l x=true then some ((⟨true,((k:Nat):Int)⟩:j9),true) else none) (by omega) (fun k hk _=>by
  have hkx:bs[k]? =some bs[k]:=aN hk
  have hg:=hb.ok _ (cM hk)
  rw [dU hkx,aB,hkx,mx hg.1,aB,aB,xf (by simp)]
  unfold k8
  cases bs[k].fJ with
  | false=>rfl
  | true=>
   show (((bif jG bs[k] l.cU then _ else _:Option Bool)).bind _)=_
   cases jG bs[k] l.cU with
   | false=>rfl
   | true=>
    cases yr [tP bs[k]] l.At <;> rfl),aB,xe (k8 l) (fun k=>((⟨true,((k:Nat):Int)⟩:j9),true))]
 unfold yQ
 cases bs.findIdx? (k8 l) with
 | some k=>rfl
 | none=>
  show ((uY pcs.length _ ()).bind _)=_
  rw [rI (fun k=>(pcs[k]?).bind fun x=>if ky l x=true then some ((⟨false,((k:Nat):Int)⟩:j9),true) else none) (by omega) (fun k hk _=>by
   have hkx:pcs[k]? =some pcs[k]:=aN hk
   rw [dU hkx,aB,hkx,aB,xf (by have:=hr _ (cM hk);omega)]
   unfold ky
   cases pcs[k].cU==l.cU with
   | false=>rfl
   | true=>cases yr pcs[k].gM l.At <;> rfl),aB,xe (ky l) (fun k=>((⟨false,((k:Nat):Int)⟩:j9),true))]
  cases pcs.findIdx? (ky l) <;> rfl
def Lk (n:Nat) (tch:List (List Int)) (i j:Nat):Prop:=∃(k:Nat) (l:List Int),tch[k]? =some l/\((i:Nat):Int)∈l/\j=n+k
structure H6 (n m:Nat) (tch:List (List Int)) (r:Nat->Nat):Prop where
 le: ∀i,i<n+m->r i<=i
 rr: ∀i,i<n+m->r (r i)=r i
 co: ∀i j,Lk n tch i j->r i=r j
 fi: ∀S:Nat->Prop,(∀i j,Lk n tch i j->(S i↔S j))->∀i j,i<n+m->j<n+m->r i=r j->S i->S j
theorem FQ {n m:Nat} {tch:List (List Int)} (hm:tch.length=m) (ht: ∀l∈tch,l.length<=1073741824/\∀x∈l,∃i:Nat,i<n/\x= ((i:Nat):Int)) (hn:n<=1073741824) (hm2:m<=1073741824) {up:List Int} (hu:UF (n+m) up (fun i=>i)) (hN:4398046511104<=N):
  Ok (nE tch.length (fun(k34:Nat) (s35: (List Int))=>((idx tch (k34:Int)).bind fun x89=>(nE x89.length (fun(k92:Nat) (s93: (List Int))=>((idx x89 (k92:Int)).bind fun x107=>(gY N s93 x107 (IntKind.wrap .i64 ((n:Int)+ (k34:Int)))).bind fun x109=>some x109:Option ((List Int)))) s35).bind fun s93=>some s93:Option ((List Int)))) up)
   (fun up'=>∃r,UF (n+m) up' r/\H6 n m tch r):=by
 have base:Ok (nE tch.length (fun(k34:Nat) (s35: (List Int))=>((idx tch (k34:Int)).bind fun x89=>(nE x89.length (fun(k92:Nat) (s93: (List Int))=>((idx x89 (k92:Int)).bind fun x107=>(gY N s93 x107 (IntKind.wrap .i64 ((n:Int)+ (k34:Int)))).bind fun x109=>some x109:Option ((List Int)))) s35).bind fun s93=>some s93:Option ((List Int)))) up)
   (fun up'=>∃r E,UF (n+m) up' r/\qt r E/\zK (n+m) r E/\(∀p∈E,Lk n tch p.1 p.2)/\∀(k:Nat) l (i:Nat),k<tch.length->tch[k]? =some l->((i:Nat):Int)∈l->(i,n+k)∈E):=by
  refine Ok.nE (fun q up'=>∃r E,UF (n+m) up' r/\qt r E/\zK (n+m) r E/\(∀p∈E,Lk n tch p.1 p.2)/\∀(k:Nat) l (i:Nat),k<q->tch[k]? =some l->((i:Nat):Int)∈l->(i,n+k)∈E) (by omega)
   ⟨_,_,hu,qt.id,zK.id _,fun p hp=>(by cases hp),fun k l i hk=>by omega⟩ (fun q up' hq hI=>?_)
  obtain⟨r,E,h1,h2,h3,h4,h5⟩:=hI
  have hqx:tch[q]? =some tch[q]:=aN hq
  obtain⟨hl1,hl2⟩:=ht _ (cM hq)
  refine Ok.ix hqx ?_
  rw [wrap_add (by omega)]
  refine Ok.bind (Ok.nE (fun t up'=>∃r E,UF (n+m) up' r/\qt r E/\zK (n+m) r E/\(∀p∈E,Lk n tch p.1 p.2)/\(∀(k:Nat) l (i:Nat),k<q->tch[k]? =some l->((i:Nat):Int)∈l->(i,n+k)∈E)/\∀i:Nat,((i:Nat):Int)∈tch[q].take t->(i,n+q)∈E) (by omega)
   ⟨r,E,h1,h2,h3,h4,h5,fun i hi=>by simp at hi⟩ (fun t up' htl hI=>?_)) (fun up' hI=>Ok.ret ?_)
  ·obtain⟨r,E,h1,h2,h3,h4,h5,h6⟩:=hI
   refine Ok.idx htl ?_
   obtain⟨i,hi,e⟩:=hl2 _ (cM htl)
   rw [e]
   obtain⟨u2,a1,a2⟩:=H3 (N:=N) h1 (i:=i) (k:=n+q) (by omega) (by omega) (by omega)
   refine Ok.eq a1 (Ok.ret ⟨_,_,a2,h2.join i (n+q) (h1.rr i (by omega)),h3.join (by omega) (by omega),fun p hp=>?_,fun k l j hk hl hj=>List.mem_append_left _ (h5 k l j hk hl hj),fun j hj=>?_⟩)
   ·rcases dA.1 hp with hp | hp
    ·exact h4 p hp
    ·simp at hp;subst hp
     exact⟨q,tch[q],hqx,by rw [<-e];exact cM htl,rfl⟩
   ·rw [eF htl,dA] at hj
    rcases hj with hj | hj
    ·exact List.mem_append_left _ (h6 j hj)
    ·rw [qP,e] at hj
     have:j=i:=by omega
     subst this;simp
  ·obtain⟨r,E,h1,h2,h3,h4,h5,h6⟩:=hI
   refine⟨r,E,h1,h2,h3,h4,fun k l i hk hl hi=>?_⟩
   by_cases hkq:k<q
   ·exact h5 k l i hkq hl hi
   ·have:k=q:=by omega
    subst this
    rw [hqx] at hl;injection hl with hl;subst hl
    exact h6 i (by rw [eO];exact hi)
 obtain⟨up',e,r,E,h1,h2,h3,h4,h5⟩:=base
 have hE: ∀i j,Lk n tch i j->(i,j)∈E:=fun i j ⟨k,l,hl,hi,hj⟩=>by
  rw [hj];exact h5 k l i (bA.1 hl).1 hl hi
 exact⟨up',e,r,h1,h1.le,h1.rr,fun i j h=>h2 (i,j) (hE i j h),fun S hS i j hi hj=>h3 S (fun p hp=>hS p.1 p.2 (h4 p hp)) i j hi hj⟩
def sg (bs:List cD) (j:Nat):Bool:=(bs[j]?).any (fun b=>b.fJ)
def gP (n:Nat) (c:List Nat):List Nat:=c.filter (fun i=>decide (i<n))
def gB (bs:List cD) (n:Nat) (c:List Nat):List Nat:=(c.filter (fun i=> !decide (i<n)&&sg bs (i - n))).map (fun i=>i - n)
def Dn (bs:List cD) (n:Nat) (c:List Nat):Bool:=decide (0< (gP n c).length+ (gB bs n c).length)
def IG (bs:List cD) (n:Nat) (c:List Nat):cO:=⟨ints (gP n c),ints (gB bs n c),[]⟩
theorem E3 (n:Nat) (c:List Nat) (i:Nat):gP n (c++[i])=if i<n then gP n c++[i] else gP n c:=by
 unfold gP;rw [ki];split <;> rename_i h <;> simp [h]
theorem E4 (bs:List cD) (n:Nat) (c:List Nat) (i:Nat):gB bs n (c++[i])=if i<n then gB bs n c else if sg bs (i - n)=true then gB bs n c++[i - n] else gB bs n c:=by
 unfold gB;rw [ki,dN]
 split
 ·rename_i h;simp [h]
 ·rename_i h
  split <;> rename_i h2 <;> simp [h,h2]
theorem En (n:Nat) (c:List Nat): (gP n c).length<=c.length:=ni _ _
theorem Eo (bs:List cD) (n:Nat) (c:List Nat): (gB bs n c).length<=c.length:=by unfold gB;rw [cV];exact ni _ _
def live (bs:List cD) (n t:Nat) (r:Nat->Nat) (hs:List Nat):List Nat:=hs.filter (fun h=>Dn bs n (cls t r h))
def k9 (bs:List cD) (n t:Nat) (r:Nat->Nat) (hs:List Nat):List cO:=(live bs n t r hs).map (fun h=>IG bs n (cls t r h))
theorem Bj (bs:List cD) (n t:Nat) (r:Nat->Nat) (hs:List Nat) (h:Nat):live bs n t r (hs++[h])=if Dn bs n (cls t r h)=true then live bs n t r hs++[h] else live bs n t r hs:=by
 unfold live;rw [ki];split <;> rename_i h2 <;> simp [h2]
theorem si (bs:List cD) (n t:Nat) (r:Nat->Nat) (hs:List Nat): (k9 bs n t r hs).length= (live bs n t r hs).length:=by unfold k9;rw [cV]
def gi (bs:List cD) (n t:Nat) (r:Nat->Nat) (h:Nat):Nat:=(live bs n t r ((bK t r).takeWhile (fun x=>decide (x≠h)))).length
theorem vv {l:List Nat} (hn:l.Nodup) {k h:Nat} (hk:l[k]? =some h):l.takeWhile (fun x=>decide (x≠h))=l.take k:=by
 induction l generalizing k with
 | nil=>simp at hk
 | cons a l ih=>
  cases k with
  | zero=>simp at hk;subst hk;simp
  | succ k=>
   have hk:l[k]? =some h:=by simpa using hk
   have hne:a≠h:=fun e=>(List.nodup_cons.1 hn).1 (by rw [e];exact eU hk)
   rw [List.takeWhile_cons,aC (by simpa using hne),List.take_succ_cons,ih (List.nodup_cons.1 hn).2 hk]
theorem pP (bs:List cD) (n t:Nat) (r:Nat->Nat) (hs:List Nat): (live bs n t r hs).length<=hs.length:=ni _ _
theorem IH {bs:List cD} {n t:Nat} {r:Nat->Nat} {h:Nat} (hh:h∈bK t r) (hne:Dn bs n (cls t r h)=true):gi bs n t r h< (live bs n t r (bK t r)).length/\(live bs n t r (bK t r))[gi bs n t r h]? =some h:=by
 obtain⟨k,hk⟩:=dS hh
 have hkl:=(bA.1 hk).1
 unfold gi
 rw [vv (mw t r) hk]
 have e:bK t r= (bK t r).take k++h::(bK t r).drop (k+1):=by
  have h1:=(List.take_append_drop k (bK t r)).symm
  rw [sD hkl,(bA.1 hk).2] at h1;exact h1
 have e2:live bs n t r (bK t r)=live bs n t r ((bK t r).take k)++h::live bs n t r ((bK t r).drop (k+1)):=by
  conv=>lhs;rw [e]
  unfold live
  rw [ki,List.filter_cons,aC hne]
 constructor
 ·rw [e2];simp
 ·rw [e2]
  simp
end
end Go.Gk
