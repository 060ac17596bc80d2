/-
  Helping texts: plain functions and plain laws. No statement of the seed is proved here.
-/
import Derived.Test.YtllecmpemokbfabGreatDoorA1
import Derived.ChangeShapes
import Derived.ChangeSame
import Derived.Carry
import Derived.RowKit
import Derived.Test.YtllecmpemokbfabGreatDoorA2
set_option linter.unusedVariables false
set_option linter.unusedSimpArgs false
set_option linter.unusedSectionVars false
namespace Go.Gk
open Go
noncomputable section
structure aI where
 X0:Int
 Y0:Int
 X1:Int
 Y1:Int
 deriving DecidableEq,Inhabited
structure iO where
 X:Int
 Y:Int
 deriving DecidableEq,Inhabited
structure bU where
 At:iO
 eB:Int
 cK:Int
 To:Int
 gh:Bool
 deriving DecidableEq,Inhabited
structure cT where
 Part:cS
 eK:cS
 dY:Int
 At:iO
 deriving DecidableEq,Inhabited
structure jS where
 aJ: (List (List aI))
 dJ: (List aI)
 aS: (List bU)
 bE: (List cT)
 deriving DecidableEq,Inhabited
structure eK where
 Part:cS
 eK:cS
 deriving DecidableEq,Inhabited
structure eZ where
 bU:Bool
 Number:Int
 deriving DecidableEq,Inhabited
structure kA where
 Open:Bool
 eZ:eZ
 A:Int
 B:Int
 deriving DecidableEq,Inhabited
structure aA where
 Y0:Int
 Y1:Int
 Xs: (List Int)
 deriving DecidableEq,Inhabited
structure aH where
 dY:Int
 Set: (List aA)
 lW: (List aI)
 deriving DecidableEq,Inhabited
structure cP where
 lO: (List Int)
 aS: (List Int)
 gV: (List eK)
 deriving DecidableEq,Inhabited
def oc (N:Nat) (p0 p1 p2:Int):Option (Bool):=
 some ((decide (p0>=p1))&&(decide (p0<=p2)))
def iS (N:Nat) (p0:Int):Option (Bool):=
 (oc N p0 (-1000000) 1000000).bind fun j=>some j
def jT (N:Nat) (p0:aI):Option (Bool):=
 ((iS N p0.X0).bind fun j=>bif j then ((iS N p0.Y0).bind fun o=>bif o then ((iS N p0.X1).bind fun aa=>bif aa then ((iS N p0.Y1).bind fun ab=>some ab) else (some false)) else (some false)) else (some false)).bind fun ad=>some ad
def iE (N:Nat) (p0: (List aI)):Option (Int):=
 bif (decide ((p0.length:Int)>2000)) then (some 2) else ((oZ p0.length (fun(o:Nat) (aa:Unit)=>((idx p0 (o:Int)).bind fun j=>(jT N j).bind fun ab=>bif (!ab) then (some (.rt 1)) else (bif ((decide (j.X1<=j.X0))||(decide (j.Y1<=j.Y0))) then (some (.rt 13)) else (some (.nx ()))):Option (Fl (Unit) Int))) ()).bind fun ad=>ad.cs (fun(aa:Unit)=>some 0) (fun r=>some r))
def fX (N:Nat) (p0: (List aI)):Option ((List aI)):=
 (app 32 ([]: (List aI)) p0).bind fun j=>some j
def gI (N:Nat) (p0 p1:aI):Option (Int):=
 some (IntKind.wrap .i64 (p0.Y0 - p1.Y0))
def eP (N:Nat) (p0: (List Int)):Option ((List Int)):=
 bif (decide ((p0.length:Int)<2)) then (some p0) else ((mn (fun(o:Int)=>(bif (decide (o< (p0.length:Int))) then ((idx p0 o).bind fun ab=>(idx p0 (IntKind.wrap .i64 (o - 1))).bind fun ad=>bif (ab==ad) then ((rG p0 o (p0.length:Int)).bind fun ak=>(mn (fun(j: (List Int)×Int×Int)=>(bif (decide (j.2.2< (((j.1.length - Int.toNat o):Nat):Int))) then ((y6 j.1 o j.2.2).bind fun ae=>(y6 j.1 o (IntKind.wrap .i64 (j.2.2 - 1))).bind fun af=>(bif (ae != af) then ((y6 j.1 o j.2.2).bind fun ag=>(idx j.1 j.2.1).bind fun al=>some ((j.1.set (Int.toNat j.2.1) ag),(IntKind.wrap .i64 (j.2.1+1)))) else (some (j.1,j.2.1))).bind fun aa=>some (.nx (aa.1,aa.2,(IntKind.wrap .i64 (j.2.2+1))))) else (some (.br (j.1,j.2.1,j.2.2))):Option (Fl ((List Int)×Int×Int) Empty))) N (p0,o,1)).bind fun ah=>ah.cs (fun(j: (List Int)×Int×Int)=>(rG j.1 j.2.1 (j.1.length:Int)).bind fun an=>(rG (j.1.take (Int.toNat j.2.1)++List.replicate (j.1.length - Int.toNat j.2.1) (0:Int)) 0 j.2.1).bind fun ai=>some (.rt ai)) (fun r=>r.elim)) else (some (.nx (IntKind.wrap .i64 (o+1))))) else (some (.br o)):Option (Fl (Int) (List Int)))) N 1).bind fun aj=>aj.cs (fun(o:Int)=>some p0) (fun r=>some r))
def kS (N:Nat) (p0:aI) (p1: (List Int)) (p2:Int):Option (Bool):=
 (idx p1 p2).bind fun j=>some (decide (p0.Y1<=j))
def jg (N:Nat) (p0: (List aI)) (p1:aI->Option Bool):Option (Int):=
 (oZ p0.length (fun(j:Nat) (o:Unit)=>((idx p0 (j:Int)).bind fun aa=>(p1 aa).bind fun ab=>bif ab then (some (.rt (j:Int))) else (some (.nx ())):Option (Fl (Unit) Int))) ()).bind fun ad=>ad.cs (fun(o:Unit)=>some (-1)) (fun r=>some r)
def iu (N:Nat) (p0: (List aI)) (p1:aI->Option Bool):Option (Int):=
 (oZ p0.length (fun(j:Nat) (o:Unit)=>((idx p0 (j:Int)).bind fun aa=>(p1 aa).bind fun ab=>bif ab then (some (.rt (j:Int))) else (some (.nx ())):Option (Fl (Unit) Int))) ()).bind fun ad=>ad.cs (fun(o:Unit)=>some (-1)) (fun r=>some r)
def fz (N:Nat) (p0: (List aI)) (p1:aI->Option Bool):Option ((List aI)):=
 (iu N p0 p1).bind fun o=>bif (o==(-1)) then (some p0) else ((mn (fun(j: (List aI)×Int×Int)=>(bif (decide (j.2.2< (j.1.length:Int))) then ((idx j.1 j.2.2).bind fun aa=>(p1 aa).bind fun ad=>(bif (!ad) then ((idx j.1 j.2.1).bind fun ag=>some ((j.1.set (Int.toNat j.2.1) aa),(IntKind.wrap .i64 (j.2.1+1)))) else (some (j.1,j.2.1))).bind fun ab=>some (.nx (ab.1,ab.2,(IntKind.wrap .i64 (j.2.2+1))))) else (some (.br (j.1,j.2.1,j.2.2))):Option (Fl ((List aI)×Int×Int) Empty))) N (p0,o,(IntKind.wrap .i64 (o+1)))).bind fun ae=>ae.cs (fun(j: (List aI)×Int×Int)=>(rG j.1 j.2.1 (j.1.length:Int)).bind fun ah=>(rG (j.1.take (Int.toNat j.2.1)++List.replicate (j.1.length - Int.toNat j.2.1) (⟨0,0,0,0⟩:aI)) 0 j.2.1).bind fun af=>some af) (fun r=>r.elim))
def eQ (N:Nat) (p0 p1:aI):Option (Int):=
 some (IntKind.wrap .i64 (p0.X0 - p1.X0))
def gj (N:Nat) (p0: (List aI)):Option ((List Int)×(List aI)):=
 (rO (eQ N) p0).bind fun aa=>(ko aa.length (fun(ad:Nat) (j: (List Int))=>((idx aa (ad:Int)).bind fun o=>(bif (decide ((IntKind.wrap .i64 ((j.length:Int) - 1))>=0)) then ((idx j (IntKind.wrap .i64 ((j.length:Int) - 1))).bind fun ae=>some (decide (o.X0<=ae))) else (some false)).bind fun af=>(bif af then ((idx j (IntKind.wrap .i64 ((j.length:Int) - 1))).bind fun ab=>(idx j (IntKind.wrap .i64 ((j.length:Int) - 1))).bind fun ai=>some (j.set (Int.toNat (IntKind.wrap .i64 ((j.length:Int) - 1))) (if ab<o.X1 then o.X1 else ab))) else ((app 8 j ([o.X0,o.X1]: (List Int))).bind fun ag=>some ag)).bind fun ah=>some ah:Option ((List Int)))) ([]: (List Int))).bind fun j=>some (j,aa)
def jU (N:Nat) (p0: (List Int)) (p1: (List Int)):Option (Bool):=
 bif ((p0.length:Int) != (p1.length:Int)) then (some false) else ((oZ p0.length (fun(j:Nat) (o:Unit)=>((idx p0 (j:Int)).bind fun aa=>(idx p1 (j:Int)).bind fun ab=>bif (aa != ab) then (some (.rt false)) else (some (.nx ())):Option (Fl (Unit) Bool))) ()).bind fun ad=>ad.cs (fun(o:Unit)=>some true) (fun r=>some r))
def fT (N:Nat) (p0: (List aA)) (p1:aA):Option ((List aA)):=
 bif (((p1.Xs.length:Int)==0)||(decide (p1.Y1<=p1.Y0))) then (some p0) else ((bif (decide ((IntKind.wrap .i64 ((p0.length:Int) - 1))>=0)) then ((idx p0 (IntKind.wrap .i64 ((p0.length:Int) - 1))).bind fun j=>bif (j.Y1==p1.Y0) then ((idx p0 (IntKind.wrap .i64 ((p0.length:Int) - 1))).bind fun o=>(jU N o.Xs p1.Xs).bind fun aa=>some aa) else (some false)) else (some false)).bind fun ab=>bif ab then ((idx p0 (IntKind.wrap .i64 ((p0.length:Int) - 1))).bind fun ad=>some (p0.set (Int.toNat (IntKind.wrap .i64 ((p0.length:Int) - 1))) ({ad with Y1:=p1.Y1}))) else ((app 40 p0 ([p1]: (List aA))).bind fun ae=>some ae))
def eT (N:Nat) (p0: (List aI)):Option ((List aA)):=
 (fX N p0).bind fun ag=>(rO (gI N) ag).bind fun aa=>(ko aa.length (fun(ah:Nat) (ad: (List Int))=>((idx aa (ah:Int)).bind fun ae=>(app 8 ad ([ae.Y0,ae.Y1]: (List Int))).bind fun ai=>some ai:Option ((List Int)))) ([]: (List Int))).bind fun ad=>(o6 ad).bind fun aj=>(eP N aj).bind fun ab=>(mn (fun(j: (List aA)×(List aI)×Int×Int)=>(bif (decide ((IntKind.wrap .i64 (j.2.2.2+1))< (ab.length:Int))) then ((fz N j.2.1 (fun y0=>kS N y0 ab j.2.2.2)).bind fun ak=>(mn (fun(o: (List aI)×Int)=>((bif (decide (o.2< (aa.length:Int))) then ((idx aa o.2).bind fun al=>(idx ab j.2.2.2).bind fun an=>some (decide (al.Y0<=an))) else (some false)).bind fun ao=>bif ao then ((idx aa o.2).bind fun aq=>(app 32 o.1 ([aq]: (List aI))).bind fun ar=>some (.nx (ar,(IntKind.wrap .i64 (o.2+1))))) else (some (.br (o.1,o.2))):Option (Fl ((List aI)×Int) Empty))) N (ak,j.2.2.1)).bind fun au=>au.cs (fun(o: (List aI)×Int)=>(idx ab j.2.2.2).bind fun av=>(idx ab (IntKind.wrap .i64 (j.2.2.2+1))).bind fun aw=>(gj N o.1).bind fun af=>(fT N j.1 (⟨av,aw,af.1⟩:aA)).bind fun ax=>some (.nx (ax,af.2,o.2,(IntKind.wrap .i64 (j.2.2.2+1))))) (fun r=>r.elim)) else (some (.br (j.1,j.2.1,j.2.2.1,j.2.2.2))):Option (Fl ((List aA)×(List aI)×Int×Int) Empty))) N (([]: (List aA)),([]: (List aI)),0,0)).bind fun ay=>ay.cs (fun(j: (List aA)×(List aI)×Int×Int)=>some j.1) (fun r=>r.elim)
def gk (N:Nat) (p0: (List aA)):Option ((List aI)):=
 (ko p0.length (fun(ab:Nat) (aa: (List aI))=>((idx p0 (ab:Int)).bind fun o=>(mn (fun(j: (List aI)×Int)=>(bif (decide (j.2< (o.Xs.length:Int))) then ((idx o.Xs j.2).bind fun ad=>(idx o.Xs (IntKind.wrap .i64 (j.2+1))).bind fun ae=>(app 32 j.1 ([(⟨ad,o.Y0,ae,o.Y1⟩:aI)]: (List aI))).bind fun af=>some (.nx (af,(IntKind.wrap .i64 (j.2+2))))) else (some (.br (j.1,j.2))):Option (Fl ((List aI)×Int) Empty))) N (aa,0)).bind fun ag=>ag.cs (fun(j: (List aI)×Int)=>some j.1) (fun r=>r.elim):Option ((List aI)))) ([]: (List aI))).bind fun aa=>some aa
def hQ (N:Nat) (p0: (List aI)) (p1: (List aI)):Option (Bool):=
 bif ((p0.length:Int) != (p1.length:Int)) then (some false) else ((oZ p0.length (fun(j:Nat) (o:Unit)=>((idx p0 (j:Int)).bind fun aa=>(idx p1 (j:Int)).bind fun ab=>bif (!(decide (aa=ab))) then (some (.rt false)) else (some (.nx ())):Option (Fl (Unit) Bool))) ()).bind fun ad=>ad.cs (fun(o:Unit)=>some true) (fun r=>some r))
def fY (N:Nat) (p0: (List aI)):Option (Int):=
 (iE N p0).bind fun ab=>bif (ab != 0) then (some ab) else ((mn (fun(j:Int)=>(bif (decide (j< (p0.length:Int))) then ((idx p0 (IntKind.wrap .i64 (j - 1))).bind fun o=>(idx p0 j).bind fun aa=>bif ((decide (aa.Y0<o.Y0))||((aa.Y0==o.Y0)&&(decide (aa.X0<=o.X0)))) then (some (.rt 8)) else (some (.nx (IntKind.wrap .i64 (j+1))))) else (some (.br j)):Option (Fl (Int) Int))) N 1).bind fun ad=>ad.cs (fun(j:Int)=>(eT N p0).bind fun ae=>(gk N ae).bind fun af=>(hQ N af p0).bind fun ag=>bif (!ag) then (some 3) else (some 0)) (fun r=>some r))
def fu (N:Nat) (p0 p1 p2:Int):Option (Bool):=
 some ((decide (p0>=p1))&&(decide (p0<=p2)))
def gv (N:Nat) (p0:iO):Option (Bool):=
 ((iS N p0.X).bind fun j=>bif j then ((iS N p0.Y).bind fun o=>some o) else (some false)).bind fun aa=>some aa
def eA (N:Nat) (p0:bU):Option (aI):=
 some (⟨(IntKind.wrap .i64 (p0.At.X - (IntKind.wrap .i64 (Int.tdiv p0.eB 2)))),(IntKind.wrap .i64 (p0.At.Y - (IntKind.wrap .i64 (Int.tdiv p0.eB 2)))),(IntKind.wrap .i64 ((IntKind.wrap .i64 (p0.At.X - (IntKind.wrap .i64 (Int.tdiv p0.eB 2))))+p0.eB)),(IntKind.wrap .i64 ((IntKind.wrap .i64 (p0.At.Y - (IntKind.wrap .i64 (Int.tdiv p0.eB 2))))+p0.eB))⟩:aI)
def jV (N:Nat) (p0: (List aA)):Option (aI):=
 (idx p0 0).bind fun ad=>(idx ad.Xs 0).bind fun ae=>(idx p0 0).bind fun af=>(idx p0 0).bind fun ag=>(idx ag.Xs 1).bind fun ah=>(idx p0 (IntKind.wrap .i64 ((p0.length:Int) - 1))).bind fun ai=>(ko p0.length (fun(aj:Nat) (j:aI)=>((idx p0 (aj:Int)).bind fun o=>(idx o.Xs 0).bind fun aa=>(idx o.Xs (IntKind.wrap .i64 ((o.Xs.length:Int) - 1))).bind fun ab=>some ({{j with X0:=(if aa<j.X0 then aa else j.X0)} with X1:=(if j.X1<ab then ab else j.X1)}):Option (aI))) (⟨ae,af.Y0,ah,ai.Y1⟩:aI)).bind fun j=>some j
def jz (N:Nat) (p0: (List aA)):Option (Bool):=
 (bif ((p0.length:Int)==0) then (some true) else ((jV N p0).bind fun j=>(jT N j).bind fun o=>some o)).bind fun aa=>some aa
def ja (N:Nat) (p0:bU):Option (aI×Int):=
 ((fu N p0.eB 1 10000).bind fun o=>bif (!o) then (some true) else ((gv N p0.At).bind fun aa=>some (!aa))).bind fun ab=>bif ab then (some ((⟨0,0,0,0⟩:aI),1)) else ((eA N p0).bind fun j=>(eT N ([j]: (List aI))).bind fun ad=>(jz N ad).bind fun ae=>bif (!ae) then (some ((⟨0,0,0,0⟩:aI),1)) else (some (j,0)))
def hU (N:Nat) (p0:jS):Option (Int):=
 bif (decide ((p0.aS.length:Int)>500)) then (some 2) else ((oZ p0.aS.length (fun(aa:Nat) (ab:Unit)=>((idx p0.aS (aa:Int)).bind fun j=>(ja N j).bind fun o=>bif (o.2 != 0) then (some (.rt o.2)) else (((fu N j.cK 0 (IntKind.wrap .i64 ((p0.aJ.length:Int) - 1))).bind fun ad=>bif (!ad) then (some true) else ((fu N j.To j.cK (IntKind.wrap .i64 ((p0.aJ.length:Int) - 1))).bind fun ae=>some (!ae))).bind fun af=>bif af then (some (.rt 1)) else (some (.nx ()))):Option (Fl (Unit) Int))) ()).bind fun ag=>ag.cs (fun(ab:Unit)=>some 0) (fun r=>some r))
def fK (N:Nat) (p0:cS) (p1:Int):Option (Int):=
 some (Lib.indexByte p0.cA (Int.toNat p1).toUInt8)
def hZ (N:Nat) (p0 p1:cS):Option (Int):=
 bif (((p1.cA.length:Int)==0)||(p1.yV p0)) then (some 0) else (bif ((p1.cA.length:Int)==1) then ((Az p1 0).bind fun j=>(fK N p0 (j.toNat:Int)).bind fun o=>some o) else (bif (decide ((p1.cA.length:Int)>=(p0.cA.length:Int))) then (some (-1)) else (none)))
def jc (N:Nat) (p0 p1:cS):Option (Int):=
 (hZ N p0 p1).bind fun j=>some j
def j9 (N:Nat) (p0 p1:cS):Option (Int):=
 bif ((p1.cA.length:Int)==0) then (none) else (bif ((p1.cA.length:Int)==1) then ((Az p1 0).bind fun aa=>some ((Lib.countByte p0.cA (Int.toNat (aa.toNat:Int)).toUInt8:Nat):Int)) else ((mn (fun(j:cS×Int)=>((jc N j.1 p1).bind fun o=>bif (o==(-1)) then (some (.rt j.2)) else ((q6 j.1 (IntKind.wrap .i64 (o+ (p1.cA.length:Int))) (j.1.cA.length:Int)).bind fun ab=>some (.nx (ab,(IntKind.wrap .i64 (j.2+1))))):Option (Fl (cS×Int) Int))) N (p0,0)).bind fun ad=>ad.cs (fun(j:cS×Int)=>some 0) (fun r=>some r)))
def jW (N:Nat) (p0 p1:cS) (p2 p3:Int):Option ((List cS)):=
 bif (p3==0) then (some ([]: (List cS))) else (bif (p1.yV (⟨[]⟩)) then (none) else ((bif (decide (p3<0)) then ((j9 N p0 p1).bind fun ab=>some (IntKind.wrap .i64 (ab+1))) else (some p3)).bind fun o=>(mk 16 (⟨[]⟩:cS) (if (IntKind.wrap .i64 ((p0.cA.length:Int)+1))<o then (IntKind.wrap .i64 ((p0.cA.length:Int)+1)) else o)).bind fun ad=>(mn (fun(j:cS×(List cS)×Int)=>(bif (decide (j.2.2< (IntKind.wrap .i64 ((if (IntKind.wrap .i64 ((p0.cA.length:Int)+1))<o then (IntKind.wrap .i64 ((p0.cA.length:Int)+1)) else o) - 1)))) then ((jc N j.1 p1).bind fun aa=>bif (decide (aa<0)) then (some (.br (j.1,j.2.1,j.2.2))) else ((q6 j.1 0 (IntKind.wrap .i64 (aa+p2))).bind fun ae=>(idx j.2.1 j.2.2).bind fun ai=>(q6 j.1 (IntKind.wrap .i64 (aa+ (p1.cA.length:Int))) (j.1.cA.length:Int)).bind fun af=>some (.nx (af,(j.2.1.set (Int.toNat j.2.2) ae),(IntKind.wrap .i64 (j.2.2+1)))))) else (some (.br (j.1,j.2.1,j.2.2))):Option (Fl (cS×(List cS)×Int) Empty))) N (p0,ad,0)).bind fun ag=>ag.cs (fun(j:cS×(List cS)×Int)=>(idx j.2.1 j.2.2).bind fun aj=>(rG (j.2.1.set (Int.toNat j.2.2) j.1) 0 (IntKind.wrap .i64 (j.2.2+1))).bind fun ah=>some ah) (fun r=>r.elim)))
def ka (N:Nat) (p0 p1:cS):Option ((List cS)):=
 (jW N p0 p1 0 (-1)).bind fun j=>some j
def iF (N:Nat) (p0: (List cS)) (p1:cS->Option Bool):Option (Int):=
 (oZ p0.length (fun(j:Nat) (o:Unit)=>((idx p0 (j:Int)).bind fun aa=>(p1 aa).bind fun ab=>bif ab then (some (.rt (j:Int))) else (some (.nx ())):Option (Fl (Unit) Int))) ()).bind fun ad=>ad.cs (fun(o:Unit)=>some (-1)) (fun r=>some r)
def fA (N:Nat) (p0: (List cS)) (p1:cS->Option Bool):Option (Bool):=
 (iF N p0 p1).bind fun j=>some (decide (j>=0))
def fZ (N:Nat) (p0:cS) (p1:Int):Option (Int):=
 (fK N p0 p1).bind fun j=>some j
def fU (N:Nat) (p0:cS):Option (Bool):=
 (oZ p0.cA.length (fun(o:Nat) (aa:Unit)=>((Az p0 (o:Int)).bind fun j=>(bif ((((decide ((j.toNat:Int)<65))||(decide ((j.toNat:Int)>90)))&&((decide ((j.toNat:Int)<97))||(decide ((j.toNat:Int)>122))))&&((decide ((j.toNat:Int)<48))||(decide ((j.toNat:Int)>57)))) then ((fZ N (⟨[95,43,45,35]⟩) (j.toNat:Int)).bind fun ab=>some (decide (ab<0))) else (some false)).bind fun ad=>bif ad then (some (.rt false)) else (some (.nx ())):Option (Fl (Unit) Bool))) ()).bind fun ae=>ae.cs (fun(aa:Unit)=>some ((decide ((p0.cA.length:Int)>=1))&&(decide ((p0.cA.length:Int)<=40)))) (fun r=>some r)
def fB (N:Nat) (p0:cS):Option (Bool):=
 (fU N p0).bind fun j=>some (!j)
def jA (N:Nat) (p0:cS):Option (Bool):=
 (bif (decide ((p0.cA.length:Int)<=200)) then ((ka N p0 (⟨[47]⟩)).bind fun j=>(fA N j (fB N)).bind fun o=>some (!o)) else (some false)).bind fun aa=>some aa
def iT (N:Nat) (p0:cT):Option (eK):=
 some (⟨p0.Part,p0.eK⟩:eK)
def jh (N:Nat) (p0 p1:cS):Option (Int):=
 some (Lib.compareBytes p0.cA p1.cA)
def kq (N:Nat) (p0 p1:cS):Option (Int):=
 (jh N p0 p1).bind fun j=>some j
def fC (N:Nat) (p0 p1:eK):Option (Int):=
 (kq N p0.Part p1.Part).bind fun j=>bif (j != 0) then (some j) else ((kq N p0.eK p1.eK).bind fun o=>some o)
def ig (N:Nat) (p0:jS):Option (Int):=
 bif (decide ((p0.bE.length:Int)>1000)) then (some 2) else ((oZ p0.bE.length (fun(o:Nat) (aa:Unit)=>((idx p0.bE (o:Int)).bind fun j=>((jA N j.Part).bind fun ab=>bif (!ab) then (some true) else ((fU N j.eK).bind fun ad=>some (!ad))).bind fun ae=>bif ae then (some (.rt 5)) else (((fu N j.dY 0 (IntKind.wrap .i64 ((p0.aJ.length:Int) - 1))).bind fun af=>bif (!af) then (some true) else ((gv N j.At).bind fun ag=>some (!ag))).bind fun ah=>bif ah then (some (.rt 1)) else ((bif (decide ((o:Int)>0)) then ((idx p0.bE (IntKind.wrap .i64 ((o:Int) - 1))).bind fun ai=>(iT N j).bind fun aj=>(iT N ai).bind fun ak=>(fC N aj ak).bind fun al=>some (decide (al<=0))) else (some false)).bind fun an=>bif an then (some (.rt 8)) else (some (.nx ())))):Option (Fl (Unit) Int))) ()).bind fun ao=>ao.cs (fun(aa:Unit)=>some 0) (fun r=>some r))
def jd (N:Nat) (p0 p1:Int) (p2 p3:Int):Option (Int):=
 some (if (if 0< (IntKind.wrap .i64 ((IntKind.wrap .i64 (p2 - p1))+1)) then (IntKind.wrap .i64 ((IntKind.wrap .i64 (p2 - p1))+1)) else 0)< (IntKind.wrap .i64 ((IntKind.wrap .i64 (p0 - p3))+1)) then (IntKind.wrap .i64 ((IntKind.wrap .i64 (p0 - p3))+1)) else (if 0< (IntKind.wrap .i64 ((IntKind.wrap .i64 (p2 - p1))+1)) then (IntKind.wrap .i64 ((IntKind.wrap .i64 (p2 - p1))+1)) else 0))
def nA (N:Nat) (p0 p1:aI):Option (Int):=
 (jd N p0.X0 p0.X1 p1.X0 p1.X1).bind fun j=>(jd N p0.Y0 p0.Y1 p1.Y0 p1.Y1).bind fun o=>some (if j<o then o else j)
def iG (N:Nat) (p0:bU) (p1:Int):Option (Bool):=
 some ((decide (p0.cK<=p1))&&(decide (p1<=p0.To)))
def jX (N:Nat) (p0: (List aA)) (p1 p2:Int):Option ((List Int)×Int):=
 bif ((p0.length:Int)==0) then (some (([]: (List Int)),p2)) else ((idx p0 0).bind fun aa=>bif (decide (p1<aa.Y0)) then ((idx p0 0).bind fun j=>some (([]: (List Int)),(if j.Y0<p2 then j.Y0 else p2))) else ((idx p0 0).bind fun ab=>(idx p0 0).bind fun o=>some (ab.Xs,(if o.Y1<p2 then o.Y1 else p2))))
def mo (N:Nat) (p0: (List Int)) (p1: (List Int)) (p2:Bool->Bool->Option Bool):Option ((List Int)):=
 (mn (fun(j: (List Int)×(List Int)×(List Int)×Bool×Bool×Bool)=>((bif (decide ((j.1.length:Int)>0)) then (some true) else (some (decide ((j.2.1.length:Int)>0)))).bind fun af=>bif af then ((bif ((j.2.1.length:Int)==0) then (some true) else (bif (decide ((j.1.length:Int)>0)) then ((idx j.1 0).bind fun ag=>(idx j.2.1 0).bind fun ah=>some (decide (ag<=ah))) else (some false))).bind fun ai=>(bif ai then ((idx j.1 0).bind fun aj=>some aj) else ((idx j.2.1 0).bind fun ak=>some ak)).bind fun o=>(bif (decide ((j.1.length:Int)>0)) then ((idx j.1 0).bind fun al=>some (al==o)) else (some false)).bind fun an=>(bif an then ((rG j.1 1 (j.1.length:Int)).bind fun ao=>some (ao,(!j.2.2.2.1))) else (some (j.1,j.2.2.2.1))).bind fun aa=>(bif (decide ((j.2.1.length:Int)>0)) then ((idx j.2.1 0).bind fun aq=>some (aq==o)) else (some false)).bind fun ar=>(bif ar then ((rG j.2.1 1 (j.2.1.length:Int)).bind fun au=>some (au,(!j.2.2.2.2.1))) else (some (j.2.1,j.2.2.2.2.1))).bind fun ab=>(p2 aa.2 ab.2).bind fun ad=>(bif (ad != j.2.2.2.2.2) then ((app 8 j.2.2.1 ([o]: (List Int))).bind fun av=>some (av,ad)) else (some (j.2.2.1,j.2.2.2.2.2))).bind fun ae=>some (.nx (aa.1,ab.1,ae.1,aa.2,ab.2,ae.2))) else (some (.br (j.1,j.2.1,j.2.2.1,j.2.2.2.1,j.2.2.2.2.1,j.2.2.2.2.2))):Option (Fl ((List Int)×(List Int)×(List Int)×Bool×Bool×Bool) Empty))) N (p0,p1,([]: (List Int)),false,false,false)).bind fun aw=>aw.cs (fun(j: (List Int)×(List Int)×(List Int)×Bool×Bool×Bool)=>some j.2.2.1) (fun r=>r.elim)
def lE (N:Nat) (p0: (List aA)) (p1: (List aA)) (p2:Bool->Bool->Option Bool):Option ((List aA)):=
 bif ((IntKind.wrap .i64 ((p0.length:Int)+ (p1.length:Int)))==0) then (some ([]: (List aA))) else ((ko (([p0,p1]: (List (List aA))).length) (fun(ah:Nat) (o:Int×Int)=>((idx ([p0,p1]: (List (List aA))) (ah:Int)).bind fun ad=>(bif (decide ((ad.length:Int)>0)) then ((bif ((ah:Int)==0) then (some true) else (some ((p0.length:Int)==0))).bind fun al=>(bif al then ((idx ad 0).bind fun an=>(idx ad (IntKind.wrap .i64 ((ad.length:Int) - 1))).bind fun ao=>some (an.Y0,ao.Y1)) else (some (o.1,o.2))).bind fun ag=>(idx ad 0).bind fun ai=>(idx ad (IntKind.wrap .i64 ((ad.length:Int) - 1))).bind fun aj=>some ((if ai.Y0<ag.1 then ai.Y0 else ag.1),(if ag.2<aj.Y1 then aj.Y1 else ag.2))) else (some (o.1,o.2))).bind fun ak=>some (ak.1,ak.2):Option (Int×Int))) (0,0)).bind fun o=>(mn (fun(j: (List aA)×(List aA)×(List aA)×Int)=>(bif (decide (j.2.2.2<o.2)) then ((mn (fun(aa: (List aA))=>((bif (decide ((aa.length:Int)>0)) then ((idx aa 0).bind fun aq=>some (decide (aq.Y1<=j.2.2.2))) else (some false)).bind fun ar=>bif ar then ((rG aa 1 (aa.length:Int)).bind fun au=>some (.nx au)) else (some (.br aa)):Option (Fl ((List aA)) Empty))) N j.1).bind fun av=>av.cs (fun(aa: (List aA))=>(mn (fun(ab: (List aA))=>((bif (decide ((ab.length:Int)>0)) then ((idx ab 0).bind fun aw=>some (decide (aw.Y1<=j.2.2.2))) else (some false)).bind fun ax=>bif ax then ((rG ab 1 (ab.length:Int)).bind fun ay=>some (.nx ay)) else (some (.br ab)):Option (Fl ((List aA)) Empty))) N j.2.1).bind fun az=>az.cs (fun(ab: (List aA))=>(jX N aa j.2.2.2 o.2).bind fun ae=>(jX N ab j.2.2.2 o.2).bind fun af=>(mo N ae.1 af.1 p2).bind fun a0=>(fT N j.2.2.1 (⟨j.2.2.2,(if af.2<ae.2 then af.2 else ae.2),a0⟩:aA)).bind fun a1=>some (.nx (aa,ab,a1,(if af.2<ae.2 then af.2 else ae.2)))) (fun r=>r.elim)) (fun r=>r.elim)) else (some (.br (j.1,j.2.1,j.2.2.1,j.2.2.2))):Option (Fl ((List aA)×(List aA)×(List aA)×Int) Empty))) N (p0,p1,([]: (List aA)),o.1)).bind fun a2=>a2.cs (fun(j: (List aA)×(List aA)×(List aA)×Int)=>some j.2.2.1) (fun r=>r.elim))
def kT (N:Nat) (p0 p1:Bool):Option (Bool):=
 some (p0&&(!p1))
def iH (N:Nat) (p0: (List aA)) (p1: (List aA)):Option ((List aA)):=
 (lE N p0 p1 (kT N)).bind fun j=>some j
def jB (N:Nat) (p0: (List aA)):Option (Int):=
 (ko p0.length (fun(o:Nat) (j:Int)=>((idx p0 (o:Int)).bind fun aa=>some (IntKind.wrap .i64 (j+ (IntKind.wrap .i64 (Int.tdiv (aa.Xs.length:Int) 2)))):Option (Int))) 0).bind fun j=>some j
def dK (N:Nat) (p0:Int) (p1_0: (List Int)):Option (Int×(List Int)):=
 (mn (fun(j:Int×(List Int))=>((idx j.2 j.1).bind fun aa=>bif (aa != j.1) then ((idx j.2 j.1).bind fun ab=>(idx j.2 ab).bind fun o=>(idx j.2 j.1).bind fun af=>(idx (j.2.set (Int.toNat j.1) o) j.1).bind fun ad=>some (.nx (ad,(j.2.set (Int.toNat j.1) o)))) else (some (.br (j.1,j.2))):Option (Fl (Int×(List Int)) Empty))) N (p0,p1_0)).bind fun ae=>ae.cs (fun(j:Int×(List Int))=>some (j.1,j.2)) (fun r=>r.elim)
def i6 (N:Nat) (p0: (List aA)):Option ((List (List aA))):=
 (gk N p0).bind fun ab=>(mk 8 (0:Int) (ab.length:Int)).bind fun an=>(ko an.length (fun(ai:Nat) (ag: (List Int))=>((idx ag (ai:Int)).bind fun bd=>some (ag.set (Int.toNat (ai:Int)) (ai:Int)):Option ((List Int)))) an).bind fun ag=>(ko p0.length (fun(aj:Nat) (aa: (List Int)×Int×Int)=>((idx p0 (aj:Int)).bind fun ak=>(bif (decide ((aj:Int)>0)) then ((idx p0 (IntKind.wrap .i64 ((aj:Int) - 1))).bind fun ar=>some (ar.Y1==ak.Y0)) else (some false)).bind fun au=>(bif au then ((mn (fun(j: (List Int)×Int×Int)=>(bif ((decide (j.2.1<aa.2.1))&&(decide (j.2.2< (IntKind.wrap .i64 (aa.2.1+ (IntKind.wrap .i64 (Int.tdiv (ak.Xs.length:Int) 2))))))) then (((idx ab j.2.1).bind fun av=>(idx ab j.2.2).bind fun aw=>bif (decide (av.X0<aw.X1)) then ((idx ab j.2.2).bind fun ax=>(idx ab j.2.1).bind fun ay=>some (decide (ax.X0<ay.X1))) else (some false)).bind fun az=>(bif az then ((dK N j.2.1 j.1).bind fun ae=>(dK N j.2.2 ae.2).bind fun ad=>(idx ad.2 (if ae.1<ad.1 then ad.1 else ae.1)).bind fun bf=>some (ad.2.set (Int.toNat (if ae.1<ad.1 then ad.1 else ae.1)) (if ad.1<ae.1 then ad.1 else ae.1))) else (some j.1)).bind fun a0=>(idx ab j.2.1).bind fun a1=>(idx ab j.2.2).bind fun a2=>(bif (decide (a1.X1<a2.X1)) then (some ((IntKind.wrap .i64 (j.2.1+1)),j.2.2)) else (some (j.2.1,(IntKind.wrap .i64 (j.2.2+1))))).bind fun ao=>some (.nx (a0,ao.1,ao.2))) else (some (.br (j.1,j.2.1,j.2.2))):Option (Fl ((List Int)×Int×Int) Empty))) N (aa.1,aa.2.2,aa.2.1)).bind fun a3=>a3.cs (fun(j: (List Int)×Int×Int)=>some j.1) (fun r=>r.elim)) else (some aa.1)).bind fun a4=>some (a4,(IntKind.wrap .i64 (aa.2.1+ (IntKind.wrap .i64 (Int.tdiv (ak.Xs.length:Int) 2)))),aa.2.1):Option ((List Int)×Int×Int))) (ag,0,0)).bind fun aa=>(ko ab.length (fun(aq:Nat) (o: (List Int)×(List (Int×Int))×(List (List aI)))=>((idx ab (aq:Int)).bind fun a5=>(dK N (aq:Int) o.1).bind fun ah=>(bif (!(jy o.2.1 ah.1)) then ((app 24 o.2.2 [([]: (List aI))]).bind fun a6=>some ((n9 o.2.1 ah.1 (o.2.2.length:Int)),a6,(o.2.2.length:Int))) else (some (o.2.1,o.2.2,(dQ o.2.1 ah.1 (0:Int))))).bind fun af=>(idx af.2.1 af.2.2).bind fun a7=>(app 32 a7 ([a5]: (List aI))).bind fun a8=>(idx af.2.1 af.2.2).bind fun bg=>some (ah.2,af.1,(af.2.1.set (Int.toNat af.2.2) a8)):Option ((List Int)×(List (Int×Int))×(List (List aI))))) (aa.1,([]: (List (Int×Int))),([]: (List (List aI))))).bind fun o=>(ko o.2.2.length (fun(a9:Nat) (al: (List (List aA)))=>((idx o.2.2 (a9:Int)).bind fun ba=>(eT N ba).bind fun bb=>(app 24 al ([bb]: (List (List aA)))).bind fun bc=>some bc:Option ((List (List aA))))) ([]: (List (List aA)))).bind fun al=>some al
def gJ (N:Nat) (p0_0: (List (List aI))) (p0_2: (List bU)) (p0_4: (List (List aA))) (p0_5: (List aH)):Option (Bool×(List (List aA))×(List aH)):=
 (ko p0_0.length (fun(aa:Nat) (j: (List (List aA))×(List aH)×Bool)=>((idx p0_0 (aa:Int)).bind fun ai=>(ko p0_2.length (fun(aj:Nat) (o: (List aI))=>((idx p0_2 (aj:Int)).bind fun af=>(iG N af (aa:Int)).bind fun ak=>(bif ak then ((eA N af).bind fun al=>(app 32 o ([al]: (List aI))).bind fun an=>some an) else (some o)).bind fun ao=>some ao:Option ((List aI)))) ([]: (List aI))).bind fun o=>(eT N ai).bind fun aq=>(eT N o).bind fun ar=>(iH N aq ar).bind fun ab=>(bif j.2.2 then ((jB N ab).bind fun au=>some ((decide (au<=2000)),ab)) else (some (false,ab))).bind fun ad=>(app 24 j.1 ([ad.2]: (List (List aA)))).bind fun av=>(i6 N ad.2).bind fun ag=>(ko ag.length (fun(aw:Nat) (ae: (List aH))=>((idx ag (aw:Int)).bind fun ah=>(gk N ah).bind fun ax=>(app 56 ae ([(⟨(aa:Int),ah,ax⟩:aH)]: (List aH))).bind fun ay=>some ay:Option ((List aH)))) j.2.1).bind fun ae=>some (av,ae,ad.1):Option ((List (List aA))×(List aH)×Bool))) (p0_4,p0_5,true)).bind fun j=>(bif j.2.2 then (some (decide ((j.2.1.length:Int)<=2000))) else (some false)).bind fun az=>some (az,j.1,j.2.1)
def nc (N:Nat) (p0 p1:aI):Option (Bool):=
 some ((((decide (p0.X0<p1.X1))&&(decide (p1.X0<p0.X1)))&&((p0.Y1==p1.Y0)||(p1.Y1==p0.Y0)))||(((decide (p0.Y0<p1.Y1))&&(decide (p1.Y0<p0.Y1)))&&((p0.X1==p1.X0)||(p1.X1==p0.X0))))
def gS (N:Nat) (p0:aI) (p1:bU):Option (Bool):=
 (eA N p1).bind fun j=>(nc N p0 j).bind fun o=>some o
def eI (N:Nat) (p0: (List aI)) (p1:aI->Option Bool):Option (Bool):=
 (jg N p0 p1).bind fun j=>some (decide (j>=0))
def gK (N:Nat) (p0_2: (List bU)) (p0_5: (List aH)) (p0_6: (List (List Int))):Option ((List (List Int))):=
 (ko p0_2.length (fun(ae:Nat) (o: (List (List Int)))=>((idx p0_2 (ae:Int)).bind fun aa=>(ko p0_5.length (fun(ab:Nat) (j: (List Int))=>((idx p0_5 (ab:Int)).bind fun ad=>(bif aa.gh then ((iG N aa ad.dY).bind fun af=>bif af then ((eI N ad.lW (fun y0=>gS N y0 aa)).bind fun ag=>some ag) else (some false)) else (some false)).bind fun ah=>(bif ah then ((app 8 j ([(ab:Int)]: (List Int))).bind fun ai=>some ai) else (some j)).bind fun aj=>some aj:Option ((List Int)))) ([]: (List Int))).bind fun j=>(app 24 o ([j]: (List (List Int)))).bind fun ak=>some ak:Option ((List (List Int))))) p0_6).bind fun o=>some o
def gz (N:Nat) (p0:Int):Option (((List Int))):=
 (mk 8 (0:Int) p0).bind fun aa=>(ko aa.length (fun(o:Nat) (j: (List Int))=>((idx j (o:Int)).bind fun ab=>some (j.set (Int.toNat (o:Int)) (o:Int)):Option ((List Int)))) aa).bind fun j=>some j
def cW (N:Nat) (p0_0: (List Int)) (p1:Int):Option (Int×(List Int)):=
 (mn (fun(j: (List Int)×Int)=>((idx j.1 j.2).bind fun aa=>bif (aa != j.2) then ((idx j.1 j.2).bind fun ab=>(idx j.1 ab).bind fun o=>(idx j.1 j.2).bind fun af=>(idx (j.1.set (Int.toNat j.2) o) j.2).bind fun ad=>some (.nx ((j.1.set (Int.toNat j.2) o),ad))) else (some (.br (j.1,j.2))):Option (Fl ((List Int)×Int) Empty))) N (p0_0,p1)).bind fun ae=>ae.cs (fun(j: (List Int)×Int)=>some (j.2,j.1)) (fun r=>r.elim)
def cQ (N:Nat) (p0_0: (List Int)) (p1 p2:Int):Option ((List Int)):=
 (cW N p0_0 p1).bind fun o=>(cW N o.2 p2).bind fun j=>(idx j.2 (if o.1<j.1 then j.1 else o.1)).bind fun aa=>some (j.2.set (Int.toNat (if o.1<j.1 then j.1 else o.1)) (if j.1<o.1 then j.1 else o.1))
def gL (N:Nat) (p0_0: (List Int)):Option ((List (List Int))×(List Int)):=
 (ko p0_0.length (fun(ab:Nat) (j: (List Int)×(List (List Int))×(List (Int×Int)))=>((cW N j.1 (ab:Int)).bind fun aa=>(bif (aa.1==(ab:Int)) then ((app 24 j.2.1 [([]: (List Int))]).bind fun ad=>some (ad,(n9 j.2.2 (ab:Int) (j.2.1.length:Int)))) else (some (j.2.1,j.2.2))).bind fun o=>(idx o.1 (dQ o.2 aa.1 (0:Int))).bind fun ae=>(app 8 ae ([(ab:Int)]: (List Int))).bind fun af=>(idx o.1 (dQ o.2 aa.1 (0:Int))).bind fun ag=>some (aa.2,(o.1.set (Int.toNat (dQ o.2 aa.1 (0:Int))) af),o.2):Option ((List Int)×(List (List Int))×(List (Int×Int))))) (p0_0,([]: (List (List Int))),([]: (List (Int×Int))))).bind fun j=>some (j.2.1,j.1)
def iU (N:Nat) (p0:aI) (p1:iO):Option (Bool):=
 (bif (decide (p1.X>=p0.X0)) then (bif (decide (p1.X<p0.X1)) then (bif (decide (p1.Y>=p0.Y0)) then (some (decide (p1.Y<p0.Y1))) else (some false)) else (some false)) else (some false)).bind fun j=>some j
def g9 (N:Nat) (p0: (List aI)) (p1:iO):Option (Bool):=
 (eI N p0 (fun y0=>iU N y0 p1)).bind fun j=>some j
def gM (N:Nat) (p0_2: (List bU)) (p0_5: (List aH)) (p1:cT):Option (eZ×Bool):=
 (oZ p0_2.length (fun(o:Nat) (ad:Unit)=>((idx p0_2 (o:Int)).bind fun j=>(bif j.gh then ((iG N j p1.dY).bind fun ae=>bif ae then ((eA N j).bind fun af=>(g9 N ([af]: (List aI)) p1.At).bind fun ag=>some ag) else (some false)) else (some false)).bind fun ah=>bif ah then (some (.rt ((⟨true,(o:Int)⟩:eZ),true))) else (some (.nx ())):Option (Fl (Unit) (eZ×Bool)))) ()).bind fun ai=>ai.cs (fun(ad:Unit)=>(oZ p0_5.length (fun(aa:Nat) (aj:Unit)=>((idx p0_5 (aa:Int)).bind fun ab=>(bif (ab.dY==p1.dY) then ((g9 N ab.lW p1.At).bind fun ak=>some ak) else (some false)).bind fun al=>bif al then (some (.rt ((⟨false,(aa:Int)⟩:eZ),true))) else (some (.nx ())):Option (Fl (Unit) (eZ×Bool)))) ()).bind fun an=>an.cs (fun(aj:Unit)=>some ((⟨false,0⟩:eZ),false)) (fun r=>some r)) (fun r=>some r)
def eU (N:Nat) (p0_8: (List Int)) (p0_9: (List Int)) (p1:eZ):Option (Int):=
 bif p1.bU then ((idx p0_9 p1.Number).bind fun j=>some j) else ((idx p0_8 p1.Number).bind fun o=>some o)
def dZ (N:Nat) (p0_2: (List bU)) (p0_3: (List cT)) (p0_5: (List aH)) (p0_6: (List (List Int))) (p0_8: (List Int)) (p0_9: (List Int)) (p0_10: (List Int)) (p0_11: (List eZ)):Option ((List cP)×(List Int)×(List Int)×(List Int)×(List eZ)):=
 (gz N (IntKind.wrap .i64 ((p0_5.length:Int)+ (p0_2.length:Int)))).bind fun ar=>(ko p0_6.length (fun(ai:Nat) (af: (List Int))=>((idx p0_6 (ai:Int)).bind fun aj=>(ko aj.length (fun(au:Nat) (ag: (List Int))=>((idx aj (au:Int)).bind fun av=>(cQ N ag av (IntKind.wrap .i64 ((p0_5.length:Int)+ (ai:Int)))).bind fun aw=>some aw:Option ((List Int)))) af).bind fun ag=>some ag:Option ((List Int)))) ar).bind fun af=>(mk 8 (0:Int) (p0_5.length:Int)).bind fun ax=>(mk 8 (0:Int) (p0_2.length:Int)).bind fun ay=>(gL N af).bind fun ak=>(ko ak.1.length (fun(az:Nat) (aa: (List cP)×(List Int)×(List Int))=>((idx ak.1 (az:Int)).bind fun al=>(ko al.length (fun(a0:Nat) (j: (List Int)×(List Int)×(List Int)×(List Int))=>((idx al (a0:Int)).bind fun ab=>(bif (decide (ab< (p0_5.length:Int))) then ((idx j.1 ab).bind fun bd=>(app 8 j.2.2.1 ([ab]: (List Int))).bind fun a1=>some ((j.1.set (Int.toNat ab) (aa.1.length:Int)),j.2.1,a1,j.2.2.2)) else ((idx p0_2 (IntKind.wrap .i64 (ab - (p0_5.length:Int)))).bind fun a2=>(bif a2.gh then ((idx j.2.1 (IntKind.wrap .i64 (ab - (p0_5.length:Int)))).bind fun bf=>(app 8 j.2.2.2 ([(IntKind.wrap .i64 (ab - (p0_5.length:Int)))]: (List Int))).bind fun a3=>some ((j.2.1.set (Int.toNat (IntKind.wrap .i64 (ab - (p0_5.length:Int)))) (aa.1.length:Int)),a3)) else ((idx j.2.1 (IntKind.wrap .i64 (ab - (p0_5.length:Int)))).bind fun bg=>some ((j.2.1.set (Int.toNat (IntKind.wrap .i64 (ab - (p0_5.length:Int)))) (-1)),j.2.2.2))).bind fun an=>some (j.1,an.1,j.2.2.1,an.2))).bind fun ad=>some (ad.1,ad.2.1,ad.2.2.1,ad.2.2.2):Option ((List Int)×(List Int)×(List Int)×(List Int)))) (aa.2.1,aa.2.2,([]: (List Int)),([]: (List Int)))).bind fun j=>(bif (decide ((IntKind.wrap .i64 ((j.2.2.1.length:Int)+ (j.2.2.2.length:Int)))>0)) then ((app 72 aa.1 [(⟨j.2.2.1,j.2.2.2,([]: (List eK))⟩:cP)]).bind fun a4=>some a4) else (some aa.1)).bind fun a5=>some (a5,j.1,j.2.1):Option ((List cP)×(List Int)×(List Int)))) (([]: (List cP)),ax,ay)).bind fun aa=>(ko p0_3.length (fun(a6:Nat) (o: (List cP)×(List Int)×(List Int)×(List Int)×(List eZ))=>((idx p0_3 (a6:Int)).bind fun ao=>(gM N p0_2 p0_5 ao).bind fun ah=>(bif ah.2 then ((eU N o.2.1 o.2.2.1 ah.1).bind fun ae=>(idx o.1 ae).bind fun a7=>(iT N ao).bind fun a8=>(app 32 a7.gV ([a8]: (List eK))).bind fun a9=>(idx o.1 ae).bind fun ba=>some ((o.1.set (Int.toNat ae) {ba with gV:=a9}),ae)) else (some (o.1,(-1)))).bind fun aq=>(app 8 o.2.2.2.1 ([aq.2]: (List Int))).bind fun bb=>(app 16 o.2.2.2.2 ([ah.1]: (List eZ))).bind fun bc=>some (aq.1,o.2.1,o.2.2.1,bb,bc):Option ((List cP)×(List Int)×(List Int)×(List Int)×(List eZ)))) (aa.1,aa.2.1,aa.2.2,p0_10,p0_11)).bind fun o=>some (o.1,o.2.1,o.2.2.1,o.2.2.2.1,o.2.2.2.2)
def fV (N:Nat) (p0:jS):Option (Option ((List (List aI))×(List aI)×(List bU)×(List cT)×(List (List aA))×(List aH)×(List (List Int))×(List cP)×(List Int)×(List Int)×(List Int)×(List eZ))×Int):=
 bif ((p0.aJ.length:Int)==0) then (some (none,9)) else (bif (decide ((p0.aJ.length:Int)>16)) then (some (none,2)) else ((oZ p0.aJ.length (fun(an:Nat) (aa:Int)=>((idx p0.aJ (an:Int)).bind fun ae=>(fY N ae).bind fun af=>bif (af != 0) then (some (.rt (none,af))) else (some (.nx (IntKind.wrap .i64 (aa+ (ae.length:Int))))):Option (Fl (Int) (Option ((List (List aI))×(List aI)×(List bU)×(List cT)×(List (List aA))×(List aH)×(List (List Int))×(List cP)×(List Int)×(List Int)×(List Int)×(List eZ))×Int)))) (p0.dJ.length:Int)).bind fun ao=>ao.cs (fun(aa:Int)=>(fY N p0.dJ).bind fun ag=>bif (ag != 0) then (some (none,ag)) else (bif (decide (aa>2000)) then (some (none,2)) else ((hU N p0).bind fun ah=>bif (ah != 0) then (some (none,ah)) else ((ig N p0).bind fun ai=>bif (ai != 0) then (some (none,ai)) else ((oZ p0.aS.length (fun(aj:Nat) (aq:Unit)=>((idx p0.aS (aj:Int)).bind fun ab=>(rG p0.aS 0 (aj:Int)).bind fun ak=>(oZ ak.length (fun(ar:Nat) (au:Unit)=>((idx ak (ar:Int)).bind fun ad=>(bif ((decide (ab.cK<=ad.To))&&(decide (ad.cK<=ab.To))) then ((eA N ab).bind fun av=>(eA N ad).bind fun aw=>(nA N av aw).bind fun ax=>some (ax==0)) else (some false)).bind fun ay=>bif ay then (some (.rt (none,12))) else (some (.nx ())):Option (Fl (Unit) (Option ((List (List aI))×(List aI)×(List bU)×(List cT)×(List (List aA))×(List aH)×(List (List Int))×(List cP)×(List Int)×(List Int)×(List Int)×(List eZ))×Int)))) ()).bind fun az=>az.cs (fun(au:Unit)=>some (.nx ())) (fun r=>some (.rt r)):Option (Fl (Unit) (Option ((List (List aI))×(List aI)×(List bU)×(List cT)×(List (List aA))×(List aH)×(List (List Int))×(List cP)×(List Int)×(List Int)×(List Int)×(List eZ))×Int)))) ()).bind fun a0=>a0.cs (fun(aq:Unit)=>(gJ N p0.aJ p0.aS ([]: (List (List aA))) ([]: (List aH))).bind fun j=>bif (!j.1) then (some (none,2)) else ((gK N p0.aS j.2.2 ([]: (List (List Int)))).bind fun al=>(dZ N p0.aS p0.bE j.2.2 al ([]: (List Int)) ([]: (List Int)) ([]: (List Int)) ([]: (List eZ))).bind fun o=>some (some (p0.aJ,p0.dJ,p0.aS,p0.bE,j.2.1,j.2.2,al,o.1,o.2.1,o.2.2.1,o.2.2.2.1,o.2.2.2.2),0))) (fun r=>some r)))))) (fun r=>some r)))
def l6 (N:Nat) (p0 p1 p2:Int):Option (Bool):=
 some ((decide (p0>=p1))&&(decide (p0<=p2)))
def gq (N:Nat) (p0:Int) (p1h_5: (List aH)):Option (Bool):=
 (l6 N p0 0 (IntKind.wrap .i64 ((p1h_5.length:Int) - 1))).bind fun j=>some j
def kU (N:Nat) (p0: (List kA)) (p1:kA):Option (Int):=
 (oZ p0.length (fun(j:Nat) (o:Unit)=>((idx p0 (j:Int)).bind fun aa=>bif (decide (p1=aa)) then (some (.rt (j:Int))) else (some (.nx ())):Option (Fl (Unit) Int))) ()).bind fun ab=>ab.cs (fun(o:Unit)=>some (-1)) (fun r=>some r)
def jC (N:Nat) (p0: (List kA)) (p1:kA):Option (Bool):=
 (kU N p0 p1).bind fun j=>some (decide (j>=0))
def iI (N:Nat) (p0_0: (List (List aI))) (p0_1: (List aI)) (p0_2: (List bU)) (p0_3: (List cT)) (p0_4: (List (List aA))) (p0_5: (List aH)) (p0_6: (List (List Int))) (p0_7: (List cP)) (p0_8: (List Int)) (p0_9: (List Int)) (p0_10: (List Int)) (p0_11: (List eZ)) (p1: (List kA)):Option (Int):=
 bif (decide ((p1.length:Int)>20)) then (some 2) else ((oZ p1.length (fun(o:Nat) (aa:Unit)=>((idx p1 (o:Int)).bind fun j=>(bif (j.Open&&((j.A != 0)||(j.B != 0))) then (some true) else (bif (!j.Open) then (some (!(decide (j.eZ= (⟨false,0⟩:eZ))))) else (some false))).bind fun ab=>bif ab then (some (.rt 3)) else (((gq N j.A p0_5).bind fun ad=>bif ad then ((gq N j.B p0_5).bind fun ae=>some ae) else (some false)).bind fun af=>(bif j.Open then ((gq N j.eZ.Number p0_5).bind fun ag=>some ag) else (some af)).bind fun ah=>(bif (j.Open&&j.eZ.bU) then (((l6 N j.eZ.Number 0 (IntKind.wrap .i64 ((p0_2.length:Int) - 1))).bind fun ai=>bif ai then ((idx p0_2 j.eZ.Number).bind fun aj=>some aj.gh) else (some false)).bind fun ak=>some ak) else (some ah)).bind fun al=>bif (!al) then (some (.rt 9)) else (bif ((!j.Open)&&(decide (j.B<=j.A))) then (some (.rt 8)) else ((rG p1 0 (o:Int)).bind fun an=>(jC N an j).bind fun ao=>bif ao then (some (.rt 7)) else (some (.nx ()))))):Option (Fl (Unit) Int))) ()).bind fun aq=>aq.cs (fun(aa:Unit)=>some 0) (fun r=>some r))
def dV (N:Nat) (p0: (List cT)) (p1:eK) (p2:cT->eK->Option Int):Option (Int×Bool):=
 (mn (fun(j:Int×Int)=>(bif (decide (j.1<j.2)) then ((idx p0 (IntKind.wrap .i64 (Int.fdiv (IntKind.wrap .u64 (IntKind.wrap .i64 (j.1+j.2))) 2))).bind fun aa=>(p2 aa p1).bind fun ab=>(bif (decide (ab<0)) then (some ((IntKind.wrap .i64 ((IntKind.wrap .i64 (Int.fdiv (IntKind.wrap .u64 (IntKind.wrap .i64 (j.1+j.2))) 2))+1)),j.2)) else (some (j.1,(IntKind.wrap .i64 (Int.fdiv (IntKind.wrap .u64 (IntKind.wrap .i64 (j.1+j.2))) 2))))).bind fun o=>some (.nx (o.1,o.2))) else (some (.br (j.1,j.2))):Option (Fl (Int×Int) Empty))) N (0,(p0.length:Int))).bind fun ad=>ad.cs (fun(j:Int×Int)=>(bif (decide (j.1< (p0.length:Int))) then ((idx p0 j.1).bind fun ae=>(p2 ae p1).bind fun af=>some (af==0)) else (some false)).bind fun ag=>some (j.1,ag)) (fun r=>r.elim)
def fM (N:Nat) (p0:cT) (p1:eK):Option (Int):=
 (iT N p0).bind fun j=>(fC N j p1).bind fun o=>some o
def gw (N:Nat) (p0:jS) (p1:eK):Option (Int):=
 (dV N p0.bE p1 (fM N)).bind fun j=>bif (!j.2) then (some (-1)) else (some j.1)
def gA (N:Nat) (p0:eZ) (p1:Int):Option (Int):=
 bif p0.bU then (some (IntKind.wrap .i64 (p1+p0.Number))) else (some p0.Number)
def iJ (N:Nat) (p0 p1:Int) (p2_0: (List (Int×Bool))) (p3h_0: (List Int)):Option ((List Int)):=
 (bif (!(dQ p2_0 p0 (false:Bool))) then (some (!(dQ p2_0 p1 (false:Bool)))) else (some false)).bind fun j=>(bif j then ((cQ N p3h_0 p0 p1).bind fun o=>some o) else (some p3h_0)).bind fun aa=>some aa
def je (N:Nat) (p0_2: (List bU)) (p0_3: (List cT)) (p0_5: (List aH)) (p0_6: (List (List Int))) (p0_10: (List Int)) (p0_11: (List eZ)) (p1: (List kA)):Option ((List Int)):=
 (ko p1.length (fun(aq:Nat) (aa: (List (Int×Bool)))=>((idx p1 (aq:Int)).bind fun aj=>(bif aj.Open then ((gA N aj.eZ (p0_5.length:Int)).bind fun ar=>some (n9 aa ar true)) else (some aa)).bind fun au=>some au:Option ((List (Int×Bool))))) ([]: (List (Int×Bool)))).bind fun aa=>(gz N (IntKind.wrap .i64 ((p0_5.length:Int)+ (p0_2.length:Int)))).bind fun av=>(ko p0_6.length (fun(ak:Nat) (ae: (List Int))=>((idx p0_6 (ak:Int)).bind fun al=>(ko al.length (fun(aw:Nat) (af: (List Int))=>((idx al (aw:Int)).bind fun ax=>(iJ N ax (IntKind.wrap .i64 ((p0_5.length:Int)+ (ak:Int))) aa af).bind fun ay=>some ay:Option ((List Int)))) ae).bind fun af=>some af:Option ((List Int)))) av).bind fun ae=>(ko p1.length (fun(az:Nat) (ab: (List Int))=>((idx p1 (az:Int)).bind fun ag=>(bif (!ag.Open) then ((iJ N ag.A ag.B aa ab).bind fun a0=>some a0) else (some ab)).bind fun a1=>some a1:Option ((List Int)))) ae).bind fun ab=>(mk 8 (0:Int) (p0_3.length:Int)).bind fun a2=>(ko p0_11.length (fun(o:Nat) (j: (List Int)×(List (Int×Int))×(List Int))=>((idx p0_11 (o:Int)).bind fun a3=>(gA N a3 (p0_5.length:Int)).bind fun ad=>((idx p0_10 (o:Int)).bind fun a4=>bif (decide (a4<0)) then (some true) else (some (dQ aa ad (false:Bool)))).bind fun a5=>bif a5 then ((idx j.2.2 (o:Int)).bind fun a6=>some (j.1,j.2.1,(j.2.2.set (Int.toNat (o:Int)) (-1)))) else ((cW N j.1 ad).bind fun ah=>(bif (!(jy j.2.1 ah.1)) then ((cW N ah.2 ad).bind fun an=>some (an.2,(n9 j.2.1 an.1 (o:Int)))) else (some (ah.2,j.2.1))).bind fun ai=>(cW N ai.1 ad).bind fun ao=>(idx j.2.2 (o:Int)).bind fun a7=>some (ao.2,ai.2,(j.2.2.set (Int.toNat (o:Int)) (dQ ai.2 ao.1 (0:Int))))):Option ((List Int)×(List (Int×Int))×(List Int)))) (ab,([]: (List (Int×Int))),a2)).bind fun j=>some j.2.2
def dE (N:Nat) (p0:jS) (p1: (List kA)) (p2 p3:eK):Option (Bool×Int):=
 (fV N p0).bind fun o=>BK o.1 (bif (o.2 != 0) then (some (false,o.2)) else (none)) (fun(j: ((List (List aI))×(List aI)×(List bU)×(List cT)×(List (List aA))×(List aH)×(List (List Int))×(List cP)×(List Int)×(List Int)×(List Int)×(List eZ)))=>bif (o.2 != 0) then (some (false,o.2)) else ((iI N j.1 j.2.1 j.2.2.1 j.2.2.2.1 j.2.2.2.2.1 j.2.2.2.2.2.1 j.2.2.2.2.2.2.1 j.2.2.2.2.2.2.2.1 j.2.2.2.2.2.2.2.2.1 j.2.2.2.2.2.2.2.2.2.1 j.2.2.2.2.2.2.2.2.2.2.1 j.2.2.2.2.2.2.2.2.2.2.2 p1).bind fun ad=>bif (ad != 0) then (some (false,ad)) else ((gw N p0 p2).bind fun aa=>(gw N p0 p3).bind fun ae=>bif ((decide (aa<0))||(decide (ae<0))) then (some (false,9)) else ((je N j.2.2.1 j.2.2.2.1 j.2.2.2.2.2.1 j.2.2.2.2.2.2.1 j.2.2.2.2.2.2.2.2.2.2.1 j.2.2.2.2.2.2.2.2.2.2.2 p1).bind fun ab=>((idx ab aa).bind fun af=>bif (decide (af>=0)) then ((idx ab aa).bind fun ag=>(idx ab ae).bind fun ah=>some (ag==ah)) else (some false)).bind fun ai=>some (ai,0)))))
def eV (N:Nat):Option (Bool):=
 (dE N (⟨([([(⟨0,0,1,1⟩:aI)]: (List aI))]: (List (List aI))),([]: (List aI)),([]: (List bU)),([(⟨⟨[97]⟩,⟨[49]⟩,0,⟨0,0⟩⟩:cT)]: (List cT))⟩:jS) ([]: (List kA)) (⟨⟨[97]⟩,⟨[49]⟩⟩:eK) (⟨⟨[97]⟩,⟨[49]⟩⟩:eK)).bind fun j=>some ((j.2==0)&&j.1)
def iK (N:Nat) (p0:jS) (p1:eK):Option (Int×Bool×Int):=
 (fV N p0).bind fun j=>BK j.1 (bif (j.2 != 0) then (some (0,false,j.2)) else ((gw N p0 p1).bind fun ab=>bif (decide (ab<0)) then (some (0,false,9)) else (none))) (fun(aa: ((List (List aI))×(List aI)×(List bU)×(List cT)×(List (List aA))×(List aH)×(List (List Int))×(List cP)×(List Int)×(List Int)×(List Int)×(List eZ)))=>bif (j.2 != 0) then (some (0,false,j.2)) else ((gw N p0 p1).bind fun o=>bif (decide (o<0)) then (some (0,false,9)) else ((idx aa.2.2.2.2.2.2.2.2.2.2.1 o).bind fun ad=>bif (decide (ad<0)) then (some (0,false,0)) else ((idx aa.2.2.2.2.2.2.2.2.2.2.1 o).bind fun ae=>some (ae,true,0)))))
def bR (N:Nat) (p0:jS) (p1 p2:eK):Option (Bool):=
 (dE N p0 ([]: (List kA)) p1 p2).bind fun j=>bif (j.2 != 0) then ((bif (!j.1) then ((eV N).bind fun ab=>some ab) else (some false)).bind fun ad=>some ad) else ((iK N p0 p1).bind fun o=>(iK N p0 p2).bind fun aa=>(bif ((o.2.2==0)&&(aa.2.2==0)) then (bif (j.1==((o.2.1&&aa.2.1)&&(o.1==aa.1))) then ((eV N).bind fun ae=>some ae) else (some false)) else (some false)).bind fun af=>some af)
end
end Go.Gk
namespace Go.Gk
open Go
def rh {R:Type} (m:Nat) (e:Nat->Option R):Option R:=(List.range m).findSome? e
theorem kF {R:Type} {m:Nat} {e:Nat->Option R}:rh m e=none↔∀k,k<m->e k=none:=by
 simp [rh]
theorem mi {R:Type} {m:Nat} {e:Nat->Option R} {r:R}:rh m e=some r↔∃k,k<m/\e k=some r/\∀j,j<k->e j=none:=by
 constructor
 ·intro h
  obtain⟨l1,a,l2,hl,ha,hn⟩:=List.findSome?_eq_some_iff.1 h
  have hlen:l1.length<m:=by have:=congrArg List.length hl;simp at this;omega
  have hget: ∀i,i<l1.length->l1[i]? =some i:=fun i hi=>by
   have:=congrArg (·[i]?) hl
   simp only [eM hi,List.getElem?_range (show i<m by omega)] at this
   exact this.symm
  have hat:a=l1.length:=by
   have:=congrArg (·[l1.length]?) hl
   simp [List.getElem?_range hlen] at this
   exact this.symm
  refine⟨a,by omega,ha,fun j hj=>hn j ?_⟩
  exact ga (hget j (by omega))
 ·rintro⟨k,hk,he,hn⟩
  refine List.findSome?_eq_some_iff.2 ⟨List.range k,k,(List.range (m - k - 1)).map (· + (k+1)),?_,he,fun x hx=>hn x (l4.1 hx)⟩
  refine List.ext_getElem? fun i=>?_
  by_cases h1:i<k
  ·rw [eM (by simpa using h1),List.getElem?_range (by omega),List.getElem?_range h1]
  ·rw [eG (by simpa using h1),List.length_range]
   by_cases h2:i=k
   ·subst h2;simp [List.getElem?_range hk]
   ·obtain⟨d,rfl⟩: ∃d,i=k+1+d:=⟨i - (k+1),by omega⟩
    rw [show k+1+d - k=d+1 by omega,List.getElem?_cons_succ,gR]
    by_cases h3:k+1+d<m
    ·rw [List.getElem?_range h3,List.getElem?_range (by omega)];simp;omega
    ·rw [List.getElem?_eq_none (by simp;omega),List.getElem?_eq_none (by simp;omega)];rfl
section
variable {S R:Type}
def AY (o:Option R) (s:S):Fl S R:=match o with | some r=> .rt r | none=> .nx s
def zm (o:Option R) (s:S):Fo S R:=match o with | some r=> .rt r | none=> .go s
theorem yn {body:Nat->S->Option (Fl S R)} (F:Nat->S) (e:Nat->Option R) (m:Nat): ∀(n k:Nat),k+n=m->
  (∀j,k<=j->j<m->(∀i,k<=i->i<j->e i=none)->body j (F j)=some (AY (e j) (F (j+1))))->
  ∃o,wL body n k (F k)=some o/\((∀j,k<=j->j<m->e j=none)/\o = .go (F m)\/∃j r,k<=j/\j<m/\e j=some r/\(∀i,k<=i->i<j->e i=none)/\o = .rt r)
 | 0,k,hk,_=>⟨_,rfl, .inl ⟨fun j h1 h2=>by omega,by rw [show k=m by omega]⟩⟩
 | n+1,k,hk,h=>by
  have hb:=h k (bG _) (by omega) (fun i h1 h2=>by omega)
  unfold wL
  rw [hb]
  cases hx:e k with
  | some r=>exact⟨_,rfl, .inr ⟨k,r,bG _,by omega,hx,fun i h1 h2=>by omega,rfl⟩⟩
  | none=>
   obtain⟨o,ho,hc⟩:=yn F e m n (k+1) (by omega) (fun j h1 h2 h3=>h j (by omega) h2 fun i h4 h5=>by
    by_cases h6:i=k
    ·subst h6;exact hx
    ·exact h3 i (by omega) h5)
   refine⟨o,ho,?_⟩
   rcases hc with ⟨h1,h2⟩ | ⟨j,r,h1,h2,h3,h4,h5⟩
   ·refine .inl ⟨fun j h3 h4=>?_,h2⟩
    by_cases h6:j=k
    ·subst h6;exact hx
    ·exact h1 j (by omega) h4
   ·refine .inr ⟨j,r,by omega,h2,h3,fun i h6 h7=>?_,h5⟩
    by_cases h8:i=k
    ·subst h8;exact hx
    ·exact h4 i (by omega) h7
theorem Dl {body:Nat->S->Option (Fl S R)} {m:Nat} {s:S} (F:Nat->S) (e:Nat->Option R) (hm:m<=4611686018427387904) (hs:F 0=s)
  (h: ∀k,k<m->(∀i,i<k->e i=none)->body k (F k)=some (AY (e k) (F (k+1)))):oZ m body s=some (zm (rh m e) (F m)):=by
 subst hs
 unfold oZ
 rw [aC hm]
 obtain⟨o,ho,hc⟩:=yn F e m m 0 (by omega) (fun j _ h2 h3=>h j h2 fun i hi=>h3 i (mT _) hi)
 rw [ho]
 rcases hc with ⟨h1,h2⟩ | ⟨j,r,_,h2,h3,h4,h5⟩
 ·rw [kF.2 fun k hk=>h1 k (mT _) hk,h2];rfl
 ·rw [mi.2 ⟨j,h2,h3,fun i hi=>h4 i (mT _) hi⟩,h5];rfl
theorem nH {body:Nat->Unit->Option (Fl Unit R)} {m:Nat} (e:Nat->Option R) (hm:m<=4611686018427387904)
  (h: ∀k,k<m->(∀i,i<k->e i=none)->body k ()=some (AY (e k) ())):oZ m body ()=some (zm (rh m e) ()):=
 Dl (fun _=>()) e hm rfl h
theorem r9 {body:S->Option (Fl S R)} (Inv:S->Prop) (μ:S->Nat) (Go:S->Prop) (Rt:R->Prop)
  (h: ∀s,Inv s->∃fl,body s=some fl/\match fl with | .nx s'=>Inv s'/\μ s'<μ s | .br s'=>Go s' | .rt r=>Rt r):
  ∀(N:Nat) (s:S),Inv s->μ s<N->∃o,mn body N s=some o/\match o with | .go s'=>Go s' | .rt r=>Rt r
 | 0,s,_,hn=>by omega
 | N+1,s,hi,hn=>by
  obtain⟨fl,hb,hf⟩:=h s hi
  unfold mn
  rw [hb]
  cases fl with
  | nx s'=>exact r9 Inv μ Go Rt h N s' hf.1 (by have:=hf.2;omega)
  | br s'=>exact⟨_,rfl,hf⟩
  | rt r=>exact⟨_,rfl,hf⟩
theorem yo {body:Nat->S->Option (Fl S R)} (Inv:Nat->S->Prop) (Go:S->Prop) (Rt:R->Prop) (m:Nat)
  (h: ∀k s,k<m->Inv k s->∃fl,body k s=some fl/\match fl with | .nx s'=>Inv (k+1) s' | .br s'=>Go s' | .rt r=>Rt r) (hg: ∀s,Inv m s->Go s):
  ∀(n k:Nat) (s:S),k+n=m->Inv k s->∃o,wL body n k s=some o/\match o with | .go s'=>Go s' | .rt r=>Rt r
 | 0,k,s,hk,hi=>⟨_,rfl,hg s (by rw [<-hk];exact hi)⟩
 | n+1,k,s,hk,hi=>by
  obtain⟨fl,hb,hf⟩:=h k s (by omega) hi
  unfold wL
  rw [hb]
  cases fl with
  | nx s'=>exact yo Inv Go Rt m h hg n (k+1) s' (by omega) hf
  | br s'=>exact⟨_,rfl,hf⟩
  | rt r=>exact⟨_,rfl,hf⟩
theorem Dm {body:Nat->S->Option (Fl S R)} {m:Nat} {s:S} (Inv:Nat->S->Prop) (Go:S->Prop) (Rt:R->Prop) (hm:m<=4611686018427387904) (h0:Inv 0 s)
  (h: ∀k s,k<m->Inv k s->∃fl,body k s=some fl/\match fl with | .nx s'=>Inv (k+1) s' | .br s'=>Go s' | .rt r=>Rt r) (hg: ∀s,Inv m s->Go s):
  ∃o,oZ m body s=some o/\match o with | .go s'=>Go s' | .rt r=>Rt r:=by
 unfold oZ
 rw [aC hm]
 exact yo Inv Go Rt m h hg m 0 s (by omega) h0
theorem yp {body:Nat->S->Option S} (Inv:Nat->S->Prop) (m:Nat) (h: ∀k s,k<m->Inv k s->∃s',body k s=some s'/\Inv (k+1) s'):
  ∀(n k:Nat) (s:S),k+n=m->Inv k s->∃s',Bw body n k s=some s'/\Inv m s'
 | 0,k,s,hk,hi=>⟨_,rfl,by rw [<-hk];exact hi⟩
 | n+1,k,s,hk,hi=>by
  obtain⟨s',hb,hf⟩:=h k s (by omega) hi
  unfold Bw
  rw [hb]
  exact yp Inv m h n (k+1) s' (by omega) hf
theorem ui {body:Nat->S->Option S} {m:Nat} {s:S} (Inv:Nat->S->Prop) (hm:m<=4611686018427387904) (h0:Inv 0 s)
  (h: ∀k s,k<m->Inv k s->∃s',body k s=some s'/\Inv (k+1) s'): ∃s',ko m body s=some s'/\Inv m s':=by
 unfold ko
 rw [aC hm]
 exact yp Inv m h m 0 s (by omega) h0
end
section
variable {α β:Type}
theorem aB (x:α) (f:α->Option β): (some x).bind f=f x:=rfl
theorem iC (l:List α) (k:Nat) (h:k<l.length):idx l ((k:Nat):Int)=some l[k]:=by
 unfold idx;rw [aC (by omega),bS,aN h]
theorem gl {l:List α} {k:Nat} {x:α} (h:l[k]? =some x):idx l ((k:Nat):Int)=some x:=by
 unfold idx;rw [aC (by omega),bS,h]
theorem Cd (s:cS) (k:Nat) (h:k<s.cA.length):Az s ((k:Nat):Int)=some s.cA[k]:=by
 unfold Az;rw [aC (by omega),bS,aN h]
theorem lr {k:Nat} (h:0<k) (hk:k<=4611686018427387904):IntKind.wrap .i64 (((k:Nat):Int) - 1)= ((k - 1:Nat):Int):=by
 rw [eE (by omega) (by omega)];omega
theorem sd (l:List α) (k:Nat) (h:k<=l.length):rG l 0 ((k:Nat):Int)=some (l.take k):=by
 unfold rG;rw [aC ⟨by omega,by omega,by omega⟩]
 simp only [Int.toNat_zero,List.drop_zero,Int.sub_zero,bS]
theorem sf (l:List α) (k:Nat) (h:k<=l.length):rG l ((k:Nat):Int) ((l.length:Nat):Int)=some (l.drop k):=by
 unfold rG;rw [aC ⟨by omega,by omega,by omega⟩]
 simp only [bS,Option.some.injEq]
 rw [mS];rw [fP];omega
theorem ij {b:Nat} {l ys:List α} (h: (l.length+ys.length)*b<=140737488355328):app b l ys=some (l++ys):=by unfold app;rw [aC h]
theorem qh {b:Nat} (z:α) {n:Nat} (h:n*b<=140737488355328):mk b z ((n:Nat):Int)=some (List.replicate n z):=by
 unfold mk
 have e: ((n:Nat):Int)* ((b:Nat):Int)= ((n*b:Nat):Int):=(Int.natCast_mul n b).symm
 rw [e]
 generalize n*b=q at h ⊢
 rw [aC ⟨by omega,by omega⟩,bS]
end
theorem cS.ext' {a b:cS} (h:a.cA=b.cA):a=b:=by cases a;cases b;simp at h;rw [h]
theorem Dn {a b:cS}:a.yV b=true↔a=b:=by
 unfold cS.yV;rw [beq_iff_eq];exact⟨cS.ext',fun h=>by rw [h]⟩
theorem tS: ∀(a:List UInt8),Op.bytesLess a a=false
 | []=>rfl
 | a::l=>by
  unfold Op.bytesLess
  rw [tS l];simp
theorem uP: ∀{a b c:List UInt8},Op.bytesLess a b=true->Op.bytesLess b c=true->Op.bytesLess a c=true
 | [],[],_,h,_=>by simp [Op.bytesLess] at h
 | [],_::_,[],_,h=>by simp [Op.bytesLess] at h
 | [],_::_,_::_,_,_=>rfl
 | _::_,[],_,h,_=>by simp [Op.bytesLess] at h
 | _::_,_::_,[],_,h=>by simp [Op.bytesLess] at h
 | a::l,b::m,c::n,h1,h2=>by
  unfold Op.bytesLess at h1 h2 ⊢
  simp only [dG,bM,bW,beq_iff_eq] at h1 h2 ⊢
  rcases h1 with h1 | ⟨rfl,h1⟩
  ·rcases h2 with h2 | ⟨rfl,h2⟩
   ·exact .inl (UInt8.lt_trans h1 h2)
   ·exact .inl h1
  ·rcases h2 with h2 | ⟨rfl,h2⟩
   ·exact .inl h2
   ·exact .inr ⟨rfl,uP h1 h2⟩
theorem uQ: ∀(a b:List UInt8),Op.bytesLess a b=true\/a=b\/Op.bytesLess b a=true
 | [],[]=> .inr (.inl rfl)
 | [],_::_=> .inl rfl
 | _::_,[]=> .inr (.inr rfl)
 | a::l,b::m=>by
  unfold Op.bytesLess
  simp only [dG,bM,bW,beq_iff_eq]
  by_cases h1:a<b
  ·exact .inl (.inl h1)
  ·by_cases h2:b<a
   ·exact .inr (.inr (.inl h2))
   ·have e:a=b:=by
     simp only [UInt8.lt_iff_toNat_lt] at h1 h2
     exact UInt8.toNat_inj.1 (by omega)
    subst e
    rcases uQ l m with h | h | h
    ·exact .inl (.inr ⟨rfl,h⟩)
    ·exact .inr (.inl (by rw [h]))
    ·exact .inr (.inr (.inr ⟨rfl,h⟩))
theorem ri: ∀(a b:List UInt8),Lib.compareBytes a b<0↔Op.bytesLess a b=true
 | [],[]=>by simp [Lib.compareBytes,Op.bytesLess]
 | [],_::_=>by simp [Lib.compareBytes,Op.bytesLess]
 | _::_,[]=>by simp [Lib.compareBytes,Op.bytesLess]
 | a::l,b::m=>by
  unfold Lib.compareBytes Op.bytesLess
  simp only [dG,bM,bW,beq_iff_eq]
  split
  ·simp_all
  ·rename_i h1
   split
   ·rename_i h2
    have h3:a≠b:=fun e=>by subst e;exact h1 h2
    simp [h1,h3]
   ·rename_i h2
    have e:a=b:=by
     simp only [UInt8.lt_iff_toNat_lt] at h1 h2
     exact UInt8.toNat_inj.1 (by omega)
    subst e
    rw [ri l m];simp [h1]
theorem rj: ∀(a b:List UInt8),Lib.compareBytes a b=0↔a=b
 | [],[]=>by simp [Lib.compareBytes]
 | [],_::_=>by simp [Lib.compareBytes]
 | _::_,[]=>by simp [Lib.compareBytes]
 | a::l,b::m=>by
  unfold Lib.compareBytes
  split
  ·rename_i h1
   have h3:a≠b:=fun e=>by subst e;exact absurd h1 (by simp)
   simp [h3]
  ·rename_i h1
   split
   ·rename_i h2
    have h3:a≠b:=fun e=>by subst e;exact h1 h2
    simp [h3]
   ·rename_i h2
    have e:a=b:=by
     simp only [UInt8.lt_iff_toNat_lt] at h1 h2
     exact UInt8.toNat_inj.1 (by omega)
    subst e
    rw [rj l m];simp
def cS.lt (a b:cS):Prop:=a.DY b=true
theorem cS.lt_irrefl (a:cS): ¬cS.lt a a:=by unfold cS.lt cS.DY;rw [tS];decide
theorem cS.lt_trans {a b c:cS} (h1:cS.lt a b) (h2:cS.lt b c):cS.lt a c:=uP h1 h2
theorem cS.yq (a b:cS):cS.lt a b\/a=b\/cS.lt b a:=by
 rcases uQ a.cA b.cA with h | h | h
 ·exact .inl h
 ·exact .inr (.inl (cS.ext' h))
 ·exact .inr (.inr h)
theorem cS.DO {a b:cS} (h:cS.lt a b):a≠b:=fun e=>by subst e;exact cS.lt_irrefl a h
end Go.Gk
namespace Go.Gk
open Go
class Bk (α:Type) where
 bk:α->Nat
 pos: ∀x,1<=bk x
def bk {α:Type} [Bk α] (x:α):Nat:=Bk.bk x
theorem Ce {α:Type} [Bk α] (x:α):1<=bk x:=Bk.pos x
instance:Bk cS:=⟨fun s=>s.cA.length+1,fun _=>by omega⟩
instance:Bk Int:=⟨fun _=>1,fun _=>by omega⟩
instance:Bk Bool:=⟨fun _=>1,fun _=>by omega⟩
instance {α:Type} [Bk α]:Bk (List α):=⟨fun l=>(l.map bk).sum+1,fun _=>by omega⟩
theorem Cf {α:Type} [Bk α]:bk ([]:List α)=1:=rfl
theorem xg {α:Type} [Bk α] (x:α) (l:List α):bk (x::l)=bk x+bk l:=by
 show (List.map bk (x::l)).sum+1=bk x+ ((List.map bk l).sum+1)
 simp;omega
theorem zn {α:Type} [Bk α]: ∀{l:List α} {x:α},x∈l->bk x+1<=bk l
 | y::l,x,h=>by
  rw [xg]
  rcases fG.1 h with h | h
  ·subst h;have:=Ce l;omega
  ·have:=zn h;omega
theorem tu {α:Type} [Bk α]: ∀(l:List α),l.length+1<=bk l
 | []=>by rw [Cf];simp
 | x::l=>by rw [xg,km];have:=tu l;have:=Ce x;omega
theorem Cg (s:cS):bk s=s.cA.length+1:=rfl
section
variable {α R:Type}
theorem AZ {l:List α} {e:Nat->Option R} (f:α->Option R) (h: ∀k x,l[k]? =some x->e k=f x):rh l.length e=l.findSome? f:=by
 cases hx:rh l.length e with
 | none=>
  refine(List.findSome?_eq_none_iff.2 fun x hm=>?_).symm
  obtain⟨k,hk⟩:=fw hm
  rw [<-h k x hk];exact kF.1 hx k (aW.1 hk).1
 | some r=>
  obtain⟨k,hk,he,hn⟩:=mi.1 hx
  refine(List.findSome?_eq_some_iff.2 ⟨l.take k,l[k],l.drop (k+1),?_,?_,fun y hy=>?_⟩).symm
  ·rw [<-pY hk,List.take_append_drop]
  ·rw [<-h k l[k] (aN hk)];exact he
  ·obtain⟨j,hj⟩:=fw hy
   have hjk:j<k:=by have:=(aW.1 hj).1;rw [cR] at this;omega
   rw [List.getElem?_take_of_lt hjk] at hj
   rw [<-h j y hj];exact hn j hjk
theorem xh (l:List α) (p:α->Bool) (r:R):l.findSome? (fun x=>if p x=true then some r else none)=if l.any p=true then some r else none:=by
 induction l with
 | nil=>simp
 | cons x l ih=>
  rw [List.findSome?_cons,List.any_cons]
  cases h:p x <;> simp [ih]
theorem uR {l:List α} {body:Nat->Unit->Option (Fl Unit R)} (f:α->Option R) (hl:l.length<=4611686018427387904)
  (h: ∀k x,l[k]? =some x->body k ()=some (AY (f x) ())):oZ l.length body ()=some (zm (l.findSome? f) ()):=by
 have h2:=nH (body:=body) (m:=l.length) (fun k=>(l[k]?).bind f) hl (fun k hk _=>by
  rw [h k l[k] (aN hk),aN hk];rfl)
 rw [h2,AZ f (fun k x hx=>by rw [hx];rfl)]
theorem Dp {l:List α} {body:Nat->Unit->Option (Fl Unit R)} (p:α->Bool) (r:R) (hl:l.length<=4611686018427387904)
  (h: ∀k x,l[k]? =some x->body k ()=some (if p x=true then .rt r else .nx ())):oZ l.length body ()=some (if l.any p=true then .rt r else .go ()):=by
 rw [uR (fun x=>if p x=true then some r else none) hl (fun k x hx=>by rw [h k x hx];cases p x <;> rfl),xh]
 cases l.any p <;> rfl
end
theorem Dq {β:Type} (b:Bool) (x y:β): (bif b then some x else some y)=some (bif b then x else y):=by cases b <;> rfl
section
variable {α β:Type}
def A0 (l:List α) (p:α->Bool):Int:=match l.findIdx? p with | some k=>((k:Nat):Int) | none=> -1
theorem Ch {l:List α} {p:α->Bool} (h:l.any p=false):A0 l p = -1:=by
 unfold A0
 rw [List.findIdx?_eq_none_iff.2]
 intro x hx
 rw [<-mR]
 intro hp
 rw [<-mR] at h
 exact h (jQ.2 ⟨x,hx,hp⟩)
theorem Ci {l:List α} {p:α->Bool} {k:Nat} {x:α} (hk:l[k]? =some x) (hp:p x=true) (hn: ∀j y,j<k->l[j]? =some y->p y=false):A0 l p= ((k:Nat):Int):=by
 unfold A0
 have hlt:=(aW.1 hk).1
 have:l.findIdx? p=some k:=by
  rw [List.findIdx?_eq_some_iff_getElem]
  refine⟨hlt,?_,fun j hj=>?_⟩
  ·have:=aN hlt;rw [hk] at this;injection this with this;rw [<-this];exact hp
  ·have:=hn j l[j] hj (aN (by omega));simpa using this
 rw [this]
theorem qj (l:List α) (p:α->Bool): (A0 l p = -1/\∀x∈l,p x=false)\/∃k x,A0 l p= ((k:Nat):Int)/\l[k]? =some x/\p x=true/\∀j y,j<k->l[j]? =some y->p y=false:=by
 unfold A0
 cases h:l.findIdx? p with
 | none=>exact .inl ⟨rfl,fun x hx=>by have:=List.findIdx?_eq_none_iff.1 h x hx;simpa using this⟩
 | some k=>
  obtain⟨hk,hp,hn⟩:=List.findIdx?_eq_some_iff_getElem.1 h
  refine .inr ⟨k,l[k],rfl,aN hk,hp,fun j y hj hy=>?_⟩
  have:=hn j hj
  rw [aN (by omega)] at hy
  injection hy with hy
  subst hy;simpa using this
theorem Ey (l:List α) (p:α->Bool):decide (A0 l p>=0)=l.any p:=by
 rcases qj l p with ⟨h,hn⟩ | ⟨k,x,h,hx,hp,_⟩
 ·rw [h,List.any_eq_false.2 (fun x hx=>by rw [hn x hx];decide)];decide
 ·rw [h,jQ.2 ⟨x,ga hx,hp⟩];simp
def ou (p0:List α) (p1:α->Option Bool):Option Int:=
 (oZ p0.length (fun(k1:Nat) (_:Unit)=>((idx p0 ((k1:Nat):Int)).bind fun x7=>(p1 x7).bind fun x10=>bif x10 then (some (.rt ((k1:Nat):Int))) else (some (.nx ())):Option (Fl (Unit) Int))) ()).bind fun o11=>o11.cs (fun(_:Unit)=>some (-1)) (fun r=>some r)
theorem qQ {l:List α} {φ:α->Option Bool} (p:α->Bool) (hl:l.length<=4611686018427387904) (h: ∀x∈l,φ x=some (p x)):ou l φ=some (A0 l p):=by
 unfold ou
 rw [nH (fun k=>(l[k]?).bind fun x=>if p x=true then some ((k:Nat):Int) else none) hl (fun k hk _=>by
  rw [iC l k hk,aB,h _ (dB hk),aB,aN hk]
  cases hp:p l[k] <;> simp [AY,hp]),aB]
 rcases qj l p with ⟨h1,h2⟩ | ⟨k,x,h1,h2,h3,h4⟩
 ·rw [kF.2 (fun k hk=>by rw [aN hk];simp [h2 _ (dB hk)])]
  simp [zm,Fo.cs,h1]
 ·rw [(mi (r:=((k:Nat):Int))).2 ⟨k,(aW.1 h2).1,by rw [h2];simp [h3],fun j hj=>by
   cases hy:l[j]? with
   | none=>rfl
   | some y=>simp [h4 j y hj hy]⟩]
  simp [zm,Fo.cs,h1]
def nj (p0:List α) (p1:α->Option Bool):Option Bool:=
 (ou p0 p1).bind fun x1=>some (decide (x1>=0))
theorem nI {l:List α} {φ:α->Option Bool} (p:α->Bool) (hl:l.length<=4611686018427387904) (h: ∀x∈l,φ x=some (p x)):nj l φ=some (l.any p):=by
 unfold nj
 rw [qQ p hl h,aB,Ey]
def zo [DecidableEq α] (p0 p1:List α):Option Bool:=
 bif (((p0.length:Nat):Int) != ((p1.length:Nat):Int)) then (some false) else ((oZ p0.length (fun(k1:Nat) (_:Unit)=>((idx p0 ((k1:Nat):Int)).bind fun x13=>(idx p1 ((k1:Nat):Int)).bind fun x16=>bif (!(decide (x13=x16))) then (some (.rt false)) else (some (.nx ())):Option (Fl (Unit) Bool))) ()).bind fun o23=>o23.cs (fun(_:Unit)=>some true) (fun r=>some r))
theorem wq [DecidableEq α] {l m:List α} (hl:l.length<=4611686018427387904):zo l m=some (decide (l=m)):=by
 unfold zo
 by_cases h:l.length=m.length
 ·have e: (((l.length:Nat):Int) != ((m.length:Nat):Int))=false:=by rw [h];simp
  rw [e,aY]
  rw [nH (fun k=>if l[k]? =m[k]? then none else some false) hl (fun k hk _=>by
   rw [iC l k hk,aB,iC m k (by omega),aB,aN hk,aN (by omega:k<m.length)]
   by_cases hx:l[k]=m[k] <;> simp [AY,hx]),aB]
  by_cases hx:l=m
  ·subst hx;rw [kF.2 (fun k _=>aC rfl)];simp [zm,Fo.cs]
  ·have: ∃r,rh l.length (fun k=>if l[k]? =m[k]? then none else some false)=some r:=by
    cases hf:rh l.length (fun k=>if l[k]? =m[k]? then none else some false) with
    | some r=>exact⟨r,rfl⟩
    | none=>
     exfalso;refine hx (List.ext_getElem? fun i=>?_)
     by_cases hi:i<l.length
     ·have:=kF.1 hf i hi
      by_cases h6:l[i]? =m[i]?
      ·exact h6
      ·rw [aD h6] at this;cases this
     ·rw [List.getElem?_eq_none (by omega),List.getElem?_eq_none (by omega)]
   obtain⟨r,hr⟩:=this
   have hr2:r=false:=by
    obtain⟨k,_,hk,_⟩:=mi.1 hr
    split at hk
    ·cases hk
    ·injection hk with hk;exact hk.symm
   rw [hr,hr2];simp [zm,Fo.cs,hx]
 ·have e: (((l.length:Nat):Int) != ((m.length:Nat):Int))=true:=by simp;omega
  rw [e,aU,bP (fun h'=>h (by rw [h']))]
def Cj (key:α->cS) (l:List α):Prop:=∀(i j:Nat) (x y:α),i<j->l[i]? =some x->l[j]? =some y->cS.lt (key x) (key y)
theorem Cj.inj {key:α->cS} {l:List α} (h:Cj key l) {i j:Nat} {x y:α} (hx:l[i]? =some x) (hy:l[j]? =some y) (e:key x=key y):i=j:=by
 rcases Nat.lt_trichotomy i j with h1 | h1 | h1
 ·exact absurd e (cS.DO (h i j x y h1 hx hy))
 ·exact h1
 ·exact absurd e.symm (cS.DO (h j i y x h1 hy hx))
def Ck (N:Nat) (p0:List α) (p1:β) (p2:α->β->Option Int):Option (Int×Bool):=
 (mn (fun(s2:Int×Int)=>(bif (decide (s2.1<s2.2)) then ((idx p0 (IntKind.wrap .i64 (Int.fdiv (IntKind.wrap .u64 (IntKind.wrap .i64 (s2.1+s2.2))) 2))).bind fun x13=>(p2 x13 p1).bind fun x16=>(bif (decide (x16<0)) then (some ((IntKind.wrap .i64 ((IntKind.wrap .i64 (Int.fdiv (IntKind.wrap .u64 (IntKind.wrap .i64 (s2.1+s2.2))) 2))+1)),s2.2)) else (some (s2.1,(IntKind.wrap .i64 (Int.fdiv (IntKind.wrap .u64 (IntKind.wrap .i64 (s2.1+s2.2))) 2))))).bind fun s17=>some (.nx (s17.1,s17.2))) else (some (.br (s2.1,s2.2))):Option (Fl (Int×Int) Empty))) N (0,((p0.length:Nat):Int))).bind fun o29=>o29.cs (fun(s2:Int×Int)=>(bif (decide (s2.1< ((p0.length:Nat):Int))) then ((idx p0 s2.1).bind fun x25=>(p2 x25 p1).bind fun x28=>some (x28==0)) else (some false)).bind fun s23=>some (s2.1,s23)) (fun r=>r.elim)
theorem A1 {a b:Nat} (h:a<b) (hb:b<=4611686018427387904):IntKind.wrap .i64 (Int.fdiv (IntKind.wrap .u64 (IntKind.wrap .i64 (((a:Nat):Int)+ ((b:Nat):Int)))) 2)= (((a+b) / 2:Nat):Int):=by
 rw [eE (x:=((a:Nat):Int)+ ((b:Nat):Int)) (by omega) (by omega)]
 have e:IntKind.wrap .u64 (((a:Nat):Int)+ ((b:Nat):Int))= ((a+b:Nat):Int):=by
  show ((a:Int)+b) % 18446744073709551616=_
  omega
 rw [e,Int.fdiv_eq_ediv_of_nonneg _ (by omega),eE (by omega) (by omega)]
 omega
end
end Go.Gk
namespace Go.Gk
open Go Go.ChangeShapes Go.WideShapes Go.RowKit
structure UB (ub: (H:Type)->DataW H->Nat) (ua: (H:Type)->List (DataW H)->Nat):Prop where
 str: ∀(H:Type) (b:List UInt8),ub H (.lit (.string b))=b.length+1
 pos: ∀(H:Type) (d:DataW H),1<=ub H d
 sl: ∀(H:Type) (e s:List (DataW H)),ub H (.slice e s)=ua H e+ua H s+1
 ag: ∀(H:Type) (l:List (DataW H)),ub H (.agg l)=ua H l+1
 nil: ∀(H:Type),ua H []=0
 cons: ∀(H:Type) (x:DataW H) (l:List (DataW H)),ua H (x::l)=ub H x+ua H l
def Hw (w:World):cU:=fun b=>w.heap[b]?
structure iM (ub: (H:Type)->DataW H->Nat) (P:Program) (T:TypeId) (α:Type) [GT α] [Bk α]:Prop where
 trod: ∀{H:Type} {enc:TypeId×Value->H} {w:World} {base:Nat} {spare:Nat->Bool} {held:Bool} {fuel:Nat} {cs:List Value} {d:DataW H×List MemPlace},
  DataW.trod enc P w base spare held fuel T cs=some d->∃x:α,GT.ok (Hw w) cs x/\bk x<=ub H d.1
 FQ: ∀{w:World} {r:Reach} {base:Nat} {v:Value},Value.okWide P w r base T v->v=qX α v.cells.toList
section
variable {ub: (H:Type)->DataW H->Nat} {ua: (H:Type)->List (DataW H)->Nat} {P:Program} {T e:TypeId}
theorem A2 (u:UB ub ua) (ht:P.underlying T=some (.int .i64)):iM ub P T Int where
 trod:=fun h=>by
  obtain⟨n,rfl,rfl,_⟩:=DataW.trod_int ht h
  exact⟨n,rfl,u.pos _ _⟩
 FQ:=fun h=>by obtain⟨n,rfl⟩:=okWide_int ht h;rfl
theorem zp (u:UB ub ua) (ht:P.underlying T=some .bool):iM ub P T Bool where
 trod:=fun h=>by
  obtain⟨n,rfl,rfl⟩:=DataW.trod_bool ht h
  exact⟨n,rfl,u.pos _ _⟩
 FQ:=fun h=>by obtain⟨n,rfl⟩:=okWide_bool ht h;rfl
theorem A3 (u:UB ub ua) (ht:P.underlying T=some .string):iM ub P T cS where
 trod:=fun h=>by
  obtain⟨s,rfl,rfl,_⟩:=DataW.trod_string ht h
  refine⟨⟨s.data.toList⟩,?_,?_⟩
  ·show [Value.string s]= [Gk.str ⟨s.data.toList⟩]
   cases s;rfl
  ·rw [u.str];exact bG _
 FQ:=fun h=>by obtain⟨n,rfl⟩:=okWide_string ht h;rfl
theorem tT {α:Type} {R:Nat->α->Prop}: ∀(n:Nat),(∀i,i<n->∃x,R i x)->∃l:List α,l.length=n/\∀i x,l[i]? =some x->R i x
 | 0,_=>⟨[],rfl,fun i x h=>by simp at h⟩
 | n+1,h=>by
  obtain⟨l,h1,h2⟩:=tT n (fun i hi=>h i (by omega))
  obtain⟨x,hx⟩:=h n (by omega)
  refine⟨l++[x],by simp [h1],fun i y hy=>?_⟩
  by_cases hi:i<n
  ·rw [eM (by omega)] at hy;exact h2 i y hy
  ·have:=(aW.1 hy).1
   rw [dR] at this
   have:i=n:=by simp at this;omega
   subst this
   rw [eG (by omega),h1] at hy
   simp at hy;subst hy;exact hx
theorem wu {H α:Type} [Bk α] (u:UB ub ua): ∀{l:List α} {es:List (DataW H×List MemPlace)},l.length=es.length->
  (∀(i:Nat) (x:α) (y:DataW H×List MemPlace),l[i]? =some x->es[i]? =some y->bk x<=ub H y.1)->bk l<=ua H (es.map (·.1))+1
 | [],[],_,_=>by rw [Cf];omega
 | x::l,y::es,hl,h=>by
  have h1:=h 0 x y rfl rfl
  have h2:=wu (H:=H) u (l:=l) (es:=es) (by simpa using hl) (fun i x y hx hy=>h (i+1) x y (by simpa using hx) (by simpa using hy))
  rw [xg,dW,u.cons];omega
theorem yr {w:World} {base:Nat} {a:Addr} {n:Nat} {cs:List Value} (h:w.cells? base a n=some cs):At (Hw w) a cs:=by
 intro j v hv
 obtain⟨_,hlen,hc⟩:=World.cells?_some h
 have hj:=(aW.1 hv).1
 have h2:=hc j (by omega)
 rw [hv] at h2
 unfold rJ Hw
 unfold World.cell? at h2
 exact h2
theorem ov {α:Type} [GT α] [Bk α] (u:UB ub ua) (he:iM ub P e α) (ht:P.underlying T=some (.slice e):=by kernel_rfl) (hc:P.cellsOf e=GT.sz α:=by kernel_rfl):iM ub P T (List α) where
 trod:=fun{H enc w base spare held fuel cs d} h=>by
  rcases DataW.trod_slice ht h with ⟨rfl,rfl⟩ | ⟨a,len,cap,elems,rest,n,_,rfl,rfl,_,hlc,hcm,hlen,hel,_⟩
  ·exact⟨[],⟨_,rfl,none,0,0,rfl,rfl,bG _,by simp [maxLen],fun i x hx=>by simp at hx⟩,u.pos _ _⟩
  ·have each: ∀i,i<len->∃x:α,(∃c y,GT.ok (Hw w) c x/\At (Hw w) (a.add (i*GT.sz α)) c/\elems[i]? =some y/\bk x<=ub H y.1):=by
    intro i hi
    have h1:=hel i hi
    rw [aN (by omega:i<elems.length),Option.bind_eq_some_iff] at h1
    obtain⟨c,h2,h3⟩:=h1
    obtain⟨x,h4,h5⟩:=he.trod h3
    refine⟨x,c,_,h4,?_,aN (by omega),h5⟩
    rw [hc] at h2
    exact yr h2
   obtain⟨l,hl,hr⟩:=tT len each
   refine⟨l,⟨_,rfl,some a,len,cap,rfl,hl.symm,hlc,hcm,fun i x hx=>?_⟩,?_⟩
   ·obtain⟨c,y,h1,h2,_⟩:=hr i x hx
    exact⟨a,c,rfl,h1,h2⟩
   ·have:=wu (H:=H) u (l:=l) (es:=elems) (by omega) (fun i x y hx hy=>by
     obtain⟨c,y',_,_,h3,h4⟩:=hr i x hx
     rw [hy] at h3;injection h3 with h3;subst h3;exact h4)
    rw [u.sl];omega
 FQ:=fun h=>by obtain⟨a,n,c,rfl⟩:=okWide_slice ht h;rfl
def Ac (ub: (H:Type)->DataW H->Nat) (ua: (H:Type)->List (DataW H)->Nat) (P:Program) (off:Nat) (fs:List Field) (β:Type) [GT β] (m:β->Nat):Prop:=
 ∀{H:Type} {enc:TypeId×Value->H} {w:World} {base:Nat} {spare:Nat->Bool} {held:Bool} {n:Nat} {cs:List Value} {ys:List (DataW H×List MemPlace)},
  (∀(i:Nat) (f:Field),fs[i]? =some f->DataW.trod enc P w base spare held n f.type ((cs.drop f.offset).take (P.cellsOf f.type))=ys[i]?)->ys.length=fs.length->
  cs.length=off+GT.sz β->∃x:β,GT.ok (Hw w) (cs.drop off) x/\m x<=ua H (ys.map (·.1))
theorem mj {β:Type} [GT β] [Bk β] {off:Nat} {f:Field} (u:UB ub ua) (h:iM ub P f.type β) (ho:f.offset=off:=by exact rfl) (hc:P.cellsOf f.type=GT.sz β:=by kernel_rfl):Ac ub ua P off [f] β bk:=by
 intro H enc w base spare held n cs ys hf hl hcs
 match ys,hl with
 | [y],_=>
  have h1:=hf 0 f rfl
  rw [ho,hc,mS (by rw [fP];omega)] at h1
  obtain⟨x,h2,h3⟩:=h.trod (d:=y) h1
  exact⟨x,h2,by rw [dW,u.cons];omega⟩
theorem eR {α β:Type} [GT α] [GT β] [Bk α] {off off':Nat} {f:Field} {fs:List Field} {m:β->Nat} (u:UB ub ua) (h:iM ub P f.type α) (hr:Ac ub ua P off' fs β m) (ho:f.offset=off:=by exact rfl) (hc:P.cellsOf f.type=GT.sz α:=by kernel_rfl) (hoff:off'=off+GT.sz α:=by exact rfl):Ac ub ua P off (f::fs) (α×β) (fun x=>bk x.1+m x.2):=by
 intro H enc w base spare held n cs ys hf hl hcs
 have hsz:GT.sz (α×β)=GT.sz α+GT.sz β:=rfl
 match ys,hl with
 | y::ys,hl=>
  have h1:=hf 0 f rfl
  rw [ho,hc] at h1
  obtain⟨x,h2,h3⟩:=h.trod (d:=y) h1
  obtain⟨x',h4,h5⟩:=hr (n:=n) (cs:=cs) (ys:=ys) (fun i g hg=>hf (i+1) g hg) (by simpa using hl) (by omega)
  refine⟨(x,x'),⟨_,_,?_,h2,h4⟩,?_⟩
  ·rw [hoff,<-List.drop_drop,List.take_append_drop]
  ·rw [dW,u.cons];show bk x+m x'<=_;omega
theorem jZ {γ β:Type} [GT β] [Bk γ] {fs:Array Field} {m:β->Nat} (u:UB ub ua) (f:γ->β) (g:β->γ) (hfg: ∀b,f (g b)=b) (ht:P.underlying T=some (.struct fs)) (h:Ac ub ua P 0 fs.toList β m) (hm: ∀b,bk (g b)<=m b+1) (hc:P.cellsOf T=GT.sz β:=by kernel_rfl): @iM ub P T γ (GT.via f) _:=
 @iM.mk ub P T γ (GT.via f) _
  (fun{H enc w base spare held fuel cs d} hd=>by
   obtain⟨xs,n,_,rfl,hl,hlen,hf⟩:=DataW.trod_struct ht hd
   obtain⟨b,h1,h2⟩:=h (n:=n) (cs:=cs) (ys:=xs) (fun i g hg=>hf i g (by rw [<-Array.getElem?_toList];exact hg)) (by rw [hlen];simp) (by omega)
   refine⟨g b,?_,?_⟩
   ·show GT.ok (Hw w) cs (f (g b))
    rw [hfg];exact h1
   ·rw [u.ag];have:=hm b;omega)
  (fun hv=>by
   obtain⟨cs,rfl,_⟩:=okWide_struct ht hv
   cases cs;rfl)
theorem iM.arg {H:Type} {enc:TypeId×Value->H} {w:World} {base:Nat} {spare:Nat->Bool} {held:Bool} {r:Reach} {b0:Nat} {v:Value} {d:DataW H} {ps:List MemPlace} {α:Type} [GT α] [Bk α] (o:iM ub P T α)
  (hv:Value.okWide P w r b0 T v) (hd:DataW.Trod enc P w base spare held T v d ps): ∃x:α,qY (Hw w) v x/\bk x<=ub H d:=by
 obtain⟨fuel,hf⟩:=hd
 obtain⟨x,h1,h2⟩:=o.trod hf
 exact⟨x,⟨_,o.FQ hv,h1⟩,h2⟩
end
theorem Calls.fin {P:Program} {f:FuncId} {args:Array Value} {w:World} {R Q:Value->World->Prop} (h:Calls P f args w (gE R)) (k: ∀v w',R v w'->Q v w'):
  Calls P f args w (fun e W'=>∃v,e = .returned v/\Q v W'):=Calls.mono h fun _ w' ⟨v,e,hr⟩=>⟨v,e,k v w' hr⟩
def iW (W:World):HP:=⟨fun M h=>hle (Hw W) M/\h=mK,fun k ⟨a,b⟩=>⟨Au a k,b⟩⟩
theorem Holds.begin (W:World):Holds W W [iW W]:=by
 refine⟨Hw W,fun _=>mK,⟨rfl,rfl,rfl,bG _,fun b o h=>h,fun i Pr hq=>?_,fun _ _ _ _ h=>(by cases h),fun _ _ _ _ h=>(by cases h),fun _ _ _ _ _ _ _ h=>(by cases h)⟩⟩
 match i,hq with
 | 0,hq=>simp at hq;subst hq;exact⟨Bu _,rfl⟩
theorem Holds.Cl {α:Type} [GT α] {W:World} {V:List HP} {v:Value} {x:α} (h:Holds W W (V++[iW W])) (hv:Gk.qY (Hw W) v x):Holds W W (rd v x::(V++[iW W])):=
 h.vF fun M hs g=>by
  have h1:=(g.sat V.length (iW W) (by simp)).1
  exact⟨hv.mono h1,rfl⟩
theorem Holds.kept {E W w:World} {V:List HP} (h:Holds E w (V++[iW W])) (he:E=W):Below W.heap.size W w:=by
 subst he
 obtain⟨M,hs,g⟩:=h
 have h1:=(g.sat V.length (iW E) (by simp)).1
 have h2: ∀k o,E.heap[k]? =some o->w.heap[k]? =some o:=fun k o ho=>g.im k o (h1 k o ho)
 refine⟨g.os,g.tape,g.out,?_,fun k hk=>?_⟩
 ·by_cases h0:E.heap.size=0
  ·omega
  ·have h3:=h2 (E.heap.size - 1) _ (eL (by omega))
   have:=(Array.getElem?_eq_some_iff.1 h3).1
   omega
 ·rw [eL hk];exact h2 k _ (eL hk)
section
variable {H:Type} {enc:TypeId×Value->H} {P:Program}
theorem A4 {f:Func} {s:ChangeSpec} {apart fresh handsOn again:Bool} {W W':World} {args:Array Value} {v:Value} {ds gs:List (DataW H)} {before pa pv:List MemPlace}
  (hW:DataW.Whole enc P f.params.toList s.vars apart W args.toList ds gs before)
  (hres: ∀(b:Nat) (sp:Nat->Bool) (hd:Bool),DataW.TrodAll enc P W' b sp hd f.resultTypes.toList (v.resultList f.resultTypes.size) (s.fn H (ds++gs)).results [])
  (hargs: ∀sp:Nat->Bool,(∀p∈before,sp p.block=true)->DataW.TrodAll enc P W' 0 sp true f.params.toList args.toList (s.fn H (ds++gs)).args pa)
  (hvars: ∀sp:Nat->Bool,(∀p∈before,sp p.block=true)->DataW.TrodVars enc P W' sp s.vars (s.fn H (ds++gs)).vars pv)
  (hps:before=pa++pv) (hb:Below W.heap.size W W')
  (hok: ∀(j:Nat) (t:TypeId) (r:Value),f.resultTypes[j]? =some t->(v.resultList f.resultTypes.size)[j]? =some r->Value.okWide P W' .any 0 t r):
  s.post enc P f apart fresh handsOn again W args v W':=by
 have hlt: ∀p∈before,p.block<W.heap.size:=fun p hp=>hW.lt p hp
 have hold: ∀p∈before,(fun b=>decide (b<W.heap.size)) p.block=true:=fun p hp=>by simpa using hlt p hp
 refine⟨ds,gs,before,[],pa,pv,hW,hres _ _ _,hargs _ hold,hvars _ hold,World.keptBut_mono (fun p hp=>⟨hp,?_⟩) (hb.frame (· ∈before)),fun _=>?_⟩
 ·rw [hps,cO] at hp
  exact Or.inr hp
 ·obtain⟨_,_,_,_,_,hz,hn⟩:=hW
  refine⟨hok,_,_,([]++pa)++pv,⟨[]++pa,pv,trodAll_append (hargs _ (fun _ _=>rfl)) (hres _ _ _),hvars _ (fun _ _=>rfl),rfl,?_,?_⟩,?_⟩
  ·intro b off hp
   have hin:MemPlace.cell b off∈before:=by rw [hps];simpa using hp
   rw [hb.frozen (hlt _ hin)]
   exact hz b off hin
  ·intro ha
   have:=hn ha
   rw [hps] at this
   simpa using this
  ·intro p hp _
   rw [hps]
   simpa using hp
theorem qR {W W':World} (hl:laidOutB P=true) (hb:Below W.heap.size W W') {sp:Nat->Bool}: ∀{ts:List TypeId} {vs:List Value} {ds:List (DataW H)} {ps:List MemPlace},
  (∀t∈ts,P.readableRec t=true/\t<P.types.size)->DataW.TrodAll enc P W 0 (fun _=>true) true ts vs ds ps->(∀p∈ps,p.block<W.heap.size)->(∀p∈ps,sp p.block=true)->DataW.TrodAll enc P W' 0 sp true ts vs ds ps
 | [],_,_,_,_,h,_,_=>by
  obtain⟨rfl,rfl,rfl⟩:=trodAll_nil h
  rfl
 | t::ts,_,_,_,ht,h,hlt,hsp=>by
  obtain⟨v,vs,d,ds,p,q,rfl,rfl,rfl,h1,h2⟩:=trodAll_cons h
  refine⟨p,q,?_,qR hl hb (fun t h=>ht t (by simp [h])) h2 (fun x hx=>hlt x (by simp [hx])) (fun x hx=>hsp x (by simp [hx])),rfl⟩
  exact WideElems.Trod_stays hl (ht t (by simp)).1 (ht t (by simp)).2 h1 (fun x hx=>hb.same (hlt x (by simp [hx]))) (fun x hx=>hsp x (by simp [hx]))
end
end Go.Gk
namespace Go.Gk
open Go
instance:Bk aI:=⟨fun x=>bk x.X0+bk x.Y0+bk x.X1+bk x.Y1+1,fun _=>by omega⟩
theorem Dr (x:aI):bk x=bk x.X0+bk x.Y0+bk x.X1+bk x.Y1+1:=rfl
instance:Bk iO:=⟨fun x=>bk x.X+bk x.Y+1,fun _=>by omega⟩
theorem Cm (x:iO):bk x=bk x.X+bk x.Y+1:=rfl
instance:Bk bU:=⟨fun x=>bk x.At+bk x.eB+bk x.cK+bk x.To+bk x.gh+1,fun _=>by omega⟩
theorem Ds (x:bU):bk x=bk x.At+bk x.eB+bk x.cK+bk x.To+bk x.gh+1:=rfl
instance:Bk cT:=⟨fun x=>bk x.Part+bk x.eK+bk x.dY+bk x.At+1,fun _=>by omega⟩
theorem Ad (x:cT):bk x=bk x.Part+bk x.eK+bk x.dY+bk x.At+1:=rfl
instance:Bk jS:=⟨fun x=>bk x.aJ+bk x.dJ+bk x.aS+bk x.bE+1,fun _=>by omega⟩
theorem Cn (x:jS):bk x=bk x.aJ+bk x.dJ+bk x.aS+bk x.bE+1:=rfl
instance:Bk eK:=⟨fun x=>bk x.Part+bk x.eK+1,fun _=>by omega⟩
theorem Ez (x:eK):bk x=bk x.Part+bk x.eK+1:=rfl
instance:Bk eZ:=⟨fun x=>bk x.bU+bk x.Number+1,fun _=>by omega⟩
instance:Bk kA:=⟨fun x=>bk x.Open+bk x.eZ+bk x.A+bk x.B+1,fun _=>by omega⟩
instance:Bk aA:=⟨fun x=>bk x.Y0+bk x.Y1+bk x.Xs+1,fun _=>by omega⟩
instance:Bk aH:=⟨fun x=>bk x.dY+bk x.Set+bk x.lW+1,fun _=>by omega⟩
instance:Bk cP:=⟨fun x=>bk x.lO+bk x.aS+bk x.gV+1,fun _=>by omega⟩
end Go.Gk
namespace Go.Gk
open Go Go.Proofs Go.Sort
section
variable {α:Type}
theorem tU {β:Type} (a:Array β) {n:Nat} (h:a.size=n):a.extract 0 n=a:=by subst h;exact Array.extract_size
theorem EA {φ:α->α->Option Int} {l:List α} (cf:α->α->Int) (hφ: ∀x∈l,∀y∈l,φ x y=some (cf x y)) (h1: ∀x∈l,¬cf x x<0)
  (h2: ∀x∈l,∀y∈l,∀z∈l,cf x y<0->cf y z<0->cf x z<0) (h3: ∀x∈l,∀y∈l,∀z∈l,¬cf x y<0->¬cf y z<0->¬cf x z<0):SWO (ltOf (yO φ l)):=by
 have hm: ∀i:Fin l.length,l[i]∈l:=fun i=>dB i.isLt
 have e: ∀i j:Fin l.length,yO φ l i j=cf l[i] l[j]:=fun i j=>by unfold yO;rw [hφ _ (hm i) _ (hm j)];rfl
 refine⟨fun x=>?_,fun x y z=>?_,fun x y z=>?_⟩
 ·simp only [ltOf,e,decide_eq_false_iff_not];exact h1 _ (hm _)
 ·simp only [ltOf,e,decide_eq_true_iff];exact h2 _ (hm _) _ (hm _) _ (hm _)
 ·simp only [ltOf,e,decide_eq_false_iff_not];exact h3 _ (hm _) _ (hm _) _ (hm _)
theorem uV {φ:α->α->Option Int} {l:List α} (cf:α->α->Int) (hφ: ∀x∈l,∀y∈l,φ x y=some (cf x y)) (h1: ∀x∈l,¬cf x x<0)
  (h2: ∀x∈l,∀y∈l,∀z∈l,cf x y<0->cf y z<0->cf x z<0) (h3: ∀x∈l,∀y∈l,∀z∈l,¬cf x y<0->¬cf y z<0->¬cf x z<0) (hl:l.length<4611686018427387904):
  ∃m,rO φ l=some m/\m.Perm l/\m.Pairwise (fun x y=>¬cf y x<0):=by
 have hO:=EA cf hφ h1 h2 h3
 have hm: ∀i:Fin l.length,l[i]∈l:=fun i=>dB i.isLt
 have hc: (∀i j:Fin l.length,∃c,φ l[i] l[j]=some c):=fun i j=>⟨_,hφ _ (hm i) _ (hm j)⟩
 refine⟨zW φ l,by unfold rO;rw [aC ⟨⟨hc,hO⟩,hl⟩],?_⟩
 unfold zW
 by_cases hn:0<l.length
 ·rw [dif_pos hn]
  letI inh:Inhabited (Fin l.length):=⟨⟨0,hn⟩⟩
  have hds: (Array.ofFn fun i:Fin l.length=>i).size=l.length:=by simp
  obtain⟨hp,hs⟩:=pdq_sorts (ltOf (yO φ l)) hO (Array.ofFn fun i:Fin l.length=>i) 0 l.length (Lib.bitLen l.length) true true (mT _) (by rw [hds];exact bG _) (Or.inl rfl)
  show (List.map (fun i=>l[i]) (pdq (ltOf (yO φ l)) (Array.ofFn fun i:Fin l.length=>i) 0 l.length (Lib.bitLen l.length) true true).toList).Perm l/\_
  generalize pdq (ltOf (yO φ l)) (Array.ofFn fun i:Fin l.length=>i) 0 l.length (Lib.bitLen l.length) true true=d' at hp hs
  obtain⟨hz,_,hpm⟩:=hp
  have hz':d'.size=l.length:=hz.trans hds
  rw [tU d' hz',tU _ hds] at hpm
  have hof: (Array.ofFn fun i:Fin l.length=>i).toList.map (fun i=>l[i])=l:=by
   rw [Array.toList_ofFn,List.map_ofFn]
   exact List.ofFn_getElem
  refine⟨(hpm.map (fun i=>l[i])).trans (List.Perm.of_eq hof),?_⟩
  rw [List.pairwise_map,l5]
  intro i j hi hj hij
  rw [Array.length_toList] at hi hj
  have:=hs i j (mT _) hij (by rw [<-hz'];exact hj)
  rw [getElem!_pos d' i hi,getElem!_pos d' j hj] at this
  have hij2:=hφ _ (hm (d'[j])) _ (hm (d'[i]))
  have hij3:yO φ l d'[j] d'[i]=cf l[d'[j]] l[d'[i]]:=by unfold yO;rw [hij2];rfl
  unfold ltOf at this
  rw [decide_eq_false_iff_not,hij3] at this
  exact this
 ·rw [dif_neg hn]
  have:l= []:=List.length_eq_zero_iff.1 (by omega)
  subst this
  exact⟨List.Perm.refl _,kn⟩
theorem wv {φ:α->α->Option Int} {x:α} (h:φ x x=some 0):rO φ [x]=some [x]:=by
 obtain⟨m,h1,h2,_⟩:=uV (φ:=φ) (l:=[x]) (fun _ _=>0) (fun a ha b hb=>by simp at ha hb;rw [ha,hb];exact h) (fun _ _=>by decide) (fun _ _ _ _ _ _ h=>by simp at h) (fun _ _ _ _ _ _ _ _=>by decide) (by simp)
 rw [h1,List.perm_singleton.1 h2]
theorem vN {l:List Int} (h:l.Pairwise (fun x y=>x<=y)) (hl:l.length<4611686018427387904):o6 l=some l:=by
 unfold o6
 rw [aC hl,List.mergeSort_of_pairwise (by simpa using h)]
end
end Go.Gk
namespace Go.Gk
open Go
def zq (l:List Int) (x:Int):Nat:=l.countP (fun a=>decide (a<=x))
def k7 (l:List Int) (x:Int):Bool:=zq l x % 2==1
def kD (l:List Int):Prop:=l.Pairwise (· < ·)
theorem xl (x:Int):zq [] x=0:=rfl
theorem ke (a:Int) (l:List Int) (x:Int):zq (a::l) x= (if a<=x then 1 else 0)+zq l x:=by
 unfold zq
 rw [List.countP_cons]
 by_cases h:a<=x <;> simp [h];omega
theorem uW (l m:List Int) (x:Int):zq (l++m) x=zq l x+zq m x:=List.countP_append
theorem Ae {l:List Int} {x:Int} (h: ∀a∈l,a<=x):zq l x=l.length:=by
 unfold zq;rw [List.countP_eq_length];intro a ha;simpa using h a ha
theorem uX {l:List Int} {x:Int} (h: ∀a∈l,x<a):zq l x=0:=by
 unfold zq;rw [List.countP_eq_zero];intro a ha;have:=h a ha;simp;omega
theorem sC {l:List Int} {x:Int}:k7 l x=true↔zq l x % 2=1:=by unfold k7;simp
theorem sD {l:List Int} {x:Int} (h: ∀a∈l,x<a):k7 l x=false:=by unfold k7;rw [uX h];rfl
theorem kD.head {a:Int} {l:List Int} (h:kD (a::l)): ∀b∈l,a<b:=(List.pairwise_cons.1 h).1
theorem kD.tail {a:Int} {l:List Int} (h:kD (a::l)):kD l:=(List.pairwise_cons.1 h).2
theorem sE {a:Int} {l:List Int} (h:kD (a::l)):k7 (a::l) a=true:=by
 rw [sC,ke,aC (Int.le_refl _),uX h.head]
theorem uY: ∀{l m:List Int},kD l->kD m->(∀x,k7 l x=k7 m x)->l=m
 | [],[],_,_,_=>rfl
 | [],b::m,_,hm,h=>by have:=h b;rw [sE hm] at this;cases this
 | a::l,[],hl,_,h=>by have:=h a;rw [sE hl] at this;cases this
 | a::l,b::m,hl,hm,h=>by
  have hab:a=b:=by
   rcases Int.lt_trichotomy a b with h1 | h1 | h1
   ·have h2:=h a
    rw [sE hl,sD (l:=b::m) (fun c hc=>by
     rcases fG.1 hc with rfl | hc
     ·exact h1
     ·have:=hm.head c hc;omega)] at h2
    cases h2
   ·exact h1
   ·have h2:=h b
    rw [sE hm,sD (l:=a::l) (fun c hc=>by
     rcases fG.1 hc with rfl | hc
     ·exact h1
     ·have:=hl.head c hc;omega)] at h2
    cases h2
  subst hab
  rw [uY hl.tail hm.tail (fun x=>?_)]
  by_cases hx:a<=x
  ·have h2:=h x
   unfold k7 at h2 ⊢
   rw [ke,ke,aC hx] at h2
   rw [fH] at h2 ⊢
   simp only [beq_iff_eq] at h2 ⊢
   omega
  ·rw [sD (fun c hc=>by have:=hl.head c hc;omega),sD (fun c hc=>by have:=hm.head c hc;omega)]
theorem sF {l:List Int} {a b:Int} (hl: ∀c∈l,c<a) (he:l.length % 2=0) (hab:a<b) (x:Int):k7 (l++[a,b]) x= (k7 l x||(decide (a<=x)&&decide (x<b))):=by
 rw [fH,dG,bM,bW,bW,sC,sC,uW,ke,ke,xl]
 by_cases h1:a<=x
 ·have h2:zq l x=l.length:=Ae fun c hc=>by have:=hl c hc;omega
  rw [h2,aC h1]
  by_cases h3:b<=x
  ·rw [aC h3];omega
  ·rw [aD h3];omega
 ·rw [aD h1,aD (by omega)];omega
theorem Co {l:List Int} {s e a b:Int} (hl: ∀c∈l,c<s) (he:l.length % 2=0) (hs:s<e) (h1:s<=a) (h2:a<=e) (hab:a<b) (x:Int):k7 (l++[s,max e b]) x= (k7 (l++[s,e]) x||(decide (a<=x)&&decide (x<b))):=by
 rw [sF hl he (by omega),sF hl he hs]
 rw [fH]
 simp only [dG,bM,bW]
 constructor
 ·rintro(h | h)
  ·exact .inl (.inl h)
  ·by_cases hx:x<e
   ·exact .inl (.inr ⟨h.1,hx⟩)
   ·exact .inr ⟨by omega,by omega⟩
 ·rintro((h | h) | h)
  ·exact .inl h
  ·exact .inr ⟨h.1,by omega⟩
  ·exact .inr ⟨by omega,by omega⟩
theorem kD.snoc {l:List Int} {a b:Int} (h:kD l) (hl: ∀c∈l,c<a) (hab:a<b):kD (l++[a,b]):=by
 unfold kD
 rw [List.pairwise_append]
 refine⟨h,by simp [hab],fun c hc d hd=>?_⟩
 have:=hl c hc
 simp at hd
 rcases hd with rfl | rfl <;> omega
structure Bd where
 y0:Int
 y1:Int
 xs:List Int
def rowAt:List Bd->Int->List Int
 | [],_=>[]
 | b::s,y=>if b.y0<=y/\y<b.y1 then b.xs else rowAt s y
theorem jJ (b:Bd) (s:List Bd) (y:Int):rowAt (b::s) y=if b.y0<=y/\y<b.y1 then b.xs else rowAt s y:=rfl
structure dL (s:List Bd):Prop where
 each: ∀b∈s,b.y0<b.y1/\b.xs≠[]/\kD b.xs/\b.xs.length % 2=0
 ord:s.Pairwise (fun b c=>b.y1<=c.y0/\(b.y1=c.y0->b.xs≠c.xs))
theorem dL.nil:dL []:=⟨fun b h=>by simp at h,kn⟩
theorem dL.tail {b:Bd} {s:List Bd} (h:dL (b::s)):dL s:=⟨fun c hc=>h.each c (jk _ hc),(List.pairwise_cons.1 h.ord).2⟩
theorem iY {s:List Bd} {y:Int} (h: ∀b∈s,y<b.y0\/b.y1<=y):rowAt s y= []:=by
 induction s with
 | nil=>rfl
 | cons b s ih=>
  unfold rowAt
  have:=h b (by simp)
  rw [aD (by omega)]
  exact ih fun c hc=>h c (jk _ hc)
theorem mb (s t:List Bd) (y:Int):rowAt (s++t) y=if (∃b∈s,b.y0<=y/\y<b.y1) then rowAt s y else rowAt t y:=by
 induction s with
 | nil=>simp
 | cons b s ih=>
  rw [List.cons_append,jJ,jJ]
  by_cases h:b.y0<=y/\y<b.y1
  ·rw [aC h,aC ⟨b,by simp,h⟩,aC h]
  ·rw [aD h,ih]
   by_cases h2: ∃c∈s,c.y0<=y/\y<c.y1
   ·obtain⟨c,hc,hc2⟩:=h2
    rw [aC ⟨c,hc,hc2⟩,aC ⟨c,jk _ hc,hc2⟩,aD h]
   ·rw [aD h2,aD (show ¬∃c∈b::s,c.y0<=y/\y<c.y1 from ?_)]
    rintro⟨c,hc,hc2⟩
    rcases fG.1 hc with rfl | hc
    ·exact h hc2
    ·exact h2 ⟨c,hc,hc2⟩
theorem dL.jK {b:Bd} {s:List Bd} {y:Int} (h0:b.y0<=y) (h1:y<b.y1):rowAt (b::s) y=b.xs:=by unfold rowAt;rw [aC ⟨h0,h1⟩]
theorem dL.uZ {b:Bd} {s:List Bd} (h:dL (b::s)): ∀c∈s,b.y1<=c.y0:=fun c hc=>((List.pairwise_cons.1 h.ord).1 c hc).1
theorem dL.ql {b:Bd} {s:List Bd} (h:dL (b::s)) {y:Int} (hy:y<b.y0):rowAt (b::s) y= []:=iY fun c hc=>by
 rcases fG.1 hc with rfl | hc
 ·exact .inl hy
 ·have:=h.uZ c hc;have:=(h.each b (by simp)).1;exact .inl (by omega)
theorem dL.Af {b:Bd} {s:List Bd} (h:dL (b::s)):rowAt (b::s) b.y1≠b.xs:=by
 rw [jJ,aD (by omega)]
 cases s with
 | nil=>exact fun e=>(h.each b (by simp)).2.1 e.symm
 | cons c s=>
  have h1:=(List.pairwise_cons.1 h.ord).1 c (by simp)
  by_cases e:b.y1=c.y0
  ·rw [dL.jK (by omega) (by have:=(h.tail.each c (by simp)).1;omega)]
   exact fun h=>h1.2 e h.symm
  ·rw [h.tail.ql (by have:=h1.1;omega)]
   exact fun e=>(h.each b (by simp)).2.1 e.symm
theorem u3: ∀{s t:List Bd},dL s->dL t->(∀y,rowAt s y=rowAt t y)->s=t
 | [],[],_,_,_=>rfl
 | [],c::t,_,ht,h=>by
  have hc:=ht.each c (by simp)
  have:=h c.y0
  rw [dL.jK (Int.le_refl _) hc.1] at this
  exact absurd this.symm hc.2.1
 | b::s,[],hs,_,h=>by
  have hb:=hs.each b (by simp)
  have:=h b.y0
  rw [dL.jK (Int.le_refl _) hb.1] at this
  exact absurd this hb.2.1
 | b::s,c::t,hs,ht,h=>by
  have hb:=hs.each b (by simp)
  have hc:=ht.each c (by simp)
  have e0:b.y0=c.y0:=by
   rcases Int.lt_trichotomy b.y0 c.y0 with h1 | h1 | h1
   ·have h2:=h b.y0
    rw [dL.jK (Int.le_refl _) hb.1,ht.ql h1] at h2
    exact absurd h2 hb.2.1
   ·exact h1
   ·have h2:=h c.y0
    rw [dL.jK (Int.le_refl _) hc.1,hs.ql h1] at h2
    exact absurd h2.symm hc.2.1
  have ex:b.xs=c.xs:=by
   have h2:=h b.y0
   rw [dL.jK (Int.le_refl _) hb.1,dL.jK (by omega) (by omega)] at h2
   exact h2
  have e1:b.y1=c.y1:=by
   rcases Int.lt_trichotomy b.y1 c.y1 with h1 | h1 | h1
   ·have h2:=h b.y1
    rw [dL.jK (b:=c) (by omega) h1] at h2
    exact absurd (h2.trans ex.symm) hs.Af
   ·exact h1
   ·have h2:=h c.y1
    rw [dL.jK (b:=b) (by omega) h1] at h2
    exact absurd (h2.symm.trans ex) ht.Af
  have ebc:b=c:=by cases b;cases c;simp_all
  subst ebc
  rw [u3 hs.tail ht.tail (fun y=>?_)]
  by_cases hy:b.y1<=y
  ·have h2:=h y
   unfold rowAt at h2
   rw [aD (by omega),aD (by omega)] at h2
   exact h2
  ·rw [iY (fun d hd=>by have:=hs.uZ d hd;exact .inl (by omega)),iY (fun d hd=>by have:=ht.uZ d hd;exact .inl (by omega))]
def sG (s:List Bd) (x y:Int):Bool:=k7 (rowAt s y) x
theorem wx {s:List Bd} (h: ∀b∈s,kD b.xs) (y:Int):kD (rowAt s y):=by
 induction s with
 | nil=>exact kn
 | cons b s ih=>
  unfold rowAt
  split
  ·exact h b (by simp)
  ·exact ih fun c hc=>h c (jk _ hc)
theorem u4 {s t:List Bd} (hs:dL s) (ht:dL t) (h: ∀x y,sG s x y=sG t x y):s=t:=
 u3 hs ht fun y=>uY (wx (fun b hb=>(hs.each b hb).2.2.1) y) (wx (fun b hb=>(ht.each b hb).2.2.1) y) fun x=>h x y
def kH (s:List Bd) (b:Bd):List Bd:=
 if b.xs= []\/b.y1<=b.y0 then s else
  match s.getLast? with
  | some c=>if c.y1=b.y0/\c.xs=b.xs then s.dropLast++[⟨c.y0,b.y1,c.xs⟩] else s++[b]
  | none=>[b]
theorem ox {α:Type} {s:List α} {c:α} (h:s.getLast? =some c):s=s.dropLast++[c]:=by
 have hne:s≠[]:=fun e=>by rw [e] at h;cases h
 rw [List.getLast?_eq_some_getLast hne] at h
 injection h with h
 rw [<-h];exact(List.dropLast_concat_getLast hne).symm
theorem tD {s:List Bd} {b:Bd} (hs: ∀c∈s,c.y1<=b.y0) (hg: ∀c∈s,c.y0<c.y1) (hb:b.y1<=b.y0->b.y1=b.y0) (y:Int):rowAt (kH s b) y=if b.y0<=y/\y<b.y1 then b.xs else rowAt s y:=by
 have key: ∀(s:List Bd) (c:Bd),(∀d∈s,d.y1<=c.y0)->rowAt (s++[c]) y=if c.y0<=y/\y<c.y1 then c.xs else rowAt s y:=by
  intro s c h
  rw [mb]
  by_cases h1:c.y0<=y/\y<c.y1
  ·rw [aC h1,aD (by rintro⟨d,hd,hd2⟩;have:=h d hd;omega),dL.jK h1.1 h1.2]
  ·rw [aD h1]
   by_cases h2: ∃d∈s,d.y0<=y/\y<d.y1
   ·rw [aC h2]
   ·rw [aD h2,jJ,aD h1]
    refine(show rowAt [] y=_ from (iY (s:=s) fun d hd=>?_).symm)
    by_cases h3:d.y0<=y
    ·exact .inr (by have: ¬(d.y0<=y/\y<d.y1):=fun h4=>h2 ⟨d,hd,h4⟩;omega)
    ·exact .inl (by omega)
 unfold kH
 by_cases h0:b.xs= []\/b.y1<=b.y0
 ·rw [aC h0]
  by_cases h1:b.y0<=y/\y<b.y1
  ·rw [aC h1]
   rcases h0 with h0 | h0
   ·rw [h0];exact iY fun c hc=> .inr (by have:=hs c hc;omega)
   ·omega
  ·rw [aD h1]
 ·rw [aD h0]
  cases hl:s.getLast? with
  | none=>
   have:s= []:=by simpa using hl
   subst this
   rfl
  | some c=>
   dsimp only
   have hsp:=ox hl
   have hcm:c∈s:=by rw [hsp];simp
   by_cases h1:c.y1=b.y0/\c.xs=b.xs
   ·rw [aC h1]
    have hd: ∀d∈s.dropLast,d.y1<=c.y0\/True:=fun _ _=> .inr trivial
    rw [mb]
    have hrow:rowAt s y=if (∃d∈s.dropLast,d.y0<=y/\y<d.y1) then rowAt s.dropLast y else (if c.y0<=y/\y<c.y1 then c.xs else []):=by
     conv=>lhs;rw [hsp]
     rw [mb];rfl
    rw [hrow]
    have hcg:=hg c hcm
    by_cases h2: ∃d∈s.dropLast,d.y0<=y/\y<d.y1
    ·obtain⟨d,hd,hd2⟩:=h2
     have:=hs d (List.dropLast_subset _ hd)
     have he: ∃d∈s.dropLast,d.y0<=y/\y<d.y1:=⟨d,hd,hd2⟩
     rw [aC he,aC he,aD (by omega)]
    ·rw [aD h2,aD h2]
     show (if c.y0<=y/\y<b.y1 then c.xs else [])=_
     by_cases h3:b.y0<=y/\y<b.y1
     ·rw [aC h3,aC ⟨by omega,h3.2⟩,h1.2]
     ·rw [aD h3]
      by_cases h4:c.y0<=y/\y<c.y1
      ·rw [aC h4,aC ⟨h4.1,by omega⟩]
      ·rw [aD h4,aD (by omega)]
   ·rw [aD h1]
    exact key s b hs
theorem tE {s:List Bd} {b:Bd} (h:dL s) (hs: ∀c∈s,c.y1<=b.y0) (hb:kD b.xs) (he:b.xs.length % 2=0):dL (kH s b):=by
 unfold kH
 by_cases h0:b.xs= []\/b.y1<=b.y0
 ·rw [aC h0];exact h
 ·rw [aD h0]
  have hbg:b.y0<b.y1/\b.xs≠[]/\kD b.xs/\b.xs.length % 2=0:=⟨by omega,fun e=>h0 (.inl e),hb,he⟩
  cases hl:s.getLast? with
  | none=>exact⟨fun c hc=>by simp at hc;subst hc;exact hbg,List.pairwise_singleton _ _⟩
  | some c=>
   dsimp only
   have hsp:=ox hl
   have hcm:c∈s:=by rw [hsp];simp
   have hc:=h.each c hcm
   have hord:=h.ord
   rw [hsp,List.pairwise_append] at hord
   by_cases h1:c.y1=b.y0/\c.xs=b.xs
   ·rw [aC h1]
    refine⟨fun d hd=>?_,?_⟩
    ·rcases cO.1 hd with hd | hd
     ·exact h.each d (List.dropLast_subset _ hd)
     ·simp at hd;subst hd;exact⟨by show c.y0<b.y1;omega,hc.2⟩
    ·rw [List.pairwise_append]
     refine⟨hord.1,List.pairwise_singleton _ _,fun d hd e he=>?_⟩
     simp at he;subst he
     exact hord.2.2 d hd c (by simp)
   ·rw [aD h1]
    refine⟨fun d hd=>?_,?_⟩
    ·rcases cO.1 hd with hd | hd
     ·exact h.each d hd
     ·simp at hd;subst hd;exact hbg
    ·rw [List.pairwise_append]
     refine⟨h.ord,List.pairwise_singleton _ _,fun d hd e he=>?_⟩
     simp at he;subst he
     refine⟨hs d hd,fun e1 e2=>?_⟩
     rw [hsp] at hd
     rcases cO.1 hd with hd | hd
     ·have h2:=(hord.2.2 d hd c (by simp)).1
      have:=hs c hcm
      omega
     ·simp at hd;subst hd;exact h1 ⟨e1,e2⟩
theorem tF {s:List Bd} {b:Bd} (hs: ∀c∈s,c.y1<=b.y0) (hb:b.y0<=b.y1): ∀c∈kH s b,c.y1<=b.y1:=by
 intro c hc
 unfold kH at hc
 split at hc
 ·have:=hs c hc;omega
 ·split at hc
  ·split at hc
   ·rcases cO.1 hc with hc | hc
    ·have:=hs c (List.dropLast_subset _ hc);omega
    ·simp at hc;subst hc;exact Int.le_refl _
   ·rcases cO.1 hc with hc | hc
    ·have:=hs c hc;omega
    ·simp at hc;subst hc;exact Int.le_refl _
  ·simp at hc;subst hc;exact Int.le_refl _
end Go.Gk
namespace Go.Gk
open Go
section
variable {N:Nat}
def bD (b:aA):Bd:=⟨b.Y0,b.Y1,b.Xs⟩
def small (a:Int):Prop:= -1099511627776<=a/\a<=1099511627776
structure yR (r:aI):Prop where
 x:r.X0<r.X1
 y:r.Y0<r.Y1
 s1:small r.X0
 s2:small r.X1
 s3:small r.Y0
 s4:small r.Y1
def zu (l:List aI) (x:Int):Bool:=l.any (fun r=>decide (r.X0<=x)&&decide (x<r.X1))
def u5 (l:List aI) (x y:Int):Bool:=l.any (fun r=>(decide (r.X0<=x)&&decide (x<r.X1))&&(decide (r.Y0<=y)&&decide (y<r.Y1)))
theorem u6 {l:List aI} {x:Int}:zu l x=true↔∃r∈l,r.X0<=x/\x<r.X1:=by unfold zu;simp [jQ]
theorem iZ {l:List aI} {x y:Int}:u5 l x y=true↔∃r∈l,(r.X0<=x/\x<r.X1)/\r.Y0<=y/\y<r.Y1:=by unfold u5;simp [jQ]
theorem wrap_small {a b:Int} (ha:small a) (hb:small b):IntKind.wrap .i64 (a - b)=a - b:=by unfold small at *;exact eE (by omega) (by omega)
theorem yt {n:Nat} (h:0<n) (hn:n<=4611686018427387904):IntKind.wrap .i64 (((n:Nat):Int) - 1)= ((n - 1:Nat):Int):=lr h hn
structure HF (out:List Int) (m:List aI) (k:Nat):Prop where
 row: (k=0/\out= [])\/∃A s e,out=A++[s,e]/\kD A/\(∀c∈A,c<s)/\A.length % 2=0/\s<e/\∃j r,j<k/\m[j]? =some r/\s=r.X0
 k7: ∀x,k7 out x=zu (m.take k) x
 len:out.length<=2*k
 mem: ∀c∈out,∃r∈m,c=r.X0\/c=r.X1
theorem tG (l:List aI) (r:aI) (x:Int):zu (l++[r]) x= (zu l x||(decide (r.X0<=x)&&decide (x<r.X1))):=by unfold zu;rw [List.any_append];simp
theorem xm {l:List aI} (hl:l.length<=268435456) (hok: ∀r∈l,yR r): ∃row l',gj N l=some (row,l')/\l'.Perm l/\kD row/\row.length % 2=0/\(∀x,k7 row x=zu l x)/\row.length<=2*l.length/\∀c∈row,∃r∈l,c=r.X0\/c=r.X1:=by
 unfold gj
 obtain⟨m,h1,h2,h3⟩:=uV (φ:=eQ N) (l:=l) (fun a b=>a.X0 - b.X0) (fun a ha b hb=>by
  unfold eQ;rw [wrap_small (hok a ha).s1 (hok b hb).s1]) (fun a _=>by omega) (fun a _ b _ c _ h1 h2=>by omega) (fun a _ b _ c _ h1 h2=>by omega) (by omega)
 have hml:m.length=l.length:=h2.length_eq
 have hmok: ∀r∈m,yR r:=fun r hr=>hok r (h2.subset hr)
 rw [h1,aB]
 obtain⟨out,a1,a2⟩:=ui (m:=m.length) (s:=([]:List Int)) (body:=fun(k32:Nat) (s33: (List Int))=>((idx m (k32:Int)).bind fun x79=>(bif (decide ((IntKind.wrap .i64 ((s33.length:Int) - 1))>=0)) then ((idx s33 (IntKind.wrap .i64 ((s33.length:Int) - 1))).bind fun x86=>some (decide (x79.X0<=x86))) else (some false)).bind fun s84=>(bif s84 then ((idx s33 (IntKind.wrap .i64 ((s33.length:Int) - 1))).bind fun x94=>(idx s33 (IntKind.wrap .i64 ((s33.length:Int) - 1))).bind fun x95=>some (s33.set (Int.toNat (IntKind.wrap .i64 ((s33.length:Int) - 1))) (if x94<x79.X1 then x79.X1 else x94))) else ((app 8 s33 ([x79.X0,x79.X1]: (List Int))).bind fun x97=>some x97)).bind fun s92=>some s92:Option ((List Int))))
  (fun k out=>HF out m k) (by omega) ⟨.inl ⟨rfl,rfl⟩,fun x=>rfl,by simp,fun c hc=>by cases hc⟩ (fun k out hk ⟨i1,i2,i3,i4⟩=>by
   have hx:m[k]? =some m[k]:=aN hk
   have hr:=hmok _ (dB hk)
   rw [gl hx,aB]
   have hts:m.take (k+1)=m.take k++[m[k]]:=fS hk
   rcases i1 with ⟨rfl,rfl⟩ | ⟨A,s,e,rfl,hA,hAs,hAe,hse,j,r,hj,hjr,hsr⟩
   ·rw [show decide (IntKind.wrap .i64 (((([]:List Int).length:Nat):Int) - 1)>=0)=false by decide,aY,aB,aY,ij (by simp),aB,aB]
    refine⟨_,rfl, .inr ⟨[],_,_,rfl,kn,fun c hc=>by simp at hc,rfl,hr.x,0,m[0],by omega,hx,rfl⟩,fun x=>?_,by simp,fun c hc=>⟨m[0],dB hk,by simpa using hc⟩⟩
    rw [hts,tG,<-i2 x]
    exact sF (l:=[]) (fun c hc=>by simp at hc) rfl hr.x x
   ·have hlen: (A++[s,e]).length=A.length+2:=by simp
    have hwp:IntKind.wrap .i64 ((((A++[s,e]).length:Nat):Int) - 1)= ((A.length+1:Nat):Int):=by rw [yt (by omega) (by omega),hlen];rfl
    have hlast: (A++[s,e])[A.length+1]? =some e:=by rw [eG (by omega)];simp
    have hs:s<=m[k].X0:=by
     have:=l5.1 h3 j k (by have:=(aW.1 hjr).1;omega) hk hj
     rw [hsr,<-(aW.1 hjr).2];omega
    rw [hwp,cG (by omega),aU,gl hlast,aB,aB]
    by_cases hc:m[k].X0<=e
    ·rw [cG hc,aU,aB,aB,aB,bS]
     have ky: (A++[s,e]).set (A.length+1) (if e<m[k].X1 then m[k].X1 else e)=A++[s,max e m[k].X1]:=by
      rw [List.set_append_right _ _ (by omega)]
      have:A.length+1 - A.length=1:=by omega
      rw [this,Int.max_def]
      simp only [List.set_cons_succ,List.set_cons_zero]
      congr 2
      split <;> split <;> simp <;> omega
     rw [ky]
     refine⟨_,rfl, .inr ⟨A,s,_,rfl,hA,hAs,hAe,by omega,j,r,by omega,hjr,hsr⟩,fun x=>?_,by simp at i3 ⊢;omega,fun c hc=>by
      rcases cO.1 hc with h | h
      ·exact i4 c (List.mem_append_left _ h)
      ·simp at h
       rcases h with h | h
       ·exact i4 c (by simp [h])
       ·rw [Int.max_def] at h
        split at h
        ·exact⟨_,dB hk, .inr h⟩
        ·exact i4 c (by simp [h])⟩
     rw [hts,tG,<-i2 x]
     exact Co hAs hAe hse hs hc hr.x x
    ·rw [bP hc,aY,ij (by rw [hlen];simp;omega),aB,aB]
     have hall: ∀c∈A++[s,e],c<m[k].X0:=fun c hc'=>by
      rcases cO.1 hc' with h | h
      ·have:=hAs c h;omega
      ·simp at h;omega
     refine⟨_,rfl, .inr ⟨A++[s,e],_,_,rfl,hA.snoc hAs hse,hall,by rw [hlen];omega,hr.x,k,m[k],by omega,hx,rfl⟩,fun x=>?_,by simp at i3 ⊢;omega,fun c hc=>by
      rcases cO.1 hc with h | h
      ·exact i4 c h
      ·exact⟨m[k],dB hk,by simpa using h⟩⟩
     rw [hts,tG,<-i2 x]
     exact sF hall (by rw [hlen];omega) hr.x x)
 rw [a1,aB]
 refine⟨out,m,rfl,h2,?_,?_,fun x=>?_,by rw [<-hml];exact a2.len,fun c hc=>by obtain⟨r,hr,h⟩:=a2.mem c hc;exact⟨r,h2.subset hr,h⟩⟩
 ·rcases a2.row with ⟨_,h⟩ | ⟨A,s,e,rfl,hA,hAs,hAe,hse,_⟩
  ·rw [h];exact kn
  ·exact hA.snoc hAs hse
 ·rcases a2.row with ⟨_,h⟩ | ⟨A,s,e,rfl,hA,hAs,hAe,hse,_⟩
  ·rw [h];rfl
  ·simp;omega
 ·rw [a2.k7 x,fW,fH,u6,u6]
  constructor
  ·rintro⟨r,hr,h⟩;exact⟨r,h2.subset hr,h⟩
  ·rintro⟨r,hr,h⟩;exact⟨r,h2.symm.subset hr,h⟩
theorem A5 {l m:List Int} (hl:l.length<=4611686018427387904):jU N l m=some (decide (l=m)):=wq hl
theorem Ag {s:List aA} {b:aA} (hs:s.length<=1048576000) (hx: ∀c∈s,c.Xs.length<=1048576000): ∃s',fT N s b=some s'/\s'.map bD=kH (s.map bD) (bD b):=by
 unfold fT kH
 by_cases h0:b.Xs= []\/b.Y1<=b.Y0
 ·have e: ((((b.Xs.length:Nat):Int)==0)||(decide (b.Y1<=b.Y0)))=true:=by
   rw [dG]
   rcases h0 with h | h
   ·left;rw [h];rfl
   ·right;exact cG h
  rw [e,aU,aC (show (bD b).xs= []\/(bD b).y1<=(bD b).y0 from h0)]
  exact⟨s,rfl,rfl⟩
 ·have e: ((((b.Xs.length:Nat):Int)==0)||(decide (b.Y1<=b.Y0)))=false:=by
   rw [Bool.or_eq_false_iff]
   constructor
   ·rw [beq_eq_false_iff_ne];intro h;exact h0 (.inl (List.eq_nil_of_length_eq_zero (by omega)))
   ·exact bP fun h=>h0 (.inr h)
  rw [e,aY,aD (show ¬((bD b).xs= []\/(bD b).y1<=(bD b).y0) from h0)]
  rcases List.eq_nil_or_concat s with rfl | ⟨A,c,hA⟩
  ·rw [show decide (IntKind.wrap .i64 (((([]:List aA).length:Nat):Int) - 1)>=0)=false by decide,aY,aB,aY,ij (by simp),aB]
   exact⟨_,rfl,rfl⟩
  ·rw [List.concat_eq_append] at hA
   subst hA
   have hlen: (A++[c]).length=A.length+1:=by simp
   have hwp:IntKind.wrap .i64 ((((A++[c]).length:Nat):Int) - 1)= ((A.length:Nat):Int):=by rw [yt (by omega) (by omega),hlen];rfl
   have hlast: (A++[c])[A.length]? =some c:=by simp
   rw [hwp,cG (by omega),aU,gl hlast,aB,aB,A5 (by have:=hx c (by simp);omega),aB,aB,bS,ij (by rw [hlen];simp;omega),aB]
   have hl2: ((A++[c]).map bD).getLast? =some (bD c):=by simp
   have hd2: ((A++[c]).map bD).dropLast=A.map bD:=by simp
   rw [hl2,hd2]
   dsimp only
   by_cases h1:c.Y1=b.Y0/\c.Xs=b.Xs
   ·rw [aC (show (bD c).y1= (bD b).y0/\(bD c).xs= (bD b).xs from h1),show (c.Y1==b.Y0)=true by rw [h1.1];simp,aU,cG h1.2,aB,aU]
    refine⟨_,rfl,?_⟩
    rw [List.set_append_right _ _ (bG _),Nat.sub_self]
    simp [bD]
   ·rw [aD (show ¬((bD c).y1= (bD b).y0/\(bD c).xs= (bD b).xs) from h1)]
    have e2: (bif (c.Y1==b.Y0) then (some (decide (c.Xs=b.Xs))) else (some false))=some false:=by
     by_cases h2:c.Y1=b.Y0
     ·rw [show (c.Y1==b.Y0)=true by rw [h2];simp,aU,bP (fun h=>h1 ⟨h2,h⟩)]
     ·rw [show (c.Y1==b.Y0)=false by simpa using h2,aY]
    rw [e2,aB,aY]
    exact⟨_,rfl,by simp⟩
end
end Go.Gk
namespace Go.Gk
open Go
def m5 (l:List (Int×Int)):List Int:=l.flatMap fun s=>[s.1,s.2]
def A6 (l:List (Int×Int)) (x:Int):Bool:=l.any fun s=>decide (s.1<=x)&&decide (x<s.2)
theorem lu (s:Int×Int) (l:List (Int×Int)):m5 (s::l)=s.1::s.2::m5 l:=rfl
theorem A7 (l:List (Int×Int)): (m5 l).length=2*l.length:=by
 induction l with
 | nil=>rfl
 | cons s l ih=>rw [lu,km,km,km,ih];omega
theorem A8 (s:Int×Int) (l:List (Int×Int)) (x:Int):A6 (s::l) x= ((decide (s.1<=x)&&decide (x<s.2))||A6 l x):=rfl
theorem u7 {l:List (Int×Int)} {x:Int}:A6 l x=true↔∃s∈l,s.1<=x/\x<s.2:=by
 unfold A6;simp
theorem A9 {a b:Int} {m:List Int} (h:kD (a::b::m)) (x:Int):k7 (a::b::m) x= ((decide (a<=x)&&decide (x<b))||k7 m x):=by
 have hab:a<b:=h.head b (by simp)
 have hm:=h.tail.head
 rw [fH,dG,bM,bW,bW,sC,sC,ke,ke]
 by_cases h1:a<=x
 ·rw [aC h1]
  by_cases h2:b<=x
  ·rw [aC h2];omega
  ·rw [aD h2,uX (fun c hc=>by have:=hm c hc;omega)];omega
 ·rw [aD h1,aD (by omega)];omega
theorem sH: ∀{l:List (Int×Int)},kD (m5 l)->∀x,k7 (m5 l) x=A6 l x
 | [],_,x=>rfl
 | s::l,h,x=>by
  rw [lu] at h ⊢
  rw [A9 h,A8,sH h.tail.tail]
end Go.Gk
namespace Go.Gk
open Go
end Go.Gk
namespace Go.Gk
open Go
def Ok {β:Type} (o:Option β) (P:β->Prop):Prop:=∃r,o=some r/\P r
section
variable {α β S R:Type} {P:α->Prop} {Q:β->Prop}
theorem Ok.ret {x:β} (h:Q x):Ok (some x) Q:=⟨x,rfl,h⟩
theorem Ok.of {o:Option β} {x:β} (h:o=some x) (hq:Q x):Ok o Q:=⟨x,h,hq⟩
theorem Ok.mono {o:Option α} {P':α->Prop} (h:Ok o P) (k: ∀x,P x->P' x):Ok o P':=by obtain⟨x,h1,h2⟩:=h;exact⟨x,h1,k x h2⟩
theorem Ok.bind {o:Option α} {f:α->Option β} (h:Ok o P) (k: ∀x,P x->Ok (f x) Q):Ok (o.bind f) Q:=by
 obtain⟨x,h1,h2⟩:=h;rw [h1];exact k x h2
theorem Ok.eq {o:Option α} {f:α->Option β} {x:α} (h:o=some x) (k:Ok (f x) Q):Ok (o.bind f) Q:=by rw [h];exact k
theorem Ok.bif {b:Bool} {x y:Option β} (ht:b=true->Ok x Q) (hf:b=false->Ok y Q):Ok (bif b then x else y) Q:=by
 cases b with
 | true=>exact ht rfl
 | false=>exact hf rfl
theorem Ok.get {o:Option β} {x:β} (h:Ok o (fun r=>r=x)):o=some x:=by obtain⟨r,h1,h2⟩:=h;rw [h1,h2]
def FW (Go:S->Prop) (Rt:R->Prop):Fo S R->Prop | .go s=>Go s | .rt r=>Rt r
def DQ (Nx Br:S->Prop) (Rt:R->Prop):Fl S R->Prop | .nx s=>Nx s | .br s=>Br s | .rt r=>Rt r
theorem Ok.nx {Nx Br:S->Prop} {Rt:R->Prop} {s:S} (h:Nx s):Ok (some (Fl.nx s)) (DQ Nx Br Rt):=⟨_,rfl,h⟩
theorem Ok.br {Nx Br:S->Prop} {Rt:R->Prop} {s:S} (h:Br s):Ok (some (Fl.br s)) (DQ Nx Br Rt):=⟨_,rfl,h⟩
theorem Ok.rt {Nx Br:S->Prop} {Rt:R->Prop} {r:R} (h:Rt r):Ok (some (Fl.rt r:Fl S R)) (DQ Nx Br Rt):=⟨_,rfl,h⟩
theorem Ok.cs {Go:S->Prop} {Rt:R->Prop} {o:Fo S R} {f:S->Option β} {g:R->Option β} (h:FW Go Rt o) (hf: ∀s,Go s->Ok (f s) Q) (hg: ∀r,Rt r->Ok (g r) Q):Ok (o.cs f g) Q:=by
 cases o with
 | go s=>exact hf s h
 | rt r=>exact hg r h
theorem Ok.ko {body:Nat->S->Option S} {m:Nat} {s:S} (Inv:Nat->S->Prop) (hm:m<=4611686018427387904) (h0:Inv 0 s) (h: ∀k s,k<m->Inv k s->Ok (body k s) (Inv (k+1))):Ok (ko m body s) (Inv m):=
 ui Inv hm h0 h
theorem Ok.oZ {body:Nat->S->Option (Fl S R)} {m:Nat} {s:S} (Inv:Nat->S->Prop) {Go:S->Prop} {Rt:R->Prop} (hm:m<=4611686018427387904) (h0:Inv 0 s)
  (h: ∀k s,k<m->Inv k s->Ok (body k s) (DQ (Inv (k+1)) Go Rt)) (hg: ∀s,Inv m s->Go s):Ok (oZ m body s) (FW Go Rt):=by
 obtain⟨o,h1,h2⟩:=Dm (R:=R) Inv Go Rt hm h0 (fun k s hk hi=>by
  obtain⟨fl,a1,a2⟩:=h k s hk hi
  exact⟨fl,a1,by cases fl <;> exact a2⟩) hg
 exact⟨o,h1,by cases o <;> exact h2⟩
theorem Ok.mn {body:S->Option (Fl S R)} {N:Nat} {s:S} (Inv:S->Prop) (μ:S->Nat) {Go:S->Prop} {Rt:R->Prop}
  (h: ∀s,Inv s->Ok (body s) (DQ (fun s'=>Inv s'/\μ s'<μ s) Go Rt)) (hi:Inv s) (hn:μ s<N):Ok (mn body N s) (FW Go Rt):=by
 obtain⟨o,h1,h2⟩:=r9 (R:=R) Inv μ Go Rt (fun s hi=>by
  obtain⟨fl,a1,a2⟩:=h s hi
  exact⟨fl,a1,by cases fl <;> exact a2⟩) N s hi hn
 exact⟨o,h1,by cases o <;> exact h2⟩
theorem Ok.app {b:Nat} {l ys:List α} {f:List α->Option β} (h: (l.length+ys.length)*b<=140737488355328) (k:Ok (f (l++ys)) Q):Ok ((Go.Gk.app b l ys).bind f) Q:=by rw [ij h];exact k
theorem Ok.idx {l:List α} {i:Nat} {f:α->Option β} (h:i<l.length) (k:Ok (f l[i]) Q):Ok ((Go.Gk.idx l ((i:Nat):Int)).bind f) Q:=by rw [iC l i h];exact k
theorem Ok.ix {l:List α} {i:Nat} {x:α} {f:α->Option β} (h:l[i]? =some x) (k:Ok (f x) Q):Ok ((Go.Gk.idx l ((i:Nat):Int)).bind f) Q:=by rw [gl h];exact k
end
theorem yu {n:Nat} (h:n<=4611686018427387904):IntKind.wrap .i64 ((n:Nat):Int)= ((n:Nat):Int):=eE (by omega) (by omega)
theorem wrap_add {n m:Nat} (h:n+m<=4611686018427387904):IntKind.wrap .i64 (((n:Nat):Int)+ ((m:Nat):Int))= ((n+m:Nat):Int):=by rw [eE (by omega) (by omega)];simp
theorem gO {n:Nat} (h:n+1<=4611686018427387904):IntKind.wrap .i64 (((n:Nat):Int)+1)= ((n+1:Nat):Int):=by rw [eE (by omega) (by omega)];simp
theorem wy {n:Nat} (h:n+2<=4611686018427387904):IntKind.wrap .i64 (((n:Nat):Int)+2)= ((n+2:Nat):Int):=by rw [eE (by omega) (by omega)];simp
theorem dN {α:Type} [DecidableEq α]: ∀{l m:List α},l.Nodup->(∀x∈l,x∈m)->l.length<=m.length
 | [],m,_,_=>mT _
 | a::l,m,hn,hs=>by
  have ha:a∈m:=hs a (by simp)
  have hn':=List.nodup_cons.1 hn
  have:=dN (l:=l) (m:=m.erase a) hn'.2 (fun x hx=>by
   rw [List.mem_erase_of_ne (fun e=>hn'.1 (by rw [<-e];exact hx))]
   exact hs x (jk _ hx))
  rw [List.length_erase_of_mem ha] at this
  have:=List.length_pos_of_mem ha
  simp;omega
section
variable {α:Type} {N:Nat}
def FX (z:α) (N:Nat) (p0:List α) (p1:α->Option Bool):Option (List α):=
 (ou p0 p1).bind fun x31=>bif (x31==(-1)) then (some p0) else ((mn (fun(s33: (List α)×Int×Int)=>(bif (decide (s33.2.2< (s33.1.length:Int))) then ((idx s33.1 s33.2.2).bind fun x54=>(p1 x54).bind fun x58=>(bif (!x58) then ((idx s33.1 s33.2.1).bind fun x63=>some ((s33.1.set (Int.toNat s33.2.1) x54),(IntKind.wrap .i64 (s33.2.1+1)))) else (some (s33.1,s33.2.1))).bind fun s61=>some (.nx (s61.1,s61.2,(IntKind.wrap .i64 (s33.2.2+1))))) else (some (.br (s33.1,s33.2.1,s33.2.2))):Option (Fl ((List α)×Int×Int) Empty))) N (p0,x31,(IntKind.wrap .i64 (x31+1)))).bind fun o67=>o67.cs (fun(s33: (List α)×Int×Int)=>(rG s33.1 s33.2.1 (s33.1.length:Int)).bind fun x64=>(rG (s33.1.take (Int.toNat s33.2.1)++List.replicate (s33.1.length - Int.toNat s33.2.1) z) 0 s33.2.1).bind fun x65=>some x65) (fun r=>r.elim))
theorem Cp {z:α} {l:List α} {φ:α->Option Bool} (p:α->Bool) (hφ: ∀x∈l,φ x=some (p x)) (hl:l.length<=4611686018427387000) (hN:l.length<N):FX z N l φ=some (l.filter (fun x=> !p x)):=by
 unfold FX
 rw [qQ p (by omega) hφ,aB]
 rcases qj l p with ⟨h1,h2⟩ | ⟨k,x,h1,h2,h3,h4⟩
 ·rw [h1]
  have:l.filter (fun x=> !p x)=l:=List.filter_eq_self.2 fun a ha=>by rw [h2 a ha];rfl
  rw [this];rfl
 ·rw [h1,show (((k:Nat):Int)== -1)=false by simp,aY]
  have hk:=(aW.1 h2).1
  have hpre: (l.take k).filter (fun x=> !p x)=l.take k:=List.filter_eq_self.2 fun a ha=>by
   obtain⟨j,hj⟩:=fw ha
   have hjk:j<k:=by have:=(aW.1 hj).1;rw [cR] at this;omega
   rw [List.getElem?_take_of_lt hjk] at hj
   rw [h4 j a hjk hj];rfl
  have hst:l.take (k+1)=l.take k++[x]:=by
   rw [fS hk];congr 1
   have:=(aW.1 h2).2;rw [this]
  have hk1:IntKind.wrap .i64 (((k:Nat):Int)+1)= ((k+1:Nat):Int):=by rw [eE (by omega) (by omega)];omega
  rw [hk1]
  obtain⟨o,a1,a2⟩:=r9 (S:=(List α)×Int×Int) (R:=Empty) (body:=fun(s33: (List α)×Int×Int)=>(bif (decide (s33.2.2< (s33.1.length:Int))) then ((idx s33.1 s33.2.2).bind fun x54=>(φ x54).bind fun x58=>(bif (!x58) then ((idx s33.1 s33.2.1).bind fun x63=>some ((s33.1.set (Int.toNat s33.2.1) x54),(IntKind.wrap .i64 (s33.2.1+1)))) else (some (s33.1,s33.2.1))).bind fun s61=>some (.nx (s61.1,s61.2,(IntKind.wrap .i64 (s33.2.2+1))))) else (some (.br (s33.1,s33.2.1,s33.2.2))):Option (Fl ((List α)×Int×Int) Empty)))
   (fun s=>∃i j:Nat,s.2.1= ((i:Nat):Int)/\s.2.2= ((j:Nat):Int)/\i<j/\j<=l.length/\s.1.length=l.length/\s.1.take i= (l.take j).filter (fun x=> !p x)/\∀m,j<=m->s.1[m]? =l[m]?)
   (fun s=>l.length - s.2.2.toNat) (fun s=>∃i:Nat,s.2.1= ((i:Nat):Int)/\i<=l.length/\s.1.length=l.length/\s.1.take i=l.filter (fun x=> !p x)) (fun _=>True) (fun s ⟨i,j,e1,e2,hij,hj,hlen,ht,hd⟩=>by
    obtain⟨s,a,b⟩:=s
    dsimp only at e1 e2 hlen ht hd ⊢
    subst e1;subst e2
    by_cases hlt:j<l.length
    ·rw [cG (by rw [hlen];omega),aU]
     have hx:s[j]? =some l[j]:=by rw [hd j (bG _)];exact aN hlt
     have w1:IntKind.wrap .i64 (((j:Nat):Int)+1)= ((j+1:Nat):Int):=by rw [eE (by omega) (by omega)];omega
     have w2:IntKind.wrap .i64 (((i:Nat):Int)+1)= ((i+1:Nat):Int):=by rw [eE (by omega) (by omega)];omega
     have hs2:l.take (j+1)=l.take j++[l[j]]:=fS hlt
     rw [gl hx,aB,hφ _ (dB hlt),aB,w1]
     cases hp:p l[j] with
     | true=>
      refine⟨.nx (s,((i:Nat):Int),((j+1:Nat):Int)),by rw [mU,aY,aB],⟨i,j+1,rfl,rfl,by omega,by omega,hlen,?_,fun m hm=>hd m (by omega)⟩,?_⟩
      ·rw [hs2,iA,ht];simp [hp]
      ·simp only [bS];omega
     | false=>
      refine⟨.nx (s.set i l[j],((i+1:Nat):Int),((j+1:Nat):Int)),by rw [nY,aU,iC _ _ (by omega),aB,bS,w2,aB],⟨i+1,j+1,rfl,rfl,by omega,by omega,by simp [hlen],?_,fun m hm=>?_⟩,?_⟩
      ·rw [hs2,iA,<-ht]
       have: (s.set i l[j]).take (i+1)=s.take i++[l[j]]:=by
        rw [fS (by simp;omega),List.take_set_of_le (bG _)];simp
       rw [this];simp [hp]
      ·rw [eD,aD (by omega)];exact hd m (by omega)
      ·simp only [bS];omega
    ·rw [bP (by rw [hlen];omega),aY]
     have hje:j=l.length:=by omega
     subst hje
     rw [fW] at ht
     exact⟨.br (s,((i:Nat):Int),((l.length:Nat):Int)),rfl,i,rfl,by omega,hlen,ht⟩)
   N (l,((k:Nat):Int),((k+1:Nat):Int)) ⟨k,k+1,rfl,rfl,by omega,by omega,rfl,by rw [hst,iA,hpre];simp [h3],fun _ _=>rfl⟩ (by simp only [bS];omega)
  rw [a1,aB]
  cases o with
  | rt r=>exact r.elim
  | go s=>
   obtain⟨i,e1,hi,hlen,ht⟩:=a2
   obtain⟨s,a,b⟩:=s
   dsimp only at e1 hlen ht
   subst e1
   simp only [Fo.cs]
   rw [sf _ _ (by omega),aB,bS,sd _ _ (by simp;omega),aB,List.take_append_of_le_length (by simp;omega),List.take_take,Nat.min_self,ht]
end
section
variable {κ ν:Type} [DecidableEq κ]
theorem lv (m:List (κ×ν)) (k k':κ) (x z:ν):dQ (n9 m k x) k' z=if k'=k then x else dQ m k' z:=by
 induction m with
 | nil=>unfold n9 dQ;by_cases h:k'=k <;> simp [h]
 | cons p m ih=>
  unfold n9
  by_cases h:k=p.1
  ·rw [aC h]
   by_cases h':k'=k
   ·subst h';simp [dQ]
   ·simp only [dQ,List.find?_cons,aD h',bP h']
    rw [bP (fun e=>h' (e.trans h.symm))]
  ·rw [aD h]
   by_cases h':k'=p.1
   ·have:k'≠k:=fun e=>h (e.symm.trans h')
    simp only [dQ,List.find?_cons,cG h',aD this]
   ·unfold dQ at ih ⊢
    simp only [List.find?_cons,bP h']
    exact ih
theorem nO (m:List (κ×ν)) (k k':κ) (x:ν):jy (n9 m k x) k'= (decide (k'=k)||jy m k'):=by
 induction m with
 | nil=>unfold n9 jy;simp
 | cons p m ih=>
  unfold n9
  by_cases h:k=p.1
  ·rw [aC h]
   by_cases h':k'=k
   ·simp [jy,h']
   ·simp only [jy,List.any_cons,bP h',Bool.false_or]
    rw [bP (fun e=>h' (e.trans h.symm)),Bool.false_or]
  ·rw [aD h]
   unfold jy at ih ⊢
   simp only [List.any_cons]
   rw [ih]
   cases decide (k'=p.1) <;> cases decide (k'=k) <;> simp
end
end Go.Gk
namespace Go.Gk
open Go
section
variable {N:Nat}
theorem u9 (l:List Int) (a b:Nat) (h:a+b<l.length):y6 l ((a:Nat):Int) ((b:Nat):Int)=some l[a+b]:=by
 unfold y6
 rw [aC (by omega),show ((a:Nat):Int)+ ((b:Nat):Int)= ((a+b:Nat):Int) by omega,iC _ _ h]
theorem kD.Cq {l:List Int} {a:Int} (h:kD l) (hl: ∀c∈l,c<a):kD (l++[a]):=by
 unfold kD
 rw [List.pairwise_append]
 exact⟨h,List.pairwise_singleton _ _,fun c hc d hd=>by simp at hd;subst hd;exact hl c hc⟩
theorem kD.last {l:List Int} {a:Int} (h:kD l) (hl:l.getLast? =some a): ∀c∈l,c<=a:=by
 intro c hc
 have hs:=ox hl
 rw [hs] at h hc
 rcases cO.1 hc with h1 | h1
 ·have:=(List.pairwise_append.1 h).2.2 c h1 a (by simp);omega
 ·simp at h1;omega
theorem xn {l:List Int} (hs:l.Pairwise (fun x y=>x<=y)) (hl:l.length<=4611686018427387000) (hN:l.length<N):
  Ok (eP N l) (fun m=>kD m/\∀c,c∈m↔c∈l):=by
 unfold eP
 refine Ok.bif (fun h2=>Ok.ret ⟨?_,fun c=>Iff.rfl⟩) (fun h2=>?_)
 ·have h2:=of_decide_eq_true h2
  match l,h2 with
  | [],_=>exact kn
  | [a],_=>exact List.pairwise_singleton _ _
  | a::b::l,h2=>simp at h2;omega
 ·have h2:=of_decide_eq_false h2
  have le: ∀(i j:Nat) (x y:Int),i<j->l[i]? =some x->l[j]? =some y->x<=y:=fun i j x y hij hx hy=>by
   have:=l5.1 hs i j (aW.1 hx).1 (aW.1 hy).1 hij
   rw [(aW.1 hx).2,(aW.1 hy).2] at this;exact this
  refine Ok.bind (Ok.mn (Go:=fun _=>kD l) (Rt:=fun m=>kD m/\∀c,c∈m↔c∈l) (fun s=>∃k:Nat,s= ((k:Nat):Int)/\1<=k/\k<=l.length/\kD (l.take k)) (fun s=>l.length - s.toNat) ?_ ⟨1,rfl,bG _,by omega,?_⟩ (by simp;omega)) ?_
  ·rintro s ⟨k,rfl,hk1,hkl,hinc⟩
   refine Ok.bif (fun h=>?_) (fun h=>Ok.br ?_)
   ·have hk:k<l.length:=by have:=of_decide_eq_true h;omega
    refine Ok.idx hk ?_
    rw [lr hk1 (by omega)]
    refine Ok.idx (by omega) ?_
    refine Ok.bif (fun he=>?_) (fun he=>?_)
    ·have he:l[k]=l[k - 1]:=by simpa using he
     refine Ok.eq (sf l k hkl) ?_
     refine Ok.bind (Ok.mn (Go:=fun s=>∃i:Nat,s.2.1= ((i:Nat):Int)/\i<=l.length/\s.1.length=l.length/\kD (s.1.take i)/\∀c,c∈s.1.take i↔c∈l) (Rt:=fun _=>True)
      (fun s=>∃i j:Nat,s.2.1= ((i:Nat):Int)/\s.2.2= ((j:Nat):Int)/\1<=j/\k+j<=l.length/\i<=k+j - 1/\s.1.length=l.length/\kD (s.1.take i)/\(s.1.take i).getLast? =l[k+j - 1]? /\
       (∀c,c∈s.1.take i↔c∈l.take (k+j))/\∀m,k+j - 1<=m->s.1[m]? =l[m]?) (fun s=>l.length - s.2.2.toNat) ?_ ?_ (by simp;omega)) ?_
     ·rintro⟨u,a,b⟩ ⟨i,j,e1,e2,hj,hjl,hij,hlen,hi,hlast,hmem,hrest⟩
      dsimp only at e1 e2 hlen hi hlast hmem hrest ⊢
      subst e1;subst e2
      rw [bS]
      refine Ok.bif (fun h=>?_) (fun h=>Ok.br ?_)
      ·have hlt:k+j<l.length:=by have:=of_decide_eq_true h;omega
       have hx:u[k+j]'(by omega)=l[k+j]:=by have:=hrest (k+j) (by omega);rw [aN (by omega),aN hlt] at this;injection this
       have hy:u[k+ (j - 1)]'(by omega)=l[k+ (j - 1)]:=by have:=hrest (k+ (j - 1)) (by omega);rw [aN (by omega),aN (by omega)] at this;injection this
       refine Ok.eq (u9 u k j (by omega)) ?_
       rw [lr hj (by omega)]
       refine Ok.eq (u9 u k (j - 1) (by omega)) ?_
       rw [hx,hy]
       have hts:l.take (k+j+1)=l.take (k+j)++[l[k+j]]:=fS hlt
       have hlast': (u.take i).getLast? =some l[k+ (j - 1)]:=by rw [hlast,show k+j - 1=k+ (j - 1) by omega,aN (by omega)]
       have hxy:l[k+ (j - 1)]<=l[k+j]:=le (k+ (j - 1)) (k+j) _ _ (by omega) (aN _) (aN _)
       refine Ok.bind (P:=fun s'=>s'.1.length=l.length/\∃i':Nat,s'.2= ((i':Nat):Int)/\i'<=k+j/\kD (s'.1.take i')/\(s'.1.take i').getLast? =l[k+j]? /\(∀c,c∈s'.1.take i'↔c∈l.take (k+j+1))/\∀m,k+j<=m->s'.1[m]? =l[m]?) ?_ ?_
       ·refine Ok.bif (fun hne=>?_) (fun hne=>Ok.ret ?_)
        ·have hne:l[k+j]≠l[k+ (j - 1)]:=by simpa using hne
         refine Ok.eq (u9 u k j (by omega)) ?_
         rw [hx]
         refine Ok.idx (by omega) (Ok.ret ⟨by simp [hlen],i+1,?_,by omega,?_⟩)
         ·rw [gO (by omega)]
         ·dsimp only
          rw [bS]
          have ht: (u.set i l[k+j]).take (i+1)=u.take i++[l[k+j]]:=by
           rw [fS (by simp;omega),List.take_set_of_le (bG _)];simp
          rw [ht]
          refine⟨hi.Cq fun c hc=>?_,by simp [aN hlt],fun c=>?_,fun m hm=>?_⟩
          ·have:=hi.last hlast' c hc;omega
          ·rw [hts,cO,cO,hmem]
          ·rw [eD,aD (by omega)];exact hrest m (by omega)
        ·have he:l[k+j]=l[k+ (j - 1)]:=by simpa using hne
         refine⟨hlen,i,rfl,by omega,hi,?_,fun c=>?_,fun m hm=>hrest m (by omega)⟩
         ·dsimp only;rw [hlast',aN hlt,he]
         ·rw [hts,cO,<-hmem]
          constructor
          ·exact .inl
          ·rintro(h | h)
           ·exact h
           ·simp at h;subst h
            rw [he];exact List.mem_of_getLast? hlast'
       ·rintro⟨v,a⟩ ⟨g1,i',g2,g3,g4,g5,g6,g7⟩
        dsimp only at g1 g2 g4 g5 g6 g7 ⊢
        refine Ok.nx ⟨⟨i',j+1,g2,?_,by omega,by omega,by omega,g1,g4,?_,g6,fun m hm=>g7 m (by omega)⟩,?_⟩
        ·rw [gO (by omega)]
        ·rw [show k+ (j+1) - 1=k+j by omega];exact g5
        ·rw [gO (by omega)];simp only [bS];omega
      ·have hge:k+j=l.length:=by have:=of_decide_eq_false h;omega
       refine⟨i,rfl,by omega,hlen,hi,fun c=>?_⟩
       rw [hmem,hge,fW]
     ·refine⟨k,1,rfl,rfl,bG _,by omega,by omega,rfl,hinc,?_,fun c=>?_,fun m _=>rfl⟩
      ·dsimp only
       rw [show k+1 - 1=k by omega,aN hk,he,List.getLast?_eq_getElem?,cR,Nat.min_eq_left hkl,List.getElem?_take_of_lt (by omega),aN (by omega)]
      ·dsimp only
       rw [fS hk,cO]
       constructor
       ·exact .inl
       ·rintro(h | h)
        ·exact h
        ·simp at h;subst h;rw [he]
         refine ga (i:=k - 1) ?_
         rw [List.getElem?_take_of_lt (by omega),aN (by omega)]
     ·rintro o ho
      refine Ok.cs ho ?_ (fun r=>r.elim)
      rintro⟨u,a,b⟩ ⟨i,e1,hi,hlen,hinc',hmem⟩
      dsimp only at e1 hlen hinc' hmem ⊢
      subst e1
      refine Ok.eq (sf u i (by omega)) ?_
      rw [bS]
      refine Ok.eq (sd _ i (by simp;omega)) (Ok.rt ?_)
      rw [List.take_append_of_le_length (by simp;omega),List.take_take,Nat.min_self]
      exact⟨hinc',hmem⟩
    ·have he:l[k]≠l[k - 1]:=by simpa using he
     refine Ok.nx ⟨⟨k+1,by rw [gO (by omega)],by omega,by omega,?_⟩,by rw [gO (by omega)];simp only [bS];omega⟩
     rw [fS hk]
     refine hinc.Cq fun c hc=>?_
     have hlast: (l.take k).getLast? =some l[k - 1]:=by
      rw [List.getLast?_eq_getElem?,cR,Nat.min_eq_left hkl,List.getElem?_take_of_lt (by omega),aN (by omega)]
     have h3:=hinc.last hlast c hc
     have h4:=le (k - 1) k _ _ (by omega) (aN (by omega:k - 1<l.length)) (aN hk)
     omega
   ·have hge:k=l.length:=by have:=of_decide_eq_false h;omega
    subst hge;rw [fW] at hinc;exact hinc
  ·match l,h2 with
   | [],h2=>simp at h2
   | a::l,_=>exact List.pairwise_singleton _ _
  ·rintro o ho
   exact Ok.cs ho (fun s h=>Ok.ret ⟨h,fun c=>Iff.rfl⟩) (fun r h=>Ok.ret h)
def nP (l:List aI):List Int:=l.flatMap fun r=>[r.X0,r.X1]
def kf (l:List aI):List Int:=l.flatMap fun r=>[r.Y0,r.Y1]
theorem nQ {l:List aI} {c:Int}:c∈nP l↔∃r∈l,c=r.X0\/c=r.X1:=by unfold nP;simp [List.mem_flatMap]
theorem jL {l:List aI} {c:Int}:c∈kf l↔∃r∈l,c=r.Y0\/c=r.Y1:=by unfold kf;simp [List.mem_flatMap]
theorem kg (l:List aI): (nP l).length=2*l.length:=by
 induction l with
 | nil=>rfl
 | cons r l ih=>unfold nP at *;simp [List.flatMap_cons,ih];omega
theorem iN (l:List aI): (kf l).length=2*l.length:=by
 induction l with
 | nil=>rfl
 | cons r l ih=>unfold kf at *;simp [List.flatMap_cons,ih];omega
def rH (X Y:List Int) (s:List Bd):Prop:=∀b∈s,b.y0∈Y/\b.y1∈Y/\∀c∈b.xs,c∈X
theorem rH.push {X Y:List Int} {s:List Bd} {b:Bd} (h:rH X Y s) (h0:b.y0∈Y) (h1:b.y1∈Y) (h2: ∀c∈b.xs,c∈X):rH X Y (kH s b):=by
 intro c hc
 unfold kH at hc
 split at hc
 ·exact h c hc
 ·split at hc
  ·rename_i d hd
   have hdm:d∈s:=List.mem_of_getLast? hd
   split at hc
   ·rcases cO.1 hc with hc | hc
    ·exact h c (List.dropLast_subset _ hc)
    ·simp at hc;subst hc;exact⟨(h d hdm).1,h1,(h d hdm).2.2⟩
   ·rcases cO.1 hc with hc | hc
    ·exact h c hc
    ·simp at hc;subst hc;exact⟨h0,h1,h2⟩
  ·simp at hc;subst hc;exact⟨h0,h1,h2⟩
theorem kD.nodup {l:List Int} (h:kD l):l.Nodup:=List.Pairwise.imp (fun h=>by omega) h
theorem rH.row {X Y:List Int} {s:List Bd} (h:rH X Y s) (hc:dL s) {b:Bd} (hb:b∈s):b.xs.length<=X.length:=dN (hc.each b hb).2.2.1.nodup (h b hb).2.2
theorem rH.len {X Y:List Int} {s:List Bd} (h:rH X Y s) (hc:dL s):s.length<=Y.length:=by
 have hn: (s.map Bd.y0).Nodup:=by
  unfold List.Nodup
  rw [List.pairwise_map]
  refine List.Pairwise.imp_of_mem (fun{a b} ha hb hab=>?_) hc.ord
  have:=(hc.each a ha).1
  have:=hab.1
  omega
 have:=dN hn (m:=Y) (fun x hx=>by
  obtain⟨b,hb,rfl⟩:=cH.1 hx
  exact(h b hb).1)
 rwa [gU] at this
theorem rH.mono {X Y X' Y':List Int} {s:List Bd} (h:rH X Y s) (hx: ∀c∈X,c∈X') (hy: ∀c∈Y,c∈Y'):rH X' Y' s:=fun b hb=>⟨hy _ (h b hb).1,hy _ (h b hb).2.1,fun c hc=>hx c ((h b hb).2.2 c hc)⟩
theorem kD.lt {l:List Int} (h:kD l) {i j:Nat} {x y:Int} (hij:i<j) (hx:l[i]? =some x) (hy:l[j]? =some y):x<y:=by
 have:=l5.1 h i j (aW.1 hx).1 (aW.1 hy).1 hij
 rw [(aW.1 hx).2,(aW.1 hy).2] at this;exact this
theorem kD.next {l:List Int} (h:kD l) {k:Nat} {x y c:Int} (hx:l[k]? =some x) (hy:l[k+1]? =some y) (hc:c∈l) (hxc:x<c):y<=c:=by
 obtain⟨j,hj⟩:=fw hc
 rcases Nat.lt_trichotomy j (k+1) with h1 | h1 | h1
 ·exfalso
  by_cases e:j=k
  ·subst e;rw [hx] at hj;injection hj with hj;omega
  ·have:=h.lt (show j<k by omega) hj hx;omega
 ·subst h1;rw [hy] at hj;injection hj with hj;omega
 ·have:=h.lt h1 hy hj;omega
theorem ry {l:List aI} {φ:aI->Option Bool} (p:aI->Bool) (hφ: ∀x∈l,φ x=some (p x)) (hl:l.length<=4611686018427387000) (hN:l.length<N):fz N l φ=some (l.filter (fun x=> !p x)):=
 Cp (z:=(⟨0,0,0,0⟩:aI)) p hφ hl hN
theorem vO {l:List aI} (hl:l.length<=268435456):fX N l=some l:=by
 unfold fX;rw [ij (by simp;omega),aB,List.nil_append]
structure FY (l m:List aI) (ys:List Int) (k:Nat) (out:List aA) (now:List aI) (nx:Nat):Prop where
 can:dL (out.map bD)
 top: ∀c∈out,∀y,ys[k]? =some y->c.Y1<=y
 cover: ∀x y,sG (out.map bD) x y= (u5 l x y&&decide (∀a,ys[k]? =some a->y<a))
 lim:rH (nP l) (kf l) (out.map bD)
 H8: ∀r∈now,r∈m.take nx
 H9: ∀r∈m.take nx,∀y,ys[k]? =some y->y<r.Y1->r∈now
 len:now.length<=nx
 HG:nx<=m.length
 rest: ∀(j:Nat) r y,nx<=j->m[j]? =some r->ys[k]? =some y->y<=r.Y0
 low: ∀r∈now,∀y,ys[k]? =some y->r.Y0<=y
structure m6 (l:List aI) (s:List aA):Prop where
 can:dL (s.map bD)
 cover: ∀x y,sG (s.map bD) x y=u5 l x y
 lim:rH (nP l) (kf l) (s.map bD)
theorem oy {l:List aI} (hl:l.length<=134217728) (hok: ∀r∈l,yR r) (hN:4294967296<=N):Ok (eT N l) (m6 l):=by
 unfold eT
 refine Ok.eq (vO (by omega)) ?_
 obtain⟨m,h1,h2,h3⟩:=uV (φ:=gI N) (l:=l) (fun a b=>a.Y0 - b.Y0) (fun a ha b hb=>by
  unfold gI;rw [wrap_small (hok a ha).s3 (hok b hb).s3]) (fun a _=>by omega) (fun a _ b _ c _ h1 h2=>by omega) (fun a _ b _ c _ h1 h2=>by omega) (by omega)
 refine Ok.eq h1 ?_
 have hml:m.length=l.length:=h2.length_eq
 have hmem: ∀r,r∈m↔r∈l:=fun r=>h2.mem_iff
 refine Ok.bind (Ok.ko (fun k s=>s=kf (m.take k)) (by omega) rfl (fun k s hk e=>?_)) ?_
 ·subst e
  refine Ok.idx hk (Ok.app ?_ (Ok.ret ?_))
  ·rw [iN];simp;omega
  ·rw [fS hk]
   unfold kf;rw [List.flatMap_append];rfl
 rintro s rfl
 rw [fW]
 have hgs:o6 (kf m)=some ((kf m).mergeSort (fun x y=>decide (x<=y))):=by unfold o6;rw [aC (by rw [iN];omega)]
 refine Ok.eq hgs ?_
 have hsp: ((kf m).mergeSort (fun x y=>decide (x<=y))).Pairwise (fun x y=>x<=y):=by
  have:=List.pairwise_mergeSort (le:=fun(x y:Int)=>decide (x<=y)) (fun a b c h1 h2=>by simp at *;omega) (fun a b=>by simp;omega) (kf m)
  exact List.Pairwise.imp (fun h=>by simpa using h) this
 have hsm: ∀c,c∈(kf m).mergeSort (fun x y=>decide (x<=y))↔c∈kf m:=fun c=>List.mem_mergeSort
 have hsl: ((kf m).mergeSort (fun x y=>decide (x<=y))).length=2*m.length:=by rw [List.length_mergeSort,iN]
 generalize (kf m).mergeSort (fun x y=>decide (x<=y))=sy at hsp hsm hsl
 refine Ok.bind (xn (N:=N) hsp (by omega) (by omega)) ?_
 rintro ys ⟨hy,hym⟩
 have hyl:ys.length<=2*m.length:=by
  have:=dN hy.nodup (m:=sy) (fun c hc=>(hym c).1 hc)
  omega
 have y0m: ∀r∈m,r.Y0∈ys:=fun r hr=>(hym _).2 ((hsm _).2 (jL.2 ⟨r,hr, .inl rfl⟩))
 have y1m: ∀r∈m,r.Y1∈ys:=fun r hr=>(hym _).2 ((hsm _).2 (jL.2 ⟨r,hr, .inr rfl⟩))
 have yml: ∀c∈ys,c∈kf l:=fun c hc=>by
  obtain⟨r,hr,h⟩:=jL.1 ((hsm _).1 ((hym _).1 hc))
  exact jL.2 ⟨r,(hmem r).1 hr,h⟩
 refine Ok.bind (Ok.mn (Go:=fun s=>m6 l s.1) (Rt:=fun _=>True) (fun s=>∃k nx:Nat,s.2.2.2= ((k:Nat):Int)/\s.2.2.1= ((nx:Nat):Int)/\(k<ys.length\/k=0)/\FY l m ys k s.1 s.2.1 nx) (fun s=>ys.length - s.2.2.2.toNat) ?_ ?_ (by simp;omega)) ?_
 ·rintro⟨out,now,a,b⟩ ⟨k,nx,e1,e2,hk,I⟩
  dsimp only at e1 e2 I ⊢
  subst e1;subst e2
  rw [gO (by omega)]
  refine Ok.bif (fun h=>?_) (fun h=>Ok.br ?_)
  ·have hk1:k+1<ys.length:=by have:=of_decide_eq_true h;omega
   have hyk:ys[k]? =some ys[k]:=aN _
   have hyk1:ys[k+1]? =some ys[k+1]:=aN hk1
   have hlt:=hy.lt (Nat.lt_succ_self k) hyk hyk1
   have hcov:=I.cover
   simp only [hyk,Option.some.injEq,forall_eq'] at hcov
   refine Ok.eq (ry (fun r=>decide (r.Y1<=ys[k])) (fun r _=>by unfold kS;rw [iC ys k (by omega),aB]) (by have:=I.len;have:=I.HG;omega) (by have:=I.len;have:=I.HG;omega)) ?_
   have hfl:=lz (fun r:aI=> !decide (r.Y1<=ys[k])) now
   have hIl:=I.len
   have hIn:=I.HG
   refine Ok.bind (Ok.mn (Go:=fun s=>∃nx':Nat,s.2= ((nx':Nat):Int)/\nx'<=m.length/\s.1.length<=nx'/\(∀r∈s.1,r∈m.take nx')/\(∀r∈m.take nx',ys[k]<r.Y1->r∈s.1)/\(∀r∈s.1,r.Y0<=ys[k]/\ys[k]<r.Y1)/\(∀(j:Nat) r,nx'<=j->m[j]? =some r->ys[k]<r.Y0)) (Rt:=fun _=>True)
    (fun s=>∃nx':Nat,s.2= ((nx':Nat):Int)/\nx<=nx'/\nx'<=m.length/\s.1.length<=nx'/\(∀r∈s.1,r∈m.take nx')/\(∀r∈m.take nx',ys[k]<r.Y1->r∈s.1)/\(∀r∈s.1,r.Y0<=ys[k]/\ys[k]<r.Y1)) (fun s=>m.length - s.2.toNat) ?_ ?_ (by simp;omega)) ?_
   ·rintro⟨nw,b⟩ ⟨nx',e1,g0,g1,g2,g3,g4,g5⟩
    dsimp only at e1 g2 g3 g4 g5 ⊢
    subst e1
    refine Ok.bind (P:=fun b=>b=true↔∃h:nx'<m.length,m[nx'].Y0<=ys[k]) ?_ ?_
    ·refine Ok.bif (fun h=>?_) (fun h=>Ok.ret ?_)
     ·have hlt:nx'<m.length:=by have:=of_decide_eq_true h;omega
      refine Ok.idx hlt (Ok.idx (by omega) (Ok.ret ?_))
      rw [bW];exact⟨fun h=>⟨hlt,h⟩,fun⟨_,h⟩=>h⟩
     ·have:=of_decide_eq_false h
      constructor
      ·intro h;cases h
      ·rintro⟨h,_⟩;omega
    ·intro bb hbb
     refine Ok.bif (fun h=>?_) (fun h=>Ok.br ?_)
     ·obtain⟨hlt,h0⟩:=hbb.1 h
      have hts:m.take (nx'+1)=m.take nx'++[m[nx']]:=fS hlt
      refine Ok.idx hlt (Ok.app (by simp;omega) (Ok.nx ⟨⟨nx'+1,by rw [gO (by omega)],by omega,by omega,by simp;omega,fun r hr=>?_,fun r hr hr2=>?_,fun r hr=>?_⟩,by rw [gO (by omega)];simp only [bS];omega⟩))
      ·rw [hts]
       rcases cO.1 hr with h | h
       ·exact List.mem_append_left _ (g3 r h)
       ·exact List.mem_append_right _ h
      ·rw [hts] at hr
       rcases cO.1 hr with h | h
       ·exact List.mem_append_left _ (g4 r h hr2)
       ·exact List.mem_append_right _ h
      ·rcases cO.1 hr with h | h
       ·exact g5 r h
       ·simp at h;subst h
        refine⟨h0,?_⟩
        have:=(hok m[nx'] ((hmem _).1 (dB hlt))).y
        have:=I.rest nx' _ ys[k] g0 (aN hlt) hyk
        omega
     ·refine⟨nx',rfl,g1,g2,g3,g4,g5,fun j r hj hr=>?_⟩
      have hjl:=(aW.1 hr).1
      have hlt:nx'<m.length:=by omega
      have h0: ¬m[nx'].Y0<=ys[k]:=fun h0=>by rw [hbb.2 ⟨hlt,h0⟩] at h;cases h
      by_cases e:nx'=j
      ·subst e;rw [aN hlt] at hr;injection hr with hr;subst hr;omega
      ·have:=l5.1 h3 nx' j hlt hjl (by omega)
       have hr':=(aW.1 hr).2
       rw [hr'] at this;omega
   ·refine⟨nx,rfl,bG _,hIn,by dsimp only;omega,fun r hr=>I.H8 r (iz.1 hr).1,fun r hr h=>iz.2 ⟨I.H9 r hr ys[k] hyk h,by simpa using h⟩,fun r hr=>?_⟩
    have hr:=iz.1 hr
    have hr2:ys[k]<r.Y1:=by simpa using hr.2
    exact⟨I.low r hr.1 ys[k] hyk,hr2⟩
   ·rintro o ho
    refine Ok.cs ho ?_ (fun r=>r.elim)
    rintro⟨nw,b⟩ ⟨nx',e1,g1,g2,g3,g4,g5,g6⟩
    dsimp only at e1 g2 g3 g4 g5 ⊢
    subst e1
    refine Ok.idx (by omega) (Ok.idx hk1 ?_)
    have hnm: ∀r∈nw,r∈l:=fun r hr=>(hmem r).1 (List.take_subset _ _ (g3 r hr))
    obtain⟨row,nw',s1,s2,s3,s4,s5,s6,s7⟩:=xm (N:=N) (l:=nw) (by omega) (fun r hr=>hok r (hnm r hr))
    refine Ok.eq s1 ?_
    have hlimx: ∀c∈row,c∈nP l:=fun c hc=>by
     obtain⟨r,hr,h⟩:=s7 c hc
     exact nQ.2 ⟨r,hnm r hr,h⟩
    have hol:out.length<=2*l.length:=by have:=I.lim.len I.can;rw [iN,gU] at this;exact this
    have hox: ∀c∈out,c.Xs.length<=2*l.length:=fun c hc=>by
     have:=I.lim.row I.can (b:=bD c) (cH.2 ⟨c,hc,rfl⟩)
     rw [kg] at this;exact this
    obtain⟨out',p1,p2⟩:=Ag (N:=N) (s:=out) (b:=⟨ys[k],ys[k+1],row⟩) (by omega) (fun c hc=>by have:=hox c hc;omega)
    refine Ok.eq p1 ?_
    have htop: ∀c∈out.map bD,c.y1<=(bD ⟨ys[k],ys[k+1],row⟩).y0:=fun c hc=>by
     obtain⟨d,hd,rfl⟩:=cH.1 hc
     exact I.top d hd ys[k] hyk
    have hcan:=tE I.can htop s3 s4
    refine Ok.nx ⟨⟨k+1,nx',rfl,rfl, .inl hk1,⟨by dsimp only;rw [p2];exact hcan,fun c hc y hy1=>?_,fun x y=>?_,?_,fun r hr=>g3 r (s2.subset hr),fun r hr y hy1 h=>?_,by rw [s2.length_eq];exact g2,g1,fun j r y hj hr hy1=>?_,fun r hr y hy1=>?_⟩⟩,by simp only [bS];omega⟩
    ·rw [hyk1] at hy1;injection hy1 with hy1;subst hy1
     have hm':bD c∈kH (out.map bD) (bD ⟨ys[k],ys[k+1],row⟩):=by rw [<-p2];exact cH.2 ⟨c,hc,rfl⟩
     exact tF htop (by show ys[k]<=ys[k+1];omega) _ hm'
    ·simp only [hyk1,Option.some.injEq,forall_eq']
     unfold sG
     rw [p2,tD htop (fun c hc=>(I.can.each c hc).1) (fun h=>absurd h (by show ¬ys[k+1]<=ys[k];omega))]
     by_cases hyy:ys[k]<=y/\y<ys[k+1]
     ·rw [aC (show (bD ⟨ys[k],ys[k+1],row⟩).y0<=y/\y< (bD ⟨ys[k],ys[k+1],row⟩).y1 from hyy),cG hyy.2,Bool.and_true]
      show k7 row x=_
      rw [s5,fH,u6,iZ]
      constructor
      ·rintro⟨r,hr,h⟩
       have hrm:=List.take_subset _ _ (g3 r hr)
       have h5:=g5 r hr
       have:=hy.next hyk hyk1 (y1m r hrm) h5.2
       exact⟨r,hnm r hr,h,by omega,by omega⟩
      ·rintro⟨r,hr,h,h7,h8⟩
       have hrm:=(hmem r).2 hr
       have h9:r.Y0<=ys[k]:=by
        by_cases h10:r.Y0<=ys[k]
        ·exact h10
        ·have:=hy.next hyk hyk1 (y0m r hrm) (by omega);omega
       have h11:r∈m.take nx':=by
        obtain⟨j,hj⟩:=fw hrm
        by_cases h12:j<nx'
        ·exact ga (i:=j) (by rw [List.getElem?_take_of_lt h12];exact hj)
        ·have:=g6 j r (by omega) hj;omega
       exact⟨r,g4 r h11 (by omega),h⟩
     ·rw [aD (show ¬((bD ⟨ys[k],ys[k+1],row⟩).y0<=y/\y< (bD ⟨ys[k],ys[k+1],row⟩).y1) from hyy)]
      show sG (out.map bD) x y=_
      rw [hcov]
      by_cases h1:y<ys[k]
      ·rw [cG h1,cG (show y<ys[k+1] by omega)]
      ·rw [bP h1,bP (show ¬y<ys[k+1] by omega)]
    ·show rH (nP l) (kf l) (out'.map bD)
     rw [p2]
     exact I.lim.push (yml _ (dB _)) (yml _ (dB _)) hlimx
    ·rw [hyk1] at hy1;injection hy1 with hy1;subst hy1
     exact s2.symm.subset (g4 r hr (by omega))
    ·rw [hyk1] at hy1;injection hy1 with hy1;subst hy1
     exact hy.next hyk hyk1 (y0m r (ga hr)) (g6 j r hj hr)
    ·rw [hyk1] at hy1;injection hy1 with hy1;subst hy1
     have:=(g5 r (s2.subset hr)).1;omega
  ·have hge: ¬k+1<ys.length:=by have:=of_decide_eq_false h;omega
   refine⟨I.can,fun x y=>?_,I.lim⟩
   rw [I.cover]
   by_cases hyn:ys= []
   ·have:u5 l x y=false:=by
     rw [<-mR,iZ]
     rintro⟨r,hr,_⟩
     have:=y0m r ((hmem r).2 hr)
     rw [hyn] at this;cases this
    rw [this];rfl
   ·have hkl:k<ys.length:=by
     rcases hk with h | h
     ·exact h
     ·subst h;exact List.length_pos_iff.2 hyn
    rw [aN hkl]
    simp only [Option.some.injEq,forall_eq']
    cases hc:u5 l x y with
    | false=>rfl
    | true=>
     obtain⟨r,hr,_,h7,h8⟩:=iZ.1 hc
     have:=y1m r ((hmem r).2 hr)
     obtain⟨j,hj⟩:=fw this
     have hjl:=(aW.1 hj).1
     have:r.Y1<=ys[k]:=by
      by_cases e:j=k
      ·subst e;rw [aN hkl] at hj;injection hj with hj;omega
      ·have:=hy.lt (show j<k by omega) hj (aN hkl);omega
     rw [cG (show y<ys[k] by omega)];rfl
 ·refine⟨0,0,rfl,rfl, .inr rfl,?_⟩
  show FY l m ys 0 [] [] 0
  refine⟨dL.nil,fun c hc=>(by cases hc),fun x y=>?_,fun b hb=>(by cases hb),fun r hr=>(by cases hr),fun r hr=>(by rw [List.take_zero] at hr;cases hr),bG _,mT _,fun j r y _ hr hy0=>?_,fun r hr=>(by cases hr)⟩
  ·show false=_
   symm
   rw [Bool.and_eq_false_iff]
   cases hc:u5 l x y with
   | false=>exact .inl rfl
   | true=>
    right
    obtain⟨r,hr,_,h7,h8⟩:=iZ.1 hc
    have hr0:=y0m r ((hmem r).2 hr)
    have hpos:0<ys.length:=List.length_pos_of_mem hr0
    rw [decide_eq_false_iff_not]
    intro h
    have h:=h ys[0] (aN hpos)
    obtain⟨j,hj⟩:=fw hr0
    by_cases e:j=0
    ·subst e;rw [aN hpos] at hj;injection hj with hj;omega
    ·have:=hy.lt (show 0<j by omega) (aN hpos) hj;omega
  ·obtain⟨j',hj'⟩:=fw (y0m r (ga hr))
   by_cases e:j'=0
   ·subst e;rw [hy0] at hj';injection hj' with hj';omega
   ·have:=hy.lt (show 0<j' by omega) hy0 hj';omega
 ·rintro o ho
  refine Ok.cs ho (fun s h=>Ok.ret h) (fun r=>r.elim)
end
end Go.Gk
namespace Go.Gk
open Go
section
variable {N:Nat}
def wz:List Int->List (Int×Int)
 | a::b::l=>(a,b)::wz l
 | _=>[]
theorem uj: ∀(xs:List Int),(wz xs).length=xs.length / 2
 | []=>rfl
 | [a]=>by simp [wz]
 | a::b::l=>by unfold wz;rw [km,uj l];simp only [km];omega
theorem sI: ∀(xs:List Int) (j:Nat) (h:2*j+1<xs.length),(wz xs)[j]? =some (xs[2*j],xs[2*j+1])
 | [],j,h=>by simp at h
 | [a],j,h=>by simp at h
 | a::b::l,0,h=>rfl
 | a::b::l,j+1,h=>by
  have:=sI l j (by simp at h;omega)
  unfold wz
  rw [List.getElem?_cons_succ,this]
  have e1: (a::b::l)[2* (j+1)]=l[2*j]'(by simp at h;omega):=by simp [show 2* (j+1)=2*j+1+1 by omega]
  have e2: (a::b::l)[2* (j+1)+1]=l[2*j+1]'(by simp at h;omega):=by simp [show 2* (j+1)+1=2*j+1+1+1 by omega]
  rw [e1,e2]
theorem sJ: ∀{xs:List Int},xs.length % 2=0->m5 (wz xs)=xs
 | [],_=>rfl
 | [a],h=>by simp at h
 | a::b::l,h=>by unfold wz;rw [lu,sJ (by simp at h;omega)]
theorem Dt {xs:List Int} (h:kD xs) (he:xs.length % 2=0) (x:Int):k7 xs x=A6 (wz xs) x:=by
 have:=sH (l:=wz xs) (by rw [sJ he];exact h) x
 rwa [sJ he] at this
theorem xo {xs:List Int}: ∀p∈wz xs,p.1∈xs/\p.2∈xs:=by
 intro p hp
 obtain⟨j,hj⟩:=fw hp
 have hjl:=(aW.1 hj).1
 rw [uj] at hjl
 rw [sI xs j (by omega)] at hj
 injection hj with hj;subst hj
 exact⟨dB _,dB _⟩
theorem zv {xs:List Int} (h:kD xs): ∀p∈wz xs,p.1<p.2:=by
 intro p hp
 obtain⟨j,hj⟩:=fw hp
 have hjl:=(aW.1 hj).1
 rw [uj] at hjl
 rw [sI xs j (by omega)] at hj
 injection hj with hj;subst hj
 exact h.lt (show 2*j<2*j+1 by omega) (aN _) (aN _)
def kI (b:aA):List aI:=(wz b.Xs).map fun p=>⟨p.1,b.Y0,p.2,b.Y1⟩
def aK (s:List aA):List aI:=s.flatMap kI
theorem kJ (b:aA) (s:List aA):aK (b::s)=kI b++aK s:=rfl
theorem j5 (b:aA): (kI b).length=b.Xs.length / 2:=by unfold kI;rw [gU,uj]
theorem kh (s t:List aA):aK (s++t)=aK s++aK t:=List.flatMap_append
theorem tH (s:List aA) (k:Nat): (aK (s.take k)).length<=(aK s).length:=by
 conv=>rhs;rw [<-List.take_append_drop k s,kh,dR]
 omega
theorem va {s:List aA} {A B:Nat} (h1:s.length<=A) (h2: ∀b∈s,b.Xs.length<=B): (aK s).length<=A*B:=by
 induction s generalizing A with
 | nil=>simp [aK]
 | cons b s ih=>
  rw [kJ,dR,j5]
  simp at h1
  obtain⟨A',rfl⟩: ∃A',A=A'+1:=⟨A - 1,by omega⟩
  have:=ih (A:=A') (by omega) (fun c hc=>h2 c (jk _ hc))
  have:=h2 b (by simp)
  rw [Nat.add_mul];omega
theorem vc {s:List aA} (he: ∀b∈s,b.Xs.length % 2=0) (h1:s.length<=1099511627776) (h2: ∀b∈s,b.Xs.length<=1099511627776/\b.Xs.length<N) (h3: (aK s).length<=1099511627776):gk N s=some (aK s):=by
 refine Ok.get ?_
 unfold gk
 refine Ok.bind (Ok.ko (fun k t=>t=aK (s.take k)) (by omega) rfl (fun k t hk e=>?_)) (fun t e=>Ok.ret (by rw [e,fW]))
 subst e
 refine Ok.idx hk ?_
 have hm:=dB hk
 generalize hb:s[k]=b at hm ⊢
 have heb:=he b hm
 have hbl:=h2 b hm
 have hts:aK (s.take (k+1))=aK (s.take k)++kI b:=by
  rw [fS hk,kh,hb];simp [aK]
 have hle:=tH s (k+1)
 rw [hts,dR,j5] at hle
 refine Ok.bind (Ok.mn (Go:=fun s'=>s'.1=aK (s.take (k+1))) (Rt:=fun _=>True) (fun s'=>∃j:Nat,s'.2= ((2*j:Nat):Int)/\2*j<=b.Xs.length/\s'.1=aK (s.take k)++(kI b).take j) (fun s'=>b.Xs.length - s'.2.toNat) ?_ ⟨0,rfl,by omega,by simp⟩ (by simp;omega)) ?_
 ·rintro⟨acc,i⟩ ⟨j,e1,hj,e2⟩
  dsimp only at e1 e2 ⊢
  subst e1;subst e2
  refine Ok.bif (fun h=>?_) (fun h=>Ok.br ?_)
  ·have hlt:2*j+1<b.Xs.length:=by have:=of_decide_eq_true h;omega
   refine Ok.idx (by omega) ?_
   rw [gO (by omega)]
   refine Ok.idx hlt (Ok.app ?_ (Ok.nx ⟨⟨j+1,?_,by omega,?_⟩,?_⟩))
   ·simp;rw [j5];omega
   ·rw [wy (by omega)];congr 1
   ·rw [jP]
    congr 1
    have hg: (kI b)[j]? =some ⟨b.Xs[2*j],b.Y0,b.Xs[2*j+1],b.Y1⟩:=by
     unfold kI;rw [gR,sI _ _ hlt];rfl
    have hjl:=(aW.1 hg).1
    rw [fS hjl,(aW.1 hg).2]
   ·rw [wy (by omega)];simp only [bS];omega
  ·have hge:2*j=b.Xs.length:=by have:=of_decide_eq_false h;omega
   show aK (s.take k)++(kI b).take j=_
   rw [hts,mS (l:=kI b) (by rw [j5];omega)]
 ·rintro o ho
  exact Ok.cs ho (fun s' h=>Ok.ret h) (fun r=>r.elim)
theorem Du {s:List aA} (h1:s.length<=1099511627776) (h2: ∀b∈s,b.Xs.length<=1099511627776) (h3: (aK s).length<=1099511627776):jB N s=some (((aK s).length:Nat):Int):=by
 refine Ok.get ?_
 unfold jB
 refine Ok.bind (Ok.ko (fun k t=>t= (((aK (s.take k)).length:Nat):Int)) (by omega) rfl (fun k t hk e=>?_)) (fun t e=>Ok.ret (by rw [e,fW]))
 subst e
 refine Ok.idx hk (Ok.ret ?_)
 have hm:=dB hk
 have hbl:=h2 _ hm
 have hts:aK (s.take (k+1))=aK (s.take k)++kI s[k]:=by
  rw [fS hk,kh];simp [aK]
 have hle:=tH s (k+1)
 rw [hts,dR,j5] at hle
 have e:Int.tdiv ((s[k].Xs.length:Nat):Int) 2= ((s[k].Xs.length / 2:Nat):Int):=by
  rw [show (2:Int)= ((2:Nat):Int) by rfl,<-Int.ofNat_tdiv]
 rw [e,yu (by omega),wrap_add (by omega),hts,dR,j5]
theorem zw (l m:List aI) (x y:Int):u5 (l++m) x y= (u5 l x y||u5 m x y):=List.any_append
theorem Cr {b:aA} (h:kD b.Xs) (he:b.Xs.length % 2=0) (x y:Int):u5 (kI b) x y= (k7 b.Xs x&&(decide (b.Y0<=y)&&decide (y<b.Y1))):=by
 rw [Dt h he,fH,iZ,bM,u7,bM,bW,bW]
 unfold kI
 constructor
 ·rintro⟨r,hr,h1,h2⟩
  obtain⟨p,hp,rfl⟩:=cH.1 hr
  exact⟨⟨p,hp,h1⟩,h2⟩
 ·rintro⟨⟨p,hp,h1⟩,h2⟩
  exact⟨_,cH.2 ⟨p,hp,rfl⟩,h1,h2⟩
theorem qm: ∀{s:List aA},dL (s.map bD)->∀x y,u5 (aK s) x y=sG (s.map bD) x y
 | [],_,x,y=>rfl
 | b::s,h,x,y=>by
  rw [kJ,zw,qm h.tail x y]
  have hb:=h.each (bD b) (by simp)
  rw [Cr hb.2.2.1 hb.2.2.2]
  unfold sG
  rw [dW,jJ]
  by_cases hy:b.Y0<=y/\y<b.Y1
  ·rw [aC (show (bD b).y0<=y/\y< (bD b).y1 from hy),iY (fun c hc=> .inl (by have:=h.uZ c hc;have e: (bD b).y1=b.Y1:=rfl;omega)),cG hy.1,cG hy.2]
   show (k7 b.Xs x&&true||false)=k7 b.Xs x
   simp
  ·rw [aD (show ¬((bD b).y0<=y/\y< (bD b).y1) from hy)]
   have: (decide (b.Y0<=y)&&decide (y<b.Y1))=false:=by rw [Bool.and_eq_false_iff,decide_eq_false_iff_not,decide_eq_false_iff_not];omega
   rw [this];simp
theorem ml {s:List aA} {r:aI} (h:r∈aK s): ∃b∈s,∃p∈wz b.Xs,r= ⟨p.1,b.Y0,p.2,b.Y1⟩:=by
 unfold aK kI at h
 obtain⟨b,hb,h⟩:=List.mem_flatMap.1 h
 obtain⟨p,hp,rfl⟩:=cH.1 h
 exact⟨b,hb,p,hp,rfl⟩
theorem vd {s:List aA} {X Y:List Int} (h:dL (s.map bD)) (hl:rH X Y (s.map bD)) (hx: ∀c∈X,small c) (hy: ∀c∈Y,small c): ∀r∈aK s,yR r/\(r.X0∈X/\r.X1∈X)/\r.Y0∈Y/\r.Y1∈Y:=by
 intro r hr
 obtain⟨b,hb,p,hp,rfl⟩:=ml hr
 have hm:bD b∈s.map bD:=cH.2 ⟨b,hb,rfl⟩
 have hc:=h.each _ hm
 have hll:=hl _ hm
 have h1:=xo p hp
 have h2:=hll.2.2 p.1 h1.1
 have h3:=hll.2.2 p.2 h1.2
 exact⟨⟨zv hc.2.2.1 p hp,hc.1,hx _ h2,hx _ h3,hy _ hll.1,hy _ hll.2.1⟩,⟨h2,h3⟩,hll.1,hll.2.1⟩
theorem rz {l:List Int} {x:Int} (h: ∀c∈l,c<=x):k7 l x= (l.length % 2==1):=by unfold k7;rw [Ae h]
theorem tI {l:List Int} {a x:Int} (h:x<a):k7 (l++[a]) x=k7 l x:=by unfold k7;rw [uW,ke,aD (by omega),xl];rfl
def Ba (l:List Int):Bool:=l.length % 2==1
theorem ve (l:List Int) (a:Int):Ba (l++[a]) = !Ba l:=by
 unfold Ba
 rw [dR,fH,Bool.not_eq_true',beq_iff_eq,beq_eq_false_iff_ne]
 simp;omega
structure yv (iW:Bool->Bool->Bool) (a b a' b' out:List Int) (inA inB is:Bool) (pa pb:List Int):Prop where
 ea:a=pa++a'
 eb:b=pb++b'
 oa:inA=Ba pa
 ob:inB=Ba pb
 oo:is=Ba out
 ok:is=iW inA inB
 low: ∀c,(c∈pa\/c∈pb\/c∈out)->∀d,(d∈a'\/d∈b')->c<d
 inc:kD out
 FZ: ∀x,(∀d,(d∈a'\/d∈b')->x<d)->k7 out x=iW (k7 pa x) (k7 pb x)
 mem: ∀c∈out,c∈pa\/c∈pb
 len:out.length<=pa.length+pb.length
theorem yv.step {iW:Bool->Bool->Bool} {a b a' b' out:List Int} {inA inB is:Bool} {pa pb:List Int} (I:yv iW a b a' b' out inA inB is pa pb) (ha:kD a) (hb:kD b) (x:Int) (ta tb:List Int) (wa wb:Bool)
  (h1:a'= (if wa then x::ta else ta)) (h2:b'= (if wb then x::tb else tb)) (hw:wa=true\/wb=true) (hx: ∀d,(d∈ta\/d∈tb)->x<d):
  yv iW a b ta tb (if iW (inA ^^ wa) (inB ^^ wb)=is then out else out++[x]) (inA ^^ wa) (inB ^^ wb) (iW (inA ^^ wa) (inB ^^ wb)) (if wa then pa++[x] else pa) (if wb then pb++[x] else pb):=by
 have hxm:x∈a'\/x∈b':=by
  rcases hw with h | h
  ·left;rw [h1,aC h];simp
  ·right;rw [h2,aC h];simp
 have hsub: ∀d,(d∈ta\/d∈tb)->d∈a'\/d∈b':=fun d hd=>by
  rcases hd with h | h
  ·left;rw [h1];split
   ·exact jk _ h
   ·exact h
  ·right;rw [h2];split
   ·exact jk _ h
   ·exact h
 have hlow: ∀c,(c∈pa\/c∈pb\/c∈out)->c<x:=fun c hc=>I.low c hc x hxm
 have hpa: ∀c∈(if wa then pa++[x] else pa),c∈pa\/(wa=true/\c=x):=fun c hc=>by
  split at hc
  ·rename_i h
   rcases cO.1 hc with h' | h'
   ·exact .inl h'
   ·simp at h';exact .inr ⟨h,h'⟩
  ·exact .inl hc
 have hpb: ∀c∈(if wb then pb++[x] else pb),c∈pb\/(wb=true/\c=x):=fun c hc=>by
  split at hc
  ·rename_i h
   rcases cO.1 hc with h' | h'
   ·exact .inl h'
   ·simp at h';exact .inr ⟨h,h'⟩
  ·exact .inl hc
 have hout: ∀c∈(if iW (inA ^^ wa) (inB ^^ wb)=is then out else out++[x]),c∈out\/c=x:=fun c hc=>by
  split at hc
  ·exact .inl hc
  ·rcases cO.1 hc with h' | h'
   ·exact .inl h'
   ·simp at h';exact .inr h'
 have ooA: (inA ^^ wa)=Ba (if wa then pa++[x] else pa):=by
  rw [I.oa];cases wa <;> simp [ve]
 have ooB: (inB ^^ wb)=Ba (if wb then pb++[x] else pb):=by
  rw [I.ob];cases wb <;> simp [ve]
 have ooO:iW (inA ^^ wa) (inB ^^ wb)=Ba (if iW (inA ^^ wa) (inB ^^ wb)=is then out else out++[x]):=by
  split
  ·rename_i h;rw [h];exact I.oo
  ·rename_i h
   rw [ve,<-I.oo]
   cases hk:iW (inA ^^ wa) (inB ^^ wb) <;> cases his:is <;> simp_all
 refine⟨?_,?_,ooA,ooB,ooO,rfl,?_,?_,?_,?_,?_⟩
 ·rw [I.ea,h1];split <;> simp
 ·rw [I.eb,h2];split <;> simp
 ·intro c hc d hd
  have hd':=hx d hd
  have hdd:=hsub d hd
  rcases hc with h | h | h
  ·rcases hpa c h with h' | ⟨_,rfl⟩
   ·exact I.low c (.inl h') d hdd
   ·exact hd'
  ·rcases hpb c h with h' | ⟨_,rfl⟩
   ·exact I.low c (.inr (.inl h')) d hdd
   ·exact hd'
  ·rcases hout c h with h' | rfl
   ·exact I.low c (.inr (.inr h')) d hdd
   ·exact hd'
 ·split
  ·exact I.inc
  ·exact I.inc.Cq fun c hc=>hlow c (.inr (.inr hc))
 ·intro y hy
  by_cases hxy:y<x
  ·have e1:k7 (if wa then pa++[x] else pa) y=k7 pa y:=by split;exact tI hxy;rfl
   have e2:k7 (if wb then pb++[x] else pb) y=k7 pb y:=by split;exact tI hxy;rfl
   have e3:k7 (if iW (inA ^^ wa) (inB ^^ wb)=is then out else out++[x]) y=k7 out y:=by split;rfl;exact tI hxy
   rw [e1,e2,e3]
   refine I.FZ y fun d hd=>?_
   have:x<=d:=by
    rcases hd with h | h
    ·rw [h1] at h
     split at h
     ·rcases fG.1 h with rfl | h
      ·exact Int.le_refl _
      ·have:=hx d (.inl h);omega
     ·have:=hx d (.inl h);omega
    ·rw [h2] at h
     split at h
     ·rcases fG.1 h with rfl | h
      ·exact Int.le_refl _
      ·have:=hx d (.inr h);omega
     ·have:=hx d (.inr h);omega
   omega
  ·rw [rz (l:=if wa then pa++[x] else pa),rz (l:=if wb then pb++[x] else pb),rz]
   ·have e1:=ooA;have e2:=ooB;have e3:=ooO
    unfold Ba at e1 e2 e3
    rw [<-e1,<-e2,<-e3]
   ·intro c hc
    rcases hout c hc with h | rfl
    ·have:=hlow c (.inr (.inr h));omega
    ·omega
   ·intro c hc
    rcases hpb c hc with h | ⟨_,rfl⟩
    ·have:=hlow c (.inr (.inl h));omega
    ·omega
   ·intro c hc
    rcases hpa c hc with h | ⟨_,rfl⟩
    ·have:=hlow c (.inl h);omega
    ·omega
 ·intro c hc
  have m1: ∀c,c∈pa->c∈(if wa then pa++[x] else pa):=fun c h=>by split;exact List.mem_append_left _ h;exact h
  have m2: ∀c,c∈pb->c∈(if wb then pb++[x] else pb):=fun c h=>by split;exact List.mem_append_left _ h;exact h
  rcases hout c hc with h | rfl
  ·rcases I.mem c h with h | h
   ·exact .inl (m1 c h)
   ·exact .inr (m2 c h)
  ·rcases hw with h | h
   ·left;rw [aC h];simp
   ·right;rw [aC h];simp
 ·have:=I.len
  have h3: (if wa then pa++[x] else pa).length+ (if wb then pb++[x] else pb).length>=pa.length+pb.length+1:=by
   rcases hw with h | h
   ·subst h;cases wb <;> simp <;> omega
   ·subst h;cases wa <;> simp <;> omega
  split
  ·omega
  ·simp at h3 ⊢;omega
end
end Go.Gk
namespace Go.Gk
open Go
section
variable {N:Nat}
theorem gr (x:Int) (l:List Int):idx (x::l) 0=some x:=rfl
theorem nR {α:Type} (x:α) (l:List α):rG (x::l) 1 (((x::l).length:Nat):Int)=some l:=sf (x::l) 1 (by simp)
theorem ik {α:Type} (x:α) (l:List α):decide ((((x::l).length:Nat):Int)>0)=true:=cG (by simp)
theorem qo {α:Type} (x:α) (l:List α): ((((x::l).length:Nat):Int)==0)=false:=by rw [beq_eq_false_iff_ne];simp;omega
theorem zx {a b:List Int} (ha:kD a) (hb:kD b) (h:a≠[]\/b≠[]): ∃x ta tb wa wb,a= (if wa then x::ta else ta)/\b= (if wb then x::tb else tb)/\(wa=true\/wb=true)/\(∀d,(d∈ta\/d∈tb)->x<d):=by
 match a,b,ha,hb,h with
 | [],[],_,_,h=>rcases h with h | h <;> exact absurd rfl h
 | x::ta,[],ha,_,_=>exact⟨x,ta,[],true,false,rfl,rfl, .inl rfl,fun d hd=>by rcases hd with h | h;exact ha.head d h;cases h⟩
 | [],y::tb,_,hb,_=>exact⟨y,[],tb,false,true,rfl,rfl, .inr rfl,fun d hd=>by rcases hd with h | h;cases h;exact hb.head d h⟩
 | x::ta,y::tb,ha,hb,_=>
  rcases Int.lt_trichotomy x y with h | h | h
  ·refine⟨x,ta,y::tb,true,false,rfl,rfl, .inl rfl,fun d hd=>?_⟩
   rcases hd with h1 | h1
   ·exact ha.head d h1
   ·rcases fG.1 h1 with rfl | h1
    ·exact h
    ·have:=hb.head d h1;omega
  ·subst h
   exact⟨x,ta,tb,true,true,rfl,rfl, .inl rfl,fun d hd=>by rcases hd with h | h;exact ha.head d h;exact hb.head d h⟩
  ·refine⟨y,x::ta,tb,false,true,rfl,rfl, .inr rfl,fun d hd=>?_⟩
   rcases hd with h1 | h1
   ·rcases fG.1 h1 with rfl | h1
    ·exact h
    ·have:=ha.head d h1;omega
   ·exact hb.head d h1
theorem Bb {φ:Bool->Bool->Option Bool} {iW:Bool->Bool->Bool} (hφ: ∀p q,φ p q=some (iW p q)) (hk:iW false false=false) {a b:List Int} (ha:kD a) (hb:kD b) (hae:a.length % 2=0) (hbe:b.length % 2=0)
  (jO:a.length<=1099511627776) (hbl:b.length<=1099511627776) (hN:a.length+b.length<N):
  Ok (mo N a b φ) (fun m=>kD m/\m.length % 2=0/\(∀x,k7 m x=iW (k7 a x) (k7 b x))/\∀c∈m,c∈a\/c∈b):=by
 unfold mo
 refine Ok.bind (Ok.mn (Go:=fun s=>kD s.2.2.1/\s.2.2.1.length % 2=0/\(∀x,k7 s.2.2.1 x=iW (k7 a x) (k7 b x))/\∀c∈s.2.2.1,c∈a\/c∈b) (Rt:=fun _=>True)
  (fun s=>∃pa pb,yv iW a b s.1 s.2.1 s.2.2.1 s.2.2.2.1 s.2.2.2.2.1 s.2.2.2.2.2 pa pb) (fun s=>s.1.length+s.2.1.length) ?_ ?_ hN) ?_
 ·rintro⟨a',b',out,inA,inB,is⟩ ⟨pa,pb,I⟩
  dsimp only at I ⊢
  have ha':kD a':=by have:=ha;rw [I.ea] at this;exact(List.pairwise_append.1 this).2.1
  have hb':kD b':=by have:=hb;rw [I.eb] at this;exact(List.pairwise_append.1 this).2.1
  have hle:pa.length+a'.length=a.length:=by rw [I.ea];simp
  have hlb:pb.length+b'.length=b.length:=by rw [I.eb];simp
  have hlo:=I.len
  by_cases hne:a'≠[]\/b'≠[]
  ·obtain⟨x,ta,tb,wa,wb,h1,h2,hw,hx⟩:=zx ha' hb' hne
   have J:=I.step ha hb x ta tb wa wb h1 h2 hw hx
   have fin: ∀(sa sb:List Int×Bool),sa= (ta,inA ^^ wa)->sb= (tb,inB ^^ wb)->
     Ok ((φ sa.2 sb.2).bind fun x220=>(bif (x220 != is) then ((app 8 out ([x]: (List Int))).bind fun x227=>some (x227,x220)) else (some (out,is))).bind fun s224=>some (Fl.nx (sa.1,sb.1,s224.1,sa.2,sb.2,s224.2)))
      (DQ (fun s':List Int×List Int×List Int×Bool×Bool×Bool=>(∃pa pb,yv iW a b s'.1 s'.2.1 s'.2.2.1 s'.2.2.2.1 s'.2.2.2.2.1 s'.2.2.2.2.2 pa pb)/\s'.1.length+s'.2.1.length<a'.length+b'.length) (fun s=>kD s.2.2.1/\s.2.2.1.length % 2=0/\(∀x,k7 s.2.2.1 x=iW (k7 a x) (k7 b x))/\∀c∈s.2.2.1,c∈a\/c∈b) (fun _:Empty=>True)):=by
    rintro _ _ rfl rfl
    refine Ok.eq (hφ _ _) ?_
    have hlt:ta.length+tb.length<a'.length+b'.length:=by
     rw [h1,h2]
     rcases hw with h | h
     ·subst h;cases wb <;> simp <;> omega
     ·subst h;cases wa <;> simp <;> omega
    by_cases he:iW (inA ^^ wa) (inB ^^ wb)=is
    ·rw [aC he] at J
     refine Ok.eq (x:=(out,is)) (by rw [he,show (is != is)=false by simp,aY]) ?_
     rw [he] at J
     exact Ok.nx ⟨⟨_,_,J⟩,hlt⟩
    ·rw [aD he] at J
     refine Ok.eq (x:=(out++[x],iW (inA ^^ wa) (inB ^^ wb))) (by rw [show (iW (inA ^^ wa) (inB ^^ wb) != is)=true by simp [he],aU,ij (by simp;omega),aB]) (Ok.nx ⟨⟨_,_,J⟩,hlt⟩)
   rcases hw with rfl | rfl
   ·rw [aC rfl] at h1
    subst h1
    refine Ok.eq (x:=true) (by rw [ik,aU]) ?_
    rw [aU]
    have hle2: (bif (((b'.length:Nat):Int)==0) then (some true) else (bif (decide ((((x::ta).length:Nat):Int)>0)) then ((idx (x::ta) 0).bind fun x181=>(idx b' 0).bind fun x183=>some (decide (x181<=x183))) else (some false)))=some true:=by
     cases b' with
     | nil=>rfl
     | cons y b''=>
      rw [qo,aY,ik,aU,gr,aB,gr,aB]
      have:x<=y:=by
       cases wb with
       | true=>simp at h2;omega
       | false=>have:=hx y (.inr (by simp at h2;rw [<-h2];simp));omega
      rw [cG this]
    refine Ok.eq hle2 ?_
    rw [aU]
    refine Ok.eq (x:=x) (by rw [gr,aB]) ?_
    refine Ok.eq (x:=true) (by rw [ik,aU,gr,aB];simp) ?_
    refine Ok.eq (x:=(ta,!inA)) (by rw [aU,nR,aB]) ?_
    cases wb with
    | true=>
     rw [aC rfl] at h2
     subst h2
     refine Ok.eq (x:=true) (by rw [ik,aU,gr,aB];simp) ?_
     refine Ok.eq (x:=(tb,!inB)) (by rw [aU,nR,aB]) ?_
     exact fin _ _ (by simp) (by simp)
    | false=>
     have h2:b'=tb:=h2
     subst h2
     refine Ok.eq (x:=false) ?_ ?_
     ·cases b' with
      | nil=>rfl
      | cons y b''=>
       have:=hx y (.inr (by simp))
       rw [ik,aU,gr,aB,show (y==x)=false by rw [beq_eq_false_iff_ne];omega]
     ·refine Ok.eq (x:=(b',inB)) (by rw [aY]) ?_
      exact fin _ _ (by simp) (by simp)
   ·cases wa with
    | true=>
     rw [aC rfl] at h1 h2
     subst h1;subst h2
     refine Ok.eq (x:=true) (by rw [ik,aU]) ?_
     rw [aU]
     refine Ok.eq (x:=true) (by rw [qo,aY,ik,aU,gr,aB,gr,aB];simp) ?_
     rw [aU]
     refine Ok.eq (x:=x) (by rw [gr,aB]) ?_
     refine Ok.eq (x:=true) (by rw [ik,aU,gr,aB];simp) ?_
     refine Ok.eq (x:=(ta,!inA)) (by rw [aU,nR,aB]) ?_
     refine Ok.eq (x:=true) (by rw [ik,aU,gr,aB];simp) ?_
     refine Ok.eq (x:=(tb,!inB)) (by rw [aU,nR,aB]) ?_
     exact fin _ _ (by simp) (by simp)
    | false=>
     have h1:a'=ta:=h1
     rw [aC rfl] at h2
     subst h1;subst h2
     refine Ok.eq (x:=true) (by rw [ik,Dq];simp) ?_
     rw [aU]
     refine Ok.eq (x:=false) ?_ ?_
     ·rw [qo,aY]
      cases a' with
      | nil=>rfl
      | cons y a''=>
       have:=hx y (.inl (by simp))
       rw [ik,aU,gr,aB,gr,aB,bP (by omega)]
     ·rw [aY]
      refine Ok.eq (x:=x) (by rw [gr,aB]) ?_
      refine Ok.eq (x:=false) ?_ ?_
      ·cases a' with
       | nil=>rfl
       | cons y a''=>
        have:=hx y (.inl (by simp))
        rw [ik,aU,gr,aB,show (y==x)=false by rw [beq_eq_false_iff_ne];omega]
      ·refine Ok.eq (x:=(a',inA)) (by rw [aY]) ?_
       refine Ok.eq (x:=true) (by rw [ik,aU,gr,aB];simp) ?_
       refine Ok.eq (x:=(tb,!inB)) (by rw [aU,nR,aB]) ?_
       exact fin _ _ (by simp) (by simp)
  ·have ea:a'= []:=Classical.byContradiction fun h=>hne (.inl h)
   have eb:b'= []:=Classical.byContradiction fun h=>hne (.inr h)
   subst ea;subst eb
   refine Ok.eq (x:=false) rfl ?_
   refine Ok.br ⟨I.inc,?_,fun x=>?_,fun c hc=>?_⟩
   ·have h1:=I.ea;have h2:=I.eb
    rw [ly] at h1 h2
    have h3:Ba out=false:=by
     rw [<-I.oo,I.ok,I.oa,I.ob,<-h1,<-h2]
     unfold Ba;rw [hae,hbe];exact hk
    unfold Ba at h3
    rw [beq_eq_false_iff_ne] at h3
    dsimp only;omega
   ·have:=I.FZ x (fun d hd=>by rcases hd with h | h <;> cases h)
    have h1:=I.ea;have h2:=I.eb
    rw [ly] at h1 h2
    rw [h1,h2];exact this
   ·have h1:=I.ea;have h2:=I.eb
    rw [ly] at h1 h2
    rw [h1,h2];exact I.mem c hc
 ·exact⟨[],[],rfl,rfl,rfl,rfl,rfl,hk.symm,fun c hc=>(by rcases hc with h | h | h <;> cases h),kn,fun x _=>hk.symm,fun c hc=>(by cases hc),bG _⟩
 ·rintro o ho
  exact Ok.cs ho (fun s h=>Ok.ret h) (fun r=>r.elim)
theorem dL.app {s t:List Bd} (h:dL (s++t)):dL t:=⟨fun b hb=>h.each b (List.mem_append_right _ hb),(List.pairwise_append.1 h.ord).2.1⟩
theorem dL.low {b:Bd} {s:List Bd} (h:dL (b::s)): ∀c∈b::s,b.y0<=c.y0:=fun c hc=>by
 rcases fG.1 hc with rfl | hc
 ·exact Int.le_refl _
 ·have:=h.uZ c hc;have:=(h.each b (by simp)).1;omega
theorem dL.high {s:List Bd} {b:Bd} (h:dL (s++[b])): ∀c∈s++[b],c.y1<=b.y1:=fun c hc=>by
 rcases cO.1 hc with hc | hc
 ·have:=((List.pairwise_append.1 h.ord).2.2 c hc b (by simp)).1
  have:=(h.each b (by simp)).1;omega
 ·simp at hc;subst hc;exact Int.le_refl _
def yS (s:List aA) (y e:Int):List Int×Int:=match s with
 | []=>([],e)
 | b::_=>if y<b.Y0 then ([],if b.Y0<e then b.Y0 else e) else (b.Xs,if b.Y1<e then b.Y1 else e)
theorem Cs {α:Type} (x:α) (l:List α):idx (x::l) 0=some x:=rfl
theorem DR (s:List aA) (y e:Int):jX N s y e=some (yS s y e):=by
 unfold jX yS
 cases s with
 | nil=>rfl
 | cons b s=>
  dsimp only
  rw [qo,aY,Cs,aB,aB,aB,aB]
  by_cases h:y<b.Y0
  ·rw [cG h,aU,aC h]
  ·rw [bP h,aY,aD h]
theorem Ah {s:List aA} {y e:Int} {X Y:List Int} (hc:dL (s.map bD)) (hl:rH X Y (s.map bD)) (hh: ∀b t,s=b::t->y<b.Y1) (hy:y<e):
  y< (yS s y e).2/\(yS s y e).2<=e/\(∀y',y<=y'->y'< (yS s y e).2->rowAt (s.map bD) y'= (yS s y e).1)/\kD (yS s y e).1/\(yS s y e).1.length % 2=0/\((yS s y e).2=e\/(yS s y e).2∈Y)/\∀c∈(yS s y e).1,c∈X:=by
 cases s with
 | nil=>exact⟨hy,Int.le_refl _,fun y' _ _=>rfl,kn,rfl, .inl rfl,fun c hc=>(by cases hc)⟩
 | cons b t=>
  have hb:=hc.each (bD b) (by simp)
  have hlb:=hl (bD b) (by simp)
  have h1:=hh b t rfl
  unfold yS
  dsimp only
  by_cases h:y<b.Y0
  ·rw [aC h]
   dsimp only
   refine⟨by split <;> omega,by split <;> omega,fun y' h2 h3=>?_,kn,rfl,?_,fun c hc=>(by cases hc)⟩
   ·exact hc.ql (by show y'<b.Y0;split at h3 <;> omega)
   ·split
    ·exact .inr hlb.1
    ·exact .inl rfl
  ·rw [aD h]
   dsimp only
   refine⟨by split <;> omega,by split <;> omega,fun y' h2 h3=>?_,hb.2.2.1,hb.2.2.2,?_,hlb.2.2⟩
   ·exact dL.jK (b:=bD b) (by show b.Y0<=y';omega) (by show y'<b.Y1;split at h3 <;> omega)
   ·split
    ·exact .inr hlb.2.1
    ·exact .inl rfl
theorem wA {y:Int} {a:List aA} (hN:a.length<N) {body:List aA->Option (Fl (List aA) Empty)}
  (hb:body=fun(s373: (List aA))=>((bif (decide ((s373.length:Int)>0)) then ((idx s373 0).bind fun x407=>some (decide (x407.Y1<=y))) else (some false)).bind fun s405=>bif s405 then ((rG s373 1 (s373.length:Int)).bind fun x410=>some (.nx x410)) else (some (.br s373)):Option (Fl ((List aA)) Empty))):
  Ok (mn body N a) (FW (fun a'=>∃p,a=p++a'/\(∀c∈p,c.Y1<=y)/\∀b t,a'=b::t->y<b.Y1) (fun _=>True)):=by
 subst hb
 refine Ok.mn (fun a'=>∃p,a=p++a'/\∀c∈p,c.Y1<=y) List.length ?_ ⟨[],rfl,fun c hc=>(by cases hc)⟩ hN
 rintro a' ⟨p,e,hp⟩
 cases a' with
 | nil=>exact Ok.eq (x:=false) rfl (Ok.br ⟨p,e,hp,fun b t h=>(by cases h)⟩)
 | cons b t=>
  refine Ok.eq (x:=decide (b.Y1<=y)) (by rw [ik,aU,Cs,aB]) ?_
  refine Ok.bif (fun h=>?_) (fun h=>Ok.br ⟨p,e,hp,fun b' t' h'=>?_⟩)
  ·have h:=of_decide_eq_true h
   refine Ok.eq (nR b t) (Ok.nx ⟨⟨p++[b],by rw [e];simp,fun c hc=>?_⟩,by simp⟩)
   rcases cO.1 hc with hc | hc
   ·exact hp c hc
   ·simp at hc;subst hc;exact h
  ·have h:=of_decide_eq_false h
   injection h' with h1 h2;subst h1;omega
theorem yw {p a':List Bd} {y y':Int} (hp: ∀c∈p,c.y1<=y) (h:y<=y'):rowAt (p++a') y'=rowAt a' y':=by
 rw [mb,aD]
 rintro⟨b,hb,h1⟩
 have:=hp b hb;omega
structure xp (iW:Bool->Bool->Bool) (X Y:List Int) (a b s:List aA):Prop where
 can:dL (s.map bD)
 cover: ∀x y,sG (s.map bD) x y=iW (sG (a.map bD) x y) (sG (b.map bD) x y)
 lim:rH X Y (s.map bD)
theorem vf {s:List aA} (hs:s≠[]) (hl:s.length<=1099511627776) (hc:dL (s.map bD)): ∃f l,idx s 0=some f/\idx s (IntKind.wrap .i64 (((s.length:Nat):Int) - 1))=some l/\f∈s/\l∈s/\∀c∈s,f.Y0<=c.Y0/\c.Y1<=l.Y1:=by
 cases s with
 | nil=>exact absurd rfl hs
 | cons f t=>
  rw [lr (by simp) (by omega)]
  have hlt: (f::t).length - 1< (f::t).length:=by simp
  refine⟨f,(f::t)[(f::t).length - 1],rfl,iC _ _ hlt,by simp,dB _,fun c hcm=>⟨?_,?_⟩⟩
  ·exact hc.low (bD c) (cH.2 ⟨c,hcm,rfl⟩)
  ·have e: (f::t)= (f::t).dropLast++[(f::t)[(f::t).length - 1]]:=by
    have:=List.dropLast_concat_getLast (show f::t≠[] by simp)
    rw [<-List.getLast_eq_getElem (h:=by simp)];exact this.symm
   generalize (f::t)[(f::t).length - 1]=l at e
   have hc2:=hc
   rw [e,eY] at hc2
   have hm:bD c∈(List.map bD (f::t).dropLast++[bD l]):=by
    have:bD c∈(f::t).map bD:=cH.2 ⟨c,hcm,rfl⟩
    rw [e,eY] at this;exact this
   exact dL.high hc2 (bD c) hm
theorem zy {φ:Bool->Bool->Option Bool} {iW:Bool->Bool->Bool} (hφ: ∀p q,φ p q=some (iW p q)) (hk:iW false false=false) {a b:List aA} {X Y:List Int} (ca:dL (a.map bD)) (cb:dL (b.map bD))
  (la:rH X Y (a.map bD)) (lb:rH X Y (b.map bD)) (hX:X.length<=1048576000) (hY:Y.length<=1048576000) (hs: ∀c∈Y,small c) (hN:4398046511104<=N):Ok (lE N a b φ) (xp iW X Y a b):=by
 have jO:a.length<=Y.length:=by have:=la.len ca;rwa [gU] at this
 have hbl:b.length<=Y.length:=by have:=lb.len cb;rwa [gU] at this
 unfold lE
 rw [wrap_add (by omega)]
 refine Ok.bif (fun h=>Ok.ret ?_) (fun h=>?_)
 ·have h:a.length+b.length=0:=by have:=beq_iff_eq.1 h;omega
  have e1:a= []:=List.eq_nil_of_length_eq_zero (by omega)
  have e2:b= []:=List.eq_nil_of_length_eq_zero (by omega)
  subst e1;subst e2
  exact⟨dL.nil,fun x y=>hk.symm,fun c hc=>(by cases hc)⟩
 have h0:a≠[]\/b≠[]:=by
  rw [beq_eq_false_iff_ne] at h
  by_cases e:a= []
  ·right;intro e2;subst e;subst e2;exact h rfl
  ·exact .inl e
 refine Ok.bind (Ok.ko (fun k s=>match k with | 0=>True | 1=>a= []\/((∀c∈a,s.1<=c.Y0/\c.Y1<=s.2)/\s.1∈Y/\s.2∈Y) | _=>((∀c∈a,s.1<=c.Y0/\c.Y1<=s.2)/\(∀c∈b,s.1<=c.Y0/\c.Y1<=s.2)/\s.1∈Y/\s.2∈Y)) (by simp) trivial (fun k s hk hI=>?_)) ?_
 ·obtain⟨y,e⟩:=s
  have hk:k=0\/k=1:=by simp at hk;omega
  rcases hk with rfl | rfl
  ·refine Ok.ix (x:=a) rfl ?_
   by_cases ea:a= []
   ·subst ea
    exact Ok.eq (x:=(y,e)) rfl (Ok.ret (.inl rfl))
   ·obtain⟨f,l,f1,f2,f3,f4,f5⟩:=vf ea (by omega) ca
    have hpos:decide (((a.length:Nat):Int)>0)=true:=cG (by have:=List.length_pos_iff.2 ea;omega)
    refine Ok.eq (x:=(f.Y0,l.Y1)) ?_ (Ok.ret (.inr ⟨f5,(la _ (cH.2 ⟨f,f3,rfl⟩)).1,(la _ (cH.2 ⟨l,f4,rfl⟩)).2.1⟩))
    rw [hpos,aU]
    show ((some true).bind _)=_
    rw [aB,aU,f1,aB,f2,aB,aB,aB,aB]
    simp
  ·refine Ok.ix (x:=b) rfl ?_
   have hI:a= []\/((∀c∈a,y<=c.Y0/\c.Y1<=e)/\y∈Y/\e∈Y):=hI
   by_cases eb:b= []
   ·subst eb
    refine Ok.eq (x:=(y,e)) rfl (Ok.ret ?_)
    rcases hI with h | ⟨h1,h2,h3⟩
    ·rcases h0 with h' | h'
     ·exact absurd h h'
     ·exact absurd rfl h'
    ·exact⟨h1,fun c hc=>(by cases hc),h2,h3⟩
   ·obtain⟨f,l,f1,f2,f3,f4,f5⟩:=vf eb (by omega) cb
    have hpos:decide (((b.length:Nat):Int)>0)=true:=cG (by have:=List.length_pos_iff.2 eb;omega)
    have g1:f.Y0∈Y:=(lb _ (cH.2 ⟨f,f3,rfl⟩)).1
    have g2:l.Y1∈Y:=(lb _ (cH.2 ⟨l,f4,rfl⟩)).2.1
    by_cases ea:a= []
    ·subst ea
     refine Ok.eq (x:=(f.Y0,l.Y1)) ?_ (Ok.ret ⟨fun c hc=>(by cases hc),f5,g1,g2⟩)
     rw [hpos,aU]
     show ((some true).bind _)=_
     rw [aB,aU,f1,aB,f2,aB,aB,aB,aB]
     simp
    ·obtain⟨h1,h2,h3⟩:=hI.resolve_left ea
     refine Ok.eq (x:=(if f.Y0<y then f.Y0 else y,if e<l.Y1 then l.Y1 else e)) ?_ (Ok.ret ⟨fun c hc=>?_,fun c hc=>?_,?_,?_⟩)
     ·rw [hpos,aU]
      have ez: (((a.length:Nat):Int)==0)=false:=by rw [beq_eq_false_iff_ne];have:=List.length_pos_iff.2 ea;omega
      rw [ez]
      show ((some false).bind _)=_
      rw [aB,aY,aB,f1,aB,f2,aB]
     ·have:=h1 c hc;dsimp only;split <;> split <;> omega
     ·have:=f5 c hc;dsimp only;split <;> split <;> omega
     ·dsimp only;split
      ·exact g1
      ·exact h2
     ·dsimp only;split
      ·exact g2
      ·exact h3
 ·rintro⟨y0,e0⟩ hI
  have hI: (∀c∈a,y0<=c.Y0/\c.Y1<=e0)/\(∀c∈b,y0<=c.Y0/\c.Y1<=e0)/\y0∈Y/\e0∈Y:=hI
  obtain⟨ia,ib,iy,ie⟩:=hI
  have sy:=hs _ iy
  have se:=hs _ ie
  unfold small at sy se
  dsimp only
  refine Ok.bind (Ok.mn (Go:=fun s=>xp iW X Y a b s.2.2.1) (Rt:=fun _=>True)
   (fun s=>∃pa pb,a=pa++s.1/\b=pb++s.2.1/\(∀c∈pa,c.Y1<=s.2.2.2)/\(∀c∈pb,c.Y1<=s.2.2.2)/\y0<=s.2.2.2/\s.2.2.2<=max y0 e0/\s.2.2.2∈Y/\dL (s.2.2.1.map bD)/\rH X Y (s.2.2.1.map bD)/\(∀c∈s.2.2.1,c.Y1<=s.2.2.2)/\
    ∀x y,sG (s.2.2.1.map bD) x y= (iW (sG (a.map bD) x y) (sG (b.map bD) x y)&&decide (y<s.2.2.2)))
   (fun s=>(e0 - s.2.2.2).toNat) ?_ ?_ (by dsimp only;omega)) ?_
  ·rintro⟨a',b',out,y⟩ ⟨pa,pb,ea,eb,hpa,hpb,hy0,hye,hyY,hcan,hlim,htop,hcov⟩
   dsimp only at ea eb hpa hpb hy0 hye hyY hcan hlim htop hcov ⊢
   refine Ok.bif (fun h=>?_) (fun h=>Ok.br ?_)
   ·have hlt:y<e0:=of_decide_eq_true h
    have hsl: ∀(p s t:List aA),t=p++s->s.length<=t.length:=fun p s t e=>by rw [e];simp
    have hal':=hsl _ _ _ ea
    have hbl':=hsl _ _ _ eb
    refine Ok.bind (wA (y:=y) (a:=a') (by omega) rfl) (fun o ho=>Ok.cs ho ?_ (fun r=>r.elim))
    rintro a2 ⟨qa,ea2,hqa,hha⟩
    refine Ok.bind (wA (y:=y) (a:=b') (by omega) rfl) (fun o ho=>Ok.cs ho ?_ (fun r=>r.elim))
    rintro b2 ⟨qb,eb2,hqb,hhb⟩
    have ea3:a= (pa++qa)++a2:=by rw [ea,ea2];simp
    have eb3:b= (pb++qb)++b2:=by rw [eb,eb2];simp
    have hPa: ∀c∈pa++qa,c.Y1<=y:=fun c hc=>by rcases cO.1 hc with h | h;exact hpa c h;exact hqa c h
    have hPb: ∀c∈pb++qb,c.Y1<=y:=fun c hc=>by rcases cO.1 hc with h | h;exact hpb c h;exact hqb c h
    have ca2:dL (a2.map bD):=by have:=ca;rw [ea3,eY] at this;exact this.app
    have cb2:dL (b2.map bD):=by have:=cb;rw [eb3,eY] at this;exact this.app
    have la2:rH X Y (a2.map bD):=fun c hc=>la c (by rw [ea3,eY];exact List.mem_append_right _ hc)
    have lb2:rH X Y (b2.map bD):=fun c hc=>lb c (by rw [eb3,eY];exact List.mem_append_right _ hc)
    refine Ok.eq (DR a2 y e0) (Ok.eq (DR b2 y e0) ?_)
    obtain⟨a1,a3,a4,a5,a6,a7,a8⟩:=Ah ca2 la2 hha hlt
    obtain⟨b1,b3,b4,b5,b6,b7,b8⟩:=Ah cb2 lb2 hhb hlt
    have hal2: (yS a2 y e0).1.length<=X.length:=dN a5.nodup a8
    have hbl2: (yS b2 y e0).1.length<=X.length:=dN b5.nodup b8
    generalize yS a2 y e0=pa2 at *
    generalize yS b2 y e0=pb2 at *
    obtain⟨xa,n⟩:=pa2
    obtain⟨xb,m⟩:=pb2
    dsimp only at *
    refine Ok.bind (Bb hφ hk a5 b5 a6 b6 (by omega) (by omega) (by omega)) ?_
    rintro row ⟨r1,r2,r3,r4⟩
    have hnx: ∃nx,nx= (if m<n then m else n)/\y<nx/\nx<=e0/\nx<=n/\nx<=m/\nx∈Y:=by
     refine⟨_,rfl,by split <;> omega,by split <;> omega,by split <;> omega,by split <;> omega,?_⟩
     split
     ·rcases b7 with h | h
      ·rw [h];exact ie
      ·exact h
     ·rcases a7 with h | h
      ·rw [h];exact ie
      ·exact h
    obtain⟨nx,hnx,n1,n2,n3,n4,n5⟩:=hnx
    rw [<-hnx]
    have hol:out.length<=Y.length:=by have:=hlim.len hcan;rwa [gU] at this
    obtain⟨out',p1,p2⟩:=Ag (N:=N) (s:=out) (b:=⟨y,nx,row⟩) (by omega) (fun c hc=>by
     have:=hlim.row hcan (b:=bD c) (cH.2 ⟨c,hc,rfl⟩)
     have e: (bD c).xs=c.Xs:=rfl
     rw [e] at this;omega)
    refine Ok.eq p1 ?_
    have htop': ∀c∈out.map bD,c.y1<=(bD ⟨y,nx,row⟩).y0:=fun c hc=>by
     obtain⟨d,hd,rfl⟩:=cH.1 hc
     exact htop d hd
    refine Ok.nx ⟨⟨pa++qa,pb++qb,ea3,eb3,fun c hc=>by have:=hPa c hc;dsimp only;omega,fun c hc=>by have:=hPb c hc;dsimp only;omega,by dsimp only;omega,by dsimp only;omega,n5,by dsimp only;rw [p2];exact tE hcan htop' r1 r2,?_,fun c hc=>?_,fun x y'=>?_⟩,by dsimp only;omega⟩
    ·dsimp only;rw [p2]
     refine hlim.push hyY n5 (fun c hc=>?_)
     rcases r4 c hc with h | h
     ·exact a8 c h
     ·exact b8 c h
    ·have hm':bD c∈kH (out.map bD) (bD ⟨y,nx,row⟩):=by rw [<-p2];exact cH.2 ⟨c,hc,rfl⟩
     exact tF htop' (by show y<=nx;omega) _ hm'
    ·show k7 (rowAt (out'.map bD) y') x=_
     rw [p2,tD htop' (fun c hc=>(hcan.each c hc).1) (fun h=>absurd h (by show ¬nx<=y;omega))]
     by_cases hyy:y<=y'/\y'<nx
     ·rw [aC (show (bD ⟨y,nx,row⟩).y0<=y'/\y'< (bD ⟨y,nx,row⟩).y1 from hyy),cG hyy.2,Bool.and_true]
      show k7 row x=_
      have mp: ∀p q:List aA,(∀c∈p++q,c.Y1<=y)->∀c∈(p++q).map bD,c.y1<=y:=fun p q h c hc=>by
       obtain⟨d,hd,rfl⟩:=cH.1 hc
       exact h d hd
      have q1:sG (a.map bD) x y'=k7 xa x:=by
       unfold sG
       rw [ea3,eY,yw (mp _ _ hPa) hyy.1,a4 y' hyy.1 (by omega)]
      have q2:sG (b.map bD) x y'=k7 xb x:=by
       unfold sG
       rw [eb3,eY,yw (mp _ _ hPb) hyy.1,b4 y' hyy.1 (by omega)]
      rw [r3,q1,q2]
     ·rw [aD (show ¬((bD ⟨y,nx,row⟩).y0<=y'/\y'< (bD ⟨y,nx,row⟩).y1) from hyy)]
      show sG (out.map bD) x y'=_
      rw [hcov]
      by_cases h1:y'<y
      ·rw [cG h1,cG (show y'<nx by omega)]
      ·rw [bP h1,bP (show ¬y'<nx by omega)]
   ·have hge:e0<=y:=by have:=of_decide_eq_false h;omega
    refine⟨hcan,fun x y'=>?_,hlim⟩
    dsimp only
    rw [hcov]
    by_cases h1:y'<y
    ·rw [cG h1,Bool.and_true]
    ·have z: ∀s:List aA,(∀c∈s,y0<=c.Y0/\c.Y1<=e0)->sG (s.map bD) x y'=false:=fun s h=>by
      unfold sG
      rw [iY fun c hc=>?_]
      ·rfl
      ·obtain⟨d,hd,rfl⟩:=cH.1 hc
       exact .inr (by have:=(h d hd).2;show d.Y1<=y';omega)
     rw [z a ia,z b ib,hk];rfl
  ·refine⟨[],[],rfl,rfl,fun c hc=>(by cases hc),fun c hc=>(by cases hc),Int.le_refl _,by dsimp only;omega,iy,dL.nil,fun c hc=>(by cases hc),fun c hc=>(by cases hc),fun x y=>?_⟩
   dsimp only
   show false=_
   by_cases h1:y<y0
   ·have z: ∀s:List aA,(∀c∈s,y0<=c.Y0/\c.Y1<=e0)->sG (s.map bD) x y=false:=fun s h=>by
     unfold sG
     rw [iY fun c hc=>?_]
     ·rfl
     ·obtain⟨d,hd,rfl⟩:=cH.1 hc
      exact .inl (by have:=(h d hd).1;show y<d.Y0;omega)
    rw [z a ia,z b ib,hk];rfl
   ·rw [bP h1,Bool.and_false]
  ·rintro o ho
   exact Ok.cs ho (fun s h=>Ok.ret h) (fun r=>r.elim)
theorem Bc {a b:List aA} {X Y:List Int} (ca:dL (a.map bD)) (cb:dL (b.map bD)) (la:rH X Y (a.map bD)) (lb:rH X Y (b.map bD)) (hX:X.length<=1048576000) (hY:Y.length<=1048576000) (hs: ∀c∈Y,small c) (hN:4398046511104<=N):
  Ok (iH N a b) (xp (fun p q=>p&& !q) X Y a b):=by
 unfold iH
 exact Ok.bind (zy (iW:=fun p q=>p&& !q) (fun p q=>rfl) rfl ca cb la lb hX hY hs hN) (fun s h=>Ok.ret h)
end
end Go.Gk
namespace Go.Gk
open Go
section
variable {N:Nat}
structure UF (n:Nat) (up:List Int) (r:Nat->Nat):Prop where
 len:up.length=n
 rt: ∀i,i<n->∃u:Nat,up[i]? =some ((u:Nat):Int)/\u<=i/\r u=r i/\(u=i↔r i=i)
theorem UF.le {n:Nat} {up:List Int} {r:Nat->Nat} (h:UF n up r): ∀i,i<n->r i<=i:=by
 intro i
 induction i using Nat.strongRecOn with
 | ind i ih=>
  intro hi
  obtain⟨u,_,h2,h3,h4⟩:=h.rt i hi
  by_cases e:u=i
  ·rw [h4.1 e];exact bG _
  ·rw [<-h3];have:=ih u (by omega) (by omega);omega
theorem UF.rr {n:Nat} {up:List Int} {r:Nat->Nat} (h:UF n up r): ∀i,i<n->r (r i)=r i:=by
 intro i
 induction i using Nat.strongRecOn with
 | ind i ih=>
  intro hi
  obtain⟨u,_,h2,h3,h4⟩:=h.rt i hi
  by_cases e:u=i
  ·rw [h4.1 e,h4.1 e]
  ·rw [<-h3];exact ih u (by omega) (by omega)
theorem kx {l:List Int} {j:Nat} {v:Int} {i:Nat} (hj:j<l.length): (l.set j v)[i]? =if i=j then some v else l[i]? :=by
 rw [eD]
 by_cases e:j=i
 ·rw [aC e,aC e.symm,aC hj]
 ·rw [aD e,aD (fun h=>e h.symm)]
theorem UF.init (n:Nat) (up:List Int) (h1:up.length=n) (h2: ∀i,i<n->up[i]? =some ((i:Nat):Int)):UF n up (fun i=>i):=
 ⟨h1,fun i hi=>⟨i,h2 i hi,bG _,rfl,by simp⟩⟩
theorem tV {n:Nat} (hn:n<=1048576000): ∃up,gz N ((n:Nat):Int)=some up/\UF n up (fun i=>i):=by
 unfold gz
 rw [qh 0 (by omega),aB]
 have h0: (List.replicate n (0:Int)).length=n:=by simp
 obtain⟨s',h1,h2⟩:=ui (m:=(List.replicate n (0:Int)).length) (s:=List.replicate n (0:Int)) (body:=fun(k34:Nat) (s35: (List Int))=>((idx s35 (k34:Int)).bind fun x38=>some (s35.set (Int.toNat (k34:Int)) (k34:Int)):Option ((List Int))))
  (fun k s=>s.length=n/\∀i,i<k->s[i]? =some ((i:Nat):Int)) (by omega) ⟨h0,fun i hi=>by omega⟩ (fun k s hk ⟨hs,hi⟩=>by
   refine⟨s.set k ((k:Nat):Int),?_,by simp [hs],fun i hi'=>?_⟩
   ·rw [iC _ _ (by omega),aB,bS]
   ·rw [kx (by omega)]
    split
    ·rename_i e;rw [e]
    ·exact hi i (by omega))
 rw [h1,aB]
 exact⟨s',rfl,UF.init n s' h2.1 (fun i hi=>h2.2 i (by omega))⟩
theorem pI {n:Nat} {up:List Int} {r:Nat->Nat} (h:UF n up r) {i:Nat} (hi:i<n) (hn:n<N): ∃up',cW N up ((i:Nat):Int)=some (((r i:Nat):Int),up')/\UF n up' r:=by
 unfold cW
 obtain⟨o,h1,h2⟩:=r9 (R:=Empty) (body:=fun(s32: (List Int)×Int)=>((idx s32.1 s32.2).bind fun x43=>bif (x43 != s32.2) then ((idx s32.1 s32.2).bind fun x44=>(idx s32.1 x44).bind fun x45=>(idx s32.1 s32.2).bind fun x46=>(idx (s32.1.set (Int.toNat s32.2) x45) s32.2).bind fun x47=>some (.nx ((s32.1.set (Int.toNat s32.2) x45),x47))) else (some (.br (s32.1,s32.2))):Option (Fl ((List Int)×Int) Empty)))
  (fun s=>UF n s.1 r/\∃j:Nat,s.2= ((j:Nat):Int)/\j<n/\r j=r i) (fun s=>s.2.toNat) (fun s=>s.2= ((r i:Nat):Int)/\UF n s.1 r) (fun _=>True) (fun s ⟨hu,j,hj,hjn,hr⟩=>by
   obtain⟨l,y⟩:=s
   dsimp only at hu hj ⊢
   subst hj
   obtain⟨u,a1,a2,a3,a4⟩:=hu.rt j hjn
   rw [gl a1,aB]
   by_cases e:u=j
   ·subst e
    refine⟨.br (l,((u:Nat):Int)),by rw [show (((u:Nat):Int) != ((u:Nat):Int))=false by simp,aY],?_,hu⟩
    show ((u:Nat):Int)=_
    rw [<-hr,a4.1 rfl]
   ·obtain⟨v,b1,b2,b3,b4⟩:=hu.rt u (by omega)
    have hl:=hu.len
    refine⟨.nx (l.set j ((v:Nat):Int),((v:Nat):Int)),by
     rw [show (((u:Nat):Int) != ((j:Nat):Int))=true by simp;omega,aU,aB,gl b1,aB,aB,bS,
      gl (x:=((v:Nat):Int)) (by rw [kx (by omega),aC rfl]),aB],⟨⟨by simp [hl],fun k hk=>?_⟩,v,rfl,by omega,?_⟩,?_⟩
    ·rw [kx (by omega)]
     by_cases e2:k=j
     ·subst e2
      rw [aC rfl]
      refine⟨v,rfl,by omega,by rw [b3,a3],?_⟩
      constructor
      ·intro h;omega
      ·intro h;exact absurd (a4.2 h) e
     ·rw [aD e2];exact hu.rt k hk
    ·rw [b3,a3,hr]
    ·simp only [bS];omega)
  N (up,((i:Nat):Int)) ⟨h,i,rfl,hi,rfl⟩ (by simp only [bS];omega)
 rw [h1,aB]
 cases o with
 | go s'=>exact⟨s'.1,by rw [<-h2.1];rfl,h2.2⟩
 | rt r=>exact r.elim
def ld (r:Nat->Nat) (a b:Nat):Nat->Nat:=fun x=>if r x=max a b then min a b else r x
theorem Ct (a b:Nat): (if ((a:Nat):Int)< ((b:Nat):Int) then ((b:Nat):Int) else ((a:Nat):Int))= ((max a b:Nat):Int):=by
 rw [Nat.max_def];split <;> split <;> omega
theorem Cu (a b:Nat): (if ((b:Nat):Int)< ((a:Nat):Int) then ((b:Nat):Int) else ((a:Nat):Int))= ((min a b:Nat):Int):=by
 rw [Nat.min_def];split <;> split <;> omega
theorem Dv {n:Nat} {up:List Int} {r:Nat->Nat} (h:UF n up r) {i k:Nat} (hi:i<n) (hk:k<n) (hn:n<N):
  ∃up',cQ N up ((i:Nat):Int) ((k:Nat):Int)=some up'/\UF n up' (ld r (r i) (r k)):=by
 obtain⟨u1,a1,a2⟩:=pI h hi hn
 obtain⟨u2,b1,b2⟩:=pI a2 hk hn
 have hri:=h.le i hi
 have hrk:=h.le k hk
 have rri:=h.rr i hi
 have rrk:=h.rr k hk
 unfold cQ
 rw [a1,aB,b1,aB]
 dsimp only
 rw [Ct,Cu]
 have hm:max (r i) (r k)<n:=by omega
 have hl:=b2.len
 rw [iC _ _ (by omega),aB,bS]
 refine⟨_,rfl,by simp [hl],fun x hx=>?_⟩
 have rmax:r (max (r i) (r k))=max (r i) (r k):=by rcases Nat.le_total (r i) (r k) with e | e <;> simp [Nat.max_def] <;> split <;> omega
 have rmin:r (min (r i) (r k))=min (r i) (r k):=by rcases Nat.le_total (r i) (r k) with e | e <;> simp [Nat.min_def] <;> split <;> omega
 rw [kx (by omega)]
 by_cases e:x=max (r i) (r k)
 ·subst e
  rw [aC rfl]
  refine⟨min (r i) (r k),rfl,by omega,?_,?_⟩
  ·unfold ld;rw [rmin,rmax,aC rfl];split <;> rfl
  ·unfold ld;rw [rmax,aC rfl]
 ·rw [aD e]
  obtain⟨u,c1,c2,c3,c4⟩:=b2.rt x hx
  refine⟨u,c1,c2,?_,?_⟩
  ·unfold ld;rw [c3]
  ·unfold ld
   split
   ·rename_i e2
    constructor
    ·intro hu;have:=c4.1 hu;omega
    ·intro hu
     have h1:=b2.le x hx
     have:min (r i) (r k)=max (r i) (r k)\/x<max (r i) (r k):=by omega
     have h3:x=max (r i) (r k):=by omega
     exact absurd h3 e
   ·exact c4
def mG (r:Nat->Nat) (E:List (Nat×Nat)):Prop:=∀p∈E,r p.1=r p.2
def vg (n:Nat) (r:Nat->Nat) (E:List (Nat×Nat)):Prop:=∀S:Nat->Prop,(∀p∈E,S p.1↔S p.2)->∀i j,i<n->j<n->r i=r j->S i->S j
theorem mG.join {r:Nat->Nat} {E:List (Nat×Nat)} (h:mG r E) (i k:Nat) (_h2:r (r i)=r i):mG (ld r (r i) (r k)) (E++[(i,k)]):=fun p hp=>by
 rcases cO.1 hp with hp | hp
 ·unfold ld;rw [h p hp]
 ·simp at hp;subst hp
  unfold ld
  dsimp only
  split <;> split <;> omega
theorem vg.join {n:Nat} {r:Nat->Nat} {E:List (Nat×Nat)} (h:vg n r E) {i k:Nat} (hi:i<n) (hk:k<n):vg n (ld r (r i) (r k)) (E++[(i,k)]):=fun S hS x y hx hy hr hSx=>by
 have hE: ∀p∈E,S p.1↔S p.2:=fun p hp=>hS p (List.mem_append_left _ hp)
 have hik:S i↔S k:=hS (i,k) (by simp)
 have key:=h S hE
 unfold ld at hr
 by_cases h1:r x=r y
 ·exact key x y hx hy h1 hSx
 ·have: (r x=r i/\r y=r k)\/(r x=r k/\r y=r i):=by
   split at hr <;> split at hr <;> omega
  rcases this with ⟨e1,e2⟩ | ⟨e1,e2⟩
  ·exact key k y hk hy e2.symm (hik.1 (key x i hx hi e1 hSx))
  ·exact key i y hi hy e2.symm (hik.2 (key x k hx hk e1 hSx))
theorem vg.id (n:Nat):vg n (fun i=>i) []:=fun S _ i j _ _ h hs=>by
 have h:i=j:=h
 subst h;exact hs
theorem mG.id:mG (fun i=>i) []:=fun p hp=>by simp at hp
def bL (n:Nat) (r:Nat->Nat):List Nat:=(List.range n).filter (fun k=>decide (r k=k))
def cls (n:Nat) (r:Nat->Nat) (k:Nat):List Nat:=(List.range n).filter (fun i=>decide (r i=k))
theorem iv (n:Nat) (r:Nat->Nat):bL (n+1) r=if r n=n then bL n r++[n] else bL n r:=by
 unfold bL
 rw [List.range_succ,iA]
 by_cases h:r n=n
 ·rw [aC h];simp [h]
 ·rw [aD h];simp [h]
theorem pJ (n:Nat) (r:Nat->Nat) (k:Nat):cls (n+1) r k=if r n=k then cls n r k++[n] else cls n r k:=by
 unfold cls
 rw [List.range_succ,iA]
 by_cases h:r n=k
 ·rw [aC h];simp [h]
 ·rw [aD h];simp [h]
theorem mm (n:Nat) (r:Nat->Nat): (bL n r).length<=n:=by
 have:=lz (fun k=>decide (r k=k)) (List.range n)
 rw [List.length_range] at this;exact this
theorem xq (n:Nat) (r:Nat->Nat) (k:Nat): (cls n r k).length<=n:=by
 have:=lz (fun i=>decide (r i=k)) (List.range n)
 rw [List.length_range] at this;exact this
theorem hG {n k:Nat} {r:Nat->Nat}:k∈bL n r↔k<n/\r k=k:=by unfold bL;simp
theorem kK (n:Nat) (r:Nat->Nat): (bL n r).Nodup:=List.Nodup.sublist List.filter_sublist List.nodup_range
def mH (n:Nat) (r:Nat->Nat):List (List Int):=(bL n r).map (fun k=>(cls n r k).map (fun i=>((i:Nat):Int)))
theorem Ai {n k:Nat} {r:Nat->Nat} (h: ∀i,i<n->r i<=i) (hk:n<=k):cls n r k= []:=by
 unfold cls
 rw [List.filter_eq_nil_iff]
 intro i hi
 have h1:=l4.1 hi
 have:=h i h1
 simp;omega
theorem pK {α β:Type} (f g:α->β) (l:List α) (j:Nat) (a:α) (hn:l.Nodup) (hj:l[j]? =some a) (hf: ∀b,b∈l->b≠a->f b=g b): (l.map f).set j (g a)=l.map g:=by
 apply List.ext_getElem?
 intro i
 have hjl:=(aW.1 hj).1
 rw [eD,gU,gR,gR]
 by_cases e:j=i
 ·subst e;rw [aC rfl,aC hjl,hj];rfl
 ·rw [aD e]
  cases hb:l[i]? with
  | none=>rfl
  | some b=>
   have hne:b≠a:=fun he=>by
    subst he
    have hil:=(aW.1 hb).1
    exact e ((List.getElem_inj hn).1 (by rw [(aW.1 hb).2,(aW.1 hj).2]) |>.symm)
   show some (f b)=some (g b)
   rw [hf b (ga hb) hne]
def F0 (n:Nat) (r:Nat->Nat) (m:List (Int×Int)):Prop:=∀(j k:Nat),(bL n r)[j]? =some k->dQ m ((k:Nat):Int) 0= ((j:Nat):Int)
theorem Dw {n:Nat} {up:List Int} {r:Nat->Nat} (h:UF n up r) (hn:n<N) (hn2:n<=1048576000): ∃up',gL N up=some (mH n r,up')/\UF n up' r:=by
 unfold gL
 have hlen:=h.len
 have hle:=h.le
 have hrr:=h.rr
 obtain⟨s',h1,h2⟩:=ui (m:=up.length) (s:=(up,([]: (List (List Int))),([]: (List (Int×Int)))))
  (body:=fun(k32:Nat) (s33: (List Int)×(List (List Int))×(List (Int×Int)))=>((cW N s33.1 (k32:Int)).bind fun x117=>(bif (x117.1==(k32:Int)) then ((app 24 s33.2.1 [([]: (List Int))]).bind fun x126=>some (x126,(n9 s33.2.2 (k32:Int) (s33.2.1.length:Int)))) else (some (s33.2.1,s33.2.2))).bind fun s122=>(idx s122.1 (dQ s122.2 x117.1 (0:Int))).bind fun x128=>(app 8 x128 ([(k32:Int)]: (List Int))).bind fun x134=>(idx s122.1 (dQ s122.2 x117.1 (0:Int))).bind fun x136=>some (x117.2,(s122.1.set (Int.toNat (dQ s122.2 x117.1 (0:Int))) x134),s122.2):Option ((List Int)×(List (List Int))×(List (Int×Int)))))
  (fun k s=>UF n s.1 r/\s.2.1=mH k r/\F0 k r s.2.2) (by omega) ⟨h,rfl,fun j k hj=>by simp [bL] at hj⟩ (fun k s hk ⟨hu,hs,hm⟩=>by
   obtain⟨l,ss,m⟩:=s
   dsimp only at hu hs hm ⊢
   subst hs
   rw [hlen] at hk
   obtain⟨u',a1,a2⟩:=pI hu hk hn
   rw [a1,aB]
   dsimp only
   have hhl:=mm k r
   have hsl: (mH k r).length= (bL k r).length:=by unfold mH;simp
   have hrk:=hle k hk
   by_cases e:r k=k
   ·
    rw [show (((r k:Nat):Int)==((k:Nat):Int))=true by rw [e];simp,aU,ij (by rw [hsl];simp;omega),aB,aB]
    dsimp only
    rw [e,lv,aC rfl,hsl]
    have hi: (mH k r++[([]:List Int)])[(bL k r).length]? =some []:=by rw [<-hsl,eG (bG _),Nat.sub_self];rfl
    rw [gl hi,aB,ij (by simp),aB,aB,bS]
    refine⟨_,rfl,a2,?_,fun j q hj=>?_⟩
    ·dsimp only
     rw [<-hsl,List.set_append_right _ _ (bG _),Nat.sub_self]
     unfold mH
     rw [iv,aC e,eY]
     congr 1
     ·apply List.map_congr_left
      intro a ha
      have:=(hG.1 ha).1
      rw [pJ,aD (by omega)]
     ·simp only [List.set_cons_zero,dW,List.map_nil,List.nil_append]
      rw [pJ,aC e,Ai (fun i hi=>hle i (by omega)) (bG _)];rfl
    ·dsimp only
     rw [iv,aC e] at hj
     rw [lv]
     by_cases e2:j< (bL k r).length
     ·rw [eM e2] at hj
      have:=(hG.1 (ga hj)).1
      rw [aD (by omega)];exact hm j q hj
     ·rw [eG (by omega)] at hj
      have hj0:j - (bL k r).length=0:=by
       have:=(aW.1 hj).1;simp at this;omega
      rw [hj0] at hj;simp at hj;subst hj
      rw [aC rfl];congr 1;omega
   ·rw [show (((r k:Nat):Int)==((k:Nat):Int))=false by simp;omega,aY,aB]
    dsimp only
    have hh:r k∈bL k r:=hG.2 ⟨by omega,hrr k hk⟩
    obtain⟨j,hj⟩:=fw hh
    rw [hm j (r k) hj]
    have hcl:=xq k r (r k)
    have hi: (mH k r)[j]? =some ((cls k r (r k)).map (fun i=>((i:Nat):Int))):=by unfold mH;rw [gR,hj];rfl
    rw [gl hi,aB,ij (by simp;omega),aB,aB,bS]
    refine⟨_,rfl,a2,?_,fun j' q hj'=>?_⟩
    ·unfold mH
     rw [iv,aD e]
     have:=pK (fun a=>(cls k r a).map (fun i=>((i:Nat):Int))) (fun a=>(cls (k+1) r a).map (fun i=>((i:Nat):Int))) (bL k r) j (r k) (kK k r) hj (fun b hb hne=>by
      rw [pJ,aD (fun h=>hne h.symm)])
     rw [pJ,aC rfl,eY] at this
     exact this
    ·rw [iv,aD e] at hj';exact hm j' q hj')
 rw [h1,aB]
 obtain⟨l,ss,m⟩:=s'
 dsimp only at h2
 rw [hlen] at h2
 refine⟨l,?_,h2.1⟩
 rw [<-h2.2.1]
end
end Go.Gk
namespace Go.Gk
open Go
section
variable {N:Nat}
theorem xt {n:Nat} {up:List Int} {r:Nat->Nat} (h:UF n up r) {i:Nat} (hi:i<n) (hn:n<N): ∃up',dK N ((i:Nat):Int) up=some (((r i:Nat):Int),up')/\UF n up' r:=by
 unfold dK
 have:=Ok.bind (β:=Int×List Int) (Q:=fun x=>x.1= ((r i:Nat):Int)/\UF n x.2 r) (Ok.mn (body:=fun(s32:Int×(List Int))=>((idx s32.2 s32.1).bind fun x43=>bif (x43 != s32.1) then ((idx s32.2 s32.1).bind fun x44=>(idx s32.2 x44).bind fun x45=>(idx s32.2 s32.1).bind fun x46=>(idx (s32.2.set (Int.toNat s32.1) x45) s32.1).bind fun x47=>some (.nx (x47,(s32.2.set (Int.toNat s32.1) x45)))) else (some (.br (s32.1,s32.2))):Option (Fl (Int×(List Int)) Empty)))
  (N:=N) (s:=(((i:Nat):Int),up)) (Go:=fun s=>s.1= ((r i:Nat):Int)/\UF n s.2 r) (Rt:=fun _=>True) (fun s=>UF n s.2 r/\∃j:Nat,s.1= ((j:Nat):Int)/\j<n/\r j=r i) (fun s=>s.1.toNat) (by
   rintro⟨y,l⟩ ⟨hu,j,hj,hjn,hr⟩
   dsimp only at hu hj ⊢
   subst hj
   obtain⟨u,a1,a2,a3,a4⟩:=hu.rt j hjn
   refine Ok.ix a1 ?_
   by_cases e:u=j
   ·subst e
    rw [show (((u:Nat):Int) != ((u:Nat):Int))=false by simp,aY]
    refine Ok.br ⟨?_,hu⟩
    show ((u:Nat):Int)=_
    rw [<-hr,a4.1 rfl]
   ·obtain⟨v,b1,b2,b3,b4⟩:=hu.rt u (by omega)
    have hl:=hu.len
    rw [show (((u:Nat):Int) != ((j:Nat):Int))=true by simp;omega,aU]
    refine Ok.ix a1 (Ok.ix b1 (Ok.ix a1 (Ok.ix (x:=((v:Nat):Int)) (by rw [bS,kx (by omega),aC rfl]) (Ok.nx ⟨⟨⟨by simp [hl],fun k hk=>?_⟩,v,rfl,by omega,?_⟩,?_⟩))))
    ·rw [bS,kx (by omega)]
     by_cases e2:k=j
     ·subst e2
      rw [aC rfl]
      refine⟨v,rfl,by omega,by rw [b3,a3],?_⟩
      constructor
      ·intro h;omega
      ·intro h;exact absurd (a4.2 h) e
     ·rw [aD e2];exact hu.rt k hk
    ·rw [b3,a3,hr]
    ·simp only [bS];omega)
  ⟨h,i,rfl,hi,rfl⟩ (by simp only [bS];omega))
  (fun o ho=>Ok.cs (f:=fun(s32:Int×(List Int))=>some (s32.1,s32.2)) (g:=fun r:Empty=>r.elim) ho (fun s h=>Ok.ret h) (fun r=>r.elim))
 obtain⟨⟨x,up'⟩,h1,h2,h3⟩:=this
 exact⟨up',by rw [<-h2];exact h1,h3⟩
theorem Cv {n:Nat} {up:List Int} {r:Nat->Nat} (h:UF n up r) {i k:Nat} (hi:i<n) (hk:k<n) {f:List Int->Option (List Int)} (hn:n<N):
  ∃up',((dK N ((i:Nat):Int) up).bind fun x840=>(dK N ((k:Nat):Int) x840.2).bind fun x842=>(idx x842.2 (if x840.1<x842.1 then x842.1 else x840.1)).bind fun x844=>some (x842.2.set (Int.toNat (if x840.1<x842.1 then x842.1 else x840.1)) (if x842.1<x840.1 then x842.1 else x840.1)))=some up'/\UF n up' (ld r (r i) (r k)):=by
 obtain⟨u1,a1,a2⟩:=xt h hi hn
 obtain⟨u2,b1,b2⟩:=xt a2 hk hn
 obtain⟨v1,c1,c2⟩:=pI h hi hn
 have hri:=h.le i hi
 have hrk:=h.le k hk
 have rri:=h.rr i hi
 have rrk:=h.rr k hk
 rw [a1,aB,b1,aB]
 dsimp only
 rw [Ct,Cu]
 have hm:max (r i) (r k)<n:=by omega
 have hl:=b2.len
 rw [iC _ _ (by omega),aB,bS]
 refine⟨_,rfl,by simp [hl],fun x hx=>?_⟩
 have rmax:r (max (r i) (r k))=max (r i) (r k):=by rcases Nat.le_total (r i) (r k) with e | e <;> simp [Nat.max_def] <;> split <;> omega
 have rmin:r (min (r i) (r k))=min (r i) (r k):=by rcases Nat.le_total (r i) (r k) with e | e <;> simp [Nat.min_def] <;> split <;> omega
 rw [kx (by omega)]
 by_cases e:x=max (r i) (r k)
 ·subst e
  rw [aC rfl]
  refine⟨min (r i) (r k),rfl,by omega,?_,?_⟩
  ·unfold ld;rw [rmin,rmax,aC rfl];split <;> rfl
  ·unfold ld;rw [rmax,aC rfl]
 ·rw [aD e]
  obtain⟨u,c1,c2,c3,c4⟩:=b2.rt x hx
  refine⟨u,c1,c2,?_,?_⟩
  ·unfold ld;rw [c3]
  ·unfold ld
   split
   ·rename_i e2
    constructor
    ·intro hu;have:=c4.1 hu;omega
    ·intro hu
     have h1:=b2.le x hx
     have h3:x=max (r i) (r k):=by omega
     exact absurd h3 e
   ·exact c4
def fL (s:List aA) (k:Nat):Nat:=(aK (s.take k)).length
theorem tJ {s:List aA} {k:Nat} (h:k<s.length):fL s (k+1)=fL s k+s[k].Xs.length / 2:=by
 unfold fL
 rw [fS h,kh,dR]
 show _+ (aK [s[k]]).length=_
 rw [show aK [s[k]]=kI s[k] by simp [aK],j5]
theorem tK {s:List aA} {k m:Nat} (h:k<=m):fL s k<=fL s m:=by
 unfold fL
 have:=tH (s.take m) k
 rwa [List.take_take,Nat.min_eq_left h] at this
theorem yx (s:List aA):fL s s.length= (aK s).length:=by unfold fL;rw [fW]
theorem Dx {s:List aA} {k t:Nat} (h:k<s.length) (ht:2*t+1<s[k].Xs.length): (aK s)[fL s k+t]? =some ⟨s[k].Xs[2*t],s[k].Y0,s[k].Xs[2*t+1],s[k].Y1⟩:=by
 have e:aK s=aK (s.take k)++(kI s[k]++aK (s.drop (k+1))):=by
  conv=>lhs;rw [<-List.take_append_drop k s,pY h]
  rw [kh,kJ]
 rw [e]
 unfold fL
 rw [eG (by omega),Nat.add_sub_cancel_left,eM (by rw [j5];omega)]
 unfold kI
 rw [gR,sI _ _ ht];rfl
theorem Aj {s:List aA} {i:Nat} (h:i< (aK s).length): ∃k,k<s.length/\fL s k<=i/\i<fL s (k+1):=by
 have key: ∀m,m<=s.length->i<fL s m->∃k,k<m/\fL s k<=i/\i<fL s (k+1):=by
  intro m
  induction m with
  | zero=>intro _ h;unfold fL at h;simp [aK] at h
  | succ m ih=>
   intro hm hi
   by_cases h1:i<fL s m
   ·obtain⟨k,hk,h2⟩:=ih (by omega) h1
    exact⟨k,by omega,h2⟩
   ·exact⟨m,by omega,by omega,hi⟩
 exact key s.length (bG _) (by rw [yx];exact h)
def EB (a c:aI):Prop:=a.Y1=c.Y0/\a.X0<c.X1/\c.X0<a.X1
def Be (all:List aI) (i j:Nat):Prop:=∃a c,all[i]? =some a/\all[j]? =some c/\EB a c
theorem qp {s:List aA} (he: ∀b∈s,b.Xs.length % 2=0) {k i:Nat} (hk:k<s.length) (h1:fL s k<=i) (h2:i<fL s (k+1)): ∃t,i=fL s k+t/\∃h:2*t+1<s[k].Xs.length,(aK s)[i]? =some ⟨s[k].Xs[2*t],s[k].Y0,s[k].Xs[2*t+1],s[k].Y1⟩:=by
 rw [tJ hk] at h2
 have:=he _ (dB hk)
 refine⟨i - fL s k,by omega,by omega,?_⟩
 have h3:=Dx (t:=i - fL s k) hk (by omega)
 rwa [show fL s k+ (i - fL s k)=i by omega] at h3
theorem vh {s:List aA} (hc:dL (s.map bD)) {p q:Nat} (hp:p<s.length) (hq:q<s.length) (h:p<q):s[p].Y1<=s[q].Y0:=by
 have:=l5.1 hc.ord p q (by simp;omega) (by simp;omega) h
 simp only [List.getElem_map] at this
 exact this.1
theorem vj {s:List aA} (hc:dL (s.map bD)) {p:Nat} (hp:p<s.length):s[p].Y0<s[p].Y1:=(hc.each (bD s[p]) (cH.2 ⟨_,dB hp,rfl⟩)).1
theorem nS {s:List aA} (hc:dL (s.map bD)): ∀b∈s,b.Xs.length % 2=0:=fun b hb=>(hc.each (bD b) (cH.2 ⟨b,hb,rfl⟩)).2.2.2
theorem Ak {s:List aA} (hc:dL (s.map bD)): ∀b∈s,kD b.Xs:=fun b hb=>(hc.each (bD b) (cH.2 ⟨b,hb,rfl⟩)).2.2.1
theorem yy {s:List aA} (hc:dL (s.map bD)) {i j q:Nat} (hq:q<s.length) (h1:fL s q<=j) (h2:j<fL s (q+1)) (ht:Be (aK s) i j): ∃hq0:0<q,s[q - 1].Y1=s[q].Y0/\fL s (q - 1)<=i/\i<fL s q:=by
 obtain⟨a,c,ha,hb,e1,e2,e3⟩:=ht
 obtain⟨t,e4,ht,hj⟩:=qp (nS hc) hq h1 h2
 rw [hj] at hb;injection hb with hb;subst hb
 have hil:=(aW.1 ha).1
 obtain⟨p,hp,p1,p2⟩:=Aj hil
 obtain⟨u,e5,hu,hi⟩:=qp (nS hc) hp p1 p2
 rw [hi] at ha;injection ha with ha;subst ha
 have e1:s[p].Y1=s[q].Y0:=e1
 have hpp:=vj hc hp
 have hqq:=vj hc hq
 have hpq:p+1=q:=by
  rcases Nat.lt_trichotomy p q with h | h | h
  ·by_cases h':p+1=q
   ·exact h'
   ·have h3:=vh hc hp (show p+1<s.length by omega) (by omega)
    have h4:=vh hc (show p+1<s.length by omega) hq (by omega)
    have h5:=vj hc (show p+1<s.length by omega)
    omega
  ·subst h;omega
  ·have:=vh hc hq hp h;omega
 subst hpq
 exact⟨by omega,e1,p1,p2⟩
structure PJ (all:List aI) (n:Nat) (up:List Int) (r:Nat->Nat) (E:List (Nat×Nat)):Prop where
 uf:UF n up r
 co:mG r E
 fi:vg n r E
 so: ∀p∈E,Be all p.1 p.2
theorem PJ.join {all:List aI} {n:Nat} {up up':List Int} {r:Nat->Nat} {E:List (Nat×Nat)} (h:PJ all n up r E) {i j:Nat} (hi:i<n) (hj:j<n) (hu:UF n up' (ld r (r i) (r j))) (ht:Be all i j):PJ all n up' (ld r (r i) (r j)) (E++[(i,j)]):=
 ⟨hu,h.co.join i j (h.uf.rr i hi),h.fi.join hi hj,fun p hp=>by
  rcases cO.1 hp with hp | hp
  ·exact h.so p hp
  ·simp at hp;subst hp;exact ht⟩
structure Joined (all:List aI) (r:Nat->Nat):Prop where
 le: ∀i,i<all.length->r i<=i
 rr: ∀i,i<all.length->r (r i)=r i
 co: ∀i j,Be all i j->r i=r j
 fi: ∀S:Nat->Prop,(∀i j,Be all i j->(S i↔S j))->∀i j,i<all.length->j<all.length->r i=r j->S i->S j
def kO (all:List aI) (n:Nat) (r:Nat->Nat) (h:Nat):List aI:=(cls n r h).filterMap (fun i=>all[i]?)
theorem vk (all:List aI) (n:Nat) (r:Nat->Nat) (h:Nat): (kO all n r h).length<=n:=by
 have h1:=List.length_filterMap_le (fun i=>all[i]?) (cls n r h)
 have h2:=xq n r h
 unfold kO;omega
theorem qq {all:List aI} {n:Nat} {r:Nat->Nat} (h:Nat) {x:aI} (hx:all[n]? =some x):kO all (n+1) r h=if r n=h then kO all n r h++[x] else kO all n r h:=by
 unfold kO
 rw [pJ]
 split
 ·rw [List.filterMap_append];simp [hx]
 ·rfl
theorem lL {all:List aI} {n:Nat} {r:Nat->Nat} {h:Nat} {x:aI}:x∈kO all n r h↔∃i,i<n/\r i=h/\all[i]? =some x:=by
 unfold kO cls
 rw [List.mem_filterMap]
 constructor
 ·rintro⟨i,hi,h⟩
  have:=iz.1 hi
  exact⟨i,l4.1 this.1,by simpa using this.2,h⟩
 ·rintro⟨i,h1,h2,h3⟩
  exact⟨i,iz.2 ⟨l4.2 h1,by simpa using h2⟩,h3⟩
structure oz (s:List aA) (r:Nat->Nat) (ps:List (List aA)):Prop where
 join:Joined (aK s) r
 len:ps.length= (bL (aK s).length r).length
 each: ∀(j h:Nat) (p:List aA),(bL (aK s).length r)[j]? =some h->ps[j]? =some p->m6 (kO (aK s) (aK s).length r h) p
def HH (n:Nat) (r:Nat->Nat) (m:List (Int×Int)):Prop:=(∀(j k:Nat),(bL n r)[j]? =some k->dQ m ((k:Nat):Int) 0= ((j:Nat):Int))/\∀k:Nat,jy m ((k:Nat):Int)=decide (k∈bL n r)
theorem zz {s:List aA} {X Y:List Int} (hc:dL (s.map bD)) (hl:rH X Y (s.map bD)) (hX: ∀c∈X,small c) (hY: ∀c∈Y,small c) (h1:s.length<=1073741824) (h2: ∀b∈s,b.Xs.length<=1073741824) (h3: (aK s).length<=134217728) (hN:4398046511104<=N):
  Ok (i6 N s) (fun ps=>∃r,oz s r ps):=by
 unfold i6
 have hev:=nS hc
 have hinc:=Ak hc
 refine Ok.eq (vc hev (by omega) (fun b hb=>by have:=h2 b hb;omega) (by omega)) ?_
 have hok:=vd hc hl hX hY
 have hall:fL s s.length= (aK s).length:=yx s
 generalize hn: (aK s).length=n at *
 refine Ok.eq (qh 0 (by omega)) ?_
 rw [show ((List.replicate n (0:Int)).length)=n by simp]
 refine Ok.bind (Ok.ko (fun k up=>up.length=n/\∀i,i<k->up[i]? =some ((i:Nat):Int)) (by omega) ⟨by simp,fun i hi=>by omega⟩ (fun k up hk hI=>?_)) ?_
 ·obtain⟨hs,hi⟩:=hI
  refine Ok.idx (by omega) (Ok.ret ⟨by simp [hs],fun i hi'=>?_⟩)
  rw [bS,kx (by omega)]
  split
  ·rename_i e;rw [e]
  ·exact hi i (by omega)
 rintro up0 ⟨hu1,hu2⟩
 refine Ok.bind (Ok.ko (fun k st=>st.2.1= ((fL s k:Nat):Int)/\(0<k->st.2.2= ((fL s (k - 1):Nat):Int))/\∃r E,PJ (aK s) n st.1 r E/\∀q,q<k->∀i j,fL s q<=j->j<fL s (q+1)->Be (aK s) i j->(i,j)∈E) (by omega)
  ⟨rfl,fun h=>by omega,_,_,⟨UF.init n up0 hu1 hu2,mG.id,vg.id n,fun p hp=>(by cases hp)⟩,fun q hq=>by omega⟩ (fun k st hk hI=>?_)) ?_
 ·obtain⟨up,a,b⟩:=st
  obtain⟨e1,e2,r,E,hP,hE⟩:=hI
  dsimp only at e1 e2 hP ⊢
  subst e1
  refine Ok.idx hk ?_
  have hoff:=tJ hk
  have hoffle:fL s (k+1)<=n:=by rw [<-hall];exact tK hk
  have hkm:=dB hk
  have hlen:IntKind.wrap .i64 (Int.tdiv ((s[k].Xs.length:Nat):Int) 2)= ((s[k].Xs.length / 2:Nat):Int):=by
   have:=h2 _ hkm
   rw [show (2:Int)= ((2:Nat):Int) by rfl,<-Int.ofNat_tdiv,yu (by omega)]
  rw [hlen,wrap_add (by omega),<-hoff]
  refine Ok.bind (P:=fun c=>c=true↔∃h0:0<k,s[k - 1].Y1=s[k].Y0) ?_ (fun c hcc=>?_)
  ·refine Ok.bif (fun h=>?_) (fun h=>Ok.ret ?_)
   ·have hpos:0<k:=by have:=of_decide_eq_true h;omega
    rw [lr hpos (by omega)]
    refine Ok.idx (by omega) (Ok.ret ?_)
    rw [beq_iff_eq]
    exact⟨fun h=>⟨hpos,h⟩,fun⟨_,h⟩=>h⟩
   ·have:=of_decide_eq_false h
    constructor
    ·intro h;cases h
    ·rintro⟨h0,_⟩;omega
  refine Ok.bind (P:=fun up'=>∃r E,PJ (aK s) n up' r E/\∀q,q<k+1->∀i j,fL s q<=j->j<fL s (q+1)->Be (aK s) i j->(i,j)∈E) ?_ (fun up' hI=>Ok.ret ⟨rfl,fun _=>rfl,hI⟩)
  refine Ok.bif (fun h=>?_) (fun h=>Ok.ret ⟨r,E,hP,fun q hq i j q1 q2 ht=>?_⟩)
  ·obtain⟨hpos,hyy⟩:=hcc.1 h
   rw [e2 hpos]
   have hoffp:=tJ (show k - 1<s.length by omega)
   rw [show k - 1+1=k by omega] at hoffp
   refine Ok.bind (Ok.mn (Go:=fun st=>∃r E,PJ (aK s) n st.1 r E/\∀q,q<k+1->∀i j,fL s q<=j->j<fL s (q+1)->Be (aK s) i j->(i,j)∈E) (Rt:=fun _=>True)
    (fun st=>∃i j:Nat,st.2.1= ((i:Nat):Int)/\st.2.2= ((j:Nat):Int)/\fL s (k - 1)<=i/\i<=fL s k/\fL s k<=j/\j<=fL s (k+1)/\∃r E,PJ (aK s) n st.1 r E/\(∀q,q<k->∀i j,fL s q<=j->j<fL s (q+1)->Be (aK s) i j->(i,j)∈E)/\
     ∀i' j',fL s (k - 1)<=i'->i'<fL s k->fL s k<=j'->j'<fL s (k+1)->(i'<i\/j'<j)->Be (aK s) i' j'->(i',j')∈E)
    (fun st=>(n - st.2.1.toNat)+ (n - st.2.2.toNat)) ?_ ?_ (by simp only [bS];omega)) (fun o ho=>Ok.cs ho (fun st h=>Ok.ret h) (fun r=>r.elim))
   ·rintro⟨up,a,b⟩ ⟨i,j,e3,e4,i1,i2,j1,j2,r,E,hP,hE,hE2⟩
    dsimp only at e3 e4 hP ⊢
    subst e3;subst e4
    refine Ok.bif (fun h=>?_) (fun h=>Ok.br ?_)
    ·rw [bM,bW,bW] at h
     have hi:i<fL s k:=by omega
     have hj:j<fL s (k+1):=by omega
     obtain⟨t,et,_,hri⟩:=qp hev (show k - 1<s.length by omega) i1 (by rw [show k - 1+1=k by omega];exact hi)
     obtain⟨u,eu,_,hrj⟩:=qp hev hk j1 hj
     have xi:=hinc _ (dB (show k - 1<s.length by omega))
     have xj:=hinc _ hkm
     have farI: ∀i' a,i<i'->i'<fL s k->(aK s)[i']? =some a->s[k - 1].Xs[2*t+1]<a.X0:=fun i' a h4 h5 h6=>by
      obtain⟨t',et',ht',hr'⟩:=qp hev (show k - 1<s.length by omega) (show fL s (k - 1)<=i' by omega) (by rw [show k - 1+1=k by omega];exact h5)
      rw [hr'] at h6;injection h6 with h6;subst h6
      exact xi.lt (show 2*t+1<2*t' by omega) (aN _) (aN _)
     have farJ: ∀j' a,j<j'->j'<fL s (k+1)->(aK s)[j']? =some a->s[k].Xs[2*u+1]<a.X0:=fun j' a h4 h5 h6=>by
      obtain⟨u',eu',hu',hr'⟩:=qp hev hk (show fL s k<=j' by omega) h5
      rw [hr'] at h6;injection h6 with h6;subst h6
      exact xj.lt (show 2*u+1<2*u' by omega) (aN _) (aN _)
     refine Ok.bind (P:=fun c=>c=true↔Be (aK s) i j) ?_ (fun c hct=>?_)
     ·refine Ok.ix hri (Ok.ix hrj (Ok.bif (fun h=>Ok.ix hrj (Ok.ix hri (Ok.ret ?_))) (fun h=>Ok.ret ?_)))
      ·rw [bW] at h ⊢
       constructor
       ·intro h';exact⟨_,_,hri,hrj,hyy,h,h'⟩
       ·rintro⟨a,c,ha,hc',_,_,h'⟩
        rw [hri] at ha;injection ha with ha;subst ha
        rw [hrj] at hc';injection hc' with hc';subst hc'
        exact h'
      ·constructor
       ·intro h;cases h
       ·rintro⟨a,c,ha,hc',_,h',_⟩
        rw [hri] at ha;injection ha with ha;subst ha
        rw [hrj] at hc';injection hc' with hc';subst hc'
        rw [decide_eq_false_iff_not] at h;exact absurd h' h
     refine Ok.bind (P:=fun up'=>∃r E',PJ (aK s) n up' r E'/\(∀p∈E,p∈E')/\(Be (aK s) i j->(i,j)∈E')) ?_ ?_
     ·refine Ok.bif (fun h=>?_) (fun h=>Ok.ret ⟨r,E,hP,fun p hp=>hp,fun ht=>by rw [hct.2 ht] at h;cases h⟩)
      obtain⟨up',u1,u2⟩:=Cv (N:=N) (f:=fun x=>some x) hP.uf (i:=i) (k:=j) (by omega) (by omega) (by omega)
      refine⟨up',u1,_,_,hP.join (by omega) (by omega) u2 (hct.1 h),fun p hp=>List.mem_append_left _ hp,fun _=>by simp⟩
     ·rintro up' ⟨r',E',hP',hsub,hij⟩
      refine Ok.ix hri (Ok.ix hrj ?_)
      dsimp only
      by_cases hx:s[k - 1].Xs[2*t+1]<s[k].Xs[2*u+1]
      ·rw [cG hx,aU]
       refine Ok.eq (x:=(((i+1:Nat):Int),((j:Nat):Int))) (by rw [gO (by omega)]) (Ok.nx ⟨⟨i+1,j,rfl,rfl,by omega,by omega,j1,j2,r',E',hP',fun q hq i j q1 q2 ht=>hsub _ (hE q hq i j q1 q2 ht),fun i' j' g1 g2 g3 g4 g5 ht=>?_⟩,by simp only [bS];omega⟩)
       by_cases h5:i'<i\/j'<j
       ·exact hsub _ (hE2 i' j' g1 g2 g3 g4 h5 ht)
       ·have:i'=i:=by omega
        subst this
        by_cases h6:j'=j
        ·subst h6;exact hij ht
        ·exfalso
         obtain⟨a,c,ha,hc',_,_,h'⟩:=ht
         rw [hri] at ha;injection ha with ha;subst ha
         have:=farJ j' c (by omega) g4 hc'
         dsimp only at h';omega
      ·rw [bP hx,aY]
       refine Ok.eq (x:=(((i:Nat):Int),((j+1:Nat):Int))) (by rw [gO (by omega)]) (Ok.nx ⟨⟨i,j+1,rfl,rfl,i1,i2,by omega,by omega,r',E',hP',fun q hq i j q1 q2 ht=>hsub _ (hE q hq i j q1 q2 ht),fun i' j' g1 g2 g3 g4 g5 ht=>?_⟩,by simp only [bS];omega⟩)
       by_cases h5:i'<i\/j'<j
       ·exact hsub _ (hE2 i' j' g1 g2 g3 g4 h5 ht)
       ·have:j'=j:=by omega
        subst this
        by_cases h6:i'=i
        ·subst h6;exact hij ht
        ·exfalso
         obtain⟨a,c,ha,hc',_,h',_⟩:=ht
         rw [hrj] at hc';injection hc' with hc';subst hc'
         have:=farI i' a (by omega) g2 ha
         dsimp only at h';omega
    ·refine⟨r,E,hP,fun q hq i' j' q1 q2 ht=>?_⟩
     by_cases hqk:q<k
     ·exact hE q hqk i' j' q1 q2 ht
     ·have:q=k:=by omega
      subst this
      obtain⟨_,_,g1,g2⟩:=yy hc hk q1 q2 ht
      refine hE2 i' j' g1 g2 q1 q2 ?_ ht
      rw [Bool.and_eq_false_iff,decide_eq_false_iff_not,decide_eq_false_iff_not] at h
      omega
   ·exact⟨fL s (k - 1),fL s k,rfl,rfl,bG _,tK (by omega),bG _,tK (by omega),r,E,hP,hE,fun i' j' g1 g2 g3 g4 g5=>by omega⟩
  ·by_cases hqk:q<k
   ·exact hE q hqk i j q1 q2 ht
   ·have:q=k:=by omega
    subst this
    obtain⟨g0,g1,_⟩:=yy hc hk q1 q2 ht
    rw [hcc.2 ⟨g0,g1⟩] at h;cases h
 ·rintro⟨up,a,b⟩ ⟨_,_,r,E,hP,hE⟩
  dsimp only at hP ⊢
  have hEq: ∀i j,Be (aK s) i j->(i,j)∈E:=fun i j ht=>by
   have hjl:j< (aK s).length:=by obtain⟨a,c,_,hb,_⟩:=ht;exact(aW.1 hb).1
   obtain⟨q,hq,q1,q2⟩:=Aj hjl
   exact hE q hq i j q1 q2 ht
  have hJ:Joined (aK s) r:=⟨by rw [hn];exact hP.uf.le,by rw [hn];exact hP.uf.rr,fun i j ht=>hP.co (i,j) (hEq i j ht),fun S hS i j hi hj=>by
   rw [hn] at hi hj
   exact hP.fi S (fun p hp=>hS p.1 p.2 (hP.so p hp)) i j hi hj⟩
  refine Ok.bind (Ok.ko (fun k st=>UF n st.1 r/\HH k r st.2.1/\st.2.2= (bL k r).map (kO (aK s) k r)) (by omega) ⟨hP.uf,⟨fun j k hj=>by simp [bL] at hj,fun k=>rfl⟩,rfl⟩ (fun k st hk hI=>?_)) ?_
  ·obtain⟨l,m,ls⟩:=st
   obtain⟨hu,⟨hm1,hm2⟩,hs⟩:=hI
   dsimp only at hu hm1 hm2 hs ⊢
   subst hs
   have hkx: (aK s)[k]? =some ((aK s)[k]'(by omega)):=aN (by omega)
   refine Ok.ix hkx ?_
   obtain⟨u',a1,a2⟩:=xt (N:=N) hu hk (by omega)
   refine Ok.eq a1 ?_
   dsimp only
   have hhl:=mm k r
   have hrk:=hP.uf.le k hk
   have hrr:=hP.uf.rr k hk
   have hcl:=vk (aK s) k r (r k)
   have hmap: ((bL k r).map (kO (aK s) k r)).length= (bL k r).length:=by simp
   rw [hm2]
   by_cases e:r k=k
   ·have hnot:r k∉bL k r:=fun h=>by have:=(hG.1 h).1;omega
    refine Ok.eq (x:=(n9 m ((r k:Nat):Int) (((bL k r).length:Nat):Int),(bL k r).map (kO (aK s) k r)++[([]:List aI)],(((bL k r).length:Nat):Int))) ?_ ?_
    ·rw [bP hnot,nY,aU,ij (by simp;omega),aB,hmap]
    ·dsimp only
     have hi: ((bL k r).map (kO (aK s) k r)++[([]:List aI)])[(bL k r).length]? =some []:=by rw [<-hmap,eG (bG _),Nat.sub_self];rfl
     refine Ok.ix hi (Ok.app (by simp) (Ok.ix hi (Ok.ret ⟨a2,⟨fun j q hj=>?_,fun q=>?_⟩,?_⟩)))
     ·dsimp only
      rw [iv,aC e] at hj
      rw [lv]
      by_cases e2:j< (bL k r).length
      ·rw [eM e2] at hj
       have:=(hG.1 (ga hj)).1
       rw [aD (by omega)];exact hm1 j q hj
      ·rw [eG (by omega)] at hj
       have hj0:j - (bL k r).length=0:=by
        have:=(aW.1 hj).1;simp at this;omega
       rw [hj0] at hj;simp at hj;subst hj
       rw [aC (by rw [e])];congr 1;omega
     ·dsimp only
      rw [nO,hm2,iv,aC e,fH]
      rw [dG,bW,bW,bW,cO,List.mem_singleton,e]
      constructor
      ·rintro(h | h)
       ·exact .inr (by omega)
       ·exact .inl h
      ·rintro(h | h)
       ·exact .inr h
       ·exact .inl (by omega)
     ·dsimp only
      rw [bS,<-hmap,List.set_append_right _ _ (bG _),Nat.sub_self,iv,aC e,eY]
      congr 1
      ·apply List.map_congr_left
       intro a ha
       have:=(hG.1 ha).1
       rw [qq a hkx,aD (by omega)]
      ·simp only [List.set_cons_zero,dW,List.map_nil,List.nil_append]
       rw [qq k hkx,aC e]
       have:kO (aK s) k r k= []:=by unfold kO;rw [Ai (fun i hi=>hP.uf.le i (by omega)) (bG _)];rfl
       rw [this];rfl
   ·have hh:r k∈bL k r:=hG.2 ⟨by omega,hrr⟩
    obtain⟨j,hj⟩:=fw hh
    refine Ok.eq (x:=(m,(bL k r).map (kO (aK s) k r),((j:Nat):Int))) ?_ ?_
    ·rw [cG hh,mU,aY,hm1 j (r k) hj]
    ·dsimp only
     have hi: ((bL k r).map (kO (aK s) k r))[j]? =some (kO (aK s) k r (r k)):=by rw [gR,hj];rfl
     refine Ok.ix hi (Ok.app (by simp;omega) (Ok.ix hi (Ok.ret ⟨a2,⟨fun j' q hj'=>?_,fun q=>?_⟩,?_⟩)))
     ·rw [iv,aD e] at hj';exact hm1 j' q hj'
     ·rw [iv,aD e];exact hm2 q
     ·dsimp only
      rw [bS,iv,aD e]
      have:=pK (kO (aK s) k r) (kO (aK s) (k+1) r) (bL k r) j (r k) (kK k r) hj (fun b hb hne=>by
       rw [qq b hkx,aD (fun h=>hne h.symm)])
      rw [qq (r k) hkx,aC rfl] at this
      exact this
  ·rintro⟨l,m,ls⟩ ⟨_,_,hs⟩
   dsimp only at hs ⊢
   subst hs
   have hhl:=mm n r
   refine Ok.bind (Ok.ko (fun k ps=>ps.length=k/\∀(j h:Nat) (p:List aA),j<k->(bL n r)[j]? =some h->ps[j]? =some p->m6 (kO (aK s) n r h) p) (by simp;omega) ⟨rfl,fun j h p hj=>by omega⟩ (fun k ps hk hI=>?_)) ?_
   ·obtain⟨hp1,hp2⟩:=hI
    have hk':k< (bL n r).length:=by simpa using hk
    refine Ok.ix (x:=kO (aK s) n r (bL n r)[k]) (by rw [gR,aN hk'];rfl) ?_
    have hcl:=vk (aK s) n r (bL n r)[k]
    refine Ok.bind (oy (N:=N) (by omega) (fun x hx=>?_) (by omega)) ?_
    ·obtain⟨i,_,_,h⟩:=lL.1 hx
     exact(hok x (ga h)).1
    ·intro p hp
     refine Ok.app (by rw [hp1];simp;omega) (Ok.ret ⟨by simp [hp1],fun j h q hj hh hq=>?_⟩)
     by_cases hjk:j<k
     ·rw [eM (by omega)] at hq
      exact hp2 j h q hjk hh hq
     ·have:j=k:=by omega
      subst this
      rw [eG (by omega),hp1,Nat.sub_self] at hq
      simp at hq;subst hq
      rw [aN hk'] at hh;injection hh with hh;subst hh
      exact hp
   ·rintro ps ⟨hp1,hp2⟩
    refine Ok.ret ⟨r,hJ,?_,fun j h p hh hp=>?_⟩
    ·rw [hp1,hn];simp
    ·rw [hn] at hh ⊢
     exact hp2 j h p (by have:=(aW.1 hp).1;omega) hh hp
end
end Go.Gk
namespace Go.Gk
open Go
section
variable {N:Nat}
theorem sK {n:Int} (h: -9223372036854775808<=n/\n<=9223372036854775807):IntKind.wrap .i64 n=n:=by rw [IntKind.wrap_i64];omega
def f9 (n lo hi:Int):Bool:=decide (n>=lo)&&decide (n<=hi)
def mI (n:Int):Bool:=f9 n (-1000000) 1000000
def qT (p:iO):Bool:=mI p.X&&mI p.Y
def dX (r:aI):Bool:=mI r.X0&&(mI r.Y0&&(mI r.X1&&mI r.Y1))
theorem vl (n:Int):iS N n=some (mI n):=rfl
theorem tW (p:iO):gv N p=some (qT p):=by
 unfold gv qT
 rw [vl,aB,vl]
 cases mI p.X <;> rfl
theorem vm (r:aI):jT N r=some (dX r):=by
 unfold jT dX
 simp only [vl,aB]
 cases mI r.X0 <;> cases mI r.Y0 <;> cases mI r.X1 <;> rfl
theorem yz {a b:Int} (h:a≠b):eP (N+4) [a,b]=some [a,b]:=by
 have e: (b==a)=false:=by rw [beq_eq_false_iff_ne];exact fun e=>h e.symm
 have w1:IntKind.wrap .i64 ((1:Int) - 1)=0:=by decide
 have w2:IntKind.wrap .i64 ((1:Int)+1)=2:=by decide
 unfold eP
 have e1:idx [a,b] 1=some b:=rfl
 have e2:idx [a,b] 0=some a:=rfl
 have l2: (([a,b]:List Int).length:Int)=2:=rfl
 rw [l2,show decide ((2:Int)<2)=false by decide,aY]
 rw [mn.eq_def]
 dsimp only
 rw [show decide ((1:Int)<2)=true by decide,aU,e1,aB,w1,e2,aB,e,aY,aB,w2]
 dsimp only
 rw [mn.eq_def]
 dsimp only
 rw [show decide ((2:Int)<2)=false by decide,aY,aB]
 rfl
theorem DS (x:Int):IntKind.wrap .i64 (x - x)=0:=by rw [Int.sub_self];decide
theorem Bf {r:aI} (hx:r.X0<r.X1) (hy:r.Y0<r.Y1):eT (N+16) [r]=some [⟨r.Y0,r.Y1,[r.X0,r.X1]⟩]:=by
 have s1:rO (gI (N+16)) [r]=some [r]:=wv (by unfold gI;rw [DS])
 have s2:rO (eQ (N+16)) [r]=some [r]:=wv (by unfold eQ;rw [DS])
 have s3:o6 [r.Y0,r.Y1]=some [r.Y0,r.Y1]:=vN (by simp;omega) (by simp)
 have c1:fX (N+16) [r]=some [r]:=rfl
 have f1: ∀φ,fz (N+16) [] φ=some []:=fun φ=>rfl
 have st:gj (N+16) [r]=some ([r.X0,r.X1],[r]):=by
  unfold gj
  rw [s2,aB]
  rfl
 have pu: ∀b:aA,b.Xs= [r.X0,r.X1]->b.Y0<b.Y1->fT (N+16) [] b=some [b]:=fun b h1 h2=>by
  unfold fT
  rw [h1,bP (show ¬b.Y1<=b.Y0 by omega)]
  rfl
 unfold eT
 rw [c1,aB,s1,aB]
 have ys: (ko ([r]:List aI).length (fun(k35:Nat) (s36: (List Int))=>((idx [r] (k35:Int)).bind fun x54=>(app 8 s36 ([x54.Y0,x54.Y1]: (List Int))).bind fun x58=>some x58:Option ((List Int)))) ([]: (List Int)))=some [r.Y0,r.Y1]:=rfl
 rw [ys,aB,s3,aB,yz (N:=N+12) (by omega),aB]
 have l2: (([r.Y0,r.Y1]:List Int).length:Int)=2:=rfl
 have l1: (([r]:List aI).length:Int)=1:=rfl
 have w1:IntKind.wrap .i64 ((0:Int)+1)=1:=by decide
 have w2:IntKind.wrap .i64 ((1:Int)+1)=2:=by decide
 have i0:idx [r.Y0,r.Y1] 0=some r.Y0:=rfl
 have i1:idx [r.Y0,r.Y1] 1=some r.Y1:=rfl
 have j0:idx [r] 0=some r:=rfl
 have a1:app 32 ([]:List aI) [r]=some [r]:=rfl
 rw [l2,l1]
 rw [mn.eq_def]
 dsimp only
 rw [w1,show decide ((1:Int)<2)=true by decide,aU,f1,aB]
 rw [mn.eq_def]
 dsimp only
 rw [show decide ((0:Int)<1)=true by decide,aU,j0,aB,i0,aB,aB,show decide (r.Y0<=r.Y0)=true by simp,aU,aB,a1,aB,w1,aB]
 dsimp only
 rw [mn.eq_def]
 dsimp only
 rw [show decide ((1:Int)<1)=false by decide,aY,aB,aY,aB,aB]
 unfold Fo.cs
 dsimp only
 rw [aB,i1,aB,st,aB,pu _ rfl hy,aB,aB]
 dsimp only
 rw [mn.eq_def]
 dsimp only
 rw [w2,show decide ((2:Int)<2)=false by decide,aY,aB]
 rfl
theorem Cw {r:aI} (hx:r.X0<r.X1):jz N [⟨r.Y0,r.Y1,[r.X0,r.X1]⟩]=some (dX r):=by
 have ar:jV N [⟨r.Y0,r.Y1,[r.X0,r.X1]⟩]=some r:=by
  have e1: (if r.X0<r.X0 then r.X0 else r.X0)=r.X0:=by split <;> rfl
  have e2: (if r.X1<r.X1 then r.X1 else r.X1)=r.X1:=by split <;> rfl
  show some ({X0:=(if r.X0<r.X0 then r.X0 else r.X0),Y0:=r.Y0,X1:=(if r.X1<r.X1 then r.X1 else r.X1),Y1:=r.Y1}:aI)=some r
  rw [e1,e2]
 unfold jz
 rw [ar,aB,vm]
 rfl
def uk (b:bU):aI:=⟨b.At.X - b.eB / 2,b.At.Y - b.eB / 2,b.At.X - b.eB / 2+b.eB,b.At.Y - b.eB / 2+b.eB⟩
def pL (b:bU):Bool:=f9 b.eB 1 10000&&qT b.At
def lB (b:bU):aI×Int:=if pL b&&dX (uk b) then (uk b,0) else (⟨0,0,0,0⟩,1)
theorem pM {b:bU} (h:pL b=true): (1<=b.eB/\b.eB<=10000)/\(-1000000<=b.At.X/\b.At.X<=1000000)/\(-1000000<=b.At.Y/\b.At.Y<=1000000):=by
 simp only [pL,f9,qT,mI,bM,decide_eq_true_iff] at h
 omega
theorem kL {b:bU} (h:pL b=true):eA N b=some (uk b):=by
 obtain⟨h1,h2,h3⟩:=pM h
 have t:Int.tdiv b.eB 2=b.eB / 2:=Int.tdiv_eq_ediv_of_nonneg (by omega)
 unfold eA uk
 rw [t,sK (n:=b.eB / 2) (by omega),sK (n:=b.At.X - b.eB / 2) (by omega),sK (n:=b.At.Y - b.eB / 2) (by omega),sK (by omega),sK (by omega)]
theorem tL {b:bU}:ja (N+16) b=some (lB b):=by
 have e0:fu (N+16) b.eB 1 10000=some (f9 b.eB 1 10000):=rfl
 have e1: (bif (!(f9 b.eB 1 10000)) then (some true) else (some (!(qT b.At))))=some (!pL b):=by unfold pL;cases f9 b.eB 1 10000 <;> rfl
 unfold ja lB
 rw [e0,aB,tW,aB,e1,aB]
 cases hf:pL b with
 | false=>rfl
 | true=>
  obtain⟨h1,h2,h3⟩:=pM hf
  have hx: (uk b).X0< (uk b).X1:=by simp only [uk];omega
  have hy: (uk b).Y0< (uk b).Y1:=by simp only [uk];omega
  rw [mU,aY,kL hf,aB,Bf hx hy,aB,Cw hx,aB]
  cases dX (uk b) <;> rfl
end
end Go.Gk
namespace Go.Gk
open Go
section
variable {N:Nat}
def EC (c:UInt8):Bool:=
 ((((decide (((c.toNat:Nat):Int)<65))||(decide (((c.toNat:Nat):Int)>90)))&&((decide (((c.toNat:Nat):Int)<97))||(decide (((c.toNat:Nat):Int)>122))))&&((decide (((c.toNat:Nat):Int)<48))||(decide (((c.toNat:Nat):Int)>57))))&&decide (Lib.indexByte [95,43,45,35] c<0)
def isWord (s:cS):Bool:= !s.cA.any EC&&(decide (1<=s.cA.length)&&decide (s.cA.length<=40))
theorem sL (s:cS) (c:UInt8):fZ N s ((c.toNat:Nat):Int)=some (Lib.indexByte s.cA c):=by
 show some (Lib.indexByte s.cA (Int.toNat ((c.toNat:Nat):Int)).toUInt8)=_
 rw [bS];simp
theorem zA {R:Type} (b1:Bool) (c:UInt8) (r:R):
  ((bif b1 then ((fZ N (⟨[95,43,45,35]⟩) ((c.toNat:Nat):Int)).bind fun x14=>some (decide (x14<0))) else (some false)).bind fun s12=>bif s12 then (some (.rt r)) else (some (.nx ())):Option (Fl Unit R))=some (if (b1&&decide (Lib.indexByte [95,43,45,35] c<0))=true then .rt r else .nx ()):=by
 rw [sL,aB]
 cases b1
 ·rfl
 ·rw [aU,aB,Bool.true_and]
  cases decide (Lib.indexByte [95,43,45,35] c<0) <;> rfl
theorem m7 {s:cS} (h:s.cA.length<=1048576):fU N s=some (isWord s):=by
 unfold fU
 rw [Dp EC false (by omega) (fun k x hx=>by
  have hk:=(aW.1 hx).1
  have e:Az s ((k:Nat):Int)=some x:=by rw [Cd s k hk,<-aN hk,hx]
  rw [e,aB]
  exact zA (R:=Bool) _ x false),aB]
 unfold isWord
 cases s.cA.any EC
 ·simp only [Fo.cs,nY,Bool.true_and,Bool.false_eq_true,if_false,Option.some.injEq]
  rw [fH,bM,bM]
  simp only [bW]
  omega
 ·simp [Fo.cs]
def cutAt (c:UInt8):List UInt8->List (List UInt8)
 | []=>[[]]
 | b::l=>if b==c then []::cutAt c l else match cutAt c l with | h::t=>(b::h)::t | []=>[[b]]
theorem vn {c:UInt8}: ∀{l:List UInt8},c∉l->cutAt c l= [l]
 | [],_=>rfl
 | b::l,h=>by
  unfold cutAt
  have hb: (b==c)=false:=by rw [beq_eq_false_iff_ne];rintro rfl;exact h (by simp)
  rw [hb,vn (fun h'=>h (by simp [h']))];rfl
theorem yA {c:UInt8}: ∀{a b:List UInt8},c∉a->cutAt c (a++c::b)=a::cutAt c b
 | [],b,_=>by rw [List.nil_append];show (if (c==c)=true then _ else _)=_;simp
 | x::a,b,h=>by
  have hb: (x==c)=false:=by rw [beq_eq_false_iff_ne];rintro rfl;exact h (by simp)
  have ih:=yA (c:=c) (a:=a) (b:=b) (fun h'=>h (by simp [h']))
  show (if (x==c)=true then []::cutAt c (a++c::b) else match cutAt c (a++c::b) with | h::t=>(x::h)::t | []=>[[x]])=_
  rw [hb,ih];rfl
theorem pN: ∀(l:List UInt8) (c:UInt8),(Lib.indexByte l c = -1/\c∉l)\/∃a b,l=a++c::b/\c∉a/\Lib.indexByte l c= ((a.length:Nat):Int)
 | [],c=> .inl ⟨rfl,by simp⟩
 | x::l,c=>by
  unfold Lib.indexByte
  by_cases hx:x=c
  ·subst hx;exact .inr ⟨[],l,rfl,by simp,by simp⟩
  ·have hb: (x==c)=false:=by rw [beq_eq_false_iff_ne];exact hx
   rcases pN l c with ⟨h1,h2⟩ | ⟨a,b,h1,h2,h3⟩
   ·left;rw [hb,h1];refine⟨by simp,?_⟩;simp [h2];exact fun h=>hx h.symm
   ·right
    refine⟨x::a,b,by rw [h1];rfl,by simp [h2];exact fun h=>hx h.symm,?_⟩
    rw [hb,h3]
    have: (((a.length:Nat):Int)== -1)=false:=by rw [beq_eq_false_iff_ne];omega
    rw [this];simp
theorem Cx (s:cS) (c:UInt8):jc N s ⟨[c]⟩=some (Lib.indexByte s.cA c):=by
 show (hZ N s ⟨[c]⟩).bind _=_
 unfold hZ
 by_cases h:cS.yV ⟨[c]⟩ s=true
 ·have:s= ⟨[c]⟩:=(Dn.1 h).symm
  subst this
  rw [h];simp [Lib.indexByte]
 ·rw [mR] at h
  rw [h]
  show ((fK N s ((c.toNat:Nat):Int)).bind _).bind _=_
  have:=sL (N:=N) s c
  simp only [fZ] at this
  rw [this];rfl
theorem Cy (s:cS) (c:UInt8):j9 N s ⟨[c]⟩=some ((s.cA.count c:Nat):Int):=by
 unfold j9
 show (some _:Option Int)=_
 simp [Lib.countByte]
theorem Bg {s:cS} {k:Nat} (h:k<=s.cA.length):q6 s 0 ((k:Nat):Int)=some ⟨s.cA.take k⟩:=by
 unfold q6;rw [aC ⟨by omega,by omega,by omega⟩]
 simp only [Int.toNat_zero,List.drop_zero,Int.sub_zero,bS]
theorem Bh {s:cS} {k:Nat} (h:k<=s.cA.length):q6 s ((k:Nat):Int) ((s.cA.length:Nat):Int)=some ⟨s.cA.drop k⟩:=by
 unfold q6;rw [aC ⟨by omega,by omega,by omega⟩]
 simp only [bS]
 rw [mS];rw [fP];omega
def oA (s:cS) (c:UInt8):List cS:=(cutAt c s.cA).map cS.mk
theorem Cz {s:cS} (c:UInt8) (h:s.cA.length<=1048576) (hN:4194304<=N):ka N s ⟨[c]⟩=some (oA s c):=by
 have hc:s.cA.count c<=s.cA.length:=List.count_le_length
 unfold ka jW
 rw [show ((-1:Int)==0)=false by decide,aY,show cS.yV ⟨[c]⟩ ⟨[]⟩=false by simp [cS.yV],aY,Cy,aB]
 rw [eE (x:=((s.cA.count c:Nat):Int)+1) (by omega) (by omega),show decide ((-1:Int)<0)=true by decide,aU,aB]
 rw [eE (x:=((s.cA.length:Nat):Int)+1) (by omega) (by omega)]
 have e1: (if ((s.cA.length:Nat):Int)+1< ((s.cA.count c:Nat):Int)+1 then ((s.cA.length:Nat):Int)+1 else ((s.cA.count c:Nat):Int)+1)= ((s.cA.count c+1:Nat):Int):=by
  rw [aD (by omega)];omega
 rw [e1,qh _ (by omega),aB]
 rw [eE (x:=((s.cA.count c+1:Nat):Int) - 1) (by omega) (by omega)]
 have key:=r9 (S:=cS×List cS×Int) (R:=Empty) (body:=(fun(s7:cS×(List cS)×Int)=>(bif (decide (s7.2.2< ((s.cA.count c+1:Nat):Int) - 1)) then ((jc N s7.1 ⟨[c]⟩).bind fun x23=>bif (decide (x23<0)) then (some (.br (s7.1,s7.2.1,s7.2.2))) else ((q6 s7.1 0 (IntKind.wrap .i64 (x23+0))).bind fun x24=>(idx s7.2.1 s7.2.2).bind fun x25=>(q6 s7.1 (IntKind.wrap .i64 (x23+ (((⟨[c]⟩:cS).cA.length:Nat):Int))) ((s7.1.cA.length:Nat):Int)).bind fun x27=>some (.nx (x27,(s7.2.1.set (Int.toNat s7.2.2) x24),(IntKind.wrap .i64 (s7.2.2+1)))))) else (some (.br (s7.1,s7.2.1,s7.2.2))):Option (Fl (cS×(List cS)×Int) Empty))))
  (fun st=>∃ws:List (List UInt8),st.2.2= ((ws.length:Nat):Int)/\cutAt c s.cA=ws++cutAt c st.1.cA/\ws.length+st.1.cA.count c=s.cA.count c/\st.1.cA.length<=s.cA.length/\st.2.1=ws.map cS.mk++List.replicate (s.cA.count c+1 - ws.length) ⟨[]⟩)
  (fun st=>s.cA.count c+1 - st.2.2.toNat)
  (fun st=>∃ws:List (List UInt8),st.2.2= ((ws.length:Nat):Int)/\cutAt c s.cA=ws++[st.1.cA]/\ws.length=s.cA.count c/\st.2.1=ws.map cS.mk++[⟨[]⟩])
  (fun _=>True) (by
   rintro⟨r,arr,i⟩ ⟨ws,h1,h2,h3,h4,h5⟩
   simp only at h1 h2 h3 h4 h5
   subst h1 h5
   by_cases hlt:ws.length<s.cA.count c
   ·have hd:decide (((ws.length:Nat):Int)< ((s.cA.count c+1:Nat):Int) - 1)=true:=by rw [bW];omega
    simp only [hd,aU,Cx,aB]
    rcases pN r.cA c with ⟨_,hn⟩ | ⟨a,b,hr,ha,hi⟩
    ·rw [List.count_eq_zero_of_not_mem hn] at h3;omega
    ·have hrl:r.cA.length=a.length+ (b.length+1):=by rw [hr];simp
     rw [hi,bP (by omega),aY]
     rw [show ((a.length:Nat):Int)+0= ((a.length:Nat):Int) by omega,eE (x:=((a.length:Nat):Int)) (by omega) (by omega),Bg (by omega),aB]
     rw [iC _ _ (by simp;omega),aB]
     rw [show ((a.length:Nat):Int)+ (((⟨[c]⟩:cS).cA.length:Nat):Int)= ((a.length+1:Nat):Int) by simp,eE (x:=((a.length+1:Nat):Int)) (by omega) (by omega),Bh (by omega),aB]
     refine⟨_,rfl,⟨ws++[a],?_,?_,?_,?_,?_⟩,?_⟩
     ·simp only;rw [eE (by omega) (by omega)];simp
     ·simp only
      rw [h2,hr,yA ha];simp
     ·simp only
      rw [hr] at h3 ⊢
      simp [List.count_eq_zero_of_not_mem ha] at h3 ⊢;omega
     ·simp;omega
     ·simp only [bS]
      rw [List.set_append_right _ _ (by simp)]
      simp only [gU,Nat.sub_self]
      obtain⟨d,hd'⟩: ∃d,s.cA.count c+1 - ws.length=d+1:=⟨s.cA.count c - ws.length,by omega⟩
      rw [hd',List.replicate_succ,List.set_cons_zero,show s.cA.count c+1 - (ws++[a]).length=d by simp;omega]
      simp [hr]
     ·simp only;rw [eE (by omega) (by omega)];omega
   ·have hd:decide (((ws.length:Nat):Int)< ((s.cA.count c+1:Nat):Int) - 1)=false:=by rw [decide_eq_false_iff_not];omega
    simp only [hd,aY]
    refine⟨_,rfl,ws,rfl,?_,by omega,?_⟩
    ·have h0:r.cA.count c=0:=by omega
     rw [h2,vn (List.count_eq_zero.1 h0)]
    ·rw [show s.cA.count c+1 - ws.length=1 by omega];rfl)
  N (s,List.replicate (s.cA.count c+1) ⟨[]⟩,0) ⟨[],rfl,rfl,by simp,bG _,by simp⟩ (by simp only;omega)
 obtain⟨o,ho,hgo⟩:=key
 rw [ho,aB]
 cases o with
 | rt r=>exact r.elim
 | go st=>
  obtain⟨r,arr,i⟩:=st
  obtain⟨ws,h1,h2,h3,h4⟩:=hgo
  simp only at h1 h2 h3 h4
  subst h1 h4
  simp only [Fo.cs]
  rw [iC _ _ (by simp),aB,eE (by omega) (by omega)]
  rw [show ((ws.length:Nat):Int)+1= ((ws.length+1:Nat):Int) by omega,sd _ _ (by simp),aB,aB]
  unfold oA
  rw [h2]
  rw [bS,List.set_append_right _ _ (by simp),mS (by simp)]
  simp
def nu (s:cS):Bool:=decide (s.cA.length<=200)&&(oA s 47).all isWord
theorem qs {c:UInt8}: ∀{l x:List UInt8},x∈cutAt c l->x.length<=l.length
 | [],x,h=>by simp [cutAt] at h;subst h;simp
 | b::l,x,h=>by
  unfold cutAt at h
  split at h
  ·rcases fG.1 h with h | h
   ·subst h;simp
   ·have:=qs h;simp;omega
  ·split at h
   ·rename_i t e
    rcases fG.1 h with h | h
    ·subst h;have:=qs (c:=c) (l:=l) (by rw [e];exact List.mem_cons_self);simp;omega
    ·have:=qs (c:=c) (l:=l) (by rw [e];exact jk _ h);simp;omega
   ·simp at h;subst h;simp
theorem wB (c:UInt8): ∀(l:List UInt8),(cutAt c l).length<=l.length+1
 | []=>by simp [cutAt]
 | b::l=>by
  have:=wB c l
  unfold cutAt
  split
  ·simp;omega
  ·split
   ·rename_i e;rw [e] at this;simp at this ⊢;omega
   ·simp
theorem Bi {s x:cS} {c:UInt8} (h:x∈oA s c):x.cA.length<=s.cA.length:=by
 obtain⟨y,hy,rfl⟩:=cH.1 h
 exact qs hy
theorem Bj (s:cS) (c:UInt8): (oA s c).length<=s.cA.length+1:=by unfold oA;rw [gU];exact wB c _
theorem sM {s:cS} (h:s.cA.length<=1048576) (hN:4194304<=N):jA N s=some (nu s):=by
 unfold jA nu
 by_cases hl:s.cA.length<=200
 ·rw [cG (by omega),aU,Cz 47 h hN,aB]
  have e:=nI (l:=oA s 47) (φ:=fB N) (fun x=> !isWord x) (by have:=Bj s 47;omega) (fun x hx=>by
   unfold fB
   rw [m7 (by have:=Bi hx;omega)];rfl)
  have e2:fA N (oA s 47) (fB N)=nj (oA s 47) (fB N):=rfl
  rw [e2,e,aB,aB,cG hl,Bool.true_and]
  congr 1
  rw [fH]
  simp
 ·rw [bP (by omega),aY,aB,bP hl,Bool.false_and]
end
end Go.Gk
namespace Go.Gk
open Go Classical
section
variable {N:Nat}
theorem CA {a b:aA} (h:bD a=bD b):a=b:=by cases a;cases b;unfold bD at h;simp at h;obtain⟨h1,h2,h3⟩:=h;subst h1;subst h2;subst h3;rfl
theorem sN: ∀{s t:List aA},s.map bD=t.map bD->s=t
 | [],[],_=>rfl
 | [],_::_,h=>by cases h
 | _::_,[],h=>by cases h
 | a::s,b::t,h=>by
  rw [dW,dW] at h
  injection h with h1 h2
  rw [CA h1,sN h2]
theorem yB {s t:List aA} (hs:dL (s.map bD)) (ht:dL (t.map bD)) (h: ∀x y,sG (s.map bD) x y=sG (t.map bD) x y):s=t:=sN (u4 hs ht h)
theorem m6.unique {l:List aI} {s t:List aA} (hs:m6 l s) (ht:m6 l t):s=t:=yB hs.can ht.can fun x y=>by rw [hs.cover,ht.cover]
theorem m6.CB {l:List aI} {s:List aA} (h:m6 l s):s.length<=2*l.length/\(∀b∈s,b.Xs.length<=2*l.length)/\(aK s).length<=2*l.length* (2*l.length):=by
 have h1:s.length<=2*l.length:=by have:=h.lim.len h.can;rwa [gU,iN] at this
 have h2: ∀b∈s,b.Xs.length<=2*l.length:=fun b hb=>by
  have:=h.lim.row h.can (b:=bD b) (cH.2 ⟨b,hb,rfl⟩)
  rwa [kg] at this
 exact⟨h1,h2,va h1 h2⟩
theorem qt {n:Int} (h:mI n=true): -1000000<=n/\n<=1000000:=by
 unfold mI f9 at h
 rw [bM,bW,bW] at h;omega
theorem jM {r:aI} (h:dX r=true): (-1000000<=r.X0/\r.X0<=1000000)/\(-1000000<=r.Y0/\r.Y0<=1000000)/\(-1000000<=r.X1/\r.X1<=1000000)/\(-1000000<=r.Y1/\r.Y1<=1000000):=by
 unfold dX at h
 simp only [bM] at h
 exact⟨qt h.1,qt h.2.1,qt h.2.2.1,qt h.2.2.2⟩
theorem vo {r:aI} (h: (-1000000<=r.X0/\r.X0<=1000000)/\(-1000000<=r.Y0/\r.Y0<=1000000)/\(-1000000<=r.X1/\r.X1<=1000000)/\(-1000000<=r.Y1/\r.Y1<=1000000)):dX r=true:=by
 unfold dX mI f9
 simp only [bM,bW]
 omega
theorem CC {r:aI} (h:dX r=true) (hx:r.X0<r.X1) (hy:r.Y0<r.Y1):yR r:=by
 have:=jM h
 refine⟨hx,hy,?_,?_,?_,?_⟩ <;> unfold small <;> omega
def mc (r:aI):Option Int:=if dX r=true then (if r.X1<=r.X0\/r.Y1<=r.Y0 then some 13 else none) else some 1
def ki (l:List aI):Int:=if 2000<l.length then 2 else (l.findSome? mc).getD 0
theorem vP {l:List aI} (hl:l.length<=4611686018427387904):iE N l=some (ki l):=by
 unfold iE ki
 by_cases h:2000<l.length
 ·rw [cG (by omega),aU,aC h]
 ·rw [bP (by omega),aY,aD h,uR mc hl (fun k x hx=>by
   rw [gl hx,aB,vm,aB]
   unfold mc
   cases hr:dX x with
   | false=>rfl
   | true=>
    rw [mU,aY,aC rfl]
    by_cases h2:x.X1<=x.X0\/x.Y1<=x.Y0
    ·rw [aC h2,show (decide (x.X1<=x.X0)||decide (x.Y1<=x.Y0))=true by rw [dG,bW,bW];exact h2];rfl
    ·rw [aD h2,show (decide (x.X1<=x.X0)||decide (x.Y1<=x.Y0))=false by rw [<-mR,dG,bW,bW];exact h2];rfl),aB]
  cases l.findSome? mc <;> rfl
theorem sO {r:aI}:mc r=none↔dX r=true/\r.X0<r.X1/\r.Y0<r.Y1:=by
 unfold mc
 by_cases h:dX r=true
 ·rw [aC h]
  by_cases h2:r.X1<=r.X0\/r.Y1<=r.Y0
  ·rw [aC h2]
   constructor
   ·intro h;cases h
   ·rintro⟨_,h3,h4⟩;omega
  ·rw [aD h2]
   exact⟨fun _=>⟨h,by omega,by omega⟩,fun _=>rfl⟩
 ·rw [aD h]
  constructor
  ·intro h;cases h
  ·rintro⟨h3,_⟩;exact absurd h3 h
theorem yC {r:aI} {e:Int} (h:mc r=some e):e≠0:=by
 unfold mc at h
 split at h
 ·split at h
  ·injection h with h;omega
  ·cases h
 ·injection h with h;omega
theorem qU {l:List aI}:ki l=0↔l.length<=2000/\∀r∈l,dX r=true/\r.X0<r.X1/\r.Y0<r.Y1:=by
 unfold ki
 by_cases h:2000<l.length
 ·rw [aC h];constructor
  ·intro h;omega
  ·intro h;omega
 ·rw [aD h]
  cases hf:l.findSome? mc with
  | none=>
   rw [List.findSome?_eq_none_iff] at hf
   exact⟨fun _=>⟨by omega,fun r hr=>sO.1 (hf r hr)⟩,fun _=>rfl⟩
  | some e=>
   obtain⟨r,hr,he⟩:=List.exists_of_findSome?_eq_some hf
   constructor
   ·intro h0;exact absurd h0 (yC he)
   ·rintro⟨_,h2⟩
    rw [sO.2 (h2 r hr)] at he;cases he
def F1 (l:List aI):Prop:=∀(k:Nat) a b,l[k]? =some a->l[k+1]? =some b->¬(b.Y0<a.Y0\/(b.Y0=a.Y0/\b.X0<=a.X0))
def xu (l:List aI):Prop:=∃s,m6 l s/\aK s=l
noncomputable def gY (l:List aI):Int:=if ki l≠0 then ki l else if F1 l then (if xu l then 0 else 3) else 8
theorem CD {l:List aI} (h:ki l=0):l.length<=2000/\∀r∈l,yR r:=⟨(qU.1 h).1,fun r hr=>by have:=(qU.1 h).2 r hr;exact CC this.1 this.2.1 this.2.2⟩
theorem zB {l m:List aI} (hl:l.length<=4611686018427387904):hQ N l m=some (decide (l=m)):=by
 have:=wq (l:=l) (m:=m) hl
 unfold zo at this
 unfold hQ
 rw [show (decide (l=m)) = @decide (l=m) (instDecidableEqList l m) from decide_eq_decide.2 Iff.rfl]
 exact this
theorem pO {l:List aI} (hl:l.length<=1073741824) (hN:4398046511104<=N):fY N l=some (gY l):=by
 refine Ok.get ?_
 unfold fY
 refine Ok.eq (vP (by omega)) ?_
 unfold gY
 refine Ok.bif (fun h=>Ok.ret ?_) (fun h=>?_)
 ·rw [aC (by simpa using h)]
 ·have h0:ki l=0:=by simpa using h
  rw [aD (by simpa using h0)]
  obtain⟨hlen,hok⟩:=CD h0
  refine Ok.bind (Ok.mn (Go:=fun _=>F1 l) (Rt:=fun r=>r=8/\¬F1 l) (fun s=>∃k:Nat,s= ((k:Nat):Int)/\1<=k/\∀(j:Nat) a b,j+1<k->l[j]? =some a->l[j+1]? =some b->¬(b.Y0<a.Y0\/(b.Y0=a.Y0/\b.X0<=a.X0))) (fun s=>l.length - s.toNat) ?_ ⟨1,rfl,bG _,fun j a b hj=>by omega⟩ (by simp;omega)) ?_
  ·rintro s ⟨k,rfl,hk,hI⟩
   refine Ok.bif (fun h=>?_) (fun h=>Ok.br fun j a b ha hb=>hI j a b ?_ ha hb)
   ·have hk2:k<l.length:=by have:=of_decide_eq_true h;omega
    rw [lr hk (by omega)]
    refine Ok.idx (by omega) (Ok.idx hk2 (Ok.bif (fun hb=>Ok.rt ⟨rfl,fun hu=>?_⟩) (fun hb=>Ok.nx ⟨⟨k+1,by rw [gO (by omega)],by omega,fun j a b hj ha hb'=>?_⟩,by rw [gO (by omega)];simp only [bS];omega⟩)))
    ·refine hu (k - 1) l[k - 1] l[k] (aN _) (by rw [show k - 1+1=k by omega];exact aN _) ?_
     rw [dG,bM,bW,bW,beq_iff_eq] at hb;exact hb
    ·by_cases e:j+1<k
     ·exact hI j a b e ha hb'
     ·have:j+1=k:=by omega
      subst this
      rw [aN (by omega)] at ha hb'
      injection ha with ha;injection hb' with hb'
      subst ha;subst hb'
      rw [<-mR,dG,bM,bW,bW,beq_iff_eq] at hb;exact hb
   ·have:=of_decide_eq_false h
    have:=(aW.1 hb).1;omega
  ·rintro o ho
   refine Ok.cs ho (fun s hu=>?_) (fun r hr=>Ok.ret (by rw [hr.1,aD hr.2]))
   rw [aC hu]
   refine Ok.bind (oy (N:=N) (by omega) hok (by omega)) ?_
   intro s hs
   obtain⟨z1,z2,z3⟩:=hs.CB
   have z4:2*l.length* (2*l.length)<=4000*4000:=Nat.mul_le_mul (by omega) (by omega)
   refine Ok.eq (vc (nS hs.can) (by omega) (fun b hb=>by have:=z2 b hb;omega) (by omega)) (Ok.eq (zB (by omega)) ?_)
   have hiff:xu l↔aK s=l:=⟨fun⟨t,h1,h2⟩=>by rw [hs.unique h1];exact h2,fun h=>⟨s,hs,h⟩⟩
   refine Ok.bif (fun h=>Ok.ret ?_) (fun h=>Ok.ret ?_)
   ·have h: ¬aK s=l:=by simpa using h
    rw [aD (fun h'=>h (hiff.1 h'))]
   ·have h:aK s=l:=by simpa using h
    rw [aC (hiff.2 h)]
theorem pP {l:List aI}:gY l=0↔ki l=0/\F1 l/\xu l:=by
 unfold gY
 by_cases h:ki l=0
 ·rw [aD (by simpa using h)]
  by_cases h2:F1 l
  ·rw [aC h2]
   by_cases h3:xu l
   ·rw [aC h3];exact⟨fun _=>⟨h,h2,h3⟩,fun _=>rfl⟩
   ·rw [aD h3];constructor
    ·intro h;omega
    ·rintro⟨_,_,h4⟩;exact absurd h4 h3
  ·rw [aD h2];constructor
   ·intro h;omega
   ·rintro⟨_,h4,_⟩;exact absurd h4 h2
 ·rw [aC h]
  constructor
  ·intro h2;exact absurd h2 h
  ·rintro⟨h2,_⟩;exact absurd h2 h
theorem rA (n lo hi:Int):fu N n lo hi=some (f9 n lo hi):=rfl
theorem Bl {b:bU} (hN:16<=N):ja N b=some (lB b):=by
 have:=tL (N:=N - 16) (b:=b)
 rwa [show N - 16+16=N by omega] at this
def m8 (n:Nat) (b:bU):Option Int:=if (lB b).2≠0 then some (lB b).2 else if f9 b.cK 0 (((n:Nat):Int) - 1)=true/\f9 b.To b.cK (((n:Nat):Int) - 1)=true then none else some 1
def kj (a:jS):Int:=if 500<a.aS.length then 2 else (a.aS.findSome? (m8 a.aJ.length)).getD 0
theorem vQ {a:jS} (h1:a.aJ.length<=4611686018427387904) (h2:a.aS.length<=4611686018427387904) (hN:16<=N):hU N a=some (kj a):=by
 unfold hU kj
 by_cases h:500<a.aS.length
 ·rw [cG (by omega),aU,aC h]
 ·have hw:IntKind.wrap .i64 (((a.aJ.length:Nat):Int) - 1)= ((a.aJ.length:Nat):Int) - 1:=eE (by omega) (by omega)
  rw [bP (by omega),aY,aD h,uR (m8 a.aJ.length) h2 (fun k x hx=>by
   rw [gl hx,aB,Bl hN,aB]
   unfold m8
   by_cases h0: (lB x).2=0
   ·rw [aD (by simpa using h0),h0,show ((0:Int) != 0)=false by rfl,aY,hw,rA,aB,rA,aB]
    cases h3:f9 x.cK 0 (((a.aJ.length:Nat):Int) - 1) <;> cases h4:f9 x.To x.cK (((a.aJ.length:Nat):Int) - 1) <;> rfl
   ·rw [aC h0,show ((lB x).2 != 0)=true by simpa using h0];rfl),aB]
  cases a.aS.findSome? (m8 a.aJ.length) <;> rfl
theorem yD {b:bU} (h: (lB b).2=0):pL b=true/\dX (uk b)=true:=by
 unfold lB at h
 split at h
 ·rename_i h';rwa [bM] at h'
 ·cases h
theorem nv {a:jS} (h:kj a=0):a.aS.length<=500/\∀b∈a.aS,pL b=true/\dX (uk b)=true/\0<=b.cK/\b.cK<=b.To/\b.To< ((a.aJ.length:Nat):Int):=by
 unfold kj at h
 split at h
 ·omega
 ·refine⟨by omega,fun b hb=>?_⟩
  have hn:m8 a.aJ.length b=none:=by
   cases hf:a.aS.findSome? (m8 a.aJ.length) with
   | none=>exact List.findSome?_eq_none_iff.1 hf b hb
   | some e=>
    rw [hf] at h
    obtain⟨c,hc,he⟩:=List.exists_of_findSome?_eq_some hf
    have h:e=0:=h
    subst h
    unfold m8 at he
    split at he
    ·rename_i h';injection he with he;exact absurd he h'
    ·split at he
     ·cases he
     ·injection he with he;omega
  unfold m8 at hn
  split at hn
  ·cases hn
  ·rename_i h0
   split at hn
   ·rename_i h1
    have h0: (lB b).2=0:=by simpa using h0
    have:=yD h0
    unfold f9 at h1
    simp only [bM,bW] at h1
    exact⟨this.1,this.2,by omega,by omega,by omega⟩
   ·cases hn
theorem F2 {b:bU} (h1:pL b=true) (h2:dX (uk b)=true):yR (uk b):=by
 have hf:=pM h1
 refine CC h2 ?_ ?_
 ·show b.At.X - b.eB / 2<b.At.X - b.eB / 2+b.eB;omega
 ·show b.At.Y - b.eB / 2<b.At.Y - b.eB / 2+b.eB;omega
def il (p q:eK):Int:=if Lib.compareBytes p.Part.cA q.Part.cA≠0 then Lib.compareBytes p.Part.cA q.Part.cA else Lib.compareBytes p.eK.cA q.eK.cA
theorem oM (p q:eK):fC N p q=some (il p q):=by
 unfold fC il
 show (bif (Lib.compareBytes p.Part.cA q.Part.cA != 0) then _ else _)=_
 by_cases h:Lib.compareBytes p.Part.cA q.Part.cA=0
 ·rw [h,aD (by simp)];rfl
 ·rw [aC h,show (Lib.compareBytes p.Part.cA q.Part.cA != 0)=true by simpa using h];rfl
def j6 (l:cT):eK:=⟨l.Part,l.eK⟩
theorem tM (l:cT):iT N l=some (j6 l):=rfl
def j7 (a:jS) (k:Nat):Option Int:=(a.bE[k]?).bind fun x=>
 if (nu x.Part&&isWord x.eK)=true then
  if (f9 x.dY 0 (((a.aJ.length:Nat):Int) - 1)&&qT x.At)=true then
   if 0<k/\(∃y,a.bE[k - 1]? =some y/\il (j6 x) (j6 y)<=0) then some 8 else none
  else some 1
 else some 5
noncomputable def jN (a:jS):Int:=if 1000<a.bE.length then 2 else (rh a.bE.length (j7 a)).getD 0
end
end Go.Gk
namespace Go.Gk
open Go Classical
section
variable {N:Nat}
def vq (a:jS):Prop:=∀x∈a.bE,x.Part.cA.length<=1048576/\x.eK.cA.length<=1048576
theorem vR {a:jS} (h1:a.aJ.length<=1073741824) (h2:a.bE.length<=1073741824) (h3:vq a) (hN:4194304<=N):ig N a=some (jN a):=by
 unfold ig jN
 by_cases h:1000<a.bE.length
 ·rw [cG (by omega),aU,aC h]
 ·have hw:IntKind.wrap .i64 (((a.aJ.length:Nat):Int) - 1)= ((a.aJ.length:Nat):Int) - 1:=eE (by omega) (by omega)
  rw [bP (by omega),aY,aD h,nH (j7 a) (by omega) (fun k hk _=>by
   have hx:a.bE[k]? =some a.bE[k]:=aN hk
   have hs:=h3 _ (dB hk)
   rw [gl hx,aB,sM hs.1 hN,aB]
   have hle:j7 a k= (if (nu a.bE[k].Part&&isWord a.bE[k].eK)=true then
     if (f9 a.bE[k].dY 0 (((a.aJ.length:Nat):Int) - 1)&&qT a.bE[k].At)=true then
      if 0<k/\(∃y,a.bE[k - 1]? =some y/\il (j6 a.bE[k]) (j6 y)<=0) then some 8 else none
     else some 1
    else some 5):=by unfold j7;rw [hx];rfl
   rw [hle]
   have e1: ((bif (!nu a.bE[k].Part) then (some true) else ((fU N a.bE[k].eK).bind fun x225=>some (!x225))):Option Bool)=some (!(nu a.bE[k].Part&&isWord a.bE[k].eK)):=by
    rw [m7 hs.2,aB]
    cases nu a.bE[k].Part <;> rfl
   have e2: ((fu N a.bE[k].dY 0 (IntKind.wrap .i64 (((a.aJ.length:Nat):Int) - 1))).bind fun x318=>bif (!x318) then (some true) else ((gv N a.bE[k].At).bind fun x321=>some (!x321)))=some (!(f9 a.bE[k].dY 0 (((a.aJ.length:Nat):Int) - 1)&&qT a.bE[k].At)):=by
    rw [hw,rA,aB,tW,aB]
    cases f9 a.bE[k].dY 0 (((a.aJ.length:Nat):Int) - 1) <;> rfl
   show ((bif (!nu a.bE[k].Part) then (some true) else ((fU N a.bE[k].eK).bind fun x225=>some (!x225))):Option Bool).bind _=_
   rw [e1,aB]
   cases h4: (nu a.bE[k].Part&&isWord a.bE[k].eK) with
   | false=>rfl
   | true=>
    rw [mU,aY,aC rfl]
    show (((fu N a.bE[k].dY 0 (IntKind.wrap .i64 (((a.aJ.length:Nat):Int) - 1))).bind fun x318=>bif (!x318) then (some true) else ((gv N a.bE[k].At).bind fun x321=>some (!x321)))).bind _=_
    rw [e2,aB]
    cases h5: (f9 a.bE[k].dY 0 (((a.aJ.length:Nat):Int) - 1)&&qT a.bE[k].At) with
    | false=>rfl
    | true=>
     rw [mU,aY,aC rfl]
     by_cases h0:0<k
     ·rw [cG (by omega),aU,lr h0 (by omega),iC _ _ (by omega:k - 1<a.bE.length)]
      simp only [tM,aB,oM]
      by_cases h6:il (j6 a.bE[k]) (j6 a.bE[k - 1])<=0
      ·rw [cG h6,aC ⟨h0,_,aN (by omega:k - 1<a.bE.length),h6⟩];rfl
      ·rw [bP h6,aD (by
        rintro⟨_,y,hy,h7⟩
        rw [aN (by omega:k - 1<a.bE.length)] at hy;injection hy with hy
        rw [<-hy] at h7;exact h6 h7)];rfl
     ·rw [bP (by omega),aD (fun h=>h0 h.1)];rfl),aB]
  cases rh a.bE.length (j7 a) <;> rfl
def kl (b:bU) (k:Int):Bool:=decide (b.cK<=k)&&decide (k<=b.To)
theorem vr (b:bU) (k:Int):iG N b k=some (kl b k):=rfl
def mJ (bs:List bU) (k:Int):List aI:=(bs.filter (fun b=>kl b k)).map uk
structure lx (bs:List bU):Prop where
 len:bs.length<=500
 ok: ∀b∈bs,pL b=true/\dX (uk b)=true
structure qu (r hs:List aI) (s:List aA):Prop where
 can:dL (s.map bD)
 cover: ∀x y,sG (s.map bD) x y= (u5 r x y&& !u5 hs x y)
 lim:rH (nP r++nP hs) (kf r++kf hs) (s.map bD)
theorem wC {bs:List bU} (h:lx bs) (k:Int): (mJ bs k).length<=500:=by
 unfold mJ
 rw [gU]
 have:=lz (fun b=>kl b k) bs
 have:=h.len;omega
theorem yE {bs:List bU} (h:lx bs) (k:Int): ∀r∈mJ bs k,yR r/\dX r=true:=by
 intro r hr
 unfold mJ at hr
 obtain⟨b,hb,rfl⟩:=cH.1 hr
 have:=h.ok b (iz.1 hb).1
 exact⟨F2 this.1 this.2,this.2⟩
theorem qu.small {r hs:List aI} {s:List aA} (h:qu r hs s) (h1: ∀x∈r,yR x) (h2: ∀x∈hs,yR x): (∀c∈nP r++nP hs,small c)/\∀c∈kf r++kf hs,small c:=by
 constructor
 ·intro c hc
  rcases cO.1 hc with h | h
  ·obtain⟨x,hx,rfl | rfl⟩:=nQ.1 h
   ·exact(h1 x hx).s1
   ·exact(h1 x hx).s2
  ·obtain⟨x,hx,rfl | rfl⟩:=nQ.1 h
   ·exact(h2 x hx).s1
   ·exact(h2 x hx).s2
 ·intro c hc
  rcases cO.1 hc with h | h
  ·obtain⟨x,hx,rfl | rfl⟩:=jL.1 h
   ·exact(h1 x hx).s3
   ·exact(h1 x hx).s4
  ·obtain⟨x,hx,rfl | rfl⟩:=jL.1 h
   ·exact(h2 x hx).s3
   ·exact(h2 x hx).s4
theorem tN {s:List aA} {X Y:List Int} {A:Nat} (hc:dL (s.map bD)) (h:rH X Y (s.map bD)) (hX:X.length<=A) (hY:Y.length<=A):s.length<=A/\(∀b∈s,b.Xs.length<=A)/\(aK s).length<=A*A:=by
 have h1:s.length<=A:=by have:=h.len hc;rw [gU] at this;omega
 have h2: ∀b∈s,b.Xs.length<=A:=fun b hb=>by
  have:=h.row hc (b:=bD b) (cH.2 ⟨b,hb,rfl⟩)
  have e: (bD b).xs=b.Xs:=rfl
  rw [e] at this;omega
 exact⟨h1,h2,va h1 h2⟩
theorem vS {r hs:List aI} (h1:r.length<=2000) (h2: ∀x∈r,yR x) (h3:hs.length<=500) (h4: ∀x∈hs,yR x) (hN:4398046511104<=N) {β:Type} {f:List aA->Option β} {Q:β->Prop} (k: ∀s,qu r hs s->Ok (f s) Q):
  Ok ((eT N r).bind fun x378=>(eT N hs).bind fun x380=>(iH N x378 x380).bind f) Q:=by
 refine Ok.bind (oy (N:=N) (by omega) h2 (by omega)) (fun s hs1=>?_)
 refine Ok.bind (oy (N:=N) (by omega) h4 (by omega)) (fun t ht=>?_)
 have hz: ∀c∈kf r++kf hs,small c:=by
  intro c hc
  rcases cO.1 hc with h | h
  ·obtain⟨x,hx,rfl | rfl⟩:=jL.1 h
   ·exact(h2 x hx).s3
   ·exact(h2 x hx).s4
  ·obtain⟨x,hx,rfl | rfl⟩:=jL.1 h
   ·exact(h4 x hx).s3
   ·exact(h4 x hx).s4
 refine Ok.bind (Bc (X:=nP r++nP hs) (Y:=kf r++kf hs) hs1.can ht.can (hs1.lim.mono (fun c h=>List.mem_append_left _ h) (fun c h=>List.mem_append_left _ h)) (ht.lim.mono (fun c h=>List.mem_append_right _ h) (fun c h=>List.mem_append_right _ h))
  (by rw [dR,kg,kg];omega) (by rw [dR,iN,iN];omega) hz hN) (fun u hu=>?_)
 exact k u ⟨hu.can,fun x y=>by rw [hu.cover,hs1.cover,ht.cover],hu.lim⟩
def cM:Nat->List (List (List aA))->List aH
 | _,[]=>[]
 | k,ps::r=>ps.map (fun p=>⟨((k:Nat):Int),p,aK p⟩)++cM (k+1) r
theorem rB (ps:List (List aA)): ∀(r:List (List (List aA))) (k:Nat),cM k (r++[ps])=cM k r++ps.map (fun p=>⟨((k+r.length:Nat):Int),p,aK p⟩)
 | [],k=>by unfold cM;simp [cM]
 | q::r,k=>by
  show _++cM (k+1) (r++[ps])= (_++cM (k+1) r)++_
  rw [rB ps r (k+1),jP]
  congr 3
  simp only [km]
  rw [show k+ (r.length+1)=k+1+r.length by omega]
theorem vt {s p:List aA} {ps:List (List aA)} {r:Nat->Nat} {X Y:List Int} (h:oz s r ps) (hc:dL (s.map bD)) (hl:rH X Y (s.map bD)) (hX: ∀c∈X,small c) (hY: ∀c∈Y,small c) (hp:p∈ps):
  ∃j k:Nat,ps[j]? =some p/\(bL (aK s).length r)[j]? =some k/\m6 (kO (aK s) (aK s).length r k) p/\rH X Y (p.map bD):=by
 obtain⟨j,hj⟩:=fw hp
 have hjl:=(aW.1 hj).1
 rw [h.len] at hjl
 have hh: (bL (aK s).length r)[j]? =some (bL (aK s).length r)[j]:=aN hjl
 have hs:=h.each j _ p hh hj
 refine⟨j,_,hj,hh,hs,hs.lim.mono (fun c hcx=>?_) (fun c hcx=>?_)⟩
 ·obtain⟨x,hx,hxc⟩:=nQ.1 hcx
  obtain⟨i,_,_,hi⟩:=lL.1 hx
  have:=vd hc hl hX hY x (ga hi)
  rcases hxc with rfl | rfl
  ·exact this.2.1.1
  ·exact this.2.1.2
 ·obtain⟨x,hx,hxc⟩:=jL.1 hcx
  obtain⟨i,_,_,hi⟩:=lL.1 hx
  have:=vd hc hl hX hY x (ga hi)
  rcases hxc with rfl | rfl
  ·exact this.2.2.1
  ·exact this.2.2.2
structure rC (cs:List (List aI)) (bs:List bU) (k:Nat) (lh:List (List aA)) (fO:List (List (List aA))):Prop where
 len:lh.length=k
 zC:fO.length=k
 dr: ∀(i:Nat) r s,i<k->cs[i]? =some r->lh[i]? =some s->qu r (mJ bs ((i:Nat):Int)) s
 pt: ∀(i:Nat) s ps,i<k->lh[i]? =some s->fO[i]? =some ps->∃u,oz s u ps
 Al: (cM 0 fO).length<=k*25000000
theorem oz.Al {s:List aA} {u:Nat->Nat} {ps:List (List aA)} (h:oz s u ps):ps.length<=(aK s).length:=by
 rw [h.len];exact mm _ _
theorem zD {cs:List (List aI)} {bs:List bU} (hcs:cs.length<=16) (hc: ∀r∈cs,r.length<=2000/\∀x∈r,yR x) (hb:lx bs) (hN:4398046511104<=N):
  Ok (gJ N cs bs [] []) (fun x=>∃fO,rC cs bs cs.length x.2.1 fO/\x.2.2=cM 0 fO/\(x.1=true↔(∀s∈x.2.1,(aK s).length<=2000)/\x.2.2.length<=2000)):=by
 unfold gJ
 refine Ok.bind (P:=fun(st:List (List aA)×List aH×Bool)=>∃fO,rC cs bs cs.length st.1 fO/\st.2.1=cM 0 fO/\(st.2.2=true↔∀s∈st.1,(aK s).length<=2000)) (Ok.ko (fun(k:Nat) (st:List (List aA)×List aH×Bool)=>∃fO,rC cs bs k st.1 fO/\st.2.1=cM 0 fO/\(st.2.2=true↔∀s∈st.1,(aK s).length<=2000)) (by omega)
  ⟨[],⟨rfl,rfl,fun i r s hi=>by omega,fun i s ps hi=>by omega,by simp [cM]⟩,rfl,by simp⟩ (fun k st hk hI=>?_)) ?_
 ·obtain⟨lh,pcs,okk⟩:=st
  obtain⟨fO,D,e1,e2⟩:=hI
  dsimp only at D e1 e2 ⊢
  subst e1
  have hkx:cs[k]? =some cs[k]:=aN hk
  obtain⟨hr1,hr2⟩:=hc _ (dB hk)
  refine Ok.ix hkx ?_
  refine Ok.bind (P:=fun t=>t=mJ bs ((k:Nat):Int)) (Ok.mono (Ok.ko (fun j t=>t=mJ (bs.take j) ((k:Nat):Int)) (by have:=hb.len;omega) rfl (fun j t hj e=>?_)) (fun t e=>by rw [e,fW])) (fun t e=>?_)
  ·subst e
   refine Ok.idx hj (Ok.eq (vr _ _) ?_)
   have hts:bs.take (j+1)=bs.take j++[bs[j]]:=fS hj
   have hgb:=hb.ok _ (dB hj)
   have hl: (mJ (bs.take j) ((k:Nat):Int)).length<=500:=by
    unfold mJ
    rw [gU]
    have:=lz (fun b=>kl b ((k:Nat):Int)) (bs.take j)
    rw [cR] at this
    have:=hb.len;omega
   cases ht:kl bs[j] ((k:Nat):Int) with
   | false=>
    rw [aY]
    refine Ok.eq rfl (Ok.ret ?_)
    unfold mJ
    rw [hts,iA];simp [ht]
   | true=>
    rw [aU]
    refine Ok.eq (x:=mJ (bs.take j) ((k:Nat):Int)++[uk bs[j]]) (by rw [kL hgb.1,aB,ij (by simp;omega),aB]) (Ok.ret ?_)
    unfold mJ
    rw [hts,iA,eY];simp [ht]
  ·subst e
   have hho:=yE hb ((k:Nat):Int)
   have hhl:=wC hb ((k:Nat):Int)
   refine vS hr1 hr2 hhl (fun x hx=>(hho x hx).1) hN (fun s hs=>?_)
   obtain⟨sx,sy⟩:=hs.small hr2 (fun x hx=>(hho x hx).1)
   obtain⟨z1,z2,z3⟩:=tN (A:=5000) hs.can hs.lim (by rw [dR,kg,kg];omega) (by rw [dR,iN,iN];omega)
   have hmany:=Du (N:=N) (s:=s) (by omega) (fun b hb=>by have:=z2 b hb;omega) (by omega)
   refine Ok.eq (x:=(okk&&decide ((aK s).length<=2000),s)) ?_ ?_
   ·cases okk with
    | false=>rfl
    | true=>
     rw [aU,hmany,aB,Bool.true_and]
     rw [show decide ((((aK s).length:Nat):Int)<=2000)=decide ((aK s).length<=2000) from decide_eq_decide.2 (by omega)]
   dsimp only
   refine Ok.app (by rw [D.len];simp;omega) ?_
   refine Ok.bind (zz (N:=N) hs.can hs.lim sx sy (by omega) (fun b hb=>by have:=z2 b hb;omega) (by omega) hN) ?_
   rintro ps ⟨u,hu⟩
   have hfew:=hu.Al
   have hk16:k*25000000<=16*25000000:=Nat.mul_le_mul_right _ (by omega)
   have hDf:=D.Al
   refine Ok.bind (P:=fun t=>t=cM 0 fO++ps.map (fun p=>(⟨((k:Nat):Int),p,aK p⟩:aH))) (Ok.mono (Ok.ko (fun j t=>t=cM 0 fO++(ps.take j).map (fun p=>(⟨((k:Nat):Int),p,aK p⟩:aH))) (by omega) (by simp) (fun j t hj e=>?_)) (fun t e=>by rw [e,fW])) (fun t e=>Ok.ret ?_)
   ·subst e
    have hjx:ps[j]? =some ps[j]:=aN hj
    refine Ok.ix hjx ?_
    obtain⟨_,_,_,_,ky,hpl⟩:=vt hu hs.can hs.lim sx sy (dB hj)
    obtain⟨y1,y2,y3⟩:=tN (A:=5000) ky.can hpl (by rw [dR,kg,kg];omega) (by rw [dR,iN,iN];omega)
    refine Ok.eq (vc (nS ky.can) (by omega) (fun b hb=>by have:=y2 b hb;omega) (by omega)) (Ok.app ?_ (Ok.ret ?_))
    ·simp only [dR,gU,cR,List.length_singleton];omega
    ·rw [fS hj,eY,jP];rfl
   ·subst e
    refine⟨fO++[ps],⟨by simp [D.len],by simp [D.zC],fun i r s' hi hr hs'=>?_,fun i s' ps' hi hs' hps'=>?_,?_⟩,?_,?_⟩
    ·dsimp only at hs'
     by_cases hik:i<k
     ·rw [eM (by rw [D.len];exact hik)] at hs'
      exact D.dr i r s' hik hr hs'
     ·have:i=k:=by omega
      subst this
      rw [eG (by rw [D.len];omega),D.len,Nat.sub_self] at hs'
      simp at hs';subst hs'
      rw [hkx] at hr;injection hr with hr;subst hr
      exact hs
    ·dsimp only at hs'
     by_cases hik:i<k
     ·rw [eM (by rw [D.len];exact hik)] at hs'
      rw [eM (by rw [D.zC];exact hik)] at hps'
      exact D.pt i s' ps' hik hs' hps'
     ·have:i=k:=by omega
      subst this
      rw [eG (by rw [D.len];omega),D.len,Nat.sub_self] at hs'
      rw [eG (by rw [D.zC];omega),D.zC,Nat.sub_self] at hps'
      simp at hs' hps';subst hs';subst hps'
      exact⟨u,hu⟩
    ·rw [rB,dR,gU];omega
    ·dsimp only
     rw [rB,D.zC,fI]
    ·dsimp only
     rw [bM,e2,bW]
     constructor
     ·rintro⟨h1,h2⟩ s' hs'
      rcases cO.1 hs' with h | h
      ·exact h1 s' h
      ·simp at h;subst h;exact h2
     ·intro h
      exact⟨fun s' hs'=>h s' (List.mem_append_left _ hs'),h s (by simp)⟩
 ·rintro⟨lh,pcs,okk⟩ ⟨fO,D,e1,e2⟩
  dsimp only at D e1 e2 ⊢
  subst e1
  refine Ok.bind (P:=fun b=>b=true↔(∀s∈lh,(aK s).length<=2000)/\(cM 0 fO).length<=2000) (Ok.bif (fun h=>Ok.ret ?_) (fun h=>Ok.ret ?_)) (fun b hb=>Ok.ret ⟨fO,D,rfl,hb⟩)
  ·rw [bW]
   constructor
   ·intro h';exact⟨e2.1 h,by omega⟩
   ·rintro⟨_,h'⟩;omega
  ·constructor
   ·intro h';cases h'
   ·rintro⟨h',_⟩;rw [e2.2 h'] at h;cases h
end
end Go.Gk
namespace Go.Gk
open Go Classical
section
variable {N:Nat}
section
variable {α:Type}
def pQ (P:α->Bool) (l:List α) (n:Nat):List Nat:=(List.range n).filter (fun k=>(l[k]?).any P)
theorem zF {P:α->Bool} {l:List α} {n:Nat} {x:α} (h:l[n]? =some x):pQ P l (n+1)=if P x=true then pQ P l n++[n] else pQ P l n:=by
 unfold pQ
 rw [List.range_succ,iA]
 by_cases hp:P x=true
 ·rw [aC hp];simp [h,hp]
 ·rw [aD hp];simp [h,hp]
theorem wD (P:α->Bool) (l:List α) (n:Nat): (pQ P l n).length<=n:=by
 have:=lz (fun k=>(l[k]?).any P) (List.range n)
 rw [List.length_range] at this;exact this
theorem Bm {P:α->Bool} {l:List α} {n k:Nat}:k∈pQ P l n↔k<n/\(l[k]?).any P=true:=by unfold pQ;simp
theorem sP {β:Type} {l:List α} (P:α->Bool) (g:Nat->β):rh l.length (fun k=>(l[k]?).bind fun x=>if P x=true then some (g k) else none)= (l.findIdx? P).map g:=by
 cases h:l.findIdx? P with
 | none=>
  rw [List.findIdx?_eq_none_iff] at h
  refine kF.2 fun k hk=>?_
  rw [aN hk]
  have:=h _ (dB hk)
  simp [this]
 | some j=>
  obtain⟨hj,hp,hn⟩:=List.findIdx?_eq_some_iff_getElem.1 h
  refine mi.2 ⟨j,hj,by rw [aN hj];simp [hp],fun i hi=>?_⟩
  rw [aN (by omega)]
  have:=hn i hi
  simp [this]
end
def ints (l:List Nat):List Int:=l.map fun i=>((i:Nat):Int)
theorem pR (l m:List Nat):ints (l++m)=ints l++ints m:=eY
theorem kY (l:List Nat): (ints l).length=l.length:=gU _
theorem vu {l:List Nat} {x:Int}:x∈ints l↔∃i∈l,x= ((i:Nat):Int):=by
 unfold ints;rw [cH]
 constructor
 ·rintro⟨i,h1,h2⟩;exact⟨i,h1,h2.symm⟩
 ·rintro⟨i,h1,h2⟩;exact⟨i,h1,h2.symm⟩
def Am (p0 p1:aI):Bool:=((((decide (p0.X0<p1.X1))&&(decide (p1.X0<p0.X1)))&&((p0.Y1==p1.Y0)||(p1.Y1==p0.Y0)))||(((decide (p0.Y0<p1.Y1))&&(decide (p1.Y0<p0.Y1)))&&((p0.X1==p1.X0)||(p1.X1==p0.X0))))
def kZ (b:bU) (p:aH):Bool:=b.gh&&(kl b p.dY&&p.lW.any (fun r=>Am r (uk b)))
def k6 (bs:List bU) (pcs:List aH):List (List Int):=bs.map fun b=>ints (pQ (kZ b) pcs pcs.length)
theorem m9 {l:List aI} {φ:aI->Option Bool} (p:aI->Bool) (hl:l.length<=4611686018427387904) (h: ∀x∈l,φ x=some (p x)):eI N l φ=some (l.any p):=
 nI p hl h
theorem CE {bs:List bU} {pcs:List aH} (hb:lx bs) (hp:pcs.length<=1073741824) (hr: ∀p∈pcs,p.lW.length<=1073741824):gK N bs pcs []=some (k6 bs pcs):=by
 refine Ok.get ?_
 have hbl:=hb.len
 unfold gK
 refine Ok.bind (Ok.ko (fun k st=>st=k6 (bs.take k) pcs) (by omega) rfl (fun k st hk e=>?_)) (fun st e=>Ok.ret (by rw [e,fW]))
 subst e
 have hg:=hb.ok _ (dB hk)
 refine Ok.idx hk ?_
 refine Ok.bind (P:=fun t=>t=ints (pQ (kZ bs[k]) pcs pcs.length)) (Ok.ko (fun j t=>t=ints (pQ (kZ bs[k]) pcs j)) (by omega) rfl (fun j t hj e=>?_)) (fun t e=>?_)
 ·subst e
  have hjx:pcs[j]? =some pcs[j]:=aN hj
  have hl:=wD (kZ bs[k]) pcs j
  refine Ok.ix hjx ?_
  refine Ok.eq (x:=kZ bs[k] pcs[j]) ?_ ?_
  ·unfold kZ
   cases bs[k].gh with
   | false=>rfl
   | true=>
    rw [aU,vr,aB,Bool.true_and]
    cases kl bs[k] pcs[j].dY with
    | false=>rfl
    | true=>
     rw [aU,m9 (fun r=>Am r (uk bs[k])) (by have:=hr _ (dB hj);omega) (fun r _=>by
      unfold gS;rw [kL hg.1];rfl),aB,Bool.true_and]
  ·rw [zF hjx]
   cases ht:kZ bs[k] pcs[j] with
   | false=>rw [aY,aD (by simp)];exact Ok.eq rfl (Ok.ret rfl)
   | true=>
    rw [aU,aC rfl]
    refine Ok.eq (x:=ints (pQ (kZ bs[k]) pcs j)++[((j:Nat):Int)]) (by rw [ij (by rw [kY];simp;omega),aB]) (Ok.ret ?_)
    rw [pR];rfl
 ·subst e
  refine Ok.app ?_ (Ok.ret ?_)
  ·unfold k6;simp;omega
  ·unfold k6
   rw [fS hk,eY];rfl
def yF (r:List aI) (p:iO):Bool:=r.any (fun x=>decide (p.X>=x.X0)&&(decide (p.X<x.X1)&&(decide (p.Y>=x.Y0)&&decide (p.Y<x.Y1))))
theorem sQ {r:List aI} {p:iO} (hl:r.length<=4611686018427387904):g9 N r p=some (yF r p):=by
 unfold g9
 rw [m9 (fun x=>decide (p.X>=x.X0)&&(decide (p.X<x.X1)&&(decide (p.Y>=x.Y0)&&decide (p.Y<x.Y1)))) hl (fun x _=>by
  unfold iU
  cases decide (p.X>=x.X0) <;> cases decide (p.X<x.X1) <;> cases decide (p.Y>=x.Y0) <;> rfl)];rfl
def rD (l:cT) (b:bU):Bool:=b.gh&&(kl b l.dY&&yF [uk b] l.At)
def sR (l:cT) (p:aH):Bool:=(p.dY==l.dY)&&yF p.lW l.At
def ny (bs:List bU) (pcs:List aH) (l:cT):Option eZ:=match bs.findIdx? (rD l) with
 | some k=>some ⟨true,((k:Nat):Int)⟩
 | none=>(pcs.findIdx? (sR l)).map fun k=>⟨false,((k:Nat):Int)⟩
theorem CF {bs:List bU} {pcs:List aH} (hb:lx bs) (hp:pcs.length<=1073741824) (hr: ∀p∈pcs,p.lW.length<=1073741824) (l:cT):
  gM N bs pcs l=some ((ny bs pcs l).getD ⟨false,0⟩,(ny bs pcs l).isSome):=by
 have hbl:=hb.len
 unfold gM
 rw [nH (fun k=>(bs[k]?).bind fun x=>if rD l x=true then some ((⟨true,((k:Nat):Int)⟩:eZ),true) else none) (by omega) (fun k hk _=>by
  have hkx:bs[k]? =some bs[k]:=aN hk
  have hg:=hb.ok _ (dB hk)
  rw [gl hkx,aB,hkx,kL hg.1,aB,aB,sQ (by simp)]
  unfold rD
  cases bs[k].gh with
  | false=>rfl
  | true=>
   show (((bif kl bs[k] l.dY then _ else _:Option Bool)).bind _)=_
   cases kl bs[k] l.dY with
   | false=>rfl
   | true=>
    cases yF [uk bs[k]] l.At <;> rfl),aB,sP (rD l) (fun k=>((⟨true,((k:Nat):Int)⟩:eZ),true))]
 unfold ny
 cases bs.findIdx? (rD l) with
 | some k=>rfl
 | none=>
  show ((oZ pcs.length _ ()).bind _)=_
  rw [nH (fun k=>(pcs[k]?).bind fun x=>if sR l x=true then some ((⟨false,((k:Nat):Int)⟩:eZ),true) else none) (by omega) (fun k hk _=>by
   have hkx:pcs[k]? =some pcs[k]:=aN hk
   rw [gl hkx,aB,hkx,aB,sQ (by have:=hr _ (dB hk);omega)]
   unfold sR
   cases pcs[k].dY==l.dY with
   | false=>rfl
   | true=>cases yF pcs[k].lW l.At <;> rfl),aB,sP (sR l) (fun k=>((⟨false,((k:Nat):Int)⟩:eZ),true))]
  cases pcs.findIdx? (sR l) <;> rfl
def Lk (n:Nat) (tch:List (List Int)) (i j:Nat):Prop:=∃(k:Nat) (l:List Int),tch[k]? =some l/\((i:Nat):Int)∈l/\j=n+k
structure vT (n m:Nat) (tch:List (List Int)) (r:Nat->Nat):Prop where
 le: ∀i,i<n+m->r i<=i
 rr: ∀i,i<n+m->r (r i)=r i
 co: ∀i j,Lk n tch i j->r i=r j
 fi: ∀S:Nat->Prop,(∀i j,Lk n tch i j->(S i↔S j))->∀i j,i<n+m->j<n+m->r i=r j->S i->S j
theorem wE {n m:Nat} {tch:List (List Int)} (hm:tch.length=m) (ht: ∀l∈tch,l.length<=1073741824/\∀x∈l,∃i:Nat,i<n/\x= ((i:Nat):Int)) (hn:n<=1073741824) (hm2:m<=1073741824) {up:List Int} (hu:UF (n+m) up (fun i=>i)) (hN:4398046511104<=N):
  Ok (ko tch.length (fun(k34:Nat) (s35: (List Int))=>((idx tch (k34:Int)).bind fun x89=>(ko x89.length (fun(k92:Nat) (s93: (List Int))=>((idx x89 (k92:Int)).bind fun x107=>(cQ N s93 x107 (IntKind.wrap .i64 ((n:Int)+ (k34:Int)))).bind fun x109=>some x109:Option ((List Int)))) s35).bind fun s93=>some s93:Option ((List Int)))) up)
   (fun up'=>∃r,UF (n+m) up' r/\vT n m tch r):=by
 have base:Ok (ko tch.length (fun(k34:Nat) (s35: (List Int))=>((idx tch (k34:Int)).bind fun x89=>(ko x89.length (fun(k92:Nat) (s93: (List Int))=>((idx x89 (k92:Int)).bind fun x107=>(cQ N s93 x107 (IntKind.wrap .i64 ((n:Int)+ (k34:Int)))).bind fun x109=>some x109:Option ((List Int)))) s35).bind fun s93=>some s93:Option ((List Int)))) up)
   (fun up'=>∃r E,UF (n+m) up' r/\mG r E/\vg (n+m) r E/\(∀p∈E,Lk n tch p.1 p.2)/\∀(k:Nat) l (i:Nat),k<tch.length->tch[k]? =some l->((i:Nat):Int)∈l->(i,n+k)∈E):=by
  refine Ok.ko (fun q up'=>∃r E,UF (n+m) up' r/\mG r E/\vg (n+m) r E/\(∀p∈E,Lk n tch p.1 p.2)/\∀(k:Nat) l (i:Nat),k<q->tch[k]? =some l->((i:Nat):Int)∈l->(i,n+k)∈E) (by omega)
   ⟨_,_,hu,mG.id,vg.id _,fun p hp=>(by cases hp),fun k l i hk=>by omega⟩ (fun q up' hq hI=>?_)
  obtain⟨r,E,h1,h2,h3,h4,h5⟩:=hI
  have hqx:tch[q]? =some tch[q]:=aN hq
  obtain⟨hl1,hl2⟩:=ht _ (dB hq)
  refine Ok.ix hqx ?_
  rw [wrap_add (by omega)]
  refine Ok.bind (Ok.ko (fun t up'=>∃r E,UF (n+m) up' r/\mG r E/\vg (n+m) r E/\(∀p∈E,Lk n tch p.1 p.2)/\(∀(k:Nat) l (i:Nat),k<q->tch[k]? =some l->((i:Nat):Int)∈l->(i,n+k)∈E)/\∀i:Nat,((i:Nat):Int)∈tch[q].take t->(i,n+q)∈E) (by omega)
   ⟨r,E,h1,h2,h3,h4,h5,fun i hi=>by simp at hi⟩ (fun t up' htl hI=>?_)) (fun up' hI=>Ok.ret ?_)
  ·obtain⟨r,E,h1,h2,h3,h4,h5,h6⟩:=hI
   refine Ok.idx htl ?_
   obtain⟨i,hi,e⟩:=hl2 _ (dB htl)
   rw [e]
   obtain⟨u2,a1,a2⟩:=Dv (N:=N) h1 (i:=i) (k:=n+q) (by omega) (by omega) (by omega)
   refine Ok.eq a1 (Ok.ret ⟨_,_,a2,h2.join i (n+q) (h1.rr i (by omega)),h3.join (by omega) (by omega),fun p hp=>?_,fun k l j hk hl hj=>List.mem_append_left _ (h5 k l j hk hl hj),fun j hj=>?_⟩)
   ·rcases cO.1 hp with hp | hp
    ·exact h4 p hp
    ·simp at hp;subst hp
     exact⟨q,tch[q],hqx,by rw [<-e];exact dB htl,rfl⟩
   ·rw [fS htl,cO] at hj
    rcases hj with hj | hj
    ·exact List.mem_append_left _ (h6 j hj)
    ·rw [List.mem_singleton,e] at hj
     have:j=i:=by omega
     subst this;simp
  ·obtain⟨r,E,h1,h2,h3,h4,h5,h6⟩:=hI
   refine⟨r,E,h1,h2,h3,h4,fun k l i hk hl hi=>?_⟩
   by_cases hkq:k<q
   ·exact h5 k l i hkq hl hi
   ·have:k=q:=by omega
    subst this
    rw [hqx] at hl;injection hl with hl;subst hl
    exact h6 i (by rw [fW];exact hi)
 obtain⟨up',e,r,E,h1,h2,h3,h4,h5⟩:=base
 have hE: ∀i j,Lk n tch i j->(i,j)∈E:=fun i j ⟨k,l,hl,hi,hj⟩=>by
  rw [hj];exact h5 k l i (aW.1 hl).1 hl hi
 exact⟨up',e,r,h1,h1.le,h1.rr,fun i j h=>h2 (i,j) (hE i j h),fun S hS i j hi hj=>h3 S (fun p hp=>hS p.1 p.2 (h4 p hp)) i j hi hj⟩
def vU (bs:List bU) (j:Nat):Bool:=(bs[j]?).any (fun b=>b.gh)
def gP (n:Nat) (c:List Nat):List Nat:=c.filter (fun i=>decide (i<n))
def gB (bs:List bU) (n:Nat) (c:List Nat):List Nat:=(c.filter (fun i=> !decide (i<n)&&vU bs (i - n))).map (fun i=>i - n)
def CG (bs:List bU) (n:Nat) (c:List Nat):Bool:=decide (0< (gP n c).length+ (gB bs n c).length)
def HV (bs:List bU) (n:Nat) (c:List Nat):cP:=⟨ints (gP n c),ints (gB bs n c),[]⟩
theorem An (n:Nat) (c:List Nat) (i:Nat):gP n (c++[i])=if i<n then gP n c++[i] else gP n c:=by
 unfold gP;rw [iA];split <;> rename_i h <;> simp [h]
theorem Ao (bs:List bU) (n:Nat) (c:List Nat) (i:Nat):gB bs n (c++[i])=if i<n then gB bs n c else if vU bs (i - n)=true then gB bs n c++[i - n] else gB bs n c:=by
 unfold gB;rw [iA,eY]
 split
 ·rename_i h;simp [h]
 ·rename_i h
  split <;> rename_i h2 <;> simp [h,h2]
theorem CH (n:Nat) (c:List Nat): (gP n c).length<=c.length:=lz _ _
theorem CI (bs:List bU) (n:Nat) (c:List Nat): (gB bs n c).length<=c.length:=by unfold gB;rw [gU];exact lz _ _
def live (bs:List bU) (n t:Nat) (r:Nat->Nat) (hs:List Nat):List Nat:=hs.filter (fun h=>CG bs n (cls t r h))
def oC (bs:List bU) (n t:Nat) (r:Nat->Nat) (hs:List Nat):List cP:=(live bs n t r hs).map (fun h=>HV bs n (cls t r h))
theorem Bn (bs:List bU) (n t:Nat) (r:Nat->Nat) (hs:List Nat) (h:Nat):live bs n t r (hs++[h])=if CG bs n (cls t r h)=true then live bs n t r hs++[h] else live bs n t r hs:=by
 unfold live;rw [iA];split <;> rename_i h2 <;> simp [h2]
theorem sS (bs:List bU) (n t:Nat) (r:Nat->Nat) (hs:List Nat): (oC bs n t r hs).length= (live bs n t r hs).length:=by unfold oC;rw [gU]
def gi (bs:List bU) (n t:Nat) (r:Nat->Nat) (h:Nat):Nat:=(live bs n t r ((bL t r).takeWhile (fun x=>decide (x≠h)))).length
theorem qV {l:List Nat} (hn:l.Nodup) {k h:Nat} (hk:l[k]? =some h):l.takeWhile (fun x=>decide (x≠h))=l.take k:=by
 induction l generalizing k with
 | nil=>simp at hk
 | cons a l ih=>
  cases k with
  | zero=>simp at hk;subst hk;simp
  | succ k=>
   have hk:l[k]? =some h:=by simpa using hk
   have hne:a≠h:=fun e=>(List.nodup_cons.1 hn).1 (by rw [e];exact ga hk)
   rw [List.takeWhile_cons,aC (by simpa using hne),List.take_succ_cons,ih (List.nodup_cons.1 hn).2 hk]
theorem sT (bs:List bU) (n t:Nat) (r:Nat->Nat) (hs:List Nat): (live bs n t r hs).length<=hs.length:=lz _ _
theorem CJ {bs:List bU} {n t:Nat} {r:Nat->Nat} {h:Nat} (hh:h∈bL t r) (hne:CG bs n (cls t r h)=true):gi bs n t r h< (live bs n t r (bL t r)).length/\(live bs n t r (bL t r))[gi bs n t r h]? =some h:=by
 obtain⟨k,hk⟩:=fw hh
 have hkl:=(aW.1 hk).1
 unfold gi
 rw [qV (kK t r) hk]
 have e:bL t r= (bL t r).take k++h::(bL t r).drop (k+1):=by
  have h1:=(List.take_append_drop k (bL t r)).symm
  rw [pY hkl,(aW.1 hk).2] at h1;exact h1
 have e2:live bs n t r (bL t r)=live bs n t r ((bL t r).take k)++h::live bs n t r ((bL t r).drop (k+1)):=by
  conv=>lhs;rw [e]
  unfold live
  rw [iA,List.filter_cons,aC hne]
 constructor
 ·rw [e2];simp
 ·rw [e2]
  simp
end
end Go.Gk
namespace Go.Gk
open Go Classical
section
variable {N:Nat}
theorem wF {l:List Nat} (h:l.Nodup) {i j a:Nat} (hi:l[i]? =some a) (hj:l[j]? =some a):i=j:=
 (List.getElem_inj (h₀:=(aW.1 hi).1) (h₁:=(aW.1 hj).1) h).1 (by rw [(aW.1 hi).2,(aW.1 hj).2])
theorem qw {n i k:Nat} {r:Nat->Nat}:i∈cls n r k↔i<n/\r i=k:=by unfold cls;simp
theorem Bo (n:Nat) (r:Nat->Nat) (k:Nat): (cls n r k).Nodup:=List.Nodup.sublist List.filter_sublist List.nodup_range
structure F3 (bs:List bU) (n m:Nat) (r:Nat->Nat) (hs:List Nat) (ofP ofB:List Int):Prop where
 lp:ofP.length=n
 lb:ofB.length=m
 pc: ∀i,i<n->r i∈hs->ofP[i]? =some ((gi bs n (n+m) r (r i):Nat):Int)
 bo: ∀j,j<m->r (n+j)∈hs->ofB[j]? =some (if vU bs j=true then ((gi bs n (n+m) r (r (n+j)):Nat):Int) else -1)
theorem yG {bs:List bU} {n m:Nat} {r:Nat->Nat} (hm:bs.length=m) (hn:n<=1073741824) (hm2:m<=1073741824) {op ob:List Int} (hop:op.length=n) (hob:ob.length=m)
  {body:Nat->List cP×List Int×List Int->Option (List cP×List Int×List Int)}
  (hbody:body= (fun(k123:Nat) (s124: (List cP)×(List Int)×(List Int))=>((idx (mH (n+m) r) (k123:Int)).bind fun x455=>(ko x455.length (fun(k458:Nat) (s459: (List Int)×(List Int)×(List Int)×(List Int))=>((idx x455 (k458:Int)).bind fun x556=>(bif (decide (x556< (n:Int))) then ((idx s459.1 x556).bind fun x580=>(app 8 s459.2.2.1 ([x556]: (List Int))).bind fun x582=>some ((s459.1.set (Int.toNat x556) (s124.1.length:Int)),s459.2.1,x582,s459.2.2.2)) else ((idx bs (IntKind.wrap .i64 (x556 - (n:Int)))).bind fun x584=>(bif x584.gh then ((idx s459.2.1 (IntKind.wrap .i64 (x556 - (n:Int)))).bind fun x594=>(app 8 s459.2.2.2 ([(IntKind.wrap .i64 (x556 - (n:Int)))]: (List Int))).bind fun x596=>some ((s459.2.1.set (Int.toNat (IntKind.wrap .i64 (x556 - (n:Int)))) (s124.1.length:Int)),x596)) else ((idx s459.2.1 (IntKind.wrap .i64 (x556 - (n:Int)))).bind fun x598=>some ((s459.2.1.set (Int.toNat (IntKind.wrap .i64 (x556 - (n:Int)))) (-1)),s459.2.2.2))).bind fun s592=>some (s459.1,s592.1,s459.2.2.1,s592.2))).bind fun s577=>some (s577.1,s577.2.1,s577.2.2.1,s577.2.2.2):Option ((List Int)×(List Int)×(List Int)×(List Int)))) (s124.2.1,s124.2.2,([]: (List Int)),([]: (List Int)))).bind fun s459=>(bif (decide ((IntKind.wrap .i64 ((s459.2.2.1.length:Int)+ (s459.2.2.2.length:Int)))>0)) then ((app 72 s124.1 [(⟨s459.2.2.1,s459.2.2.2,([]: (List eK))⟩:cP)]).bind fun x610=>some x610) else (some s124.1)).bind fun s606=>some (s606,s459.1,s459.2.1):Option ((List cP)×(List Int)×(List Int))))):
  Ok (ko (mH (n+m) r).length body ([],op,ob)) (fun st=>st.1=oC bs n (n+m) r (bL (n+m) r)/\F3 bs n m r (bL (n+m) r) st.2.1 st.2.2):=by
 subst hbody
 have hsl: (mH (n+m) r).length= (bL (n+m) r).length:=by unfold mH;simp
 have hhl:=mm (n+m) r
 refine Ok.mono (Ok.ko (fun(k:Nat) (st:List cP×List Int×List Int)=>st.1=oC bs n (n+m) r ((bL (n+m) r).take k)/\F3 bs n m r ((bL (n+m) r).take k) st.2.1 st.2.2) (by omega) ⟨rfl,hop,hob,fun i hi h=>by simp at h,fun j hj h=>by simp at h⟩ (fun k st hk hI=>?_)) (fun st h=>by rw [hsl,fW] at h;exact h)
 obtain⟨gs,ofP,ofB⟩:=st
 obtain⟨e1,I⟩:=hI
 dsimp only at e1 I ⊢
 subst e1
 rw [hsl] at hk
 have hkx: (bL (n+m) r)[k]? =some (bL (n+m) r)[k]:=aN hk
 have hts: (bL (n+m) r).take (k+1)= (bL (n+m) r).take k++[(bL (n+m) r)[k]]:=fS hk
 have hgk:gi bs n (n+m) r (bL (n+m) r)[k]= (oC bs n (n+m) r ((bL (n+m) r).take k)).length:=by
  unfold gi;rw [qV (kK _ _) hkx,sS]
 generalize hh: (bL (n+m) r)[k]=h at *
 have hsx: (mH (n+m) r)[k]? =some (ints (cls (n+m) r h)):=by unfold mH;rw [gR,hkx];rfl
 refine Ok.ix hsx ?_
 have hcl:=xq (n+m) r h
 rw [kY]
 have hgl: (oC bs n (n+m) r ((bL (n+m) r).take k)).length<=n+m:=by
  rw [sS]
  have:=sT bs n (n+m) r ((bL (n+m) r).take k)
  rw [cR] at this;omega
 have hold: ∀i∈cls (n+m) r h,∀i',r i'∈(bL (n+m) r).take k->i≠i':=fun i hi i' hi' e=>by
  subst e
  rw [(qw.1 hi).2] at hi'
  obtain⟨j,hj⟩:=fw hi'
  have hjk:j<k:=by have:=(aW.1 hj).1;rw [cR] at this;omega
  rw [List.getElem?_take_of_lt hjk] at hj
  have:=wF (kK (n+m) r) hj hkx
  omega
 refine Ok.bind (P:=fun s'=>F3 bs n m r ((bL (n+m) r).take (k+1)) s'.1 s'.2.1/\s'.2.2.1=ints (gP n (cls (n+m) r h))/\s'.2.2.2=ints (gB bs n (cls (n+m) r h))) (Ok.mono (Ok.ko
  (fun(t:Nat) (s':List Int×List Int×List Int×List Int)=>F3 bs n m r ((bL (n+m) r).take k) s'.1 s'.2.1/\s'.2.2.1=ints (gP n ((cls (n+m) r h).take t))/\s'.2.2.2=ints (gB bs n ((cls (n+m) r h).take t))/\
   (∀i∈(cls (n+m) r h).take t,i<n->s'.1[i]? =some ((gi bs n (n+m) r h:Nat):Int))/\∀i∈(cls (n+m) r h).take t,¬i<n->s'.2.1[i - n]? =some (if vU bs (i - n)=true then ((gi bs n (n+m) r h:Nat):Int) else -1)) (by omega)
   ⟨I,rfl,rfl,fun i hi=>by simp at hi,fun i hi=>by simp at hi⟩ (fun t s' ht hI'=>?_)) ?_) ?_
 ·obtain⟨oP,oB,pp,bb⟩:=s'
  obtain⟨J,e2,e3,J1,J2⟩:=hI'
  dsimp only at J e2 e3 J1 J2 ⊢
  subst e2;subst e3
  have htx: (ints (cls (n+m) r h))[t]? =some (((cls (n+m) r h)[t]:Nat):Int):=by unfold ints;rw [gR,aN ht];rfl
  refine Ok.ix htx ?_
  have htt: (cls (n+m) r h).take (t+1)= (cls (n+m) r h).take t++[(cls (n+m) r h)[t]]:=fS ht
  have hcm:=dB ht
  have hdist: ∀i∈(cls (n+m) r h).take t,i≠(cls (n+m) r h)[t]:=fun i hi e=>by
   obtain⟨j,hj⟩:=fw hi
   have hjt:j<t:=by have:=(aW.1 hj).1;rw [cR] at this;omega
   rw [List.getElem?_take_of_lt hjt] at hj
   have:=wF (Bo (n+m) r h) hj (by rw [e];exact aN ht)
   omega
  generalize (cls (n+m) r h)[t]=c at *
  obtain⟨hc1,hc2⟩:=qw.1 hcm
  have hgp:=CH n ((cls (n+m) r h).take t)
  have hgb:=CI bs n ((cls (n+m) r h).take t)
  rw [cR] at hgp hgb
  by_cases hcn:c<n
  ·rw [cG (by omega: ((c:Nat):Int)< ((n:Nat):Int)),aU]
   refine Ok.bind (P:=fun x=>x= (oP.set c ((gi bs n (n+m) r h:Nat):Int),oB,ints (gP n ((cls (n+m) r h).take t))++[((c:Nat):Int)],ints (gB bs n ((cls (n+m) r h).take t)))) ?_ ?_
   ·refine Ok.idx (by rw [J.lp];exact hcn) (Ok.app (by rw [kY];simp;omega) (Ok.ret ?_))
    rw [bS,hgk]
   ·rintro _ rfl
    refine Ok.ret ⟨⟨by simp [J.lp],J.lb,fun i hi hr=>?_,J.bo⟩,?_,?_,fun i hi hin=>?_,fun i hi hin=>?_⟩
    ·dsimp only
     rw [kx (by rw [J.lp];exact hcn),aD (fun e=>hold c hcm i hr e.symm)];exact J.pc i hi hr
    ·dsimp only;rw [htt,An,aC hcn,pR];rfl
    ·dsimp only;rw [htt,Ao,aC hcn]
    ·dsimp only
     rw [kx (by rw [J.lp];exact hcn)]
     split
     ·rfl
     ·rename_i hne
      rw [htt] at hi
      rcases cO.1 hi with hi | hi
      ·exact J1 i hi hin
      ·exact absurd (by simpa using hi) hne
    ·rw [htt] at hi
     rcases cO.1 hi with hi | hi
     ·exact J2 i hi hin
     ·have:i=c:=by simpa using hi
      subst this;exact absurd hcn hin
  ·rw [bP (by omega: ¬((c:Nat):Int)< ((n:Nat):Int)),aY]
   have hw:IntKind.wrap .i64 (((c:Nat):Int) - ((n:Nat):Int))= ((c - n:Nat):Int):=by rw [eE (by omega) (by omega)];omega
   have hcm2:c - n<bs.length:=by omega
   have hpl:vU bs (c - n)=bs[c - n].gh:=by unfold vU;rw [aN hcm2];rfl
   rw [hw]
   refine Ok.bind (P:=fun x=>x= (oP,oB.set (c - n) (if vU bs (c - n)=true then ((gi bs n (n+m) r h:Nat):Int) else -1),ints (gP n ((cls (n+m) r h).take t)),ints (gB bs n ((cls (n+m) r h).take t++[c])))) ?_ ?_
   ·refine Ok.idx hcm2 ?_
    rw [Ao,aD hcn,hpl]
    cases hp:bs[c - n].gh with
    | true=>
     rw [aU,aC rfl,aC rfl]
     refine Ok.eq (x:=(oB.set (c - n) ((gi bs n (n+m) r h:Nat):Int),ints (gB bs n ((cls (n+m) r h).take t)++[c - n]))) ?_ (Ok.ret rfl)
     rw [iC _ _ (by rw [J.lb];omega),aB,ij (by rw [kY];simp;omega),aB,bS,hgk,pR];rfl
    | false=>
     rw [aY,aD (by simp),aD (by simp)]
     refine Ok.eq (x:=(oB.set (c - n) (-1),ints (gB bs n ((cls (n+m) r h).take t)))) ?_ (Ok.ret rfl)
     rw [iC _ _ (by rw [J.lb];omega),aB,bS]
   ·rintro _ rfl
    refine Ok.ret ⟨⟨J.lp,by simp [J.lb],J.pc,fun j hj hr=>?_⟩,?_,?_,fun i hi hin=>?_,fun i hi hin=>?_⟩
    ·dsimp only
     rw [kx (by rw [J.lb];omega),aD (fun e=>hold c hcm (n+j) hr (by omega))];exact J.bo j hj hr
    ·dsimp only;rw [htt,An,aD hcn]
    ·dsimp only;rw [htt]
    ·rw [htt] at hi
     rcases cO.1 hi with hi | hi
     ·exact J1 i hi hin
     ·have:i=c:=by simpa using hi
      subst this;exact absurd hin hcn
    ·dsimp only
     rw [kx (by rw [J.lb];omega)]
     split
     ·rename_i e;rw [e]
     ·rename_i hne
      rw [htt] at hi
      rcases cO.1 hi with hi | hi
      ·exact J2 i hi hin
      ·exact absurd (by have:i=c:=(by simpa using hi);rw [this]) hne
 ·rintro⟨oP,oB,pp,bb⟩ ⟨J,e2,e3,J1,J2⟩
  dsimp only at J e2 e3 J1 J2 ⊢
  rw [fW] at e2 e3 J1 J2
  refine⟨⟨J.lp,J.lb,fun i hi hr=>?_,fun j hj hr=>?_⟩,e2,e3⟩
  ·rw [hts] at hr
   rcases cO.1 hr with hr | hr
   ·exact J.pc i hi hr
   ·have hr:r i=h:=by simpa using hr
    rw [hr];exact J1 i (qw.2 ⟨by omega,hr⟩) hi
  ·rw [hts] at hr
   rcases cO.1 hr with hr | hr
   ·exact J.bo j hj hr
   ·have hr:r (n+j)=h:=by simpa using hr
    rw [hr]
    have:=J2 (n+j) (qw.2 ⟨by omega,hr⟩) (by omega)
    rwa [Nat.add_sub_cancel_left] at this
 ·rintro⟨oP,oB,pp,bb⟩ ⟨J,e2,e3⟩
  dsimp only at J e2 e3 ⊢
  subst e2;subst e3
  have hgp:=CH n (cls (n+m) r h)
  have hgb:=CI bs n (cls (n+m) r h)
  rw [kY,kY,wrap_add (by omega)]
  have hgs:oC bs n (n+m) r ((bL (n+m) r).take (k+1))=if CG bs n (cls (n+m) r h)=true then oC bs n (n+m) r ((bL (n+m) r).take k)++[HV bs n (cls (n+m) r h)] else oC bs n (n+m) r ((bL (n+m) r).take k):=by
   unfold oC
   rw [hts,Bn]
   split
   ·rw [eY];rfl
   ·rfl
  refine Ok.bind (P:=fun x=>x=oC bs n (n+m) r ((bL (n+m) r).take (k+1))) (Ok.bif (fun hb=>?_) (fun hb=>Ok.ret ?_)) (fun x e=>Ok.ret ⟨e,J⟩)
  ·have hne:CG bs n (cls (n+m) r h)=true:=cG (by have:=of_decide_eq_true hb;omega)
   refine Ok.app (by simp;omega) (Ok.ret ?_)
   rw [hgs,aC hne];rfl
  ·have hne: ¬CG bs n (cls (n+m) r h)=true:=fun h'=>by
    have h1:=of_decide_eq_true h'
    have h2:=of_decide_eq_false hb
    omega
   rw [hgs,aD hne]
end
end Go.Gk
namespace Go.Gk
open Go Classical
section
variable {N:Nat}
def iq (n:Nat) (h:eZ):Nat:=if h.bU=true then n+h.Number.toNat else h.Number.toNat
structure F4 (bs:List bU) (n m:Nat) (h:eZ):Prop where
 num: ∃k:Nat,h.Number= ((k:Nat):Int)/\(h.bU=true->k<m/\vU bs k=true)/\(h.bU=false->k<n)
theorem zG {bs:List bU} {pcs:List aH} {l:cT} {h:eZ} (hh:ny bs pcs l=some h):F4 bs pcs.length bs.length h:=by
 unfold ny at hh
 cases hf:bs.findIdx? (rD l) with
 | some k=>
  rw [hf] at hh
  injection hh with hh;subst hh
  obtain⟨hk,hp,_⟩:=List.findIdx?_eq_some_iff_getElem.1 hf
  refine⟨k,rfl,fun _=>⟨hk,?_⟩,fun h=>by cases h⟩
  unfold rD at hp
  unfold vU
  rw [aN hk]
  rw [bM] at hp
  exact hp.1
 | none=>
  rw [hf] at hh
  dsimp only at hh
  rw [Option.map_eq_some_iff] at hh
  obtain⟨k,hk,rfl⟩:=hh
  obtain⟨hk,_⟩:=List.findIdx?_eq_some_iff_getElem.1 hk
  exact⟨k,rfl,fun h=>(by cases h),fun _=>hk⟩
def qx (bs:List bU) (pcs:List aH) (r:Nat->Nat) (l:cT):Option Nat:=(ny bs pcs l).map fun h=>gi bs pcs.length (pcs.length+bs.length) r (r (iq pcs.length h))
def Ap (bs:List bU) (pcs:List aH) (r:Nat->Nat) (l:cT):Int:=match qx bs pcs r l with | some g=>((g:Nat):Int) | none=> -1
def gQ (gs:List cP) (lg:cT->Option Nat) (ls:List cT):List cP:=gs.mapIdx (fun g x=>{x with gV:=(ls.filter (fun l=>decide (lg l=some g))).map j6})
theorem i5 {gs:List cP} {lg:cT->Option Nat} {ls:List cT} {g:Nat}: (gQ gs lg ls)[g]? = (gs[g]?).map fun x=>{x with gV:=(ls.filter (fun l=>decide (lg l=some g))).map j6}:=by
 unfold gQ;rw [List.getElem?_mapIdx]
theorem xv (gs:List cP) (lg:cT->Option Nat) (ls:List cT): (gQ gs lg ls).length=gs.length:=by unfold gQ;rw [List.length_mapIdx]
theorem vV {gs:List cP} {lg:cT->Option Nat} {ls:List cT} {l:cT} (h:lg l=none):gQ gs lg (ls++[l])=gQ gs lg ls:=by
 apply List.ext_getElem?
 intro g
 rw [i5,i5]
 congr 2
 funext x
 rw [iA]
 simp [h]
theorem xw {gs:List cP} {lg:cT->Option Nat} {ls:List cT} {l:cT} {k:Nat} {x:cP} (h:lg l=some k) (hx: (gQ gs lg ls)[k]? =some x):
  (gQ gs lg ls).set k {x with gV:=x.gV++[j6 l]}=gQ gs lg (ls++[l]):=by
 apply List.ext_getElem?
 intro g
 have hk:=(aW.1 hx).1
 rw [eD]
 by_cases e:k=g
 ·subst e
  rw [aC rfl,aC hk,i5]
  rw [i5,Option.map_eq_some_iff] at hx
  obtain⟨y,hy,rfl⟩:=hx
  rw [hy,iA]
  simp [h]
 ·rw [aD e,i5,i5]
  congr 2
  funext x
  rw [iA]
  have: ¬(lg l=some g):=by rw [h];intro h';injection h' with h';exact e h'
  simp [this]
theorem DT {bs:List bU} {n t:Nat} {r:Nat->Nat} {i:Nat} (hi:i<n) (ht:i<t):CG bs n (cls t r (r i))=true:=by
 unfold CG
 rw [bW]
 have:i∈gP n (cls t r (r i)):=iz.2 ⟨qw.2 ⟨ht,rfl⟩,by simpa using hi⟩
 have:=List.length_pos_of_mem this
 omega
theorem DU {bs:List bU} {n t:Nat} {r:Nat->Nat} {j:Nat} (hp:vU bs j=true) (ht:n+j<t):CG bs n (cls t r (r (n+j)))=true:=by
 unfold CG
 rw [bW]
 have:j∈gB bs n (cls t r (r (n+j))):=cH.2 ⟨n+j,iz.2 ⟨qw.2 ⟨ht,rfl⟩,by simp [hp]⟩,by omega⟩
 have:=List.length_pos_of_mem this
 omega
structure zH (bs:List bU) (ls:List cT) (pcs:List aH) (r:Nat->Nat) (gs:List cP) (ofP ofB nX:List Int) (oD:List eZ):Prop where
 conn:vT pcs.length bs.length (k6 bs pcs) r
 gs:gs=gQ (oC bs pcs.length (pcs.length+bs.length) r (bL (pcs.length+bs.length) r)) (qx bs pcs r) ls
 of:F3 bs pcs.length bs.length r (bL (pcs.length+bs.length) r) ofP ofB
 nX:nX=ls.map (Ap bs pcs r)
 oD:oD=ls.map (fun l=>(ny bs pcs l).getD ⟨false,0⟩)
theorem yH {bs:List bU} {pcs:List aH} (hp:pcs.length<=1073741824): ∀l∈k6 bs pcs,l.length<=1073741824/\∀x∈l,∃i:Nat,i<pcs.length/\x= ((i:Nat):Int):=by
 intro l hl
 unfold k6 at hl
 obtain⟨b,_,rfl⟩:=cH.1 hl
 have:=wD (kZ b) pcs pcs.length
 refine⟨by rw [kY];omega,fun x hx=>?_⟩
 obtain⟨i,hi,rfl⟩:=vu.1 hx
 exact⟨i,(Bm.1 hi).1,rfl⟩
theorem xx {bs:List bU} {ls:List cT} {pcs:List aH} (hb:lx bs) (hp:pcs.length<=1000000000) (hr: ∀p∈pcs,p.lW.length<=1073741824) (hl:ls.length<=1073741824) (hN:4398046511104<=N):
  Ok (dZ N bs ls pcs (k6 bs pcs) [] [] [] []) (fun x=>∃r,zH bs ls pcs r x.1 x.2.1 x.2.2.1 x.2.2.2.1 x.2.2.2.2):=by
 have hbl:=hb.len
 unfold dZ
 rw [wrap_add (by omega)]
 obtain⟨up0,u1,u2⟩:=tV (N:=N) (n:=pcs.length+bs.length) (by omega)
 refine Ok.eq u1 ?_
 refine Ok.bind (wE (n:=pcs.length) (m:=bs.length) (by unfold k6;simp) (yH (by omega)) (by omega) (by omega) u2 hN) ?_
 rintro up1 ⟨r,v1,v2⟩
 refine Ok.eq (qh 0 (by omega)) (Ok.eq (qh 0 (by omega)) ?_)
 obtain⟨up2,w1,_⟩:=Dw (N:=N) v1 (by omega) (by omega)
 refine Ok.eq w1 ?_
 refine Ok.bind (yG (bs:=bs) (n:=pcs.length) (m:=bs.length) (r:=r) rfl (by omega) (by omega) (op:=List.replicate pcs.length 0) (ob:=List.replicate bs.length 0) (by simp) (by simp) rfl) ?_
 rintro⟨gs,ofP,ofB⟩ ⟨e1,I⟩
 dsimp only at e1 I ⊢
 subst e1
 have hgl: (oC bs pcs.length (pcs.length+bs.length) r (bL (pcs.length+bs.length) r)).length<=pcs.length+bs.length:=by
  rw [sS]
  have:=sT bs pcs.length (pcs.length+bs.length) r (bL (pcs.length+bs.length) r)
  have:=mm (pcs.length+bs.length) r
  omega
 refine Ok.bind (Ok.ko (fun(k:Nat) (st:List cP×List Int×List Int×List Int×List eZ)=>st= (gQ (oC bs pcs.length (pcs.length+bs.length) r (bL (pcs.length+bs.length) r)) (qx bs pcs r) (ls.take k),ofP,ofB,(ls.take k).map (Ap bs pcs r),(ls.take k).map (fun l=>(ny bs pcs l).getD ⟨false,0⟩))) (by omega) ?_ (fun k st hk e=>?_)) ?_
 ·congr 1
  unfold gQ
  apply List.ext_getElem?
  intro g
  rw [List.getElem?_mapIdx]
  unfold oC
  rw [gR]
  cases (live bs pcs.length (pcs.length+bs.length) r (bL (pcs.length+bs.length) r))[g]? <;> rfl
 ·subst e
  dsimp only
  have hts:ls.take (k+1)=ls.take k++[ls[k]]:=fS hk
  refine Ok.idx hk (Ok.eq (CF hb (by omega) hr _) ?_)
  dsimp only
  refine Ok.bind (P:=fun x=>x= (gQ (oC bs pcs.length (pcs.length+bs.length) r (bL (pcs.length+bs.length) r)) (qx bs pcs r) (ls.take k++[ls[k]]),Ap bs pcs r ls[k])) ?_ ?_
  ·cases hh:ny bs pcs ls[k] with
   | none=>
    refine Ok.ret ?_
    have h1:qx bs pcs r ls[k]=none:=by unfold qx;rw [hh];rfl
    rw [vV h1]
    unfold Ap;rw [h1]
   | some h=>
    have h1:qx bs pcs r ls[k]=some (gi bs pcs.length (pcs.length+bs.length) r (r (iq pcs.length h))):=by unfold qx;rw [hh];rfl
    have h2:Ap bs pcs r ls[k]= ((gi bs pcs.length (pcs.length+bs.length) r (r (iq pcs.length h)):Nat):Int):=by unfold Ap;rw [h1]
    obtain⟨q,q1,q2,q3⟩:=(zG hh).num
    have hix:iq pcs.length h<pcs.length+bs.length/\CG bs pcs.length (cls (pcs.length+bs.length) r (r (iq pcs.length h)))=true/\eU N ofP ofB h=some ((gi bs pcs.length (pcs.length+bs.length) r (r (iq pcs.length h)):Nat):Int):=by
     unfold eU iq
     rw [q1,bS]
     cases hbo:h.bU with
     | true=>
      obtain⟨q4,q5⟩:=q2 hbo
      rw [aU,aC rfl]
      refine⟨by omega,DU q5 (by omega),?_⟩
      have:=I.bo q q4 (hG.2 ⟨by have:=v2.le (pcs.length+q) (by omega);omega,v2.rr _ (by omega)⟩)
      rw [aC q5] at this
      rw [gl this,aB]
     | false=>
      have q4:=q3 hbo
      rw [aY,aD (by simp)]
      refine⟨by omega,DT q4 (by omega),?_⟩
      have:=I.pc q q4 (hG.2 ⟨by have:=v2.le q (by omega);omega,v2.rr _ (by omega)⟩)
      rw [gl this,aB]
    obtain⟨i1,i2,i3⟩:=hix
    have hgi:=CJ (r:=r) (t:=pcs.length+bs.length) (bs:=bs) (n:=pcs.length) (h:=r (iq pcs.length h)) (hG.2 ⟨by have:=v2.le _ i1;omega,v2.rr _ i1⟩) i2
    have hgx:gi bs pcs.length (pcs.length+bs.length) r (r (iq pcs.length h))< (gQ (oC bs pcs.length (pcs.length+bs.length) r (bL (pcs.length+bs.length) r)) (qx bs pcs r) (ls.take k)).length:=by
     rw [xv,sS];exact hgi.1
    rw [h2]
    dsimp only [Option.getD,Option.isSome]
    rw [aU]
    refine Ok.eq i3 ?_
    generalize gi bs pcs.length (pcs.length+bs.length) r (r (iq pcs.length h))=g at *
    refine Ok.idx hgx (Ok.eq (tM _) ?_)
    have hpl: ((gQ (oC bs pcs.length (pcs.length+bs.length) r (bL (pcs.length+bs.length) r)) (qx bs pcs r) (ls.take k))[g]).gV.length<=ls.length:=by
     have:=i5 (gs:=oC bs pcs.length (pcs.length+bs.length) r (bL (pcs.length+bs.length) r)) (lg:=qx bs pcs r) (ls:=ls.take k) (g:=g)
     rw [aN hgx] at this
     have:=this.symm
     rw [Option.map_eq_some_iff] at this
     obtain⟨y,_,hy⟩:=this
     rw [<-hy,gU]
     have:=lz (fun l=>decide (qx bs pcs r l=some g)) (ls.take k)
     rw [cR] at this;omega
    refine Ok.app (by simp;omega) (Ok.idx hgx (Ok.ret ?_))
    rw [bS]
    congr 1
    exact xw h1 (aN hgx)
  ·rintro _ rfl
   dsimp only
   refine Ok.app (by simp;omega) (Ok.app (by simp;omega) (Ok.ret ?_))
   rw [hts,eY,eY];rfl
 ·rintro st rfl
  dsimp only
  rw [fW]
  exact Ok.ret ⟨r,v2,rfl,I,rfl,rfl⟩
end
end Go.Gk
namespace Go.Gk
open Go Classical
section
variable {N:Nat}
theorem wG {p:aH}: ∀{fO:List (List (List aA))} {k:Nat},p∈cM k fO->∃(i:Nat) (ps:List (List aA)) (q:List aA),fO[i]? =some ps/\q∈ps/\p= ⟨((k+i:Nat):Int),q,aK q⟩
 | [],k,h=>by cases h
 | ps::fO,k,h=>by
  rcases cO.1 h with h | h
  ·obtain⟨q,hq,rfl⟩:=cH.1 h
   exact⟨0,ps,q,rfl,hq,rfl⟩
  ·obtain⟨i,ps',q,h1,h2,h3⟩:=wG h
   refine⟨i+1,ps',q,by simpa using h1,h2,?_⟩
   rw [h3,show k+1+i=k+ (i+1) by omega]
structure me (a:jS):Prop where
 Al:0<a.aJ.length/\a.aJ.length<=16
 Ia: ∀r∈a.aJ,gY r=0
 out:gY a.dJ=0
 many:a.dJ.length+ (a.aJ.map List.length).sum<=2000
 sU:kj a=0
 tX:jN a=0
theorem me.gb {a:jS} (h:me a):lx a.aS:=⟨(nv h.sU).1,fun b hb=>⟨((nv h.sU).2 b hb).1,((nv h.sU).2 b hb).2.1⟩⟩
theorem me.cs {a:jS} (h:me a): ∀r∈a.aJ,r.length<=2000/\∀x∈r,yR x:=fun r hr=>CD (pP.1 (h.Ia r hr)).1
structure sV (a:jS) (lh:List (List aA)) (fO:List (List (List aA))) (p:aH) (i:Nat) (r:List aI) (s:List aA) (ps:List (List aA)) (u:Nat->Nat) (j k:Nat):Prop where
 Ib:a.aJ[i]? =some r
 lh:lh[i]? =some s
 fO:fO[i]? =some ps
 dr:qu r (mJ a.aS ((i:Nat):Int)) s
 pt:oz s u ps
 at_:ps[j]? =some p.Set
 head: (bL (aK s).length u)[j]? =some k
 set:m6 (kO (aK s) (aK s).length u k) p.Set
 lim:rH (nP r++nP (mJ a.aS ((i:Nat):Int))) (kf r++kf (mJ a.aS ((i:Nat):Int))) (p.Set.map bD)
 F5:p.dY= ((i:Nat):Int)
 F6:p.lW=aK p.Set
theorem CK {a:jS} {lh:List (List aA)} {fO:List (List (List aA))} (hg:me a) (hD:rC a.aJ a.aS a.aJ.length lh fO) {p:aH} (hp:p∈cM 0 fO): ∃i r s ps u j k,sV a lh fO p i r s ps u j k:=by
 obtain⟨i,ps,q,h1,h2,rfl⟩:=wG hp
 have hil:i<a.aJ.length:=by have:=(aW.1 h1).1;rw [hD.zC] at this;exact this
 have hc:a.aJ[i]? =some a.aJ[i]:=aN hil
 have hd:lh[i]? =some (lh[i]'(by rw [hD.len];exact hil)):=aN _
 have hdr:=hD.dr i _ _ hil hc hd
 obtain⟨u,hu⟩:=hD.pt i _ ps hil hd h1
 obtain⟨sx,sy⟩:=hdr.small (hg.cs _ (dB hil)).2 (fun x hx=>(yE hg.gb _ x hx).1)
 obtain⟨j,k,g1,g2,g3,g4⟩:=vt hu hdr.can hdr.lim sx sy h2
 exact⟨i,_,_,ps,u,j,k,hc,hd,h1,hdr,hu,g1,g2,g3,g4,by rw [fI],rfl⟩
theorem sV.CB {a:jS} {lh:List (List aA)} {fO:List (List (List aA))} (hg:me a) {p:aH} {i:Nat} {r:List aI} {s:List aA} {ps:List (List aA)} {u:Nat->Nat} {j k:Nat} (h:sV a lh fO p i r s ps u j k):
  p.Set.length<=5000/\(∀b∈p.Set,b.Xs.length<=5000)/\p.lW.length<=5000*5000:=by
 have h1:=(hg.cs r (ga h.Ib)).1
 have h2:=wC hg.gb ((i:Nat):Int)
 rw [h.F6]
 exact tN (A:=5000) h.set.can h.lim (by rw [dR,kg,kg];omega) (by rw [dR,iN,iN];omega)
def Aq (a0 a1 b0 b1:Int):Bool:=decide (b0<a1)&&decide (a0<b1)
def CL (a b:aI):Bool:=Aq a.X0 a.X1 b.X0 b.X1&&Aq a.Y0 a.Y1 b.Y0 b.Y1
theorem vv {a0 a1 b0 b1:Int} (h1: -1000000<=a0/\a0<=1000000) (h2: -1000000<=a1/\a1<=1000000) (h3: -1000000<=b0/\b0<=1000000) (h4: -1000000<=b1/\b1<=1000000): ∃n,jd N a0 a1 b0 b1=some n/\0<=n/\(n=0↔Aq a0 a1 b0 b1=true):=by
 unfold jd Aq
 have e1:IntKind.wrap .i64 (b0 - a1)=b0 - a1:=eE (by omega) (by omega)
 have e2:IntKind.wrap .i64 (a0 - b1)=a0 - b1:=eE (by omega) (by omega)
 have e3:IntKind.wrap .i64 (b0 - a1+1)=b0 - a1+1:=eE (by omega) (by omega)
 have e4:IntKind.wrap .i64 (a0 - b1+1)=a0 - b1+1:=eE (by omega) (by omega)
 rw [e1,e2,e3,e4]
 refine⟨_,rfl,?_,?_⟩
 ·repeat' split
  all_goals omega
 ·rw [bM,bW,bW]
  repeat' split
  all_goals omega
theorem ED {a b:aI} (h1:dX a=true) (h2:dX b=true): ∃n,nA N a b=some n/\(n=0↔CL a b=true):=by
 have b1:=jM h1
 have b2:=jM h2
 obtain⟨n,n1,n2,n3⟩:=vv (N:=N) (a0:=a.X0) (a1:=a.X1) (b0:=b.X0) (b1:=b.X1) (by omega) (by omega) (by omega) (by omega)
 obtain⟨m,m1,m2,m3⟩:=vv (N:=N) (a0:=a.Y0) (a1:=a.Y1) (b0:=b.Y0) (b1:=b.Y1) (by omega) (by omega) (by omega) (by omega)
 unfold nA CL
 rw [n1,aB,m1,aB]
 refine⟨_,rfl,?_⟩
 rw [bM,<-n3,<-m3]
 split <;> omega
def tO (x y:bU):Bool:=(decide (x.cK<=y.To)&&decide (y.cK<=x.To))&&CL (uk x) (uk y)
def tY (a:jS):Prop:=∃(i k:Nat) (x y:bU),k<i/\a.aS[i]? =some x/\a.aS[k]? =some y/\tO x y=true
noncomputable def vW (r:List aI):Option Int:=if gY r≠0 then some (gY r) else none
noncomputable def xy (a:jS):Int:=if 2000<a.dJ.length+ (a.aJ.map List.length).sum then 2 else if kj a≠0 then kj a else if jN a≠0 then jN a else if tY a then 12 else 0
noncomputable def CM (a:jS):Int:=match a.aJ.findSome? vW with | some e=>e | none=>if gY a.dJ≠0 then gY a.dJ else xy a
noncomputable def ir (a:jS):Int:=if a.aJ.length=0 then 9 else if 16<a.aJ.length then 2 else CM a
def Ge (lh:List (List aA)) (fO:List (List (List aA))):Prop:=(∀s∈lh,(aK s).length<=2000)/\(cM 0 fO).length<=2000
abbrev vx:=(List (List aI))×(List aI)×(List bU)×(List cT)×(List (List aA))×(List aH)×(List (List Int))×(List cP)×(List Int)×(List Int)×(List Int)×(List eZ)
def DV (a:jS) (x:Option vx×Int):Prop:=
 (ir a≠0/\x= (none,ir a))\/(ir a=0/\me a/\¬tY a/\∃lh fO,rC a.aJ a.aS a.aJ.length lh fO/\
  ((¬Ge lh fO/\x= (none,2))\/(Ge lh fO/\∃r gs ofP ofB nX oD,zH a.aS a.bE (cM 0 fO) r gs ofP ofB nX oD/\
   x= (some (a.aJ,a.dJ,a.aS,a.bE,lh,cM 0 fO,k6 a.aS (cM 0 fO),gs,ofP,ofB,nX,oD),0))))
structure sW (a:jS):Prop where
 cs:a.aJ.length<=1048576
 each: ∀r∈a.aJ,r.length<=1048576
 out:a.dJ.length<=1048576
 bs:a.aS.length<=1048576
 ls:a.bE.length<=1048576
 nm:vq a
theorem yI {a:jS} (h:bk a<=1048576):sW a:=by
 rw [Cn] at h
 have h1:=tu a.aJ
 have h2:=tu a.dJ
 have h3:=tu a.aS
 have h4:=tu a.bE
 refine⟨by omega,fun r hr=>?_,by omega,by omega,by omega,fun x hx=>?_⟩
 ·have:=zn hr
  have:=tu r;omega
 ·have:=zn hx
  rw [Ad,Cg,Cg] at this;omega
theorem wH {a:jS} (hs:sW a) (hN:4398046511104<=N):Ok (fV N a) (DV a):=by
 unfold fV
 have pe: ∀e:Int,e≠0->ir a=e->Ok (some ((none:Option vx),e)) (DV a):=fun e he h=>Ok.ret (.inl ⟨by rw [h];exact he,by rw [h]⟩)
 have c1:=hs.cs
 refine Ok.bif (fun h=>?_) (fun h=>?_)
 ·have:a.aJ.length=0:=by have:=beq_iff_eq.1 h;omega
  exact pe 9 (by omega) (by unfold ir;rw [aC this])
 have h0: ¬a.aJ.length=0:=by rw [beq_eq_false_iff_ne] at h;omega
 refine Ok.bif (fun h=>?_) (fun h=>?_)
 ·have h1:16<a.aJ.length:=by have:=of_decide_eq_true h;omega
  exact pe 2 (by omega) (by unfold ir;rw [aD h0,aC h1])
 have h1: ¬16<a.aJ.length:=by have:=of_decide_eq_false h;omega
 have pe1:ir a=CM a:=by unfold ir;rw [aD h0,aD h1]
 have hso:=hs.out
 have sumle: ∀k,k<=a.aJ.length->((a.aJ.take k).map List.length).sum<=k*1048576:=by
  intro k
  induction k with
  | zero=>intro _;simp
  | succ k ih=>
   intro hk
   have:=ih (by omega)
   have h2:=hs.each _ (dB (show k<a.aJ.length by omega))
   rw [fS (by omega),eY,List.sum_append]
   simp only [dW,List.map_nil,List.sum_cons,List.sum_nil]
   rw [Nat.add_mul];omega
 refine Ok.bind (Ok.oZ (Go:=fun s:Int=>s= ((a.dJ.length+ (a.aJ.map List.length).sum:Nat):Int)/\∀r∈a.aJ,gY r=0) (Rt:=fun x:Option vx×Int=>∃e,e≠0/\x= (none,e)/\a.aJ.findSome? vW=some e)
  (fun(k:Nat) (s:Int)=>s= ((a.dJ.length+ ((a.aJ.take k).map List.length).sum:Nat):Int)/\∀r∈a.aJ.take k,gY r=0) (by omega) ⟨by simp,fun r hr=>by simp at hr⟩ (fun k s hk hI=>?_) (fun s hI=>by rw [fW] at hI;exact hI)) ?_
 ·obtain⟨e,hI⟩:=hI
  subst e
  have hkx:a.aJ[k]? =some a.aJ[k]:=aN hk
  have hts:a.aJ.take (k+1)=a.aJ.take k++[a.aJ[k]]:=fS hk
  have he:=hs.each _ (dB hk)
  refine Ok.ix hkx (Ok.eq (pO (by omega) hN) ?_)
  refine Ok.bif (fun h=>Ok.rt ?_) (fun h=>Ok.nx ?_)
  ·have h:gY a.aJ[k]≠0:=by simpa using h
   refine⟨_,h,rfl,?_⟩
   rw [List.findSome?_eq_some_iff]
   refine⟨a.aJ.take k,a.aJ[k],a.aJ.drop (k+1),?_,by unfold vW;rw [aC h],fun r hr=>by unfold vW;rw [aD (by simpa using hI r hr)]⟩
   rw [<-pY hk,List.take_append_drop]
  ·have h:gY a.aJ[k]=0:=by simpa using h
   have:=sumle k (by omega)
   have hk16:k*1048576<=16*1048576:=Nat.mul_le_mul_right _ (by omega)
   refine⟨?_,fun r hr=>?_⟩
   ·rw [wrap_add (by omega),hts,eY,List.sum_append]
    simp only [dW,List.map_nil,List.sum_cons,List.sum_nil]
    congr 1
    omega
   ·rw [hts] at hr
    rcases cO.1 hr with hr | hr
    ·exact hI r hr
    ·simp at hr;subst hr;exact h
 intro o ho
 refine Ok.cs ho ?_ ?_
 rotate_left
 ·rintro x ⟨e,he,rfl,hf⟩
  exact pe e he (by rw [pe1];unfold CM;rw [hf])
 rintro s ⟨rfl,hreg⟩
 have Ga:a.aJ.findSome? vW=none:=List.findSome?_eq_none_iff.2 fun r hr=>by unfold vW;rw [aD (by simpa using hreg r hr)]
 have pe2:ir a=if gY a.dJ≠0 then gY a.dJ else xy a:=by rw [pe1];unfold CM;rw [Ga]
 refine Ok.eq (pO (by omega) hN) ?_
 refine Ok.bif (fun h=>?_) (fun h=>?_)
 ·have h:gY a.dJ≠0:=by simpa using h
  exact pe _ h (by rw [pe2,aC h])
 have hout:gY a.dJ=0:=by simpa using h
 have pe3:ir a=xy a:=by rw [pe2,aD (by simpa using hout)]
 refine Ok.bif (fun h=>?_) (fun h=>?_)
 ·have h:2000<a.dJ.length+ (a.aJ.map List.length).sum:=by have:=of_decide_eq_true h;omega
  exact pe 2 (by omega) (by rw [pe3];unfold xy;rw [aC h])
 have hmany: ¬2000<a.dJ.length+ (a.aJ.map List.length).sum:=by have:=of_decide_eq_false h;omega
 have hbs:=hs.bs
 have hls:=hs.ls
 refine Ok.eq (vQ (by omega) (by omega) (by omega)) ?_
 refine Ok.bif (fun h=>?_) (fun h=>?_)
 ·have h:kj a≠0:=by simpa using h
  exact pe _ h (by rw [pe3];unfold xy;rw [aD hmany,aC h])
 have hbo:kj a=0:=by simpa using h
 refine Ok.eq (vR (by omega) (by omega) hs.nm (by omega)) ?_
 refine Ok.bif (fun h=>?_) (fun h=>?_)
 ·have h:jN a≠0:=by simpa using h
  exact pe _ h (by rw [pe3];unfold xy;rw [aD hmany,aD (by simpa using hbo),aC h])
 have hla:jN a=0:=by simpa using h
 have hg:me a:=⟨by omega,hreg,hout,by omega,hbo,hla⟩
 have pe4:ir a=if tY a then 12 else 0:=by rw [pe3];unfold xy;rw [aD hmany,aD (by simpa using hbo),aD (by simpa using hla)]
 refine Ok.bind (Ok.oZ (Go:=fun _:Unit=>¬tY a) (Rt:=fun x:Option vx×Int=>x= (none,12)/\tY a)
  (fun(k:Nat) (_:Unit)=>∀(i j:Nat) (x y:bU),i<k->j<i->a.aS[i]? =some x->a.aS[j]? =some y->¬tO x y=true) (by omega) (fun i j x y h=>by omega) (fun k s hk hI=>?_) (fun s hI=>?_)) ?_
 ·have hkx:a.aS[k]? =some a.aS[k]:=aN hk
  refine Ok.ix hkx (Ok.eq (sd _ k (by omega)) ?_)
  have hgk:=hg.gb.ok _ (dB hk)
  refine Ok.bind (Ok.oZ (Go:=fun _:Unit=>∀(j:Nat) (y:bU),j<k->a.aS[j]? =some y->¬tO a.aS[k] y=true) (Rt:=fun x:Option vx×Int=>x= (none,12)/\tY a)
   (fun(t:Nat) (_:Unit)=>∀(j:Nat) (y:bU),j<t->a.aS[j]? =some y->¬tO a.aS[k] y=true) (by rw [cR];omega) (fun j y h=>by omega) (fun t s ht hI2=>?_) (fun s hI2 j y hj hy=>hI2 j y (by rw [cR];omega) hy)) ?_
  ·have htk:t<k:=by rw [cR] at ht;omega
   have htx: (a.aS.take k)[t]? =some a.aS[t]:=by rw [List.getElem?_take_of_lt htk];exact aN (by omega)
   have hgt:=hg.gb.ok _ (dB (show t<a.aS.length by omega))
   refine Ok.ix htx ?_
   refine Ok.eq (x:=tO a.aS[k] a.aS[t]) ?_ ?_
   ·unfold tO
    cases hc: (decide (a.aS[k].cK<=a.aS[t].To)&&decide (a.aS[t].cK<=a.aS[k].To)) with
    | false=>rfl
    | true=>
     obtain⟨n,n1,n2⟩:=ED (N:=N) hgk.2 hgt.2
     rw [aU,kL hgk.1,aB,kL hgt.1,aB,n1,aB,Bool.true_and]
     congr 1
     rw [fH,beq_iff_eq];exact n2
   ·refine Ok.bif (fun h=>Ok.rt ⟨rfl,k,t,_,_,htk,hkx,aN (by omega),h⟩) (fun h=>Ok.nx fun j y hj hy=>?_)
    by_cases e:j<t
    ·exact hI2 j y e hy
    ·have:j=t:=by omega
     subst this
     rw [aN (by omega)] at hy;injection hy with hy
     rw [<-hy,h];simp
  ·intro o ho
   refine Ok.cs ho (fun s hI2=>Ok.nx fun i j x y hi hj hx hy=>?_) (fun x hx=>Ok.rt hx)
   by_cases e:i<k
   ·exact hI i j x y e hj hx hy
   ·have:i=k:=by omega
    subst this
    rw [hkx] at hx;injection hx with hx
    rw [<-hx];exact hI2 j y hj hy
 ·rintro⟨i,j,x,y,hj,hx,hy,hc⟩
  exact hI i j x y (aW.1 hx).1 hj hx hy hc
 intro o ho
 refine Ok.cs ho ?_ ?_
 rotate_left
 ·rintro x ⟨rfl,hc⟩
  exact pe 12 (by omega) (by rw [pe4,aC hc])
 intro _ hncl
 have pe5:ir a=0:=by rw [pe4,aD hncl]
 refine Ok.bind (zD (N:=N) (by omega) hg.cs hg.gb hN) ?_
 rintro⟨okk,lh,pcs⟩ ⟨fO,D,e1,e2⟩
 dsimp only at D e1 e2 ⊢
 subst e1
 refine Ok.bif (fun h=>Ok.ret (.inr ⟨pe5,hg,hncl,lh,fO,D, .inl ⟨fun hf=>?_,rfl⟩⟩)) (fun h=>?_)
 ·have:=e2.2 hf
  rw [this] at h;cases h
 ·have hf:Ge lh fO:=e2.1 (by cases okk <;> simp_all)
  have hpr: ∀p∈cM 0 fO,p.lW.length<=1073741824:=fun p hp=>by
   obtain⟨i,r,s,ps,u,j,k,hP⟩:=CK hg D hp
   have:=(hP.CB hg).2.2;omega
  have hf2:=hf.2
  refine Ok.eq (CE hg.gb (by omega) hpr) ?_
  refine Ok.bind (xx (N:=N) hg.gb (by omega) hpr (by omega) hN) ?_
  rintro⟨gs,ofP,ofB,nX,oD⟩ ⟨r,hC⟩
  exact Ok.ret (.inr ⟨pe5,hg,hncl,lh,fO,D, .inr ⟨hf,r,gs,ofP,ofB,nX,oD,hC,rfl⟩⟩)
end
end Go.Gk
namespace Go.Gk
open Go Classical
section
variable {N:Nat}
theorem Ar {w:Nat} {g:Nat->Nat} {a:Nat}: ∀{ks:List Nat},ks.Nodup->a∈ks->(ks.map (fun k=>(if a=k then w else 0)+g k)).sum=w+ (ks.map g).sum
 | [],_,h=>by cases h
 | k::ks,hn,h=>by
  have hn':=List.nodup_cons.1 hn
  simp only [dW,List.sum_cons]
  by_cases e:a=k
  ·subst e
   rw [aC rfl]
   have:ks.map (fun k=>(if a=k then w else 0)+g k)=ks.map g:=List.map_congr_left fun x hx=>by
    rw [aD (fun e=>hn'.1 (by rw [e];exact hx)),fI]
   rw [this];omega
  ·rw [aD e,Ar hn'.2 (by rcases fG.1 h with h | h;exact absurd h e;exact h)];omega
theorem yJ {α:Type} {ks:List Nat} (hn:ks.Nodup) (f w:α->Nat): ∀{l:List α},(∀x∈l,f x∈ks)->(ks.map (fun k=>((l.filter (fun x=>decide (f x=k))).map w).sum)).sum= (l.map w).sum
 | [],_=>by
  have: ∀ks:List Nat,(ks.map (fun _=>0)).sum=0:=fun ks=>by
   induction ks with
   | nil=>rfl
   | cons k ks ih=>simp only [dW,List.sum_cons,ih]
  simpa using this ks
 | x::l,h=>by
  have ih:=yJ hn f w (l:=l) fun y hy=>h y (jk _ hy)
  have: (ks.map (fun k=>(((x::l).filter (fun x=>decide (f x=k))).map w).sum))=ks.map (fun k=>(if f x=k then w x else 0)+ ((l.filter (fun x=>decide (f x=k))).map w).sum):=List.map_congr_left fun k _=>by
   rw [List.filter_cons]
   by_cases e:f x=k
   ·rw [aC (by simpa using e),aC e,dW,List.sum_cons]
   ·rw [aD (by simpa using e),aD e,fI]
  rw [this,Ar hn (h x (by simp)),ih,dW,List.sum_cons]
theorem sV.ne {a:jS} {lh:List (List aA)} {fO:List (List (List aA))} {p:aH} {i:Nat} {r:List aI} {s:List aA} {ps:List (List aA)} {u:Nat->Nat} {j k:Nat} (h:sV a lh fO p i r s ps u j k):p.Set≠[]:=by
 intro e
 have hh:=hG.1 (ga h.head)
 have hx: (aK s)[k]? =some (aK s)[k]:=aN hh.1
 have hm: (aK s)[k]∈kO (aK s) (aK s).length u k:=lL.2 ⟨k,hh.1,hh.2,hx⟩
 obtain⟨b,hb,q,hq,hr⟩:=ml (ga hx)
 have hbm:bD b∈s.map bD:=cH.2 ⟨b,hb,rfl⟩
 have hq1:=zv (h.dr.can.each _ hbm).2.2.1 q hq
 have hb1:=(h.dr.can.each _ hbm).1
 have hc:=h.set.cover q.1 b.Y0
 rw [e] at hc
 have:u5 (kO (aK s) (aK s).length u k) q.1 b.Y0=true:=iZ.2 ⟨_,hm,by rw [hr];exact⟨⟨Int.le_refl _,hq1⟩,Int.le_refl _,hb1⟩⟩
 rw [this] at hc
 cases hc
structure pS (a:jS) (lh:List (List aA)) (fO:List (List (List aA))) (r:Nat->Nat) (gs:List cP) (ofP ofB nX:List Int) (oD:List eZ):Prop where
 F7:me a
 Ie: ¬tY a
 dr:rC a.aJ a.aS a.aJ.length lh fO
 Al:Ge lh fO
 EK:zH a.aS a.bE (cM 0 fO) r gs ofP ofB nX oD
inductive EE (N:Nat) (a:jS):Prop
 | err (e:Int) (he:e≠0) (h:fV N a=some (none,e))
 | ok {lh:List (List aA)} {fO:List (List (List aA))} {r:Nat->Nat} {gs:List cP} {ofP ofB nX:List Int} {oD:List eZ} (b:pS a lh fO r gs ofP ofB nX oD)
  (h:fV N a=some (some (a.aJ,a.dJ,a.aS,a.bE,lh,cM 0 fO,k6 a.aS (cM 0 fO),gs,ofP,ofB,nX,oD),0))
theorem opened {a:jS} (hs:sW a) (hN:4398046511104<=N):EE N a:=by
 obtain⟨x,hx,hI⟩:=wH (N:=N) hs hN
 rcases hI with ⟨he,rfl⟩ | ⟨_,hg,hcl,lh,fO,D,⟨_,rfl⟩ | ⟨hf,r,gs,ofP,ofB,nX,oD,hC,rfl⟩⟩
 ·exact .err _ he hx
 ·exact .err 2 (by omega) hx
 ·exact .ok ⟨hg,hcl,D,hf,hC⟩ hx
end
end Go.Gk
namespace Go.Gk
open Go Classical
section
variable {S R:Type}
theorem Ok.zq {body:S->Option (Fl S R)} {N n:Nat} {s:S} (ι:S->Int) (Inv:Nat->S->Prop) {Go:S->Prop} {Rt:R->Prop}
  (h1: ∀k s,k<n->ι s= ((k:Nat):Int)->Inv k s->Ok (body s) (DQ (fun s'=>ι s'= ((k+1:Nat):Int)/\Inv (k+1) s') Go Rt))
  (h2: ∀s,ι s= ((n:Nat):Int)->Inv n s->Ok (body s) (DQ (fun _=>False) Go Rt))
  {k0:Nat} (hk:k0<=n) (hi:ι s= ((k0:Nat):Int)) (h0:Inv k0 s) (hn:n<N):Ok (Gk.mn body N s) (FW Go Rt):=by
 refine Ok.mn (fun s=>∃k:Nat,k<=n/\ι s= ((k:Nat):Int)/\Inv k s) (fun s=>n - (ι s).toNat) ?_ ⟨k0,hk,hi,h0⟩ (by omega)
 rintro s ⟨k,hk,e,hI⟩
 by_cases hlt:k<n
 ·refine(h1 k s hlt e hI).mono ?_
  rintro(s' | s' | r) hp
  ·have hp1:ι s'= ((k+1:Nat):Int):=hp.1
   exact⟨⟨k+1,hlt,hp.1,hp.2⟩,by rw [e,hp1];simp only [bS];omega⟩
  ·exact hp
  ·exact hp
 ·have:k=n:=by omega
  subst this
  refine(h2 s e hI).mono ?_
  rintro(s' | s' | r) hp
  ·exact hp.elim
  ·exact hp
  ·exact hp
end
section
variable {N:Nat}
end
end Go.Gk
namespace Go.Gk
open Go Classical
section
variable {α:Type} [DecidableEq α] {N:Nat}
end
section
variable {N:Nat}
end
end Go.Gk
