/-
  Helping texts: plain functions and plain laws. No statement of the seed is proved here.
-/
import Derived.Test.YthioiiocofohiaaGreatDoorA1
import Derived.ChangeShapes
import Derived.ChangeSame
import Derived.Carry
import Derived.RowKit
import Derived.Test.YthioiiocofohiaaGreatDoorA2
set_option linter.unusedVariables false
set_option linter.unusedSimpArgs false
set_option linter.unusedSectionVars false
namespace Go.Gk
open Go
noncomputable section
structure aI where
 X0:Int
 Y0:Int
 X1:Int
 Y1:Int
 deriving DecidableEq,Inhabited
structure eN where
 X:Int
 Y:Int
 deriving DecidableEq,Inhabited
structure bZ where
 At:eN
 eZ:Int
 bU:Int
 To:Int
 ij:Bool
 deriving DecidableEq,Inhabited
structure cY where
 Part:dJ
 fV:dJ
 cZ:Int
 At:eN
 deriving DecidableEq,Inhabited
structure gS where
 aL: (List (List aI))
 dL: (List aI)
 aW: (List bZ)
 bJ: (List cY)
 deriving DecidableEq,Inhabited
structure fV where
 Part:dJ
 fV:dJ
 deriving DecidableEq,Inhabited
structure Test where
 A:fV
 B:fV
 Joined:Bool
 deriving DecidableEq,Inhabited
structure aA where
 Y0:Int
 Y1:Int
 Xs: (List Int)
 deriving DecidableEq,Inhabited
structure aH where
 cZ:Int
 Set: (List aA)
 iZ: (List aI)
 deriving DecidableEq,Inhabited
structure cI where
 nu: (List Int)
 aW: (List Int)
 gV: (List fV)
 deriving DecidableEq,Inhabited
structure dU where
 bZ:Bool
 Number:Int
 deriving DecidableEq,Inhabited
structure bQ where
 Open:Bool
 dU:dU
 A:Int
 B:Int
 deriving DecidableEq,Inhabited
structure qg where
 A:Int
 B:Int
 iv:Int
 bU:eN
 To:eN
 deriving DecidableEq,Inhabited
structure bO where
 CU:bQ
 tp: (List Bool)
 deriving DecidableEq,Inhabited
structure Touch where
 Test:Int
 Ja:Bool
 FO:Int
 deriving DecidableEq,Inhabited
def qm (N:Nat) (p0 p1 p2:Int):Option (Bool):=
 some ((decide (p0>=p1))&&(decide (p0<=p2)))
def jV (N:Nat) (p0:Int):Option (Bool):=
 (qm N p0 (-1000000) 1000000).bind fun j=>some j
def kY (N:Nat) (p0:aI):Option (Bool):=
 ((jV N p0.X0).bind fun j=>bif j then ((jV N p0.Y0).bind fun o=>bif o then ((jV N p0.X1).bind fun aa=>bif aa then ((jV N p0.Y1).bind fun ab=>some ab) else (some false)) else (some false)) else (some false)).bind fun ad=>some ad
def jG (N:Nat) (p0: (List aI)):Option (Int):=
 bif (decide ((p0.length:Int)>2000)) then (some 2) else ((oZ p0.length (fun(o:Nat) (aa:Unit)=>((idx p0 (o:Int)).bind fun j=>(kY N j).bind fun ab=>bif (!ab) then (some (.rt 1)) else (bif ((decide (j.X1<=j.X0))||(decide (j.Y1<=j.Y0))) then (some (.rt 13)) else (some (.nx ()))):Option (Fl (Unit) Int))) ()).bind fun ad=>ad.cs (fun(aa:Unit)=>some 0) (fun r=>some r))
def g9 (N:Nat) (p0: (List aI)):Option ((List aI)):=
 (app 32 ([]: (List aI)) p0).bind fun j=>some j
def iM (N:Nat) (p0 p1:aI):Option (Int):=
 some (IntKind.wrap .i64 (p0.Y0 - p1.Y0))
def fR (N:Nat) (p0: (List Int)):Option ((List Int)):=
 bif (decide ((p0.length:Int)<2)) then (some p0) else ((np (fun(o:Int)=>(bif (decide (o< (p0.length:Int))) then ((idx p0 o).bind fun ab=>(idx p0 (IntKind.wrap .i64 (o - 1))).bind fun ad=>bif (ab==ad) then ((uw p0 o (p0.length:Int)).bind fun ak=>(np (fun(j: (List Int)×Int×Int)=>(bif (decide (j.2.2< (((j.1.length - Int.toNat o):Nat):Int))) then ((CS j.1 o j.2.2).bind fun ae=>(CS j.1 o (IntKind.wrap .i64 (j.2.2 - 1))).bind fun af=>(bif (ae != af) then ((CS j.1 o j.2.2).bind fun ag=>(idx j.1 j.2.1).bind fun al=>some ((j.1.set (Int.toNat j.2.1) ag),(IntKind.wrap .i64 (j.2.1+1)))) else (some (j.1,j.2.1))).bind fun aa=>some (.nx (aa.1,aa.2,(IntKind.wrap .i64 (j.2.2+1))))) else (some (.br (j.1,j.2.1,j.2.2))):Option (Fl ((List Int)×Int×Int) Empty))) N (p0,o,1)).bind fun ah=>ah.cs (fun(j: (List Int)×Int×Int)=>(uw j.1 j.2.1 (j.1.length:Int)).bind fun an=>(uw (j.1.take (Int.toNat j.2.1)++List.replicate (j.1.length - Int.toNat j.2.1) (0:Int)) 0 j.2.1).bind fun ai=>some (.rt ai)) (fun r=>r.elim)) else (some (.nx (IntKind.wrap .i64 (o+1))))) else (some (.br o)):Option (Fl (Int) (List Int)))) N 1).bind fun aj=>aj.cs (fun(o:Int)=>some p0) (fun r=>some r))
def mo (N:Nat) (p0:aI) (p1: (List Int)) (p2:Int):Option (Bool):=
 (idx p1 p2).bind fun j=>some (decide (p0.Y1<=j))
def kl (N:Nat) (p0: (List aI)) (p1:aI->Option Bool):Option (Int):=
 (oZ p0.length (fun(j:Nat) (o:Unit)=>((idx p0 (j:Int)).bind fun aa=>(p1 aa).bind fun ab=>bif ab then (some (.rt (j:Int))) else (some (.nx ())):Option (Fl (Unit) Int))) ()).bind fun ad=>ad.cs (fun(o:Unit)=>some (-1)) (fun r=>some r)
def jr (N:Nat) (p0: (List aI)) (p1:aI->Option Bool):Option (Int):=
 (oZ p0.length (fun(j:Nat) (o:Unit)=>((idx p0 (j:Int)).bind fun aa=>(p1 aa).bind fun ab=>bif ab then (some (.rt (j:Int))) else (some (.nx ())):Option (Fl (Unit) Int))) ()).bind fun ad=>ad.cs (fun(o:Unit)=>some (-1)) (fun r=>some r)
def gr (N:Nat) (p0: (List aI)) (p1:aI->Option Bool):Option ((List aI)):=
 (jr N p0 p1).bind fun o=>bif (o==(-1)) then (some p0) else ((np (fun(j: (List aI)×Int×Int)=>(bif (decide (j.2.2< (j.1.length:Int))) then ((idx j.1 j.2.2).bind fun aa=>(p1 aa).bind fun ad=>(bif (!ad) then ((idx j.1 j.2.1).bind fun ag=>some ((j.1.set (Int.toNat j.2.1) aa),(IntKind.wrap .i64 (j.2.1+1)))) else (some (j.1,j.2.1))).bind fun ab=>some (.nx (ab.1,ab.2,(IntKind.wrap .i64 (j.2.2+1))))) else (some (.br (j.1,j.2.1,j.2.2))):Option (Fl ((List aI)×Int×Int) Empty))) N (p0,o,(IntKind.wrap .i64 (o+1)))).bind fun ae=>ae.cs (fun(j: (List aI)×Int×Int)=>(uw j.1 j.2.1 (j.1.length:Int)).bind fun ah=>(uw (j.1.take (Int.toNat j.2.1)++List.replicate (j.1.length - Int.toNat j.2.1) (⟨0,0,0,0⟩:aI)) 0 j.2.1).bind fun af=>some af) (fun r=>r.elim))
def fS (N:Nat) (p0 p1:aI):Option (Int):=
 some (IntKind.wrap .i64 (p0.X0 - p1.X0))
def ik (N:Nat) (p0: (List aI)):Option ((List Int)×(List aI)):=
 (uG (fS N) p0).bind fun aa=>(iF aa.length (fun(ad:Nat) (j: (List Int))=>((idx aa (ad:Int)).bind fun o=>(bif (decide ((IntKind.wrap .i64 ((j.length:Int) - 1))>=0)) then ((idx j (IntKind.wrap .i64 ((j.length:Int) - 1))).bind fun ae=>some (decide (o.X0<=ae))) else (some false)).bind fun af=>(bif af then ((idx j (IntKind.wrap .i64 ((j.length:Int) - 1))).bind fun ab=>(idx j (IntKind.wrap .i64 ((j.length:Int) - 1))).bind fun ai=>some (j.set (Int.toNat (IntKind.wrap .i64 ((j.length:Int) - 1))) (if ab<o.X1 then o.X1 else ab))) else ((app 8 j ([o.X0,o.X1]: (List Int))).bind fun ag=>some ag)).bind fun ah=>some ah:Option ((List Int)))) ([]: (List Int))).bind fun j=>some (j,aa)
def kZ (N:Nat) (p0: (List Int)) (p1: (List Int)):Option (Bool):=
 bif ((p0.length:Int) != (p1.length:Int)) then (some false) else ((oZ p0.length (fun(j:Nat) (o:Unit)=>((idx p0 (j:Int)).bind fun aa=>(idx p1 (j:Int)).bind fun ab=>bif (aa != ab) then (some (.rt false)) else (some (.nx ())):Option (Fl (Unit) Bool))) ()).bind fun ad=>ad.cs (fun(o:Unit)=>some true) (fun r=>some r))
def gW (N:Nat) (p0: (List aA)) (p1:aA):Option ((List aA)):=
 bif (((p1.Xs.length:Int)==0)||(decide (p1.Y1<=p1.Y0))) then (some p0) else ((bif (decide ((IntKind.wrap .i64 ((p0.length:Int) - 1))>=0)) then ((idx p0 (IntKind.wrap .i64 ((p0.length:Int) - 1))).bind fun j=>bif (j.Y1==p1.Y0) then ((idx p0 (IntKind.wrap .i64 ((p0.length:Int) - 1))).bind fun o=>(kZ N o.Xs p1.Xs).bind fun aa=>some aa) else (some false)) else (some false)).bind fun ab=>bif ab then ((idx p0 (IntKind.wrap .i64 ((p0.length:Int) - 1))).bind fun ad=>some (p0.set (Int.toNat (IntKind.wrap .i64 ((p0.length:Int) - 1))) ({ad with Y1:=p1.Y1}))) else ((app 40 p0 ([p1]: (List aA))).bind fun ae=>some ae))
def fX (N:Nat) (p0: (List aI)):Option ((List aA)):=
 (g9 N p0).bind fun ag=>(uG (iM N) ag).bind fun aa=>(iF aa.length (fun(ah:Nat) (ad: (List Int))=>((idx aa (ah:Int)).bind fun ae=>(app 8 ad ([ae.Y0,ae.Y1]: (List Int))).bind fun ai=>some ai:Option ((List Int)))) ([]: (List Int))).bind fun ad=>(rl ad).bind fun aj=>(fR N aj).bind fun ab=>(np (fun(j: (List aA)×(List aI)×Int×Int)=>(bif (decide ((IntKind.wrap .i64 (j.2.2.2+1))< (ab.length:Int))) then ((gr N j.2.1 (fun y0=>mo N y0 ab j.2.2.2)).bind fun ak=>(np (fun(o: (List aI)×Int)=>((bif (decide (o.2< (aa.length:Int))) then ((idx aa o.2).bind fun al=>(idx ab j.2.2.2).bind fun an=>some (decide (al.Y0<=an))) else (some false)).bind fun ao=>bif ao then ((idx aa o.2).bind fun aq=>(app 32 o.1 ([aq]: (List aI))).bind fun ar=>some (.nx (ar,(IntKind.wrap .i64 (o.2+1))))) else (some (.br (o.1,o.2))):Option (Fl ((List aI)×Int) Empty))) N (ak,j.2.2.1)).bind fun au=>au.cs (fun(o: (List aI)×Int)=>(idx ab j.2.2.2).bind fun av=>(idx ab (IntKind.wrap .i64 (j.2.2.2+1))).bind fun aw=>(ik N o.1).bind fun af=>(gW N j.1 (⟨av,aw,af.1⟩:aA)).bind fun ax=>some (.nx (ax,af.2,o.2,(IntKind.wrap .i64 (j.2.2.2+1))))) (fun r=>r.elim)) else (some (.br (j.1,j.2.1,j.2.2.1,j.2.2.2))):Option (Fl ((List aA)×(List aI)×Int×Int) Empty))) N (([]: (List aA)),([]: (List aI)),0,0)).bind fun ay=>ay.cs (fun(j: (List aA)×(List aI)×Int×Int)=>some j.1) (fun r=>r.elim)
def il (N:Nat) (p0: (List aA)):Option ((List aI)):=
 (iF p0.length (fun(ab:Nat) (aa: (List aI))=>((idx p0 (ab:Int)).bind fun o=>(np (fun(j: (List aI)×Int)=>(bif (decide (j.2< (o.Xs.length:Int))) then ((idx o.Xs j.2).bind fun ad=>(idx o.Xs (IntKind.wrap .i64 (j.2+1))).bind fun ae=>(app 32 j.1 ([(⟨ad,o.Y0,ae,o.Y1⟩:aI)]: (List aI))).bind fun af=>some (.nx (af,(IntKind.wrap .i64 (j.2+2))))) else (some (.br (j.1,j.2))):Option (Fl ((List aI)×Int) Empty))) N (aa,0)).bind fun ag=>ag.cs (fun(j: (List aI)×Int)=>some j.1) (fun r=>r.elim):Option ((List aI)))) ([]: (List aI))).bind fun aa=>some aa
def jg (N:Nat) (p0: (List aI)) (p1: (List aI)):Option (Bool):=
 bif ((p0.length:Int) != (p1.length:Int)) then (some false) else ((oZ p0.length (fun(j:Nat) (o:Unit)=>((idx p0 (j:Int)).bind fun aa=>(idx p1 (j:Int)).bind fun ab=>bif (!(decide (aa=ab))) then (some (.rt false)) else (some (.nx ())):Option (Fl (Unit) Bool))) ()).bind fun ad=>ad.cs (fun(o:Unit)=>some true) (fun r=>some r))
def hQ (N:Nat) (p0: (List aI)):Option (Int):=
 (jG N p0).bind fun ab=>bif (ab != 0) then (some ab) else ((np (fun(j:Int)=>(bif (decide (j< (p0.length:Int))) then ((idx p0 (IntKind.wrap .i64 (j - 1))).bind fun o=>(idx p0 j).bind fun aa=>bif ((decide (aa.Y0<o.Y0))||((aa.Y0==o.Y0)&&(decide (aa.X0<=o.X0)))) then (some (.rt 8)) else (some (.nx (IntKind.wrap .i64 (j+1))))) else (some (.br j)):Option (Fl (Int) Int))) N 1).bind fun ad=>ad.cs (fun(j:Int)=>(fX N p0).bind fun ae=>(il N ae).bind fun af=>(jg N af p0).bind fun ag=>bif (!ag) then (some 3) else (some 0)) (fun r=>some r))
def gl (N:Nat) (p0 p1 p2:Int):Option (Bool):=
 some ((decide (p0>=p1))&&(decide (p0<=p2)))
def iG (N:Nat) (p0:eN):Option (Bool):=
 ((jV N p0.X).bind fun j=>bif j then ((jV N p0.Y).bind fun o=>some o) else (some false)).bind fun aa=>some aa
def eW (N:Nat) (p0:bZ):Option (aI):=
 some (⟨(IntKind.wrap .i64 (p0.At.X - (IntKind.wrap .i64 (Int.tdiv p0.eZ 2)))),(IntKind.wrap .i64 (p0.At.Y - (IntKind.wrap .i64 (Int.tdiv p0.eZ 2)))),(IntKind.wrap .i64 ((IntKind.wrap .i64 (p0.At.X - (IntKind.wrap .i64 (Int.tdiv p0.eZ 2))))+p0.eZ)),(IntKind.wrap .i64 ((IntKind.wrap .i64 (p0.At.Y - (IntKind.wrap .i64 (Int.tdiv p0.eZ 2))))+p0.eZ))⟩:aI)
def k6 (N:Nat) (p0: (List aA)):Option (aI):=
 (idx p0 0).bind fun ad=>(idx ad.Xs 0).bind fun ae=>(idx p0 0).bind fun af=>(idx p0 0).bind fun ag=>(idx ag.Xs 1).bind fun ah=>(idx p0 (IntKind.wrap .i64 ((p0.length:Int) - 1))).bind fun ai=>(iF p0.length (fun(aj:Nat) (j:aI)=>((idx p0 (aj:Int)).bind fun o=>(idx o.Xs 0).bind fun aa=>(idx o.Xs (IntKind.wrap .i64 ((o.Xs.length:Int) - 1))).bind fun ab=>some ({{j with X0:=(if aa<j.X0 then aa else j.X0)} with X1:=(if j.X1<ab then ab else j.X1)}):Option (aI))) (⟨ae,af.Y0,ah,ai.Y1⟩:aI)).bind fun j=>some j
def kG (N:Nat) (p0: (List aA)):Option (Bool):=
 (bif ((p0.length:Int)==0) then (some true) else ((k6 N p0).bind fun j=>(kY N j).bind fun o=>some o)).bind fun aa=>some aa
def kf (N:Nat) (p0:bZ):Option (aI×Int):=
 ((gl N p0.eZ 1 10000).bind fun o=>bif (!o) then (some true) else ((iG N p0.At).bind fun aa=>some (!aa))).bind fun ab=>bif ab then (some ((⟨0,0,0,0⟩:aI),1)) else ((eW N p0).bind fun j=>(fX N ([j]: (List aI))).bind fun ad=>(kG N ad).bind fun ae=>bif (!ae) then (some ((⟨0,0,0,0⟩:aI),1)) else (some (j,0)))
def jh (N:Nat) (p0:gS):Option (Int):=
 bif (decide ((p0.aW.length:Int)>500)) then (some 2) else ((oZ p0.aW.length (fun(aa:Nat) (ab:Unit)=>((idx p0.aW (aa:Int)).bind fun j=>(kf N j).bind fun o=>bif (o.2 != 0) then (some (.rt o.2)) else (((gl N j.bU 0 (IntKind.wrap .i64 ((p0.aL.length:Int) - 1))).bind fun ad=>bif (!ad) then (some true) else ((gl N j.To j.bU (IntKind.wrap .i64 ((p0.aL.length:Int) - 1))).bind fun ae=>some (!ae))).bind fun af=>bif af then (some (.rt 1)) else (some (.nx ()))):Option (Fl (Unit) Int))) ()).bind fun ag=>ag.cs (fun(ab:Unit)=>some 0) (fun r=>some r))
def gG (N:Nat) (p0:dJ) (p1:Int):Option (Int):=
 some (Lib.indexByte p0.cS (Int.toNat p1).toUInt8)
def ji (N:Nat) (p0 p1:dJ):Option (Int):=
 bif (((p1.cS.length:Int)==0)||(p1.CL p0)) then (some 0) else (bif ((p1.cS.length:Int)==1) then ((Et p1 0).bind fun j=>(gG N p0 (j.toNat:Int)).bind fun o=>some o) else (bif (decide ((p1.cS.length:Int)>=(p0.cS.length:Int))) then (some (-1)) else (none)))
def kg (N:Nat) (p0 p1:dJ):Option (Int):=
 (ji N p0 p1).bind fun j=>some j
def lE (N:Nat) (p0 p1:dJ):Option (Int):=
 bif ((p1.cS.length:Int)==0) then (none) else (bif ((p1.cS.length:Int)==1) then ((Et p1 0).bind fun aa=>some ((Lib.countByte p0.cS (Int.toNat (aa.toNat:Int)).toUInt8:Nat):Int)) else ((np (fun(j:dJ×Int)=>((kg N j.1 p1).bind fun o=>bif (o==(-1)) then (some (.rt j.2)) else ((tI j.1 (IntKind.wrap .i64 (o+ (p1.cS.length:Int))) (j.1.cS.length:Int)).bind fun ab=>some (.nx (ab,(IntKind.wrap .i64 (j.2+1))))):Option (Fl (dJ×Int) Int))) N (p0,0)).bind fun ad=>ad.cs (fun(j:dJ×Int)=>some 0) (fun r=>some r)))
def k7 (N:Nat) (p0 p1:dJ) (p2 p3:Int):Option ((List dJ)):=
 bif (p3==0) then (some ([]: (List dJ))) else (bif (p1.CL (⟨[]⟩)) then (none) else ((bif (decide (p3<0)) then ((lE N p0 p1).bind fun ab=>some (IntKind.wrap .i64 (ab+1))) else (some p3)).bind fun o=>(mk 16 (⟨[]⟩:dJ) (if (IntKind.wrap .i64 ((p0.cS.length:Int)+1))<o then (IntKind.wrap .i64 ((p0.cS.length:Int)+1)) else o)).bind fun ad=>(np (fun(j:dJ×(List dJ)×Int)=>(bif (decide (j.2.2< (IntKind.wrap .i64 ((if (IntKind.wrap .i64 ((p0.cS.length:Int)+1))<o then (IntKind.wrap .i64 ((p0.cS.length:Int)+1)) else o) - 1)))) then ((kg N j.1 p1).bind fun aa=>bif (decide (aa<0)) then (some (.br (j.1,j.2.1,j.2.2))) else ((tI j.1 0 (IntKind.wrap .i64 (aa+p2))).bind fun ae=>(idx j.2.1 j.2.2).bind fun ai=>(tI j.1 (IntKind.wrap .i64 (aa+ (p1.cS.length:Int))) (j.1.cS.length:Int)).bind fun af=>some (.nx (af,(j.2.1.set (Int.toNat j.2.2) ae),(IntKind.wrap .i64 (j.2.2+1)))))) else (some (.br (j.1,j.2.1,j.2.2))):Option (Fl (dJ×(List dJ)×Int) Empty))) N (p0,ad,0)).bind fun ag=>ag.cs (fun(j:dJ×(List dJ)×Int)=>(idx j.2.1 j.2.2).bind fun aj=>(uw (j.2.1.set (Int.toNat j.2.2) j.1) 0 (IntKind.wrap .i64 (j.2.2+1))).bind fun ah=>some ah) (fun r=>r.elim)))
def lF (N:Nat) (p0 p1:dJ):Option ((List dJ)):=
 (k7 N p0 p1 0 (-1)).bind fun j=>some j
def jH (N:Nat) (p0: (List dJ)) (p1:dJ->Option Bool):Option (Int):=
 (oZ p0.length (fun(j:Nat) (o:Unit)=>((idx p0 (j:Int)).bind fun aa=>(p1 aa).bind fun ab=>bif ab then (some (.rt (j:Int))) else (some (.nx ())):Option (Fl (Unit) Int))) ()).bind fun ad=>ad.cs (fun(o:Unit)=>some (-1)) (fun r=>some r)
def gu (N:Nat) (p0: (List dJ)) (p1:dJ->Option Bool):Option (Bool):=
 (jH N p0 p1).bind fun j=>some (decide (j>=0))
def hU (N:Nat) (p0:dJ) (p1:Int):Option (Int):=
 (gG N p0 p1).bind fun j=>some j
def gX (N:Nat) (p0:dJ):Option (Bool):=
 (oZ p0.cS.length (fun(o:Nat) (aa:Unit)=>((Et p0 (o:Int)).bind fun j=>(bif ((((decide ((j.toNat:Int)<65))||(decide ((j.toNat:Int)>90)))&&((decide ((j.toNat:Int)<97))||(decide ((j.toNat:Int)>122))))&&((decide ((j.toNat:Int)<48))||(decide ((j.toNat:Int)>57)))) then ((hU N (⟨[95,43,45,35]⟩) (j.toNat:Int)).bind fun ab=>some (decide (ab<0))) else (some false)).bind fun ad=>bif ad then (some (.rt false)) else (some (.nx ())):Option (Fl (Unit) Bool))) ()).bind fun ae=>ae.cs (fun(aa:Unit)=>some ((decide ((p0.cS.length:Int)>=1))&&(decide ((p0.cS.length:Int)<=40)))) (fun r=>some r)
def gv (N:Nat) (p0:dJ):Option (Bool):=
 (gX N p0).bind fun j=>some (!j)
def kH (N:Nat) (p0:dJ):Option (Bool):=
 (bif (decide ((p0.cS.length:Int)<=200)) then ((lF N p0 (⟨[47]⟩)).bind fun j=>(gu N j (gv N)).bind fun o=>some (!o)) else (some false)).bind fun aa=>some aa
def jW (N:Nat) (p0:cY):Option (fV):=
 some (⟨p0.Part,p0.fV⟩:fV)
def km (N:Nat) (p0 p1:dJ):Option (Int):=
 some (Lib.compareBytes p0.cS p1.cS)
def lT (N:Nat) (p0 p1:dJ):Option (Int):=
 (km N p0 p1).bind fun j=>some j
def dK (N:Nat) (p0 p1:fV):Option (Int):=
 (lT N p0.Part p1.Part).bind fun j=>bif (j != 0) then (some j) else ((lT N p0.fV p1.fV).bind fun o=>some o)
def jk (N:Nat) (p0:gS):Option (Int):=
 bif (decide ((p0.bJ.length:Int)>1000)) then (some 2) else ((oZ p0.bJ.length (fun(o:Nat) (aa:Unit)=>((idx p0.bJ (o:Int)).bind fun j=>((kH N j.Part).bind fun ab=>bif (!ab) then (some true) else ((gX N j.fV).bind fun ad=>some (!ad))).bind fun ae=>bif ae then (some (.rt 5)) else (((gl N j.cZ 0 (IntKind.wrap .i64 ((p0.aL.length:Int) - 1))).bind fun af=>bif (!af) then (some true) else ((iG N j.At).bind fun ag=>some (!ag))).bind fun ah=>bif ah then (some (.rt 1)) else ((bif (decide ((o:Int)>0)) then ((idx p0.bJ (IntKind.wrap .i64 ((o:Int) - 1))).bind fun ai=>(jW N j).bind fun aj=>(jW N ai).bind fun ak=>(dK N aj ak).bind fun al=>some (decide (al<=0))) else (some false)).bind fun an=>bif an then (some (.rt 8)) else (some (.nx ())))):Option (Fl (Unit) Int))) ()).bind fun ao=>ao.cs (fun(aa:Unit)=>some 0) (fun r=>some r))
def iH (N:Nat) (p0 p1:Int) (p2 p3:Int):Option (Int):=
 some (if (if 0< (IntKind.wrap .i64 ((IntKind.wrap .i64 (p2 - p1))+1)) then (IntKind.wrap .i64 ((IntKind.wrap .i64 (p2 - p1))+1)) else 0)< (IntKind.wrap .i64 ((IntKind.wrap .i64 (p0 - p3))+1)) then (IntKind.wrap .i64 ((IntKind.wrap .i64 (p0 - p3))+1)) else (if 0< (IntKind.wrap .i64 ((IntKind.wrap .i64 (p2 - p1))+1)) then (IntKind.wrap .i64 ((IntKind.wrap .i64 (p2 - p1))+1)) else 0))
def jI (N:Nat) (p0 p1:aI):Option (Int):=
 (iH N p0.X0 p0.X1 p1.X0 p1.X1).bind fun j=>(iH N p0.Y0 p0.Y1 p1.Y0 p1.Y1).bind fun o=>some (if j<o then o else j)
def jJ (N:Nat) (p0:bZ) (p1:Int):Option (Bool):=
 some ((decide (p0.bU<=p1))&&(decide (p1<=p0.To)))
def k8 (N:Nat) (p0: (List aA)) (p1 p2:Int):Option ((List Int)×Int):=
 bif ((p0.length:Int)==0) then (some (([]: (List Int)),p2)) else ((idx p0 0).bind fun aa=>bif (decide (p1<aa.Y0)) then ((idx p0 0).bind fun j=>some (([]: (List Int)),(if j.Y0<p2 then j.Y0 else p2))) else ((idx p0 0).bind fun ab=>(idx p0 0).bind fun o=>some (ab.Xs,(if o.Y1<p2 then o.Y1 else p2))))
def oc (N:Nat) (p0: (List Int)) (p1: (List Int)) (p2:Bool->Bool->Option Bool):Option ((List Int)):=
 (np (fun(j: (List Int)×(List Int)×(List Int)×Bool×Bool×Bool)=>((bif (decide ((j.1.length:Int)>0)) then (some true) else (some (decide ((j.2.1.length:Int)>0)))).bind fun af=>bif af then ((bif ((j.2.1.length:Int)==0) then (some true) else (bif (decide ((j.1.length:Int)>0)) then ((idx j.1 0).bind fun ag=>(idx j.2.1 0).bind fun ah=>some (decide (ag<=ah))) else (some false))).bind fun ai=>(bif ai then ((idx j.1 0).bind fun aj=>some aj) else ((idx j.2.1 0).bind fun ak=>some ak)).bind fun o=>(bif (decide ((j.1.length:Int)>0)) then ((idx j.1 0).bind fun al=>some (al==o)) else (some false)).bind fun an=>(bif an then ((uw j.1 1 (j.1.length:Int)).bind fun ao=>some (ao,(!j.2.2.2.1))) else (some (j.1,j.2.2.2.1))).bind fun aa=>(bif (decide ((j.2.1.length:Int)>0)) then ((idx j.2.1 0).bind fun aq=>some (aq==o)) else (some false)).bind fun ar=>(bif ar then ((uw j.2.1 1 (j.2.1.length:Int)).bind fun au=>some (au,(!j.2.2.2.2.1))) else (some (j.2.1,j.2.2.2.2.1))).bind fun ab=>(p2 aa.2 ab.2).bind fun ad=>(bif (ad != j.2.2.2.2.2) then ((app 8 j.2.2.1 ([o]: (List Int))).bind fun av=>some (av,ad)) else (some (j.2.2.1,j.2.2.2.2.2))).bind fun ae=>some (.nx (aa.1,ab.1,ae.1,aa.2,ab.2,ae.2))) else (some (.br (j.1,j.2.1,j.2.2.1,j.2.2.2.1,j.2.2.2.2.1,j.2.2.2.2.2))):Option (Fl ((List Int)×(List Int)×(List Int)×Bool×Bool×Bool) Empty))) N (p0,p1,([]: (List Int)),false,false,false)).bind fun aw=>aw.cs (fun(j: (List Int)×(List Int)×(List Int)×Bool×Bool×Bool)=>some j.2.2.1) (fun r=>r.elim)
def m6 (N:Nat) (p0: (List aA)) (p1: (List aA)) (p2:Bool->Bool->Option Bool):Option ((List aA)):=
 bif ((IntKind.wrap .i64 ((p0.length:Int)+ (p1.length:Int)))==0) then (some ([]: (List aA))) else ((iF (([p0,p1]: (List (List aA))).length) (fun(ah:Nat) (o:Int×Int)=>((idx ([p0,p1]: (List (List aA))) (ah:Int)).bind fun ad=>(bif (decide ((ad.length:Int)>0)) then ((bif ((ah:Int)==0) then (some true) else (some ((p0.length:Int)==0))).bind fun al=>(bif al then ((idx ad 0).bind fun an=>(idx ad (IntKind.wrap .i64 ((ad.length:Int) - 1))).bind fun ao=>some (an.Y0,ao.Y1)) else (some (o.1,o.2))).bind fun ag=>(idx ad 0).bind fun ai=>(idx ad (IntKind.wrap .i64 ((ad.length:Int) - 1))).bind fun aj=>some ((if ai.Y0<ag.1 then ai.Y0 else ag.1),(if ag.2<aj.Y1 then aj.Y1 else ag.2))) else (some (o.1,o.2))).bind fun ak=>some (ak.1,ak.2):Option (Int×Int))) (0,0)).bind fun o=>(np (fun(j: (List aA)×(List aA)×(List aA)×Int)=>(bif (decide (j.2.2.2<o.2)) then ((np (fun(aa: (List aA))=>((bif (decide ((aa.length:Int)>0)) then ((idx aa 0).bind fun aq=>some (decide (aq.Y1<=j.2.2.2))) else (some false)).bind fun ar=>bif ar then ((uw aa 1 (aa.length:Int)).bind fun au=>some (.nx au)) else (some (.br aa)):Option (Fl ((List aA)) Empty))) N j.1).bind fun av=>av.cs (fun(aa: (List aA))=>(np (fun(ab: (List aA))=>((bif (decide ((ab.length:Int)>0)) then ((idx ab 0).bind fun aw=>some (decide (aw.Y1<=j.2.2.2))) else (some false)).bind fun ax=>bif ax then ((uw ab 1 (ab.length:Int)).bind fun ay=>some (.nx ay)) else (some (.br ab)):Option (Fl ((List aA)) Empty))) N j.2.1).bind fun az=>az.cs (fun(ab: (List aA))=>(k8 N aa j.2.2.2 o.2).bind fun ae=>(k8 N ab j.2.2.2 o.2).bind fun af=>(oc N ae.1 af.1 p2).bind fun a0=>(gW N j.2.2.1 (⟨j.2.2.2,(if af.2<ae.2 then af.2 else ae.2),a0⟩:aA)).bind fun a1=>some (.nx (aa,ab,a1,(if af.2<ae.2 then af.2 else ae.2)))) (fun r=>r.elim)) (fun r=>r.elim)) else (some (.br (j.1,j.2.1,j.2.2.1,j.2.2.2))):Option (Fl ((List aA)×(List aA)×(List aA)×Int) Empty))) N (p0,p1,([]: (List aA)),o.1)).bind fun a2=>a2.cs (fun(j: (List aA)×(List aA)×(List aA)×Int)=>some j.2.2.1) (fun r=>r.elim))
def mq (N:Nat) (p0 p1:Bool):Option (Bool):=
 some (p0&&(!p1))
def jK (N:Nat) (p0: (List aA)) (p1: (List aA)):Option ((List aA)):=
 (m6 N p0 p1 (mq N)).bind fun j=>some j
def kI (N:Nat) (p0: (List aA)):Option (Int):=
 (iF p0.length (fun(o:Nat) (j:Int)=>((idx p0 (o:Int)).bind fun aa=>some (IntKind.wrap .i64 (j+ (IntKind.wrap .i64 (Int.tdiv (aa.Xs.length:Int) 2)))):Option (Int))) 0).bind fun j=>some j
def eB (N:Nat) (p0:Int) (p1_0: (List Int)):Option (Int×(List Int)):=
 (np (fun(j:Int×(List Int))=>((idx j.2 j.1).bind fun aa=>bif (aa != j.1) then ((idx j.2 j.1).bind fun ab=>(idx j.2 ab).bind fun o=>(idx j.2 j.1).bind fun af=>(idx (j.2.set (Int.toNat j.1) o) j.1).bind fun ad=>some (.nx (ad,(j.2.set (Int.toNat j.1) o)))) else (some (.br (j.1,j.2))):Option (Fl (Int×(List Int)) Empty))) N (p0,p1_0)).bind fun ae=>ae.cs (fun(j:Int×(List Int))=>some (j.1,j.2)) (fun r=>r.elim)
def ka (N:Nat) (p0: (List aA)):Option ((List (List aA))):=
 (il N p0).bind fun ab=>(mk 8 (0:Int) (ab.length:Int)).bind fun an=>(iF an.length (fun(ai:Nat) (ag: (List Int))=>((idx ag (ai:Int)).bind fun bd=>some (ag.set (Int.toNat (ai:Int)) (ai:Int)):Option ((List Int)))) an).bind fun ag=>(iF p0.length (fun(aj:Nat) (aa: (List Int)×Int×Int)=>((idx p0 (aj:Int)).bind fun ak=>(bif (decide ((aj:Int)>0)) then ((idx p0 (IntKind.wrap .i64 ((aj:Int) - 1))).bind fun ar=>some (ar.Y1==ak.Y0)) else (some false)).bind fun au=>(bif au then ((np (fun(j: (List Int)×Int×Int)=>(bif ((decide (j.2.1<aa.2.1))&&(decide (j.2.2< (IntKind.wrap .i64 (aa.2.1+ (IntKind.wrap .i64 (Int.tdiv (ak.Xs.length:Int) 2))))))) then (((idx ab j.2.1).bind fun av=>(idx ab j.2.2).bind fun aw=>bif (decide (av.X0<aw.X1)) then ((idx ab j.2.2).bind fun ax=>(idx ab j.2.1).bind fun ay=>some (decide (ax.X0<ay.X1))) else (some false)).bind fun az=>(bif az then ((eB N j.2.1 j.1).bind fun ae=>(eB N j.2.2 ae.2).bind fun ad=>(idx ad.2 (if ae.1<ad.1 then ad.1 else ae.1)).bind fun bf=>some (ad.2.set (Int.toNat (if ae.1<ad.1 then ad.1 else ae.1)) (if ad.1<ae.1 then ad.1 else ae.1))) else (some j.1)).bind fun a0=>(idx ab j.2.1).bind fun a1=>(idx ab j.2.2).bind fun a2=>(bif (decide (a1.X1<a2.X1)) then (some ((IntKind.wrap .i64 (j.2.1+1)),j.2.2)) else (some (j.2.1,(IntKind.wrap .i64 (j.2.2+1))))).bind fun ao=>some (.nx (a0,ao.1,ao.2))) else (some (.br (j.1,j.2.1,j.2.2))):Option (Fl ((List Int)×Int×Int) Empty))) N (aa.1,aa.2.2,aa.2.1)).bind fun a3=>a3.cs (fun(j: (List Int)×Int×Int)=>some j.1) (fun r=>r.elim)) else (some aa.1)).bind fun a4=>some (a4,(IntKind.wrap .i64 (aa.2.1+ (IntKind.wrap .i64 (Int.tdiv (ak.Xs.length:Int) 2)))),aa.2.1):Option ((List Int)×Int×Int))) (ag,0,0)).bind fun aa=>(iF ab.length (fun(aq:Nat) (o: (List Int)×(List (Int×Int))×(List (List aI)))=>((idx ab (aq:Int)).bind fun a5=>(eB N (aq:Int) o.1).bind fun ah=>(bif (!(iW o.2.1 ah.1)) then ((app 24 o.2.2 [([]: (List aI))]).bind fun a6=>some ((ph o.2.1 ah.1 (o.2.2.length:Int)),a6,(o.2.2.length:Int))) else (some (o.2.1,o.2.2,(dM o.2.1 ah.1 (0:Int))))).bind fun af=>(idx af.2.1 af.2.2).bind fun a7=>(app 32 a7 ([a5]: (List aI))).bind fun a8=>(idx af.2.1 af.2.2).bind fun bg=>some (ah.2,af.1,(af.2.1.set (Int.toNat af.2.2) a8)):Option ((List Int)×(List (Int×Int))×(List (List aI))))) (aa.1,([]: (List (Int×Int))),([]: (List (List aI))))).bind fun o=>(iF o.2.2.length (fun(a9:Nat) (al: (List (List aA)))=>((idx o.2.2 (a9:Int)).bind fun ba=>(fX N ba).bind fun bb=>(app 24 al ([bb]: (List (List aA)))).bind fun bc=>some bc:Option ((List (List aA))))) ([]: (List (List aA)))).bind fun al=>some al
def iN (N:Nat) (p0_0: (List (List aI))) (p0_2: (List bZ)) (p0_4: (List (List aA))) (p0_5: (List aH)):Option (Bool×(List (List aA))×(List aH)):=
 (iF p0_0.length (fun(aa:Nat) (j: (List (List aA))×(List aH)×Bool)=>((idx p0_0 (aa:Int)).bind fun ai=>(iF p0_2.length (fun(aj:Nat) (o: (List aI))=>((idx p0_2 (aj:Int)).bind fun af=>(jJ N af (aa:Int)).bind fun ak=>(bif ak then ((eW N af).bind fun al=>(app 32 o ([al]: (List aI))).bind fun an=>some an) else (some o)).bind fun ao=>some ao:Option ((List aI)))) ([]: (List aI))).bind fun o=>(fX N ai).bind fun aq=>(fX N o).bind fun ar=>(jK N aq ar).bind fun ab=>(bif j.2.2 then ((kI N ab).bind fun au=>some ((decide (au<=2000)),ab)) else (some (false,ab))).bind fun ad=>(app 24 j.1 ([ad.2]: (List (List aA)))).bind fun av=>(ka N ad.2).bind fun ag=>(iF ag.length (fun(aw:Nat) (ae: (List aH))=>((idx ag (aw:Int)).bind fun ah=>(il N ah).bind fun ax=>(app 56 ae ([(⟨(aa:Int),ah,ax⟩:aH)]: (List aH))).bind fun ay=>some ay:Option ((List aH)))) j.2.1).bind fun ae=>some (av,ae,ad.1):Option ((List (List aA))×(List aH)×Bool))) (p0_4,p0_5,true)).bind fun j=>(bif j.2.2 then (some (decide ((j.2.1.length:Int)<=2000))) else (some false)).bind fun az=>some (az,j.1,j.2.1)
def pj (N:Nat) (p0 p1:aI):Option (Bool):=
 some ((((decide (p0.X0<p1.X1))&&(decide (p1.X0<p0.X1)))&&((p0.Y1==p1.Y0)||(p1.Y1==p0.Y0)))||(((decide (p0.Y0<p1.Y1))&&(decide (p1.Y0<p0.Y1)))&&((p0.X1==p1.X0)||(p1.X1==p0.X0))))
def iV (N:Nat) (p0:aI) (p1:bZ):Option (Bool):=
 (eW N p1).bind fun j=>(pj N p0 j).bind fun o=>some o
def fJ (N:Nat) (p0: (List aI)) (p1:aI->Option Bool):Option (Bool):=
 (kl N p0 p1).bind fun j=>some (decide (j>=0))
def iO (N:Nat) (p0_2: (List bZ)) (p0_5: (List aH)) (p0_6: (List (List Int))):Option ((List (List Int))):=
 (iF p0_2.length (fun(ae:Nat) (o: (List (List Int)))=>((idx p0_2 (ae:Int)).bind fun aa=>(iF p0_5.length (fun(ab:Nat) (j: (List Int))=>((idx p0_5 (ab:Int)).bind fun ad=>(bif aa.ij then ((jJ N aa ad.cZ).bind fun af=>bif af then ((fJ N ad.iZ (fun y0=>iV N y0 aa)).bind fun ag=>some ag) else (some false)) else (some false)).bind fun ah=>(bif ah then ((app 8 j ([(ab:Int)]: (List Int))).bind fun ai=>some ai) else (some j)).bind fun aj=>some aj:Option ((List Int)))) ([]: (List Int))).bind fun j=>(app 24 o ([j]: (List (List Int)))).bind fun ak=>some ak:Option ((List (List Int))))) p0_6).bind fun o=>some o
def iI (N:Nat) (p0:Int):Option (((List Int))):=
 (mk 8 (0:Int) p0).bind fun aa=>(iF aa.length (fun(o:Nat) (j: (List Int))=>((idx j (o:Int)).bind fun ab=>some (j.set (Int.toNat (o:Int)) (o:Int)):Option ((List Int)))) aa).bind fun j=>some j
def dQ (N:Nat) (p0_0: (List Int)) (p1:Int):Option (Int×(List Int)):=
 (np (fun(j: (List Int)×Int)=>((idx j.1 j.2).bind fun aa=>bif (aa != j.2) then ((idx j.1 j.2).bind fun ab=>(idx j.1 ab).bind fun o=>(idx j.1 j.2).bind fun af=>(idx (j.1.set (Int.toNat j.2) o) j.2).bind fun ad=>some (.nx ((j.1.set (Int.toNat j.2) o),ad))) else (some (.br (j.1,j.2))):Option (Fl ((List Int)×Int) Empty))) N (p0_0,p1)).bind fun ae=>ae.cs (fun(j: (List Int)×Int)=>some (j.2,j.1)) (fun r=>r.elim)
def dH (N:Nat) (p0_0: (List Int)) (p1 p2:Int):Option ((List Int)):=
 (dQ N p0_0 p1).bind fun o=>(dQ N o.2 p2).bind fun j=>(idx j.2 (if o.1<j.1 then j.1 else o.1)).bind fun aa=>some (j.2.set (Int.toNat (if o.1<j.1 then j.1 else o.1)) (if j.1<o.1 then j.1 else o.1))
def iP (N:Nat) (p0_0: (List Int)):Option ((List (List Int))×(List Int)):=
 (iF p0_0.length (fun(ab:Nat) (j: (List Int)×(List (List Int))×(List (Int×Int)))=>((dQ N j.1 (ab:Int)).bind fun aa=>(bif (aa.1==(ab:Int)) then ((app 24 j.2.1 [([]: (List Int))]).bind fun ad=>some (ad,(ph j.2.2 (ab:Int) (j.2.1.length:Int)))) else (some (j.2.1,j.2.2))).bind fun o=>(idx o.1 (dM o.2 aa.1 (0:Int))).bind fun ae=>(app 8 ae ([(ab:Int)]: (List Int))).bind fun af=>(idx o.1 (dM o.2 aa.1 (0:Int))).bind fun ag=>some (aa.2,(o.1.set (Int.toNat (dM o.2 aa.1 (0:Int))) af),o.2):Option ((List Int)×(List (List Int))×(List (Int×Int))))) (p0_0,([]: (List (List Int))),([]: (List (Int×Int))))).bind fun j=>some (j.2.1,j.1)
def jX (N:Nat) (p0:aI) (p1:eN):Option (Bool):=
 (bif (decide (p1.X>=p0.X0)) then (bif (decide (p1.X<p0.X1)) then (bif (decide (p1.Y>=p0.Y0)) then (some (decide (p1.Y<p0.Y1))) else (some false)) else (some false)) else (some false)).bind fun j=>some j
def jc (N:Nat) (p0: (List aI)) (p1:eN):Option (Bool):=
 (fJ N p0 (fun y0=>jX N y0 p1)).bind fun j=>some j
def iQ (N:Nat) (p0_2: (List bZ)) (p0_5: (List aH)) (p1:cY):Option (dU×Bool):=
 (oZ p0_2.length (fun(o:Nat) (ad:Unit)=>((idx p0_2 (o:Int)).bind fun j=>(bif j.ij then ((jJ N j p1.cZ).bind fun ae=>bif ae then ((eW N j).bind fun af=>(jc N ([af]: (List aI)) p1.At).bind fun ag=>some ag) else (some false)) else (some false)).bind fun ah=>bif ah then (some (.rt ((⟨true,(o:Int)⟩:dU),true))) else (some (.nx ())):Option (Fl (Unit) (dU×Bool)))) ()).bind fun ai=>ai.cs (fun(ad:Unit)=>(oZ p0_5.length (fun(aa:Nat) (aj:Unit)=>((idx p0_5 (aa:Int)).bind fun ab=>(bif (ab.cZ==p1.cZ) then ((jc N ab.iZ p1.At).bind fun ak=>some ak) else (some false)).bind fun al=>bif al then (some (.rt ((⟨false,(aa:Int)⟩:dU),true))) else (some (.nx ())):Option (Fl (Unit) (dU×Bool)))) ()).bind fun an=>an.cs (fun(aj:Unit)=>some ((⟨false,0⟩:dU),false)) (fun r=>some r)) (fun r=>some r)
def fY (N:Nat) (p0_8: (List Int)) (p0_9: (List Int)) (p1:dU):Option (Int):=
 bif p1.bZ then ((idx p0_9 p1.Number).bind fun j=>some j) else ((idx p0_8 p1.Number).bind fun o=>some o)
def eT (N:Nat) (p0_2: (List bZ)) (p0_3: (List cY)) (p0_5: (List aH)) (p0_6: (List (List Int))) (p0_8: (List Int)) (p0_9: (List Int)) (p0_10: (List Int)) (p0_11: (List dU)):Option ((List cI)×(List Int)×(List Int)×(List Int)×(List dU)):=
 (iI N (IntKind.wrap .i64 ((p0_5.length:Int)+ (p0_2.length:Int)))).bind fun ar=>(iF p0_6.length (fun(ai:Nat) (af: (List Int))=>((idx p0_6 (ai:Int)).bind fun aj=>(iF aj.length (fun(au:Nat) (ag: (List Int))=>((idx aj (au:Int)).bind fun av=>(dH N ag av (IntKind.wrap .i64 ((p0_5.length:Int)+ (ai:Int)))).bind fun aw=>some aw:Option ((List Int)))) af).bind fun ag=>some ag:Option ((List Int)))) ar).bind fun af=>(mk 8 (0:Int) (p0_5.length:Int)).bind fun ax=>(mk 8 (0:Int) (p0_2.length:Int)).bind fun ay=>(iP N af).bind fun ak=>(iF ak.1.length (fun(az:Nat) (aa: (List cI)×(List Int)×(List Int))=>((idx ak.1 (az:Int)).bind fun al=>(iF al.length (fun(a0:Nat) (j: (List Int)×(List Int)×(List Int)×(List Int))=>((idx al (a0:Int)).bind fun ab=>(bif (decide (ab< (p0_5.length:Int))) then ((idx j.1 ab).bind fun bd=>(app 8 j.2.2.1 ([ab]: (List Int))).bind fun a1=>some ((j.1.set (Int.toNat ab) (aa.1.length:Int)),j.2.1,a1,j.2.2.2)) else ((idx p0_2 (IntKind.wrap .i64 (ab - (p0_5.length:Int)))).bind fun a2=>(bif a2.ij then ((idx j.2.1 (IntKind.wrap .i64 (ab - (p0_5.length:Int)))).bind fun bf=>(app 8 j.2.2.2 ([(IntKind.wrap .i64 (ab - (p0_5.length:Int)))]: (List Int))).bind fun a3=>some ((j.2.1.set (Int.toNat (IntKind.wrap .i64 (ab - (p0_5.length:Int)))) (aa.1.length:Int)),a3)) else ((idx j.2.1 (IntKind.wrap .i64 (ab - (p0_5.length:Int)))).bind fun bg=>some ((j.2.1.set (Int.toNat (IntKind.wrap .i64 (ab - (p0_5.length:Int)))) (-1)),j.2.2.2))).bind fun an=>some (j.1,an.1,j.2.2.1,an.2))).bind fun ad=>some (ad.1,ad.2.1,ad.2.2.1,ad.2.2.2):Option ((List Int)×(List Int)×(List Int)×(List Int)))) (aa.2.1,aa.2.2,([]: (List Int)),([]: (List Int)))).bind fun j=>(bif (decide ((IntKind.wrap .i64 ((j.2.2.1.length:Int)+ (j.2.2.2.length:Int)))>0)) then ((app 72 aa.1 [(⟨j.2.2.1,j.2.2.2,([]: (List fV))⟩:cI)]).bind fun a4=>some a4) else (some aa.1)).bind fun a5=>some (a5,j.1,j.2.1):Option ((List cI)×(List Int)×(List Int)))) (([]: (List cI)),ax,ay)).bind fun aa=>(iF p0_3.length (fun(a6:Nat) (o: (List cI)×(List Int)×(List Int)×(List Int)×(List dU))=>((idx p0_3 (a6:Int)).bind fun ao=>(iQ N p0_2 p0_5 ao).bind fun ah=>(bif ah.2 then ((fY N o.2.1 o.2.2.1 ah.1).bind fun ae=>(idx o.1 ae).bind fun a7=>(jW N ao).bind fun a8=>(app 32 a7.gV ([a8]: (List fV))).bind fun a9=>(idx o.1 ae).bind fun ba=>some ((o.1.set (Int.toNat ae) {ba with gV:=a9}),ae)) else (some (o.1,(-1)))).bind fun aq=>(app 8 o.2.2.2.1 ([aq.2]: (List Int))).bind fun bb=>(app 16 o.2.2.2.2 ([ah.1]: (List dU))).bind fun bc=>some (aq.1,o.2.1,o.2.2.1,bb,bc):Option ((List cI)×(List Int)×(List Int)×(List Int)×(List dU)))) (aa.1,aa.2.1,aa.2.2,p0_10,p0_11)).bind fun o=>some (o.1,o.2.1,o.2.2.1,o.2.2.2.1,o.2.2.2.2)
def gD (N:Nat) (p0:gS):Option (Option ((List (List aI))×(List aI)×(List bZ)×(List cY)×(List (List aA))×(List aH)×(List (List Int))×(List cI)×(List Int)×(List Int)×(List Int)×(List dU))×Int):=
 bif ((p0.aL.length:Int)==0) then (some (none,9)) else (bif (decide ((p0.aL.length:Int)>16)) then (some (none,2)) else ((oZ p0.aL.length (fun(al:Nat) (aa:Int)=>((idx p0.aL (al:Int)).bind fun ad=>(hQ N ad).bind fun ae=>bif (ae != 0) then (some (.rt (none,ae))) else (some (.nx (IntKind.wrap .i64 (aa+ (ad.length:Int))))):Option (Fl (Int) (Option ((List (List aI))×(List aI)×(List bZ)×(List cY)×(List (List aA))×(List aH)×(List (List Int))×(List cI)×(List Int)×(List Int)×(List Int)×(List dU))×Int)))) (p0.dL.length:Int)).bind fun an=>an.cs (fun(aa:Int)=>(hQ N p0.dL).bind fun af=>bif (af != 0) then (some (none,af)) else (bif (decide (aa>2000)) then (some (none,2)) else ((jh N p0).bind fun ag=>bif (ag != 0) then (some (none,ag)) else ((jk N p0).bind fun ah=>bif (ah != 0) then (some (none,ah)) else ((oZ p0.aW.length (fun(ai:Nat) (ao:Unit)=>((idx p0.aW (ai:Int)).bind fun eJ=>(uw p0.aW 0 (ai:Int)).bind fun aj=>(oZ aj.length (fun(aq:Nat) (ar:Unit)=>((idx aj (aq:Int)).bind fun ab=>(bif ((decide (eJ.bU<=ab.To))&&(decide (ab.bU<=eJ.To))) then ((eW N eJ).bind fun au=>(eW N ab).bind fun av=>(jI N au av).bind fun aw=>some (aw==0)) else (some false)).bind fun ax=>bif ax then (some (.rt (none,12))) else (some (.nx ())):Option (Fl (Unit) (Option ((List (List aI))×(List aI)×(List bZ)×(List cY)×(List (List aA))×(List aH)×(List (List Int))×(List cI)×(List Int)×(List Int)×(List Int)×(List dU))×Int)))) ()).bind fun ay=>ay.cs (fun(ar:Unit)=>some (.nx ())) (fun r=>some (.rt r)):Option (Fl (Unit) (Option ((List (List aI))×(List aI)×(List bZ)×(List cY)×(List (List aA))×(List aH)×(List (List Int))×(List cI)×(List Int)×(List Int)×(List Int)×(List dU))×Int)))) ()).bind fun az=>az.cs (fun(ao:Unit)=>(iN N p0.aL p0.aW ([]: (List (List aA))) ([]: (List aH))).bind fun j=>bif (!j.1) then (some (none,2)) else ((iO N p0.aW j.2.2 ([]: (List (List Int)))).bind fun ak=>(eT N p0.aW p0.bJ j.2.2 ak ([]: (List Int)) ([]: (List Int)) ([]: (List Int)) ([]: (List dU))).bind fun o=>some (some (p0.aL,p0.dL,p0.aW,p0.bJ,j.2.1,j.2.2,ak,o.1,o.2.1,o.2.2.1,o.2.2.2.1,o.2.2.2.2),0))) (fun r=>some r)))))) (fun r=>some r)))
def k9 (N:Nat) (p0 p1 p2:Int):Option (Bool):=
 some ((decide (p0>=p1))&&(decide (p0<=p2)))
def gE (N:Nat) (p0:dU) (p1:Int) (p3_0: (List bQ)) (p2h_7: (List cI)):Option ((List bQ)):=
 (bif (decide (p1>=0)) then ((idx p2h_7 p1).bind fun j=>some (decide ((j.gV.length:Int)>1))) else (some false)).bind fun o=>(bif o then ((app 40 p3_0 ([(⟨true,p0,0,0⟩:bQ)]: (List bQ))).bind fun aa=>some aa) else (some p3_0)).bind fun ab=>some ab
def oe (N:Nat) (p0 p1:aI) (p2:Int):Option (eN):=
 some (⟨(if p0.X0< (IntKind.wrap .i64 (p1.X0 - p2)) then (IntKind.wrap .i64 (p1.X0 - p2)) else p0.X0),(if p0.Y0< (IntKind.wrap .i64 (p1.Y0 - p2)) then (IntKind.wrap .i64 (p1.Y0 - p2)) else p0.Y0)⟩:eN)
def og (N:Nat) (p0 p1:eN):Option (Bool):=
 some ((decide (p0.Y<p1.Y))||((p0.Y==p1.Y)&&(decide (p0.X<p1.X))))
def l8 (N:Nat) (p0: (List aI)) (p1: (List aI)):Option (qg):=
 (iF p0.length (fun(an:Nat) (aa:Int)=>((idx p0 (an:Int)).bind fun ao=>(iF p1.length (fun(aq:Nat) (ad:Int)=>((idx p1 (aq:Int)).bind fun ar=>(jI N ao ar).bind fun ae=>(bif ((decide (ad<0))||(decide (ae<ad))) then (some ae) else (some ad)).bind fun au=>some au:Option (Int))) aa).bind fun ad=>some ad:Option (Int))) (-1)).bind fun aa=>(iF p0.length (fun(av:Nat) (j:qg×Bool)=>((idx p0 (av:Int)).bind fun af=>(iF p1.length (fun(aw:Nat) (o:qg×Bool)=>((idx p1 (aw:Int)).bind fun ag=>(oe N af ag aa).bind fun ah=>((jI N af ag).bind fun ax=>bif (ax==aa) then (bif (!o.2) then (some true) else ((og N ah o.1.bU).bind fun ay=>some ay)) else (some false)).bind fun az=>(bif az then (some ({o.1 with bU:=ah},true)) else (some (o.1,o.2))).bind fun ai=>some (ai.1,ai.2):Option (qg×Bool))) (j.1,j.2)).bind fun o=>some (o.1,o.2):Option (qg×Bool))) ((⟨0,0,(IntKind.wrap .i64 (aa - 1)),⟨0,0⟩,⟨0,0⟩⟩:qg),false)).bind fun j=>(iF p1.length (fun(a0:Nat) (ab:qg×Bool)=>((idx p1 (a0:Int)).bind fun aj=>(oe N aj (⟨j.1.bU.X,j.1.bU.Y,(IntKind.wrap .i64 (j.1.bU.X+1)),(IntKind.wrap .i64 (j.1.bU.Y+1))⟩:aI) aa).bind fun ak=>((jI N aj (⟨j.1.bU.X,j.1.bU.Y,(IntKind.wrap .i64 (j.1.bU.X+1)),(IntKind.wrap .i64 (j.1.bU.Y+1))⟩:aI)).bind fun a1=>bif (a1==aa) then (bif (!ab.2) then (some true) else ((og N ak ab.1.To).bind fun a2=>some a2)) else (some false)).bind fun a3=>(bif a3 then (some ({ab.1 with To:=ak},true)) else (some (ab.1,ab.2))).bind fun al=>some (al.1,al.2):Option (qg×Bool))) (j.1,false)).bind fun ab=>some ab.1
def mu (N:Nat) (p0_0: (List (List aI))) (p0_1: (List aI)) (p0_2: (List bZ)) (p0_3: (List cY)) (p0_4: (List (List aA))) (p0_5: (List aH)) (p0_6: (List (List Int))) (p0_7: (List cI)) (p0_8: (List Int)) (p0_9: (List Int)) (p0_10: (List Int)) (p0_11: (List dU)) (p1:Int):Option ((List bQ)×Int):=
 (k9 N p1 0 100000).bind fun ah=>bif (!ah) then (some (([]: (List bQ)),1)) else ((iF p0_8.length (fun(ae:Nat) (ab: (List bQ))=>((idx p0_8 (ae:Int)).bind fun ai=>(gE N (⟨false,(ae:Int)⟩:dU) ai ab p0_7).bind fun aj=>some aj:Option ((List bQ)))) ([]: (List bQ))).bind fun ab=>(iF p0_9.length (fun(af:Nat) (ad: (List bQ))=>((idx p0_9 (af:Int)).bind fun ak=>(gE N (⟨true,(af:Int)⟩:dU) ak ad p0_7).bind fun al=>some al:Option ((List bQ)))) ab).bind fun ad=>(iF p0_5.length (fun(o:Nat) (aa: (List bQ))=>((idx p0_5 (o:Int)).bind fun ag=>(np (fun(j: (List bQ)×Int)=>((bif (decide (j.2< (p0_5.length:Int))) then ((idx p0_5 j.2).bind fun an=>some (an.cZ==ag.cZ)) else (some false)).bind fun ao=>bif ao then (((idx p0_8 (o:Int)).bind fun aq=>(idx p0_8 j.2).bind fun ar=>bif (aq != ar) then ((idx p0_5 j.2).bind fun au=>(l8 N ag.iZ au.iZ).bind fun av=>some (decide (av.iv<p1))) else (some false)).bind fun aw=>(bif aw then ((app 40 j.1 ([(⟨false,⟨false,0⟩,(o:Int),j.2⟩:bQ)]: (List bQ))).bind fun ax=>some ax) else (some j.1)).bind fun ay=>some (.nx (ay,(IntKind.wrap .i64 (j.2+1))))) else (some (.br (j.1,j.2))):Option (Fl ((List bQ)×Int) Empty))) N (aa,(IntKind.wrap .i64 ((o:Int)+1)))).bind fun az=>az.cs (fun(j: (List bQ)×Int)=>some j.1) (fun r=>r.elim):Option ((List bQ)))) ad).bind fun aa=>bif (decide ((aa.length:Int)>20000)) then (some (([]: (List bQ)),2)) else (some (aa,0)))
def eK (N:Nat) (p0: (List cY)) (p1:fV) (p2:cY->fV->Option Int):Option (Int×Bool):=
 (np (fun(j:Int×Int)=>(bif (decide (j.1<j.2)) then ((idx p0 (IntKind.wrap .i64 (Int.fdiv (IntKind.wrap .u64 (IntKind.wrap .i64 (j.1+j.2))) 2))).bind fun aa=>(p2 aa p1).bind fun ab=>(bif (decide (ab<0)) then (some ((IntKind.wrap .i64 ((IntKind.wrap .i64 (Int.fdiv (IntKind.wrap .u64 (IntKind.wrap .i64 (j.1+j.2))) 2))+1)),j.2)) else (some (j.1,(IntKind.wrap .i64 (Int.fdiv (IntKind.wrap .u64 (IntKind.wrap .i64 (j.1+j.2))) 2))))).bind fun o=>some (.nx (o.1,o.2))) else (some (.br (j.1,j.2))):Option (Fl (Int×Int) Empty))) N (0,(p0.length:Int))).bind fun ad=>ad.cs (fun(j:Int×Int)=>(bif (decide (j.1< (p0.length:Int))) then ((idx p0 j.1).bind fun ae=>(p2 ae p1).bind fun af=>some (af==0)) else (some false)).bind fun ag=>some (j.1,ag)) (fun r=>r.elim)
def gL (N:Nat) (p0:cY) (p1:fV):Option (Int):=
 (jW N p0).bind fun j=>(dK N j p1).bind fun o=>some o
def dR (N:Nat) (p0:gS) (p1:fV):Option (Int):=
 (eK N p0.bJ p1 (gL N)).bind fun j=>bif (!j.2) then (some (-1)) else (some j.1)
def oh (N:Nat) (p0: (List Int)):Option (Int):=
 (oZ p0.length (fun(o:Nat) (aa:Unit)=>((idx p0 (o:Int)).bind fun j=>bif (j != 0) then (some (.rt j)) else (some (.nx ())):Option (Fl (Unit) Int))) ()).bind fun ab=>ab.cs (fun(aa:Unit)=>some 0) (fun r=>some r)
def fT (N:Nat) (p0 p1:Test):Option (Int):=
 (dK N p0.A p1.A).bind fun j=>(dK N p0.B p1.B).bind fun o=>(oh N ([j,o]: (List Int))).bind fun aa=>some aa
def iR (N:Nat) (p0:gS) (p1: (List Test)):Option (Option ((List (List aI))×(List aI)×(List bZ)×(List cY)×(List (List aA))×(List aH)×(List (List Int))×(List cI)×(List Int)×(List Int)×(List Int)×(List dU))×Int):=
 (gD N p0).bind fun o=>DL o.1 (bif (o.2 != 0) then (some (none,o.2)) else (bif (decide ((p1.length:Int)>2000)) then (some (none,2)) else ((oZ p1.length (fun(ad:Nat) (af:Unit)=>((idx p1 (ad:Int)).bind fun aa=>((dR N p0 aa.A).bind fun ag=>bif (decide (ag<0)) then (some true) else ((dR N p0 aa.B).bind fun ah=>some (decide (ah<0)))).bind fun ai=>bif ai then (some (.rt (none,9))) else ((dK N aa.B aa.A).bind fun aj=>bif (decide (aj<=0)) then (some (.rt (none,8))) else ((bif (decide ((ad:Int)>0)) then ((idx p1 (IntKind.wrap .i64 ((ad:Int) - 1))).bind fun ak=>(fT N aa ak).bind fun al=>some (decide (al<=0))) else (some false)).bind fun an=>bif an then (some (.rt (none,8))) else (some (.nx ())))):Option (Fl (Unit) (Option ((List (List aI))×(List aI)×(List bZ)×(List cY)×(List (List aA))×(List aH)×(List (List Int))×(List cI)×(List Int)×(List Int)×(List Int)×(List dU))×Int)))) ()).bind fun ao=>ao.cs (fun(af:Unit)=>some (none,0)) (fun r=>some r)))) (fun(j: ((List (List aI))×(List aI)×(List bZ)×(List cY)×(List (List aA))×(List aH)×(List (List Int))×(List cI)×(List Int)×(List Int)×(List Int)×(List dU)))=>bif (o.2 != 0) then (some (none,o.2)) else (bif (decide ((p1.length:Int)>2000)) then (some (none,2)) else ((oZ p1.length (fun(ae:Nat) (aq:Unit)=>((idx p1 (ae:Int)).bind fun ab=>((dR N p0 ab.A).bind fun ar=>bif (decide (ar<0)) then (some true) else ((dR N p0 ab.B).bind fun au=>some (decide (au<0)))).bind fun av=>bif av then (some (.rt (none,9))) else ((dK N ab.B ab.A).bind fun aw=>bif (decide (aw<=0)) then (some (.rt (none,8))) else ((bif (decide ((ae:Int)>0)) then ((idx p1 (IntKind.wrap .i64 ((ae:Int) - 1))).bind fun ax=>(fT N ab ax).bind fun ay=>some (decide (ay<=0))) else (some false)).bind fun az=>bif az then (some (.rt (none,8))) else (some (.nx ())))):Option (Fl (Unit) (Option ((List (List aI))×(List aI)×(List bZ)×(List cY)×(List (List aA))×(List aH)×(List (List Int))×(List cI)×(List Int)×(List Int)×(List Int)×(List dU))×Int)))) ()).bind fun a0=>a0.cs (fun(aq:Unit)=>some (some (j.1,j.2.1,j.2.2.1,j.2.2.2.1,j.2.2.2.2.1,j.2.2.2.2.2.1,j.2.2.2.2.2.2.1,j.2.2.2.2.2.2.2.1,j.2.2.2.2.2.2.2.2.1,j.2.2.2.2.2.2.2.2.2.1,j.2.2.2.2.2.2.2.2.2.2.1,j.2.2.2.2.2.2.2.2.2.2.2),0)) (fun r=>some r))))
def iw (N:Nat) (p0:Int) (p1h_5: (List aH)):Option (Bool):=
 (k9 N p0 0 (IntKind.wrap .i64 ((p1h_5.length:Int) - 1))).bind fun j=>some j
def mw (N:Nat) (p0: (List bQ)) (p1:bQ):Option (Int):=
 (oZ p0.length (fun(j:Nat) (o:Unit)=>((idx p0 (j:Int)).bind fun aa=>bif (decide (p1=aa)) then (some (.rt (j:Int))) else (some (.nx ())):Option (Fl (Unit) Int))) ()).bind fun ab=>ab.cs (fun(o:Unit)=>some (-1)) (fun r=>some r)
def kJ (N:Nat) (p0: (List bQ)) (p1:bQ):Option (Bool):=
 (mw N p0 p1).bind fun j=>some (decide (j>=0))
def jL (N:Nat) (p0_0: (List (List aI))) (p0_1: (List aI)) (p0_2: (List bZ)) (p0_3: (List cY)) (p0_4: (List (List aA))) (p0_5: (List aH)) (p0_6: (List (List Int))) (p0_7: (List cI)) (p0_8: (List Int)) (p0_9: (List Int)) (p0_10: (List Int)) (p0_11: (List dU)) (p1: (List bQ)):Option (Int):=
 bif (decide ((p1.length:Int)>20)) then (some 2) else ((oZ p1.length (fun(o:Nat) (aa:Unit)=>((idx p1 (o:Int)).bind fun j=>(bif (j.Open&&((j.A != 0)||(j.B != 0))) then (some true) else (bif (!j.Open) then (some (!(decide (j.dU= (⟨false,0⟩:dU))))) else (some false))).bind fun ab=>bif ab then (some (.rt 3)) else (((iw N j.A p0_5).bind fun ad=>bif ad then ((iw N j.B p0_5).bind fun ae=>some ae) else (some false)).bind fun af=>(bif j.Open then ((iw N j.dU.Number p0_5).bind fun ag=>some ag) else (some af)).bind fun ah=>(bif (j.Open&&j.dU.bZ) then (((k9 N j.dU.Number 0 (IntKind.wrap .i64 ((p0_2.length:Int) - 1))).bind fun ai=>bif ai then ((idx p0_2 j.dU.Number).bind fun aj=>some aj.ij) else (some false)).bind fun ak=>some ak) else (some ah)).bind fun al=>bif (!al) then (some (.rt 9)) else (bif ((!j.Open)&&(decide (j.B<=j.A))) then (some (.rt 8)) else ((uw p1 0 (o:Int)).bind fun an=>(kJ N an j).bind fun ao=>bif ao then (some (.rt 7)) else (some (.nx ()))))):Option (Fl (Unit) Int))) ()).bind fun aq=>aq.cs (fun(aa:Unit)=>some 0) (fun r=>some r))
def fZ (N:Nat) (p0:dU) (p1:Int):Option (Int):=
 bif p0.bZ then (some (IntKind.wrap .i64 (p1+p0.Number))) else (some p0.Number)
def gM (N:Nat) (p0 p1:Int) (p2_0: (List (Int×Bool))) (p3h_0: (List Int)):Option ((List Int)):=
 (bif (!(dM p2_0 p0 (false:Bool))) then (some (!(dM p2_0 p1 (false:Bool)))) else (some false)).bind fun j=>(bif j then ((dH N p3h_0 p0 p1).bind fun o=>some o) else (some p3h_0)).bind fun aa=>some aa
def dE (N:Nat) (p0_2: (List bZ)) (p0_3: (List cY)) (p0_5: (List aH)) (p0_6: (List (List Int))) (p0_10: (List Int)) (p0_11: (List dU)) (p1: (List bQ)):Option ((List Int)):=
 (iF p1.length (fun(aq:Nat) (aa: (List (Int×Bool)))=>((idx p1 (aq:Int)).bind fun aj=>(bif aj.Open then ((fZ N aj.dU (p0_5.length:Int)).bind fun ar=>some (ph aa ar true)) else (some aa)).bind fun au=>some au:Option ((List (Int×Bool))))) ([]: (List (Int×Bool)))).bind fun aa=>(iI N (IntKind.wrap .i64 ((p0_5.length:Int)+ (p0_2.length:Int)))).bind fun av=>(iF p0_6.length (fun(ak:Nat) (ae: (List Int))=>((idx p0_6 (ak:Int)).bind fun al=>(iF al.length (fun(aw:Nat) (af: (List Int))=>((idx al (aw:Int)).bind fun ax=>(gM N ax (IntKind.wrap .i64 ((p0_5.length:Int)+ (ak:Int))) aa af).bind fun ay=>some ay:Option ((List Int)))) ae).bind fun af=>some af:Option ((List Int)))) av).bind fun ae=>(iF p1.length (fun(az:Nat) (ab: (List Int))=>((idx p1 (az:Int)).bind fun ag=>(bif (!ag.Open) then ((gM N ag.A ag.B aa ab).bind fun a0=>some a0) else (some ab)).bind fun a1=>some a1:Option ((List Int)))) ae).bind fun ab=>(mk 8 (0:Int) (p0_3.length:Int)).bind fun a2=>(iF p0_11.length (fun(o:Nat) (j: (List Int)×(List (Int×Int))×(List Int))=>((idx p0_11 (o:Int)).bind fun a3=>(fZ N a3 (p0_5.length:Int)).bind fun ad=>((idx p0_10 (o:Int)).bind fun a4=>bif (decide (a4<0)) then (some true) else (some (dM aa ad (false:Bool)))).bind fun a5=>bif a5 then ((idx j.2.2 (o:Int)).bind fun a6=>some (j.1,j.2.1,(j.2.2.set (Int.toNat (o:Int)) (-1)))) else ((dQ N j.1 ad).bind fun ah=>(bif (!(iW j.2.1 ah.1)) then ((dQ N ah.2 ad).bind fun an=>some (an.2,(ph j.2.1 an.1 (o:Int)))) else (some (ah.2,j.2.1))).bind fun ai=>(dQ N ai.1 ad).bind fun ao=>(idx j.2.2 (o:Int)).bind fun a7=>some (ao.2,ai.2,(j.2.2.set (Int.toNat (o:Int)) (dM ai.2 ao.1 (0:Int))))):Option ((List Int)×(List (Int×Int))×(List Int)))) (ab,([]: (List (Int×Int))),a2)).bind fun j=>some j.2.2
def iq (N:Nat) (p0:gS) (p1: (List bQ)) (p2 p3:fV):Option (Bool×Int):=
 (gD N p0).bind fun o=>DL o.1 (bif (o.2 != 0) then (some (false,o.2)) else (none)) (fun(j: ((List (List aI))×(List aI)×(List bZ)×(List cY)×(List (List aA))×(List aH)×(List (List Int))×(List cI)×(List Int)×(List Int)×(List Int)×(List dU)))=>bif (o.2 != 0) then (some (false,o.2)) else ((jL N j.1 j.2.1 j.2.2.1 j.2.2.2.1 j.2.2.2.2.1 j.2.2.2.2.2.1 j.2.2.2.2.2.2.1 j.2.2.2.2.2.2.2.1 j.2.2.2.2.2.2.2.2.1 j.2.2.2.2.2.2.2.2.2.1 j.2.2.2.2.2.2.2.2.2.2.1 j.2.2.2.2.2.2.2.2.2.2.2 p1).bind fun ad=>bif (ad != 0) then (some (false,ad)) else ((dR N p0 p2).bind fun aa=>(dR N p0 p3).bind fun ae=>bif ((decide (aa<0))||(decide (ae<0))) then (some (false,9)) else ((dE N j.2.2.1 j.2.2.2.1 j.2.2.2.2.2.1 j.2.2.2.2.2.2.1 j.2.2.2.2.2.2.2.2.2.2.1 j.2.2.2.2.2.2.2.2.2.2.2 p1).bind fun ab=>((idx ab aa).bind fun af=>bif (decide (af>=0)) then ((idx ab aa).bind fun ag=>(idx ab ae).bind fun ah=>some (ag==ah)) else (some false)).bind fun ai=>some (ai,0)))))
def f0 (N:Nat):Option (Bool):=
 (iq N (⟨([([(⟨0,0,1,1⟩:aI)]: (List aI))]: (List (List aI))),([]: (List aI)),([]: (List bZ)),([(⟨⟨[97]⟩,⟨[49]⟩,0,⟨0,0⟩⟩:cY)]: (List cY))⟩:gS) ([]: (List bQ)) (⟨⟨[97]⟩,⟨[49]⟩⟩:fV) (⟨⟨[97]⟩,⟨[49]⟩⟩:fV)).bind fun j=>some ((j.2==0)&&j.1)
def jP (N:Nat) (p0_0: (List (List aI))) (p0_1: (List aI)) (p0_2: (List bZ)) (p0_3: (List cY)) (p0_5: (List aH)) (p0_6: (List (List Int))) (p0_10: (List Int)) (p0_11: (List dU)) (p1: (List Test)) (p2: (List bQ)):Option ((List Bool)):=
 (dE N p0_2 p0_3 p0_5 p0_6 p0_10 p0_11 p2).bind fun o=>(iF p1.length (fun(ad:Nat) (j: (List Bool))=>((idx p1 (ad:Int)).bind fun aa=>(dR N (⟨p0_0,p0_1,p0_2,p0_3⟩:gS) aa.A).bind fun ab=>(dR N (⟨p0_0,p0_1,p0_2,p0_3⟩:gS) aa.B).bind fun ae=>((idx o ab).bind fun af=>bif (decide (af>=0)) then ((idx o ab).bind fun ag=>(idx o ae).bind fun ah=>(app 1 j ([(ag==ah)]: (List Bool))).bind fun ai=>some ai) else ((app 1 j ([false]: (List Bool))).bind fun aj=>some aj)).bind fun ak=>some ak:Option ((List Bool)))) ([]: (List Bool))).bind fun j=>some j
def wH (N:Nat) (p0:gS) (p1: (List Test)) (p2: (List bQ)):Option ((List Bool)×Int):=
 (iR N p0 p1).bind fun o=>DL o.1 (bif (o.2 != 0) then (some (([]: (List Bool)),o.2)) else (none)) (fun(j: ((List (List aI))×(List aI)×(List bZ)×(List cY)×(List (List aA))×(List aH)×(List (List Int))×(List cI)×(List Int)×(List Int)×(List Int)×(List dU)))=>bif (o.2 != 0) then (some (([]: (List Bool)),o.2)) else ((jL N j.1 j.2.1 j.2.2.1 j.2.2.2.1 j.2.2.2.2.1 j.2.2.2.2.2.1 j.2.2.2.2.2.2.1 j.2.2.2.2.2.2.2.1 j.2.2.2.2.2.2.2.2.1 j.2.2.2.2.2.2.2.2.2.1 j.2.2.2.2.2.2.2.2.2.2.1 j.2.2.2.2.2.2.2.2.2.2.2 p2).bind fun aa=>bif (aa != 0) then (some (([]: (List Bool)),aa)) else ((jP N j.1 j.2.1 j.2.2.1 j.2.2.2.1 j.2.2.2.2.2.1 j.2.2.2.2.2.2.1 j.2.2.2.2.2.2.2.2.2.2.1 j.2.2.2.2.2.2.2.2.2.2.2 p1 p2).bind fun ab=>some (ab,0))))
def jl (N:Nat) (p0: (List Bool)) (p1: (List Bool)):Option (Bool):=
 bif ((p0.length:Int) != (p1.length:Int)) then (some false) else ((oZ p0.length (fun(j:Nat) (o:Unit)=>((idx p0 (j:Int)).bind fun aa=>(idx p1 (j:Int)).bind fun ab=>bif (aa != ab) then (some (.rt false)) else (some (.nx ())):Option (Fl (Unit) Bool))) ()).bind fun ad=>ad.cs (fun(o:Unit)=>some true) (fun r=>some r))
def m7 (N:Nat) (p0: (List Int)) (p1: (List Int)):Option (Bool):=
 (oZ p0.length (fun(j:Nat) (ab:Unit)=>((idx p0 (j:Int)).bind fun o=>(idx p1 (j:Int)).bind fun aa=>(bif (decide (o<0)) then (some (j:Int)) else (some o)).bind fun ad=>(bif (decide (aa<0)) then (some (j:Int)) else (some aa)).bind fun ae=>bif (ad != ae) then (some (.rt false)) else (some (.nx ())):Option (Fl (Unit) Bool))) ()).bind fun af=>af.cs (fun(ab:Unit)=>some true) (fun r=>some r)
def eX (N:Nat) (p0:gS) (p1: (List Test)) (p2:Int):Option ((List bO)×(List Bool)×Int):=
 (iR N p0 p1).bind fun aa=>DL aa.1 (bif (aa.2 != 0) then (some (([]: (List bO)),([]: (List Bool)),aa.2)) else (none)) (fun(j: ((List (List aI))×(List aI)×(List bZ)×(List cY)×(List (List aA))×(List aH)×(List (List Int))×(List cI)×(List Int)×(List Int)×(List Int)×(List dU)))=>bif (aa.2 != 0) then (some (([]: (List bO)),([]: (List Bool)),aa.2)) else ((mu N j.1 j.2.1 j.2.2.1 j.2.2.2.1 j.2.2.2.2.1 j.2.2.2.2.2.1 j.2.2.2.2.2.2.1 j.2.2.2.2.2.2.2.1 j.2.2.2.2.2.2.2.2.1 j.2.2.2.2.2.2.2.2.2.1 j.2.2.2.2.2.2.2.2.2.2.1 j.2.2.2.2.2.2.2.2.2.2.2 p2).bind fun ab=>bif (ab.2 != 0) then (some (([]: (List bO)),([]: (List Bool)),ab.2)) else ((dE N j.2.2.1 j.2.2.2.1 j.2.2.2.2.2.1 j.2.2.2.2.2.2.1 j.2.2.2.2.2.2.2.2.2.2.1 j.2.2.2.2.2.2.2.2.2.2.2 ([]: (List bQ))).bind fun ae=>(iF ab.1.length (fun(af:Nat) (o: (List Int)×(List bO))=>((idx ab.1 (af:Int)).bind fun ad=>(dE N j.2.2.1 j.2.2.2.1 j.2.2.2.2.2.1 j.2.2.2.2.2.2.1 j.2.2.2.2.2.2.2.2.2.2.1 j.2.2.2.2.2.2.2.2.2.2.2 ([ad]: (List bQ))).bind fun ag=>(m7 N ag o.1).bind fun ah=>(bif (!ah) then ((jP N j.1 j.2.1 j.2.2.1 j.2.2.2.1 j.2.2.2.2.2.1 j.2.2.2.2.2.2.1 j.2.2.2.2.2.2.2.2.2.2.1 j.2.2.2.2.2.2.2.2.2.2.2 p1 ([ad]: (List bQ))).bind fun ai=>(app 64 o.2 ([(⟨ad,ai⟩:bO)]: (List bO))).bind fun aj=>some aj) else (some o.2)).bind fun ak=>some (o.1,ak):Option ((List Int)×(List bO)))) (ae,([]: (List bO)))).bind fun o=>(jP N j.1 j.2.1 j.2.2.1 j.2.2.2.1 j.2.2.2.2.2.1 j.2.2.2.2.2.2.1 j.2.2.2.2.2.2.2.2.2.2.1 j.2.2.2.2.2.2.2.2.2.2.2 p1 ([]: (List bQ))).bind fun al=>some (o.2,al,0))))
def iz (N:Nat) (p0: (List Test)):Option ((List Test)):=
 (np (fun(j: (List Test)×Int×Int)=>(bif (decide (j.2.1<j.2.2)) then ((idx j.1 j.2.2).bind fun o=>(idx j.1 j.2.1).bind fun aa=>(idx j.1 j.2.1).bind fun ad=>(idx (j.1.set (Int.toNat j.2.1) o) j.2.2).bind fun ae=>some (.nx (((j.1.set (Int.toNat j.2.1) o).set (Int.toNat j.2.2) aa),(IntKind.wrap .i64 (j.2.1+1)),(IntKind.wrap .i64 (j.2.2 - 1))))) else (some (.br (j.1,j.2.1,j.2.2))):Option (Fl ((List Test)×Int×Int) Empty))) N (p0,0,(IntKind.wrap .i64 ((p0.length:Int) - 1)))).bind fun ab=>ab.cs (fun(j: (List Test)×Int×Int)=>some j.1) (fun r=>r.elim)
def kK (N:Nat) (p0:gS) (p1: (List Test)) (p2:Int):Option ((List Test)×Int):=
 (eX N p0 p1 p2).bind fun o=>bif (o.2.2 != 0) then (some (([]: (List Test)),o.2.2)) else ((mk 8 (0:Int) (o.1.length:Int)).bind fun aj=>(iF o.1.length (fun(ad:Nat) (af: (List Int))=>((idx o.1 (ad:Int)).bind fun ak=>(iF p1.length (fun(ah:Nat) (aa: (List Int))=>((idx ak.tp (ah:Int)).bind fun al=>(idx o.2.1 (ah:Int)).bind fun an=>(bif (al != an) then ((idx aa (ad:Int)).bind fun ao=>(idx aa (ad:Int)).bind fun a7=>some (aa.set (Int.toNat (ad:Int)) (IntKind.wrap .i64 (ao+1)))) else (some aa)).bind fun aq=>some aq:Option ((List Int)))) af).bind fun aa=>some aa:Option ((List Int)))) aj).bind fun af=>(np (fun(j: (List Int)×(List Test)×Int)=>(bif (decide (j.2.2>=0)) then ((iF o.1.length (fun(ai:Nat) (ag:Bool)=>((idx o.1 (ai:Int)).bind fun ar=>(bif ag then (some true) else ((idx ar.tp j.2.2).bind fun au=>(idx o.2.1 j.2.2).bind fun av=>bif (au != av) then ((idx j.1 (ai:Int)).bind fun aw=>some (aw==1)) else (some false))).bind fun ax=>some ax:Option (Bool))) false).bind fun ag=>bif ag then ((idx p1 j.2.2).bind fun ay=>(app 72 j.2.1 ([ay]: (List Test))).bind fun az=>some (.nx (j.1,az,(IntKind.wrap .i64 (j.2.2 - 1))))) else ((iF o.1.length (fun(ae:Nat) (ab: (List Int))=>((idx o.1 (ae:Int)).bind fun a0=>(idx a0.tp j.2.2).bind fun a1=>(idx o.2.1 j.2.2).bind fun a2=>(bif (a1 != a2) then ((idx ab (ae:Int)).bind fun a3=>(idx ab (ae:Int)).bind fun a8=>some (ab.set (Int.toNat (ae:Int)) (IntKind.wrap .i64 (a3 - 1)))) else (some ab)).bind fun a4=>some a4:Option ((List Int)))) j.1).bind fun ab=>some (.nx (ab,j.2.1,(IntKind.wrap .i64 (j.2.2 - 1)))))) else (some (.br (j.1,j.2.1,j.2.2))):Option (Fl ((List Int)×(List Test)×Int) Empty))) N (af,([]: (List Test)),(IntKind.wrap .i64 ((p1.length:Int) - 1)))).bind fun a5=>a5.cs (fun(j: (List Int)×(List Test)×Int)=>(iz N j.2.1).bind fun a6=>some (a6,0)) (fun r=>r.elim))
def ld (N:Nat) (p0:gS) (p1: (List Test)) (p2:Int):Option ((List bQ)×Int):=
 (eX N p0 p1 p2).bind fun o=>bif (o.2.2 != 0) then (some (([]: (List bQ)),o.2.2)) else ((iF o.1.length (fun(ab:Nat) (j: (List Bool)×(List bQ))=>((idx o.1 (ab:Int)).bind fun aa=>(jl N aa.tp j.1).bind fun ad=>(bif ad then ((app 40 j.2 ([aa.CU]: (List bQ))).bind fun ae=>some ae) else (some j.2)).bind fun af=>some (j.1,af):Option ((List Bool)×(List bQ)))) (o.2.1,([]: (List bQ)))).bind fun j=>some (j.2,0))
def mx (N:Nat) (p0: (List Test)) (p1:Test):Option (Int):=
 (oZ p0.length (fun(j:Nat) (o:Unit)=>((idx p0 (j:Int)).bind fun aa=>bif (decide (p1=aa)) then (some (.rt (j:Int))) else (some (.nx ())):Option (Fl (Unit) Int))) ()).bind fun ab=>ab.cs (fun(o:Unit)=>some (-1)) (fun r=>some r)
def gY (N:Nat) (p0: (List Test)) (p1:Test):Option (Bool):=
 (mx N p0 p1).bind fun j=>some (decide (j>=0))
def ko (N:Nat) (p0: (List bQ)) (p1: (List bQ)):Option (Bool):=
 bif ((p0.length:Int) != (p1.length:Int)) then (some false) else ((oZ p0.length (fun(j:Nat) (o:Unit)=>((idx p0 (j:Int)).bind fun aa=>(idx p1 (j:Int)).bind fun ab=>bif (!(decide (aa=ab))) then (some (.rt false)) else (some (.nx ())):Option (Fl (Unit) Bool))) ()).bind fun ad=>ad.cs (fun(o:Unit)=>some true) (fun r=>some r))
def kp (N:Nat) (p0: (List Test)) (p1: (List Test)):Option (Bool):=
 bif ((p0.length:Int) != (p1.length:Int)) then (some false) else ((oZ p0.length (fun(j:Nat) (o:Unit)=>((idx p0 (j:Int)).bind fun aa=>(idx p1 (j:Int)).bind fun ab=>bif (!(decide (aa=ab))) then (some (.rt false)) else (some (.nx ())):Option (Fl (Unit) Bool))) ()).bind fun ad=>ad.cs (fun(o:Unit)=>some true) (fun r=>some r))
def cW (N:Nat) (p0:gS) (p1: (List Test)) (p2:Int):Option (Bool):=
 (kK N p0 p1 p2).bind fun j=>bif (j.2 != 0) then ((bif ((j.1.length:Int)==0) then ((f0 N).bind fun ae=>some ae) else (some false)).bind fun af=>some af) else ((ld N p0 p1 p2).bind fun aa=>(ld N p0 j.1 p2).bind fun ab=>(kK N p0 j.1 p2).bind fun ad=>(np (fun(o:Int)=>(bif (decide (o< (j.1.length:Int))) then ((idx j.1 o).bind fun ag=>(gY N p1 ag).bind fun ah=>bif (!ah) then (some (.rt false)) else (some (.nx (IntKind.wrap .i64 (o+1))))) else (some (.br o)):Option (Fl (Int) Bool))) N 0).bind fun ai=>ai.cs (fun(o:Int)=>(bif ((aa.2==0)&&(ab.2==0)) then ((ko N aa.1 ab.1).bind fun aj=>bif (aj&&(ad.2==0)) then ((kp N ad.1 j.1).bind fun ak=>bif ak then ((f0 N).bind fun al=>some al) else (some false)) else (some false)) else (some false)).bind fun an=>some an) (fun r=>some r))
end
end Go.Gk
namespace Go.Gk
open Go
def m9 {R:Type} (m:Nat) (e:Nat->Option R):Option R:=(List.range m).findSome? e
theorem gC {R:Type} {m:Nat} {e:Nat->Option R}:m9 m e=none↔∀k,k<m->e k=none:=by
 simp [m9]
theorem iK {R:Type} {m:Nat} {e:Nat->Option R} {r:R}:m9 m e=some r↔∃k,k<m/\e k=some r/\∀j,j<k->e j=none:=by
 constructor
 ·intro h
  obtain⟨l1,a,l2,hl,ha,hn⟩:=List.findSome?_eq_some_iff.1 h
  have hlen:l1.length<m:=by have:=congrArg List.length hl;simp at this;omega
  have hget: ∀i,i<l1.length->l1[i]? =some i:=fun i hi=>by
   have:=congrArg (·[i]?) hl
   simp only [fM hi,List.getElem?_range (show i<m by omega)] at this
   exact this.symm
  have hat:a=l1.length:=by
   have:=congrArg (·[l1.length]?) hl
   simp [List.getElem?_range hlen] at this
   exact this.symm
  refine⟨a,by omega,ha,fun j hj=>hn j ?_⟩
  exact gT (hget j (by omega))
 ·rintro⟨k,hk,he,hn⟩
  refine List.findSome?_eq_some_iff.2 ⟨List.range k,k,(List.range (m - k - 1)).map (· + (k+1)),?_,he,fun x hx=>hn x (gm.1 hx)⟩
  refine List.ext_getElem? fun i=>?_
  by_cases h1:i<k
  ·rw [fM (by simpa using h1),List.getElem?_range (by omega),List.getElem?_range h1]
  ·rw [fF (by simpa using h1),List.length_range]
   by_cases h2:i=k
   ·subst h2;simp [List.getElem?_range hk]
   ·obtain⟨d,rfl⟩: ∃d,i=k+1+d:=⟨i - (k+1),by omega⟩
    rw [show k+1+d - k=d+1 by omega,List.getElem?_cons_succ,fG]
    by_cases h3:k+1+d<m
    ·rw [List.getElem?_range h3,List.getElem?_range (by omega)];simp;omega
    ·rw [List.getElem?_eq_none (by simp;omega),List.getElem?_eq_none (by simp;omega)];rfl
theorem Gf {R R':Type} {m:Nat} {e:Nat->Option R} (f:R->R'): (m9 m e).map f=m9 m (fun k=>(e k).map f):=by
 cases hx:m9 m e with
 | none=>exact(gC.2 fun k hk=>by rw [gC.1 hx k hk];rfl).symm
 | some r=>
  obtain⟨k,hk,he,hn⟩:=iK.1 hx
  exact(iK.2 ⟨k,hk,by rw [he];rfl,fun j hj=>by rw [hn j hj];rfl⟩).symm
section
variable {S R:Type}
def ER (o:Option R) (s:S):Fl S R:=match o with | some r=> .rt r | none=> .nx s
def AG (o:Option R) (s:S):Fo S R:=match o with | some r=> .rt r | none=> .go s
theorem B5 {body:Nat->S->Option (Fl S R)} (F:Nat->S) (e:Nat->Option R) (m:Nat): ∀(n k:Nat),k+n=m->
  (∀j,k<=j->j<m->(∀i,k<=i->i<j->e i=none)->body j (F j)=some (ER (e j) (F (j+1))))->
  ∃o,Ab body n k (F k)=some o/\((∀j,k<=j->j<m->e j=none)/\o = .go (F m)\/∃j r,k<=j/\j<m/\e j=some r/\(∀i,k<=i->i<j->e i=none)/\o = .rt r)
 | 0,k,hk,_=>⟨_,rfl, .inl ⟨fun j h1 h2=>by omega,by rw [show k=m by omega]⟩⟩
 | n+1,k,hk,h=>by
  have hb:=h k (bP _) (by omega) (fun i h1 h2=>by omega)
  unfold Ab
  rw [hb]
  cases hx:e k with
  | some r=>exact⟨_,rfl, .inr ⟨k,r,bP _,by omega,hx,fun i h1 h2=>by omega,rfl⟩⟩
  | none=>
   obtain⟨o,ho,hc⟩:=B5 F e m n (k+1) (by omega) (fun j h1 h2 h3=>h j (by omega) h2 fun i h4 h5=>by
    by_cases h6:i=k
    ·subst h6;exact hx
    ·exact h3 i (by omega) h5)
   refine⟨o,ho,?_⟩
   rcases hc with ⟨h1,h2⟩ | ⟨j,r,h1,h2,h3,h4,h5⟩
   ·refine .inl ⟨fun j h3 h4=>?_,h2⟩
    by_cases h6:j=k
    ·subst h6;exact hx
    ·exact h1 j (by omega) h4
   ·refine .inr ⟨j,r,by omega,h2,h3,fun i h6 h7=>?_,h5⟩
    by_cases h8:i=k
    ·subst h8;exact hx
    ·exact h4 i (by omega) h7
theorem HT {body:Nat->S->Option (Fl S R)} {m:Nat} {s:S} (F:Nat->S) (e:Nat->Option R) (hm:m<=4611686018427387904) (hs:F 0=s)
  (h: ∀k,k<m->(∀i,i<k->e i=none)->body k (F k)=some (ER (e k) (F (k+1)))):oZ m body s=some (AG (m9 m e) (F m)):=by
 subst hs
 unfold oZ
 rw [aD hm]
 obtain⟨o,ho,hc⟩:=B5 F e m m 0 (by omega) (fun j _ h2 h3=>h j h2 fun i hi=>h3 i (mi _) hi)
 rw [ho]
 rcases hc with ⟨h1,h2⟩ | ⟨j,r,_,h2,h3,h4,h5⟩
 ·rw [gC.2 fun k hk=>h1 k (mi _) hk,h2];rfl
 ·rw [iK.2 ⟨j,h2,h3,fun i hi=>h4 i (mi _) hi⟩,h5];rfl
theorem mz {body:Nat->Unit->Option (Fl Unit R)} {m:Nat} (e:Nat->Option R) (hm:m<=4611686018427387904)
  (h: ∀k,k<m->(∀i,i<k->e i=none)->body k ()=some (ER (e k) ())):oZ m body ()=some (AG (m9 m e) ()):=
 HT (fun _=>()) e hm rfl h
theorem B6 {body:Nat->S->Option S} (F:Nat->S): ∀(n k:Nat),(∀j,k<=j->j<k+n->body j (F j)=some (F (j+1)))->CN body n k (F k)=some (F (k+n))
 | 0,_,_=>rfl
 | n+1,k,h=>by
  unfold CN
  rw [h k (bP _) (by omega)]
  have:=B6 F n (k+1) (fun j h1 h2=>h j (by omega) (by omega))
  rw [show k+ (n+1)=k+1+n by omega]
  exact this
theorem sH {body:Nat->S->Option S} {m:Nat} {s:S} (F:Nat->S) (hm:m<=4611686018427387904) (hs:F 0=s)
  (h: ∀k,k<m->body k (F k)=some (F (k+1))):iF m body s=some (F m):=by
 subst hs
 unfold iF
 rw [aD hm]
 have:=B6 F m 0 (fun j _ h2=>h j (by omega))
 rwa [gj] at this
theorem uX {body:S->Option (Fl S R)} (Inv:S->Prop) (μ:S->Nat) (Go:S->Prop) (Rt:R->Prop)
  (h: ∀s,Inv s->∃fl,body s=some fl/\match fl with | .nx s'=>Inv s'/\μ s'<μ s | .br s'=>Go s' | .rt r=>Rt r):
  ∀(N:Nat) (s:S),Inv s->μ s<N->∃o,np body N s=some o/\match o with | .go s'=>Go s' | .rt r=>Rt r
 | 0,s,_,hn=>by omega
 | N+1,s,hi,hn=>by
  obtain⟨fl,hb,hf⟩:=h s hi
  unfold np
  rw [hb]
  cases fl with
  | nx s'=>exact uX Inv μ Go Rt h N s' hf.1 (by have:=hf.2;omega)
  | br s'=>exact⟨_,rfl,hf⟩
  | rt r=>exact⟨_,rfl,hf⟩
theorem B7 {body:Nat->S->Option (Fl S R)} (Inv:Nat->S->Prop) (Go:S->Prop) (Rt:R->Prop) (m:Nat)
  (h: ∀k s,k<m->Inv k s->∃fl,body k s=some fl/\match fl with | .nx s'=>Inv (k+1) s' | .br s'=>Go s' | .rt r=>Rt r) (hg: ∀s,Inv m s->Go s):
  ∀(n k:Nat) (s:S),k+n=m->Inv k s->∃o,Ab body n k s=some o/\match o with | .go s'=>Go s' | .rt r=>Rt r
 | 0,k,s,hk,hi=>⟨_,rfl,hg s (by rw [<-hk];exact hi)⟩
 | n+1,k,s,hk,hi=>by
  obtain⟨fl,hb,hf⟩:=h k s (by omega) hi
  unfold Ab
  rw [hb]
  cases fl with
  | nx s'=>exact B7 Inv Go Rt m h hg n (k+1) s' (by omega) hf
  | br s'=>exact⟨_,rfl,hf⟩
  | rt r=>exact⟨_,rfl,hf⟩
theorem HU {body:Nat->S->Option (Fl S R)} {m:Nat} {s:S} (Inv:Nat->S->Prop) (Go:S->Prop) (Rt:R->Prop) (hm:m<=4611686018427387904) (h0:Inv 0 s)
  (h: ∀k s,k<m->Inv k s->∃fl,body k s=some fl/\match fl with | .nx s'=>Inv (k+1) s' | .br s'=>Go s' | .rt r=>Rt r) (hg: ∀s,Inv m s->Go s):
  ∃o,oZ m body s=some o/\match o with | .go s'=>Go s' | .rt r=>Rt r:=by
 unfold oZ
 rw [aD hm]
 exact B7 Inv Go Rt m h hg m 0 s (by omega) h0
theorem B8 {body:Nat->S->Option S} (Inv:Nat->S->Prop) (m:Nat) (h: ∀k s,k<m->Inv k s->∃s',body k s=some s'/\Inv (k+1) s'):
  ∀(n k:Nat) (s:S),k+n=m->Inv k s->∃s',CN body n k s=some s'/\Inv m s'
 | 0,k,s,hk,hi=>⟨_,rfl,by rw [<-hk];exact hi⟩
 | n+1,k,s,hk,hi=>by
  obtain⟨s',hb,hf⟩:=h k s (by omega) hi
  unfold CN
  rw [hb]
  exact B8 Inv m h n (k+1) s' (by omega) hf
theorem xt {body:Nat->S->Option S} {m:Nat} {s:S} (Inv:Nat->S->Prop) (hm:m<=4611686018427387904) (h0:Inv 0 s)
  (h: ∀k s,k<m->Inv k s->∃s',body k s=some s'/\Inv (k+1) s'): ∃s',iF m body s=some s'/\Inv m s':=by
 unfold iF
 rw [aD hm]
 exact B8 Inv m h m 0 s (by omega) h0
end
section
variable {α β:Type}
theorem aB (x:α) (f:α->Option β): (some x).bind f=f x:=rfl
theorem jD (l:List α) (k:Nat) (h:k<l.length):idx l ((k:Nat):Int)=some l[k]:=by
 unfold idx;rw [aD (by omega),bS,aJ h]
theorem dD {l:List α} {k:Nat} {x:α} (h:l[k]? =some x):idx l ((k:Nat):Int)=some x:=by
 unfold idx;rw [aD (by omega),bS,h]
theorem Gg (s:dJ) (k:Nat) (h:k<s.cS.length):Et s ((k:Nat):Int)=some s.cS[k]:=by
 unfold Et;rw [aD (by omega),bS,aJ h]
theorem kh {k:Nat} (h:0<k) (hk:k<=4611686018427387904):IntKind.wrap .i64 (((k:Nat):Int) - 1)= ((k - 1:Nat):Int):=by
 rw [fx (by omega) (by omega)];omega
theorem uY (l:List α) (k:Nat) (h:k<=l.length):uw l 0 ((k:Nat):Int)=some (l.take k):=by
 unfold uw;rw [aD ⟨by omega,by omega,by omega⟩]
 simp only [Int.toNat_zero,List.drop_zero,Int.sub_zero,bS]
theorem uZ (l:List α) (k:Nat) (h:k<=l.length):uw l ((k:Nat):Int) ((l.length:Nat):Int)=some (l.drop k):=by
 unfold uw;rw [aD ⟨by omega,by omega,by omega⟩]
 simp only [bS,Option.some.injEq]
 rw [oU];rw [gO];omega
theorem gH {b:Nat} {l ys:List α} (h: (l.length+ys.length)*b<=140737488355328):app b l ys=some (l++ys):=by unfold app;rw [aD h]
theorem o4 {b:Nat} (z:α) {n:Nat} (h:n*b<=140737488355328):mk b z ((n:Nat):Int)=some (List.replicate n z):=by
 unfold mk
 have e: ((n:Nat):Int)* ((b:Nat):Int)= ((n*b:Nat):Int):=(Int.natCast_mul n b).symm
 rw [e]
 generalize n*b=q at h ⊢
 rw [aD ⟨by omega,by omega⟩,bS]
end
theorem dJ.ext' {a b:dJ} (h:a.cS=b.cS):a=b:=by cases a;cases b;simp at h;rw [h]
theorem HV {a b:dJ}:a.CL b=true↔a=b:=by
 unfold dJ.CL;rw [beq_iff_eq];exact⟨dJ.ext',fun h=>by rw [h]⟩
theorem wL: ∀(a:List UInt8),Op.bytesLess a a=false
 | []=>rfl
 | a::l=>by
  unfold Op.bytesLess
  rw [wL l];simp
theorem x0: ∀{a b c:List UInt8},Op.bytesLess a b=true->Op.bytesLess b c=true->Op.bytesLess a c=true
 | [],[],_,h,_=>by simp [Op.bytesLess] at h
 | [],_::_,[],_,h=>by simp [Op.bytesLess] at h
 | [],_::_,_::_,_,_=>rfl
 | _::_,[],_,h,_=>by simp [Op.bytesLess] at h
 | _::_,_::_,[],_,h=>by simp [Op.bytesLess] at h
 | a::l,b::m,c::n,h1,h2=>by
  unfold Op.bytesLess at h1 h2 ⊢
  simp only [dS,bT,bK,beq_iff_eq] at h1 h2 ⊢
  rcases h1 with h1 | ⟨rfl,h1⟩
  ·rcases h2 with h2 | ⟨rfl,h2⟩
   ·exact .inl (UInt8.lt_trans h1 h2)
   ·exact .inl h1
  ·rcases h2 with h2 | ⟨rfl,h2⟩
   ·exact .inl h2
   ·exact .inr ⟨rfl,x0 h1 h2⟩
theorem x4: ∀(a b:List UInt8),Op.bytesLess a b=true\/a=b\/Op.bytesLess b a=true
 | [],[]=> .inr (.inl rfl)
 | [],_::_=> .inl rfl
 | _::_,[]=> .inr (.inr rfl)
 | a::l,b::m=>by
  unfold Op.bytesLess
  simp only [dS,bT,bK,beq_iff_eq]
  by_cases h1:a<b
  ·exact .inl (.inl h1)
  ·by_cases h2:b<a
   ·exact .inr (.inr (.inl h2))
   ·have e:a=b:=by
     simp only [UInt8.lt_iff_toNat_lt] at h1 h2
     exact UInt8.toNat_inj.1 (by omega)
    subst e
    rcases x4 l m with h | h | h
    ·exact .inl (.inr ⟨rfl,h⟩)
    ·exact .inr (.inl (by rw [h]))
    ·exact .inr (.inr (.inr ⟨rfl,h⟩))
theorem tS: ∀(a b:List UInt8),Lib.compareBytes a b<0↔Op.bytesLess a b=true
 | [],[]=>by simp [Lib.compareBytes,Op.bytesLess]
 | [],_::_=>by simp [Lib.compareBytes,Op.bytesLess]
 | _::_,[]=>by simp [Lib.compareBytes,Op.bytesLess]
 | a::l,b::m=>by
  unfold Lib.compareBytes Op.bytesLess
  simp only [dS,bT,bK,beq_iff_eq]
  split
  ·simp_all
  ·rename_i h1
   split
   ·rename_i h2
    have h3:a≠b:=fun e=>by subst e;exact h1 h2
    simp [h1,h3]
   ·rename_i h2
    have e:a=b:=by
     simp only [UInt8.lt_iff_toNat_lt] at h1 h2
     exact UInt8.toNat_inj.1 (by omega)
    subst e
    rw [tS l m];simp [h1]
theorem tT: ∀(a b:List UInt8),Lib.compareBytes a b=0↔a=b
 | [],[]=>by simp [Lib.compareBytes]
 | [],_::_=>by simp [Lib.compareBytes]
 | _::_,[]=>by simp [Lib.compareBytes]
 | a::l,b::m=>by
  unfold Lib.compareBytes
  split
  ·rename_i h1
   have h3:a≠b:=fun e=>by subst e;exact absurd h1 (by simp)
   simp [h3]
  ·rename_i h1
   split
   ·rename_i h2
    have h3:a≠b:=fun e=>by subst e;exact h1 h2
    simp [h3]
   ·rename_i h2
    have e:a=b:=by
     simp only [UInt8.lt_iff_toNat_lt] at h1 h2
     exact UInt8.toNat_inj.1 (by omega)
    subst e
    rw [tT l m];simp
def dJ.lt (a b:dJ):Prop:=a.IW b=true
theorem dJ.lt_irrefl (a:dJ): ¬dJ.lt a a:=by unfold dJ.lt dJ.IW;rw [wL];decide
theorem dJ.lt_trans {a b c:dJ} (h1:dJ.lt a b) (h2:dJ.lt b c):dJ.lt a c:=x0 h1 h2
theorem dJ.B9 (a b:dJ):dJ.lt a b\/a=b\/dJ.lt b a:=by
 rcases x4 a.cS b.cS with h | h | h
 ·exact .inl h
 ·exact .inr (.inl (dJ.ext' h))
 ·exact .inr (.inr h)
theorem dJ.II {a b:dJ} (h:dJ.lt a b):a≠b:=fun e=>by subst e;exact dJ.lt_irrefl a h
end Go.Gk
namespace Go.Gk
open Go
class Bk (α:Type) where
 bk:α->Nat
 pos: ∀x,1<=bk x
def bk {α:Type} [Bk α] (x:α):Nat:=Bk.bk x
theorem Gh {α:Type} [Bk α] (x:α):1<=bk x:=Bk.pos x
instance:Bk dJ:=⟨fun s=>s.cS.length+1,fun _=>by omega⟩
instance:Bk Int:=⟨fun _=>1,fun _=>by omega⟩
instance:Bk Bool:=⟨fun _=>1,fun _=>by omega⟩
instance {α:Type} [Bk α]:Bk (List α):=⟨fun l=>(l.map bk).sum+1,fun _=>by omega⟩
theorem Gi {α:Type} [Bk α]:bk ([]:List α)=1:=rfl
theorem AH {α:Type} [Bk α] (x:α) (l:List α):bk (x::l)=bk x+bk l:=by
 show (List.map bk (x::l)).sum+1=bk x+ ((List.map bk l).sum+1)
 simp;omega
theorem C7 {α:Type} [Bk α]: ∀{l:List α} {x:α},x∈l->bk x+1<=bk l
 | y::l,x,h=>by
  rw [AH]
  rcases fN.1 h with h | h
  ·subst h;have:=Gh l;omega
  ·have:=C7 h;omega
theorem tU {α:Type} [Bk α]: ∀(l:List α),l.length+1<=bk l
 | []=>by rw [Gi];simp
 | x::l=>by rw [AH,je];have:=tU l;have:=Gh x;omega
theorem Gj (s:dJ):bk s=s.cS.length+1:=rfl
section
variable {α R:Type}
theorem ES {l:List α} {e:Nat->Option R} (f:α->Option R) (h: ∀k x,l[k]? =some x->e k=f x):m9 l.length e=l.findSome? f:=by
 cases hx:m9 l.length e with
 | none=>
  refine(List.findSome?_eq_none_iff.2 fun x hm=>?_).symm
  obtain⟨k,hk⟩:=gk hm
  rw [<-h k x hk];exact gC.1 hx k (bD.1 hk).1
 | some r=>
  obtain⟨k,hk,he,hn⟩:=iK.1 hx
  refine(List.findSome?_eq_some_iff.2 ⟨l.take k,l[k],l.drop (k+1),?_,?_,fun y hy=>?_⟩).symm
  ·rw [<-qh hk,List.take_append_drop]
  ·rw [<-h k l[k] (aJ hk)];exact he
  ·obtain⟨j,hj⟩:=gk hy
   have hjk:j<k:=by have:=(bD.1 hj).1;rw [dF] at this;omega
   rw [List.getElem?_take_of_lt hjk] at hj
   rw [<-h j y hj];exact hn j hjk
theorem AJ (l:List α) (p:α->Bool) (r:R):l.findSome? (fun x=>if p x=true then some r else none)=if l.any p=true then some r else none:=by
 induction l with
 | nil=>simp
 | cons x l ih=>
  rw [List.findSome?_cons,List.any_cons]
  cases h:p x <;> simp [ih]
theorem u4 {l:List α} {body:Nat->Unit->Option (Fl Unit R)} (f:α->Option R) (hl:l.length<=4611686018427387904)
  (h: ∀k x,l[k]? =some x->body k ()=some (ER (f x) ())):oZ l.length body ()=some (AG (l.findSome? f) ()):=by
 have h2:=mz (body:=body) (m:=l.length) (fun k=>(l[k]?).bind f) hl (fun k hk _=>by
  rw [h k l[k] (aJ hk),aJ hk];rfl)
 rw [h2,ES f (fun k x hx=>by rw [hx];rfl)]
theorem HW {l:List α} {body:Nat->Unit->Option (Fl Unit R)} (p:α->Bool) (r:R) (hl:l.length<=4611686018427387904)
  (h: ∀k x,l[k]? =some x->body k ()=some (if p x=true then .rt r else .nx ())):oZ l.length body ()=some (if l.any p=true then .rt r else .go ()):=by
 rw [u4 (fun x=>if p x=true then some r else none) hl (fun k x hx=>by rw [h k x hx];cases p x <;> rfl),AJ]
 cases l.any p <;> rfl
end
theorem HX {β:Type} (b:Bool) (x y:β): (bif b then some x else some y)=some (bif b then x else y):=by cases b <;> rfl
section
variable {α β:Type}
def D1 (l:List α) (p:α->Bool):Int:=match l.findIdx? p with | some k=>((k:Nat):Int) | none=> -1
theorem Gl {l:List α} {p:α->Bool} (h:l.any p=false):D1 l p = -1:=by
 unfold D1
 rw [List.findIdx?_eq_none_iff.2]
 intro x hx
 rw [<-oT]
 intro hp
 rw [<-oT] at h
 exact h (jA.2 ⟨x,hx,hp⟩)
theorem Gm {l:List α} {p:α->Bool} {k:Nat} {x:α} (hk:l[k]? =some x) (hp:p x=true) (hn: ∀j y,j<k->l[j]? =some y->p y=false):D1 l p= ((k:Nat):Int):=by
 unfold D1
 have hlt:=(bD.1 hk).1
 have:l.findIdx? p=some k:=by
  rw [List.findIdx?_eq_some_iff_getElem]
  refine⟨hlt,?_,fun j hj=>?_⟩
  ·have:=aJ hlt;rw [hk] at this;injection this with this;rw [<-this];exact hp
  ·have:=hn j l[j] hj (aJ (by omega));simpa using this
 rw [this]
theorem sI (l:List α) (p:α->Bool): (D1 l p = -1/\∀x∈l,p x=false)\/∃k x,D1 l p= ((k:Nat):Int)/\l[k]? =some x/\p x=true/\∀j y,j<k->l[j]? =some y->p y=false:=by
 unfold D1
 cases h:l.findIdx? p with
 | none=>exact .inl ⟨rfl,fun x hx=>by have:=List.findIdx?_eq_none_iff.1 h x hx;simpa using this⟩
 | some k=>
  obtain⟨hk,hp,hn⟩:=List.findIdx?_eq_some_iff_getElem.1 h
  refine .inr ⟨k,l[k],rfl,aJ hk,hp,fun j y hj hy=>?_⟩
  have:=hn j hj
  rw [aJ (by omega)] at hy
  injection hy with hy
  subst hy;simpa using this
theorem Gn (l:List α) (p:α->Bool):decide (D1 l p>=0)=l.any p:=by
 rcases sI l p with ⟨h,hn⟩ | ⟨k,x,h,hx,hp,_⟩
 ·rw [h,List.any_eq_false.2 (fun x hx=>by rw [hn x hx];decide)];decide
 ·rw [h,jA.2 ⟨x,gT hx,hp⟩];simp
def qy (p0:List α) (p1:α->Option Bool):Option Int:=
 (oZ p0.length (fun(k1:Nat) (_:Unit)=>((idx p0 ((k1:Nat):Int)).bind fun x7=>(p1 x7).bind fun x10=>bif x10 then (some (.rt ((k1:Nat):Int))) else (some (.nx ())):Option (Fl (Unit) Int))) ()).bind fun o11=>o11.cs (fun(_:Unit)=>some (-1)) (fun r=>some r)
theorem pr {l:List α} {φ:α->Option Bool} (p:α->Bool) (hl:l.length<=4611686018427387904) (h: ∀x∈l,φ x=some (p x)):qy l φ=some (D1 l p):=by
 unfold qy
 rw [mz (fun k=>(l[k]?).bind fun x=>if p x=true then some ((k:Nat):Int) else none) hl (fun k hk _=>by
  rw [jD l k hk,aB,h _ (cJ hk),aB,aJ hk]
  cases hp:p l[k] <;> simp [ER,hp]),aB]
 rcases sI l p with ⟨h1,h2⟩ | ⟨k,x,h1,h2,h3,h4⟩
 ·rw [gC.2 (fun k hk=>by rw [aJ hk];simp [h2 _ (cJ hk)])]
  simp [AG,Fo.cs,h1]
 ·rw [(iK (r:=((k:Nat):Int))).2 ⟨k,(bD.1 h2).1,by rw [h2];simp [h3],fun j hj=>by
   cases hy:l[j]? with
   | none=>rfl
   | some y=>simp [h4 j y hj hy]⟩]
  simp [AG,Fo.cs,h1]
def pw (p0:List α) (p1:α->Option Bool):Option Bool:=
 (qy p0 p1).bind fun x1=>some (decide (x1>=0))
theorem pO {l:List α} {φ:α->Option Bool} (p:α->Bool) (hl:l.length<=4611686018427387904) (h: ∀x∈l,φ x=some (p x)):pw l φ=some (l.any p):=by
 unfold pw
 rw [pr p hl h,aB,Gn]
def Gp [DecidableEq α] (p0:List α) (p1:α):Option Int:=
 (oZ p0.length (fun(k2:Nat) (_:Unit)=>((idx p0 ((k2:Nat):Int)).bind fun x12=>bif (decide (p1=x12)) then (some (.rt ((k2:Nat):Int))) else (some (.nx ())):Option (Fl (Unit) Int))) ()).bind fun o18=>o18.cs (fun(_:Unit)=>some (-1)) (fun r=>some r)
theorem ET [DecidableEq α] {l:List α} {a:α} (hl:l.length<=4611686018427387904):Gp l a=some (D1 l (fun x=>decide (a=x))):=by
 have:=pr (l:=l) (φ:=fun x=>some (decide (a=x))) (fun x=>decide (a=x)) hl (fun _ _=>rfl)
 rw [<-this];rfl
def v8 [DecidableEq α] (p0:List α) (p1:α):Option Bool:=(Gp p0 p1).bind fun x3=>some (decide (x3>=0))
theorem AK [DecidableEq α] {l:List α} {a:α} (hl:l.length<=4611686018427387904):v8 l a=some (decide (a∈l)):=by
 unfold v8
 rw [ET hl,aB,Gn,Option.some.injEq,fO]
 simp
def C8 [DecidableEq α] (p0 p1:List α):Option Bool:=
 bif (((p0.length:Nat):Int) != ((p1.length:Nat):Int)) then (some false) else ((oZ p0.length (fun(k1:Nat) (_:Unit)=>((idx p0 ((k1:Nat):Int)).bind fun x13=>(idx p1 ((k1:Nat):Int)).bind fun x16=>bif (!(decide (x13=x16))) then (some (.rt false)) else (some (.nx ())):Option (Fl (Unit) Bool))) ()).bind fun o23=>o23.cs (fun(_:Unit)=>some true) (fun r=>some r))
theorem sJ [DecidableEq α] {l m:List α} (hl:l.length<=4611686018427387904):C8 l m=some (decide (l=m)):=by
 unfold C8
 by_cases h:l.length=m.length
 ·have e: (((l.length:Nat):Int) != ((m.length:Nat):Int))=false:=by rw [h];simp
  rw [e,aS]
  rw [mz (fun k=>if l[k]? =m[k]? then none else some false) hl (fun k hk _=>by
   rw [jD l k hk,aB,jD m k (by omega),aB,aJ hk,aJ (by omega:k<m.length)]
   by_cases hx:l[k]=m[k] <;> simp [ER,hx]),aB]
  by_cases hx:l=m
  ·subst hx;rw [gC.2 (fun k _=>aD rfl)];simp [AG,Fo.cs]
  ·have: ∃r,m9 l.length (fun k=>if l[k]? =m[k]? then none else some false)=some r:=by
    cases hf:m9 l.length (fun k=>if l[k]? =m[k]? then none else some false) with
    | some r=>exact⟨r,rfl⟩
    | none=>
     exfalso;refine hx (List.ext_getElem? fun i=>?_)
     by_cases hi:i<l.length
     ·have:=gC.1 hf i hi
      by_cases h6:l[i]? =m[i]?
      ·exact h6
      ·rw [aC h6] at this;cases this
     ·rw [List.getElem?_eq_none (by omega),List.getElem?_eq_none (by omega)]
   obtain⟨r,hr⟩:=this
   have hr2:r=false:=by
    obtain⟨k,_,hk,_⟩:=iK.1 hr
    split at hk
    ·cases hk
    ·injection hk with hk;exact hk.symm
   rw [hr,hr2];simp [AG,Fo.cs,hx]
 ·have e: (((l.length:Nat):Int) != ((m.length:Nat):Int))=true:=by simp;omega
  rw [e,aR,bF (fun h'=>h (by rw [h']))]
def Gq (key:α->dJ) (l:List α):Prop:=∀(i j:Nat) (x y:α),i<j->l[i]? =some x->l[j]? =some y->dJ.lt (key x) (key y)
theorem Gq.inj {key:α->dJ} {l:List α} (h:Gq key l) {i j:Nat} {x y:α} (hx:l[i]? =some x) (hy:l[j]? =some y) (e:key x=key y):i=j:=by
 rcases Nat.lt_trichotomy i j with h1 | h1 | h1
 ·exact absurd e (dJ.II (h i j x y h1 hx hy))
 ·exact h1
 ·exact absurd e.symm (dJ.II (h j i y x h1 hy hx))
def Gr (N:Nat) (p0:List α) (p1:β) (p2:α->β->Option Int):Option (Int×Bool):=
 (np (fun(s2:Int×Int)=>(bif (decide (s2.1<s2.2)) then ((idx p0 (IntKind.wrap .i64 (Int.fdiv (IntKind.wrap .u64 (IntKind.wrap .i64 (s2.1+s2.2))) 2))).bind fun x13=>(p2 x13 p1).bind fun x16=>(bif (decide (x16<0)) then (some ((IntKind.wrap .i64 ((IntKind.wrap .i64 (Int.fdiv (IntKind.wrap .u64 (IntKind.wrap .i64 (s2.1+s2.2))) 2))+1)),s2.2)) else (some (s2.1,(IntKind.wrap .i64 (Int.fdiv (IntKind.wrap .u64 (IntKind.wrap .i64 (s2.1+s2.2))) 2))))).bind fun s17=>some (.nx (s17.1,s17.2))) else (some (.br (s2.1,s2.2))):Option (Fl (Int×Int) Empty))) N (0,((p0.length:Nat):Int))).bind fun o29=>o29.cs (fun(s2:Int×Int)=>(bif (decide (s2.1< ((p0.length:Nat):Int))) then ((idx p0 s2.1).bind fun x25=>(p2 x25 p1).bind fun x28=>some (x28==0)) else (some false)).bind fun s23=>some (s2.1,s23)) (fun r=>r.elim)
theorem EU {a b:Nat} (h:a<b) (hb:b<=4611686018427387904):IntKind.wrap .i64 (Int.fdiv (IntKind.wrap .u64 (IntKind.wrap .i64 (((a:Nat):Int)+ ((b:Nat):Int)))) 2)= (((a+b) / 2:Nat):Int):=by
 rw [fx (x:=((a:Nat):Int)+ ((b:Nat):Int)) (by omega) (by omega)]
 have e:IntKind.wrap .u64 (((a:Nat):Int)+ ((b:Nat):Int))= ((a+b:Nat):Int):=by
  show ((a:Int)+b) % 18446744073709551616=_
  omega
 rw [e,Int.fdiv_eq_ediv_of_nonneg _ (by omega),fx (by omega) (by omega)]
 omega
end
end Go.Gk
namespace Go.Gk
open Go Go.ChangeShapes Go.WideShapes Go.RowKit
structure UB (ub: (H:Type)->DataW H->Nat) (ua: (H:Type)->List (DataW H)->Nat):Prop where
 str: ∀(H:Type) (b:List UInt8),ub H (.lit (.string b))=b.length+1
 pos: ∀(H:Type) (d:DataW H),1<=ub H d
 sl: ∀(H:Type) (e s:List (DataW H)),ub H (.slice e s)=ua H e+ua H s+1
 ag: ∀(H:Type) (l:List (DataW H)),ub H (.agg l)=ua H l+1
 nil: ∀(H:Type),ua H []=0
 cons: ∀(H:Type) (x:DataW H) (l:List (DataW H)),ua H (x::l)=ub H x+ua H l
def Hw (w:World):dI:=fun b=>w.heap[b]?
structure iT (ub: (H:Type)->DataW H->Nat) (P:Program) (T:TypeId) (α:Type) [GT α] [Bk α]:Prop where
 trod: ∀{H:Type} {enc:TypeId×Value->H} {w:World} {base:Nat} {spare:Nat->Bool} {held:Bool} {fuel:Nat} {cs:List Value} {d:DataW H×List MemPlace},
  DataW.trod enc P w base spare held fuel T cs=some d->∃x:α,GT.ok (Hw w) cs x/\bk x<=ub H d.1
 K8: ∀{w:World} {r:Reach} {base:Nat} {v:Value},Value.okWide P w r base T v->v=ri α v.cells.toList
section
variable {ub: (H:Type)->DataW H->Nat} {ua: (H:Type)->List (DataW H)->Nat} {P:Program} {T e:TypeId}
theorem EV (u:UB ub ua) (ht:P.underlying T=some (.int .i64):=by kernel_rfl):iT ub P T Int where
 trod:=fun h=>by
  obtain⟨n,rfl,rfl,_⟩:=DataW.trod_int ht h
  exact⟨n,rfl,u.pos _ _⟩
 K8:=fun h=>by obtain⟨n,rfl⟩:=okWide_int ht h;rfl
theorem C9 (u:UB ub ua) (ht:P.underlying T=some .bool:=by kernel_rfl):iT ub P T Bool where
 trod:=fun h=>by
  obtain⟨n,rfl,rfl⟩:=DataW.trod_bool ht h
  exact⟨n,rfl,u.pos _ _⟩
 K8:=fun h=>by obtain⟨n,rfl⟩:=okWide_bool ht h;rfl
theorem EW (u:UB ub ua) (ht:P.underlying T=some .string:=by kernel_rfl):iT ub P T dJ where
 trod:=fun h=>by
  obtain⟨s,rfl,rfl,_⟩:=DataW.trod_string ht h
  refine⟨⟨s.data.toList⟩,?_,?_⟩
  ·show [Value.string s]= [Gk.str ⟨s.data.toList⟩]
   cases s;rfl
  ·rw [u.str];exact bP _
 K8:=fun h=>by obtain⟨n,rfl⟩:=okWide_string ht h;rfl
theorem wM {α:Type} {R:Nat->α->Prop}: ∀(n:Nat),(∀i,i<n->∃x,R i x)->∃l:List α,l.length=n/\∀i x,l[i]? =some x->R i x
 | 0,_=>⟨[],rfl,fun i x h=>by simp at h⟩
 | n+1,h=>by
  obtain⟨l,h1,h2⟩:=wM n (fun i hi=>h i (by omega))
  obtain⟨x,hx⟩:=h n (by omega)
  refine⟨l++[x],by simp [h1],fun i y hy=>?_⟩
  by_cases hi:i<n
  ·rw [fM (by omega)] at hy;exact h2 i y hy
  ·have:=(bD.1 hy).1
   rw [dW] at this
   have:i=n:=by simp at this;omega
   subst this
   rw [fF (by omega),h1] at hy
   simp at hy;subst hy;exact hx
theorem zH {H α:Type} [Bk α] (u:UB ub ua): ∀{l:List α} {es:List (DataW H×List MemPlace)},l.length=es.length->
  (∀(i:Nat) (x:α) (y:DataW H×List MemPlace),l[i]? =some x->es[i]? =some y->bk x<=ub H y.1)->bk l<=ua H (es.map (·.1))+1
 | [],[],_,_=>by rw [Gi];omega
 | x::l,y::es,hl,h=>by
  have h1:=h 0 x y rfl rfl
  have h2:=zH (H:=H) u (l:=l) (es:=es) (by simpa using hl) (fun i x y hx hy=>h (i+1) x y (by simpa using hx) (by simpa using hy))
  rw [AH,eG,u.cons];omega
theorem Ca {w:World} {base:Nat} {a:Addr} {n:Nat} {cs:List Value} (h:w.cells? base a n=some cs):At (Hw w) a cs:=by
 intro j v hv
 obtain⟨_,hlen,hc⟩:=World.cells?_some h
 have hj:=(bD.1 hv).1
 have h2:=hc j (by omega)
 rw [hv] at h2
 unfold uz Hw
 unfold World.cell? at h2
 exact h2
theorem ox {α:Type} [GT α] [Bk α] (u:UB ub ua) (he:iT ub P e α) (ht:P.underlying T=some (.slice e):=by kernel_rfl) (hc:P.cellsOf e=GT.sz α:=by kernel_rfl):iT ub P T (List α) where
 trod:=fun{H enc w base spare held fuel cs d} h=>by
  rcases DataW.trod_slice ht h with ⟨rfl,rfl⟩ | ⟨a,len,cap,elems,rest,n,_,rfl,rfl,_,hlc,hcm,hlen,hel,_⟩
  ·exact⟨[],⟨_,rfl,none,0,0,rfl,rfl,bP _,by simp [maxLen],fun i x hx=>by simp at hx⟩,u.pos _ _⟩
  ·have each: ∀i,i<len->∃x:α,(∃c y,GT.ok (Hw w) c x/\At (Hw w) (a.add (i*GT.sz α)) c/\elems[i]? =some y/\bk x<=ub H y.1):=by
    intro i hi
    have h1:=hel i hi
    rw [aJ (by omega:i<elems.length),Option.bind_eq_some_iff] at h1
    obtain⟨c,h2,h3⟩:=h1
    obtain⟨x,h4,h5⟩:=he.trod h3
    refine⟨x,c,_,h4,?_,aJ (by omega),h5⟩
    rw [hc] at h2
    exact Ca h2
   obtain⟨l,hl,hr⟩:=wM len each
   refine⟨l,⟨_,rfl,some a,len,cap,rfl,hl.symm,hlc,hcm,fun i x hx=>?_⟩,?_⟩
   ·obtain⟨c,y,h1,h2,_⟩:=hr i x hx
    exact⟨a,c,rfl,h1,h2⟩
   ·have:=zH (H:=H) u (l:=l) (es:=elems) (by omega) (fun i x y hx hy=>by
     obtain⟨c,y',_,_,h3,h4⟩:=hr i x hx
     rw [hy] at h3;injection h3 with h3;subst h3;exact h4)
    rw [u.sl];omega
 K8:=fun h=>by obtain⟨a,n,c,rfl⟩:=okWide_slice ht h;rfl
def D2 (ub: (H:Type)->DataW H->Nat) (ua: (H:Type)->List (DataW H)->Nat) (P:Program) (off:Nat) (fs:List Field) (β:Type) [GT β] (m:β->Nat):Prop:=
 ∀{H:Type} {enc:TypeId×Value->H} {w:World} {base:Nat} {spare:Nat->Bool} {held:Bool} {n:Nat} {cs:List Value} {ys:List (DataW H×List MemPlace)},
  (∀(i:Nat) (f:Field),fs[i]? =some f->DataW.trod enc P w base spare held n f.type ((cs.drop f.offset).take (P.cellsOf f.type))=ys[i]?)->ys.length=fs.length->
  cs.length=off+GT.sz β->∃x:β,GT.ok (Hw w) (cs.drop off) x/\m x<=ua H (ys.map (·.1))
theorem mU {β:Type} [GT β] [Bk β] {off:Nat} {f:Field} (u:UB ub ua) (h:iT ub P f.type β) (ho:f.offset=off:=by exact rfl) (hc:P.cellsOf f.type=GT.sz β:=by kernel_rfl):D2 ub ua P off [f] β bk:=by
 intro H enc w base spare held n cs ys hf hl hcs
 match ys,hl with
 | [y],_=>
  have h1:=hf 0 f rfl
  rw [ho,hc,oU (by rw [gO];omega)] at h1
  obtain⟨x,h2,h3⟩:=h.trod (d:=y) h1
  exact⟨x,h2,by rw [eG,u.cons];omega⟩
theorem eU {α β:Type} [GT α] [GT β] [Bk α] {off off':Nat} {f:Field} {fs:List Field} {m:β->Nat} (u:UB ub ua) (h:iT ub P f.type α) (hr:D2 ub ua P off' fs β m) (ho:f.offset=off:=by exact rfl) (hc:P.cellsOf f.type=GT.sz α:=by kernel_rfl) (hoff:off'=off+GT.sz α:=by exact rfl):D2 ub ua P off (f::fs) (α×β) (fun x=>bk x.1+m x.2):=by
 intro H enc w base spare held n cs ys hf hl hcs
 have hsz:GT.sz (α×β)=GT.sz α+GT.sz β:=rfl
 match ys,hl with
 | y::ys,hl=>
  have h1:=hf 0 f rfl
  rw [ho,hc] at h1
  obtain⟨x,h2,h3⟩:=h.trod (d:=y) h1
  obtain⟨x',h4,h5⟩:=hr (n:=n) (cs:=cs) (ys:=ys) (fun i g hg=>hf (i+1) g hg) (by simpa using hl) (by omega)
  refine⟨(x,x'),⟨_,_,?_,h2,h4⟩,?_⟩
  ·rw [hoff,<-List.drop_drop,List.take_append_drop]
  ·rw [eG,u.cons];show bk x+m x'<=_;omega
theorem jZ {γ β:Type} [GT β] [Bk γ] {fs:Array Field} {m:β->Nat} (u:UB ub ua) (f:γ->β) (g:β->γ) (hfg: ∀b,f (g b)=b) (ht:P.underlying T=some (.struct fs)) (h:D2 ub ua P 0 fs.toList β m) (hm: ∀b,bk (g b)<=m b+1) (hc:P.cellsOf T=GT.sz β:=by kernel_rfl): @iT ub P T γ (GT.via f) _:=
 @iT.mk ub P T γ (GT.via f) _
  (fun{H enc w base spare held fuel cs d} hd=>by
   obtain⟨xs,n,_,rfl,hl,hlen,hf⟩:=DataW.trod_struct ht hd
   obtain⟨b,h1,h2⟩:=h (n:=n) (cs:=cs) (ys:=xs) (fun i g hg=>hf i g (by rw [<-Array.getElem?_toList];exact hg)) (by rw [hlen];simp) (by omega)
   refine⟨g b,?_,?_⟩
   ·show GT.ok (Hw w) cs (f (g b))
    rw [hfg];exact h1
   ·rw [u.ag];have:=hm b;omega)
  (fun hv=>by
   obtain⟨cs,rfl,_⟩:=okWide_struct ht hv
   cases cs;rfl)
theorem iT.arg {H:Type} {enc:TypeId×Value->H} {w:World} {base:Nat} {spare:Nat->Bool} {held:Bool} {r:Reach} {b0:Nat} {v:Value} {d:DataW H} {ps:List MemPlace} {α:Type} [GT α] [Bk α] (o:iT ub P T α)
  (hv:Value.okWide P w r b0 T v) (hd:DataW.Trod enc P w base spare held T v d ps): ∃x:α,tD (Hw w) v x/\bk x<=ub H d:=by
 obtain⟨fuel,hf⟩:=hd
 obtain⟨x,h1,h2⟩:=o.trod hf
 exact⟨x,⟨_,o.K8 hv,h1⟩,h2⟩
theorem iT.MF {H:Type} {enc:TypeId×Value->H} {w:World} {base:Nat} {spare:Nat->Bool} {held:Bool} {r:Reach} {b0:Nat} {v:Value} {d:DataW H} {ps:List MemPlace} {α:Type} [Sc α] [Bk α] (o:iT ub P T α)
  (hv:Value.okWide P w r b0 T v) (hd:DataW.Trod enc P w base spare held T v d ps): ∃x:α,v=Sc.toV x/\bk x<=ub H d:=by
 obtain⟨x,h1,h2⟩:=o.arg hv hd
 exact⟨x,z8.1 h1,h2⟩
end
theorem Calls.fin {P:Program} {f:FuncId} {args:Array Value} {w:World} {R Q:Value->World->Prop} (h:Calls P f args w (gF R)) (k: ∀v w',R v w'->Q v w'):
  Calls P f args w (fun e W'=>∃v,e = .returned v/\Q v W'):=Calls.mono h fun _ w' ⟨v,e,hr⟩=>⟨v,e,k v w' hr⟩
def j3 (W:World):HP:=⟨fun M h=>hle (Hw W) M/\h=oL,fun k ⟨a,b⟩=>⟨En a k,b⟩⟩
theorem Holds.begin (W:World):Holds W W [j3 W]:=by
 refine⟨Hw W,fun _=>oL,⟨rfl,rfl,rfl,bP _,fun b o h=>h,fun i Pr hq=>?_,fun _ _ _ _ h=>(by cases h),fun _ _ _ _ h=>(by cases h),fun _ _ _ _ _ _ _ h=>(by cases h)⟩⟩
 match i,hq with
 | 0,hq=>simp at hq;subst hq;exact⟨Fw _,rfl⟩
theorem Holds.IJ {α:Type} [GT α] {W:World} {V:List HP} {v:Value} {x:α} (h:Holds W W (V++[j3 W])) (hv:Gk.tD (Hw W) v x):Holds W W (rd v x::(V++[j3 W])):=
 h.yR fun M hs g=>by
  have h1:=(g.sat V.length (j3 W) (by simp)).1
  exact⟨hv.mono h1,rfl⟩
theorem Holds.kept {E W w:World} {V:List HP} (h:Holds E w (V++[j3 W])) (he:E=W):Below W.heap.size W w:=by
 subst he
 obtain⟨M,hs,g⟩:=h
 have h1:=(g.sat V.length (j3 E) (by simp)).1
 have h2: ∀k o,E.heap[k]? =some o->w.heap[k]? =some o:=fun k o ho=>g.im k o (h1 k o ho)
 refine⟨g.os,g.tape,g.out,?_,fun k hk=>?_⟩
 ·by_cases h0:E.heap.size=0
  ·omega
  ·have h3:=h2 (E.heap.size - 1) _ (fL (by omega))
   have:=(Array.getElem?_eq_some_iff.1 h3).1
   omega
 ·rw [fL hk];exact h2 k _ (fL hk)
section
variable {H:Type} {enc:TypeId×Value->H} {P:Program}
theorem EX {f:Func} {s:ChangeSpec} {apart fresh handsOn again:Bool} {W W':World} {args:Array Value} {v:Value} {ds gs:List (DataW H)} {before pa pv:List MemPlace}
  (hW:DataW.Whole enc P f.params.toList s.vars apart W args.toList ds gs before)
  (hres: ∀(b:Nat) (sp:Nat->Bool) (hd:Bool),DataW.TrodAll enc P W' b sp hd f.resultTypes.toList (v.resultList f.resultTypes.size) (s.fn H (ds++gs)).results [])
  (hargs: ∀sp:Nat->Bool,(∀p∈before,sp p.block=true)->DataW.TrodAll enc P W' 0 sp true f.params.toList args.toList (s.fn H (ds++gs)).args pa)
  (hvars: ∀sp:Nat->Bool,(∀p∈before,sp p.block=true)->DataW.TrodVars enc P W' sp s.vars (s.fn H (ds++gs)).vars pv)
  (hps:before=pa++pv) (hb:Below W.heap.size W W')
  (hok: ∀(j:Nat) (t:TypeId) (r:Value),f.resultTypes[j]? =some t->(v.resultList f.resultTypes.size)[j]? =some r->Value.okWide P W' .any 0 t r):
  s.post enc P f apart fresh handsOn again W args v W':=by
 have hlt: ∀p∈before,p.block<W.heap.size:=fun p hp=>hW.lt p hp
 have hold: ∀p∈before,(fun b=>decide (b<W.heap.size)) p.block=true:=fun p hp=>by simpa using hlt p hp
 refine⟨ds,gs,before,[],pa,pv,hW,hres _ _ _,hargs _ hold,hvars _ hold,World.keptBut_mono (fun p hp=>⟨hp,?_⟩) (hb.frame (· ∈before)),fun _=>?_⟩
 ·rw [hps,cU] at hp
  exact Or.inr hp
 ·obtain⟨_,_,_,_,_,hz,hn⟩:=hW
  refine⟨hok,_,_,([]++pa)++pv,⟨[]++pa,pv,trodAll_append (hargs _ (fun _ _=>rfl)) (hres _ _ _),hvars _ (fun _ _=>rfl),rfl,?_,?_⟩,?_⟩
  ·intro b off hp
   have hin:MemPlace.cell b off∈before:=by rw [hps];simpa using hp
   rw [hb.frozen (hlt _ hin)]
   exact hz b off hin
  ·intro ha
   have:=hn ha
   rw [hps] at this
   simpa using this
  ·intro p hp _
   rw [hps]
   simpa using hp
theorem tt {W W':World} (hl:laidOutB P=true) (hb:Below W.heap.size W W') {sp:Nat->Bool}: ∀{ts:List TypeId} {vs:List Value} {ds:List (DataW H)} {ps:List MemPlace},
  (∀t∈ts,P.readableRec t=true/\t<P.types.size)->DataW.TrodAll enc P W 0 (fun _=>true) true ts vs ds ps->(∀p∈ps,p.block<W.heap.size)->(∀p∈ps,sp p.block=true)->DataW.TrodAll enc P W' 0 sp true ts vs ds ps
 | [],_,_,_,_,h,_,_=>by
  obtain⟨rfl,rfl,rfl⟩:=trodAll_nil h
  rfl
 | t::ts,_,_,_,ht,h,hlt,hsp=>by
  obtain⟨v,vs,d,ds,p,q,rfl,rfl,rfl,h1,h2⟩:=trodAll_cons h
  refine⟨p,q,?_,tt hl hb (fun t h=>ht t (by simp [h])) h2 (fun x hx=>hlt x (by simp [hx])) (fun x hx=>hsp x (by simp [hx])),rfl⟩
  exact WideElems.Trod_stays hl (ht t (by simp)).1 (ht t (by simp)).2 h1 (fun x hx=>hb.same (hlt x (by simp [hx]))) (fun x hx=>hsp x (by simp [hx]))
end
end Go.Gk
namespace Go.Gk
open Go
instance:Bk aI:=⟨fun x=>bk x.X0+bk x.Y0+bk x.X1+bk x.Y1+1,fun _=>by omega⟩
theorem HY (x:aI):bk x=bk x.X0+bk x.Y0+bk x.X1+bk x.Y1+1:=rfl
instance:Bk eN:=⟨fun x=>bk x.X+bk x.Y+1,fun _=>by omega⟩
theorem Gs (x:eN):bk x=bk x.X+bk x.Y+1:=rfl
instance:Bk bZ:=⟨fun x=>bk x.At+bk x.eZ+bk x.bU+bk x.To+bk x.ij+1,fun _=>by omega⟩
theorem HZ (x:bZ):bk x=bk x.At+bk x.eZ+bk x.bU+bk x.To+bk x.ij+1:=rfl
instance:Bk cY:=⟨fun x=>bk x.Part+bk x.fV+bk x.cZ+bk x.At+1,fun _=>by omega⟩
theorem D3 (x:cY):bk x=bk x.Part+bk x.fV+bk x.cZ+bk x.At+1:=rfl
instance:Bk gS:=⟨fun x=>bk x.aL+bk x.dL+bk x.aW+bk x.bJ+1,fun _=>by omega⟩
theorem Gt (x:gS):bk x=bk x.aL+bk x.dL+bk x.aW+bk x.bJ+1:=rfl
instance:Bk fV:=⟨fun x=>bk x.Part+bk x.fV+1,fun _=>by omega⟩
theorem Jt (x:fV):bk x=bk x.Part+bk x.fV+1:=rfl
instance:Bk Test:=⟨fun x=>bk x.A+bk x.B+bk x.Joined+1,fun _=>by omega⟩
theorem H0 (x:Test):bk x=bk x.A+bk x.B+bk x.Joined+1:=rfl
instance:Bk aA:=⟨fun x=>bk x.Y0+bk x.Y1+bk x.Xs+1,fun _=>by omega⟩
instance:Bk aH:=⟨fun x=>bk x.cZ+bk x.Set+bk x.iZ+1,fun _=>by omega⟩
instance:Bk cI:=⟨fun x=>bk x.nu+bk x.aW+bk x.gV+1,fun _=>by omega⟩
instance:Bk dU:=⟨fun x=>bk x.bZ+bk x.Number+1,fun _=>by omega⟩
instance:Bk bQ:=⟨fun x=>bk x.Open+bk x.dU+bk x.A+bk x.B+1,fun _=>by omega⟩
instance:Bk qg:=⟨fun x=>bk x.A+bk x.B+bk x.iv+bk x.bU+bk x.To+1,fun _=>by omega⟩
instance:Bk bO:=⟨fun x=>bk x.CU+bk x.tp+1,fun _=>by omega⟩
instance:Bk Touch:=⟨fun x=>bk x.Test+bk x.Ja+bk x.FO+1,fun _=>by omega⟩
end Go.Gk
namespace Go.Gk
open Go Go.Sort
section
variable {α:Type}
theorem wN {β:Type} (a:Array β) {n:Nat} (h:a.size=n):a.extract 0 n=a:=by subst h;exact Array.extract_size
theorem Ju {φ:α->α->Option Int} {l:List α} (cf:α->α->Int) (hφ: ∀x∈l,∀y∈l,φ x y=some (cf x y)) (h1: ∀x∈l,¬cf x x<0)
  (h2: ∀x∈l,∀y∈l,∀z∈l,cf x y<0->cf y z<0->cf x z<0) (h3: ∀x∈l,∀y∈l,∀z∈l,¬cf x y<0->¬cf y z<0->¬cf x z<0):SWO (Ho (BF φ l)):=by
 have hm: ∀i:Fin l.length,l[i]∈l:=fun i=>cJ i.isLt
 have e: ∀i j:Fin l.length,BF φ l i j=cf l[i] l[j]:=fun i j=>by unfold BF;rw [hφ _ (hm i) _ (hm j)];rfl
 refine⟨fun x=>?_,fun x y z=>?_,fun x y z=>?_⟩
 ·simp only [Ho,e,decide_eq_false_iff_not];exact h1 _ (hm _)
 ·simp only [Ho,e,decide_eq_true_iff];exact h2 _ (hm _) _ (hm _) _ (hm _)
 ·simp only [Ho,e,decide_eq_false_iff_not];exact h3 _ (hm _) _ (hm _) _ (hm _)
theorem yc {φ:α->α->Option Int} {l:List α} (cf:α->α->Int) (hφ: ∀x∈l,∀y∈l,φ x y=some (cf x y)) (h1: ∀x∈l,¬cf x x<0)
  (h2: ∀x∈l,∀y∈l,∀z∈l,cf x y<0->cf y z<0->cf x z<0) (h3: ∀x∈l,∀y∈l,∀z∈l,¬cf x y<0->¬cf y z<0->¬cf x z<0) (hl:l.length<4611686018427387904):
  ∃m,uG φ l=some m/\m.Perm l/\m.Pairwise (fun x y=>¬cf y x<0):=by
 have hO:=Ju cf hφ h1 h2 h3
 have hm: ∀i:Fin l.length,l[i]∈l:=fun i=>cJ i.isLt
 have hc: (∀i j:Fin l.length,∃c,φ l[i] l[j]=some c):=fun i j=>⟨_,hφ _ (hm i) _ (hm j)⟩
 refine⟨DN φ l,by unfold uG;rw [aD ⟨⟨hc,hO⟩,hl⟩],?_⟩
 unfold DN
 by_cases hn:0<l.length
 ·rw [dif_pos hn]
  letI inh:Inhabited (Fin l.length):=⟨⟨0,hn⟩⟩
  have hds: (Array.ofFn fun i:Fin l.length=>i).size=l.length:=by simp
  obtain⟨hp,hs⟩:=pdq_sorts (Ho (BF φ l)) hO (Array.ofFn fun i:Fin l.length=>i) 0 l.length (Lib.bitLen l.length) true true (mi _) (by rw [hds];exact bP _) (Or.inl rfl)
  show (List.map (fun i=>l[i]) (pdq (Ho (BF φ l)) (Array.ofFn fun i:Fin l.length=>i) 0 l.length (Lib.bitLen l.length) true true).toList).Perm l/\_
  generalize pdq (Ho (BF φ l)) (Array.ofFn fun i:Fin l.length=>i) 0 l.length (Lib.bitLen l.length) true true=d' at hp hs
  obtain⟨hz,_,hpm⟩:=hp
  have hz':d'.size=l.length:=hz.trans hds
  rw [wN d' hz',wN _ hds] at hpm
  have hof: (Array.ofFn fun i:Fin l.length=>i).toList.map (fun i=>l[i])=l:=by
   rw [Array.toList_ofFn,List.map_ofFn]
   exact List.ofFn_getElem
  refine⟨(hpm.map (fun i=>l[i])).trans (List.Perm.of_eq hof),?_⟩
  rw [List.pairwise_map,lR]
  intro i j hi hj hij
  rw [Array.length_toList] at hi hj
  have:=hs i j (mi _) hij (by rw [<-hz'];exact hj)
  rw [getElem!_pos d' i hi,getElem!_pos d' j hj] at this
  have hij2:=hφ _ (hm (d'[j])) _ (hm (d'[i]))
  have hij3:BF φ l d'[j] d'[i]=cf l[d'[j]] l[d'[i]]:=by unfold BF;rw [hij2];rfl
  unfold Ho at this
  rw [decide_eq_false_iff_not,hij3] at this
  exact this
 ·rw [dif_neg hn]
  have:l= []:=List.length_eq_zero_iff.1 (by omega)
  subst this
  exact⟨List.Perm.refl _,jR⟩
theorem zI {φ:α->α->Option Int} {x:α} (h:φ x x=some 0):uG φ [x]=some [x]:=by
 obtain⟨m,h1,h2,_⟩:=yc (φ:=φ) (l:=[x]) (fun _ _=>0) (fun a ha b hb=>by simp at ha hb;rw [ha,hb];exact h) (fun _ _=>by decide) (fun _ _ _ _ _ _ h=>by simp at h) (fun _ _ _ _ _ _ _ _=>by decide) (by simp)
 rw [h1,List.perm_singleton.1 h2]
theorem y9 {l:List Int} (h:l.Pairwise (fun x y=>x<=y)) (hl:l.length<4611686018427387904):rl l=some l:=by
 unfold rl
 rw [aD hl,List.mergeSort_of_pairwise (by simpa using h)]
end
end Go.Gk
namespace Go.Gk
open Go
def AO (l:List Int) (x:Int):Nat:=l.countP (fun a=>decide (a<=x))
def mE (l:List Int) (x:Int):Bool:=AO l x % 2==1
def l6 (l:List Int):Prop:=l.Pairwise (· < ·)
theorem AP (x:Int):AO [] x=0:=rfl
theorem lK (a:Int) (l:List Int) (x:Int):AO (a::l) x= (if a<=x then 1 else 0)+AO l x:=by
 unfold AO
 rw [List.countP_cons]
 by_cases h:a<=x <;> simp [h];omega
theorem yd (l m:List Int) (x:Int):AO (l++m) x=AO l x+AO m x:=List.countP_append
theorem D5 {l:List Int} {x:Int} (h: ∀a∈l,a<=x):AO l x=l.length:=by
 unfold AO;rw [List.countP_eq_length];intro a ha;simpa using h a ha
theorem ye {l:List Int} {x:Int} (h: ∀a∈l,x<a):AO l x=0:=by
 unfold AO;rw [List.countP_eq_zero];intro a ha;have:=h a ha;simp;omega
theorem vj {l:List Int} {x:Int}:mE l x=true↔AO l x % 2=1:=by unfold mE;simp
theorem vk {l:List Int} {x:Int} (h: ∀a∈l,x<a):mE l x=false:=by unfold mE;rw [ye h];rfl
theorem l6.head {a:Int} {l:List Int} (h:l6 (a::l)): ∀b∈l,a<b:=(List.pairwise_cons.1 h).1
theorem l6.tail {a:Int} {l:List Int} (h:l6 (a::l)):l6 l:=(List.pairwise_cons.1 h).2
theorem vl {a:Int} {l:List Int} (h:l6 (a::l)):mE (a::l) a=true:=by
 rw [vj,lK,aD (Int.le_refl _),ye h.head]
theorem yf: ∀{l m:List Int},l6 l->l6 m->(∀x,mE l x=mE m x)->l=m
 | [],[],_,_,_=>rfl
 | [],b::m,_,hm,h=>by have:=h b;rw [vl hm] at this;cases this
 | a::l,[],hl,_,h=>by have:=h a;rw [vl hl] at this;cases this
 | a::l,b::m,hl,hm,h=>by
  have hab:a=b:=by
   rcases Int.lt_trichotomy a b with h1 | h1 | h1
   ·have h2:=h a
    rw [vl hl,vk (l:=b::m) (fun c hc=>by
     rcases fN.1 hc with rfl | hc
     ·exact h1
     ·have:=hm.head c hc;omega)] at h2
    cases h2
   ·exact h1
   ·have h2:=h b
    rw [vl hm,vk (l:=a::l) (fun c hc=>by
     rcases fN.1 hc with rfl | hc
     ·exact h1
     ·have:=hl.head c hc;omega)] at h2
    cases h2
  subst hab
  rw [yf hl.tail hm.tail (fun x=>?_)]
  by_cases hx:a<=x
  ·have h2:=h x
   unfold mE at h2 ⊢
   rw [lK,lK,aD hx] at h2
   rw [fO] at h2 ⊢
   simp only [beq_iff_eq] at h2 ⊢
   omega
  ·rw [vk (fun c hc=>by have:=hl.head c hc;omega),vk (fun c hc=>by have:=hm.head c hc;omega)]
theorem vm {l:List Int} {a b:Int} (hl: ∀c∈l,c<a) (he:l.length % 2=0) (hab:a<b) (x:Int):mE (l++[a,b]) x= (mE l x||(decide (a<=x)&&decide (x<b))):=by
 rw [fO,dS,bT,bK,bK,vj,vj,yd,lK,lK,AP]
 by_cases h1:a<=x
 ·have h2:AO l x=l.length:=D5 fun c hc=>by have:=hl c hc;omega
  rw [h2,aD h1]
  by_cases h3:b<=x
  ·rw [aD h3];omega
  ·rw [aC h3];omega
 ·rw [aC h1,aC (by omega)];omega
theorem Gx {l:List Int} {s e a b:Int} (hl: ∀c∈l,c<s) (he:l.length % 2=0) (hs:s<e) (h1:s<=a) (h2:a<=e) (hab:a<b) (x:Int):mE (l++[s,max e b]) x= (mE (l++[s,e]) x||(decide (a<=x)&&decide (x<b))):=by
 rw [vm hl he (by omega),vm hl he hs]
 rw [fO]
 simp only [dS,bT,bK]
 constructor
 ·rintro(h | h)
  ·exact .inl (.inl h)
  ·by_cases hx:x<e
   ·exact .inl (.inr ⟨h.1,hx⟩)
   ·exact .inr ⟨by omega,by omega⟩
 ·rintro((h | h) | h)
  ·exact .inl h
  ·exact .inr ⟨h.1,by omega⟩
  ·exact .inr ⟨by omega,by omega⟩
theorem l6.snoc {l:List Int} {a b:Int} (h:l6 l) (hl: ∀c∈l,c<a) (hab:a<b):l6 (l++[a,b]):=by
 unfold l6
 rw [List.pairwise_append]
 refine⟨h,by simp [hab],fun c hc d hd=>?_⟩
 have:=hl c hc
 simp at hd
 rcases hd with rfl | rfl <;> omega
structure Bd where
 y0:Int
 y1:Int
 xs:List Int
def rowAt:List Bd->Int->List Int
 | [],_=>[]
 | b::s,y=>if b.y0<=y/\y<b.y1 then b.xs else rowAt s y
theorem kS (b:Bd) (s:List Bd) (y:Int):rowAt (b::s) y=if b.y0<=y/\y<b.y1 then b.xs else rowAt s y:=rfl
structure eC (s:List Bd):Prop where
 each: ∀b∈s,b.y0<b.y1/\b.xs≠[]/\l6 b.xs/\b.xs.length % 2=0
 ord:s.Pairwise (fun b c=>b.y1<=c.y0/\(b.y1=c.y0->b.xs≠c.xs))
theorem eC.nil:eC []:=⟨fun b h=>by simp at h,jR⟩
theorem eC.tail {b:Bd} {s:List Bd} (h:eC (b::s)):eC s:=⟨fun c hc=>h.each c (jy _ hc),(List.pairwise_cons.1 h.ord).2⟩
theorem j5 {s:List Bd} {y:Int} (h: ∀b∈s,y<b.y0\/b.y1<=y):rowAt s y= []:=by
 induction s with
 | nil=>rfl
 | cons b s ih=>
  unfold rowAt
  have:=h b (by simp)
  rw [aC (by omega)]
  exact ih fun c hc=>h c (jy _ hc)
theorem nV (s t:List Bd) (y:Int):rowAt (s++t) y=if (∃b∈s,b.y0<=y/\y<b.y1) then rowAt s y else rowAt t y:=by
 induction s with
 | nil=>simp
 | cons b s ih=>
  rw [List.cons_append,kS,kS]
  by_cases h:b.y0<=y/\y<b.y1
  ·rw [aD h,aD ⟨b,by simp,h⟩,aD h]
  ·rw [aC h,ih]
   by_cases h2: ∃c∈s,c.y0<=y/\y<c.y1
   ·obtain⟨c,hc,hc2⟩:=h2
    rw [aD ⟨c,hc,hc2⟩,aD ⟨c,jy _ hc,hc2⟩,aC h]
   ·rw [aC h2,aC (show ¬∃c∈b::s,c.y0<=y/\y<c.y1 from ?_)]
    rintro⟨c,hc,hc2⟩
    rcases fN.1 hc with rfl | hc
    ·exact h hc2
    ·exact h2 ⟨c,hc,hc2⟩
theorem eC.kT {b:Bd} {s:List Bd} {y:Int} (h0:b.y0<=y) (h1:y<b.y1):rowAt (b::s) y=b.xs:=by unfold rowAt;rw [aD ⟨h0,h1⟩]
theorem eC.yg {b:Bd} {s:List Bd} (h:eC (b::s)): ∀c∈s,b.y1<=c.y0:=fun c hc=>((List.pairwise_cons.1 h.ord).1 c hc).1
theorem eC.sK {b:Bd} {s:List Bd} (h:eC (b::s)) {y:Int} (hy:y<b.y0):rowAt (b::s) y= []:=j5 fun c hc=>by
 rcases fN.1 hc with rfl | hc
 ·exact .inl hy
 ·have:=h.yg c hc;have:=(h.each b (by simp)).1;exact .inl (by omega)
theorem eC.D6 {b:Bd} {s:List Bd} (h:eC (b::s)):rowAt (b::s) b.y1≠b.xs:=by
 rw [kS,aC (by omega)]
 cases s with
 | nil=>exact fun e=>(h.each b (by simp)).2.1 e.symm
 | cons c s=>
  have h1:=(List.pairwise_cons.1 h.ord).1 c (by simp)
  by_cases e:b.y1=c.y0
  ·rw [eC.kT (by omega) (by have:=(h.tail.each c (by simp)).1;omega)]
   exact fun h=>h1.2 e h.symm
  ·rw [h.tail.sK (by have:=h1.1;omega)]
   exact fun e=>(h.each b (by simp)).2.1 e.symm
theorem yh: ∀{s t:List Bd},eC s->eC t->(∀y,rowAt s y=rowAt t y)->s=t
 | [],[],_,_,_=>rfl
 | [],c::t,_,ht,h=>by
  have hc:=ht.each c (by simp)
  have:=h c.y0
  rw [eC.kT (Int.le_refl _) hc.1] at this
  exact absurd this.symm hc.2.1
 | b::s,[],hs,_,h=>by
  have hb:=hs.each b (by simp)
  have:=h b.y0
  rw [eC.kT (Int.le_refl _) hb.1] at this
  exact absurd this hb.2.1
 | b::s,c::t,hs,ht,h=>by
  have hb:=hs.each b (by simp)
  have hc:=ht.each c (by simp)
  have e0:b.y0=c.y0:=by
   rcases Int.lt_trichotomy b.y0 c.y0 with h1 | h1 | h1
   ·have h2:=h b.y0
    rw [eC.kT (Int.le_refl _) hb.1,ht.sK h1] at h2
    exact absurd h2 hb.2.1
   ·exact h1
   ·have h2:=h c.y0
    rw [eC.kT (Int.le_refl _) hc.1,hs.sK h1] at h2
    exact absurd h2.symm hc.2.1
  have ex:b.xs=c.xs:=by
   have h2:=h b.y0
   rw [eC.kT (Int.le_refl _) hb.1,eC.kT (by omega) (by omega)] at h2
   exact h2
  have e1:b.y1=c.y1:=by
   rcases Int.lt_trichotomy b.y1 c.y1 with h1 | h1 | h1
   ·have h2:=h b.y1
    rw [eC.kT (b:=c) (by omega) h1] at h2
    exact absurd (h2.trans ex.symm) hs.D6
   ·exact h1
   ·have h2:=h c.y1
    rw [eC.kT (b:=b) (by omega) h1] at h2
    exact absurd (h2.symm.trans ex) ht.D6
  have ebc:b=c:=by cases b;cases c;simp_all
  subst ebc
  rw [yh hs.tail ht.tail (fun y=>?_)]
  by_cases hy:b.y1<=y
  ·have h2:=h y
   unfold rowAt at h2
   rw [aC (by omega),aC (by omega)] at h2
   exact h2
  ·rw [j5 (fun d hd=>by have:=hs.yg d hd;exact .inl (by omega)),j5 (fun d hd=>by have:=ht.yg d hd;exact .inl (by omega))]
def vn (s:List Bd) (x y:Int):Bool:=mE (rowAt s y) x
theorem zJ {s:List Bd} (h: ∀b∈s,l6 b.xs) (y:Int):l6 (rowAt s y):=by
 induction s with
 | nil=>exact jR
 | cons b s ih=>
  unfold rowAt
  split
  ·exact h b (by simp)
  ·exact ih fun c hc=>h c (jy _ hc)
theorem yi {s t:List Bd} (hs:eC s) (ht:eC t) (h: ∀x y,vn s x y=vn t x y):s=t:=
 yh hs ht fun y=>yf (zJ (fun b hb=>(hs.each b hb).2.2.1) y) (zJ (fun b hb=>(ht.each b hb).2.2.1) y) fun x=>h x y
def mb (s:List Bd) (b:Bd):List Bd:=
 if b.xs= []\/b.y1<=b.y0 then s else
  match s.getLast? with
  | some c=>if c.y1=b.y0/\c.xs=b.xs then s.dropLast++[⟨c.y0,b.y1,c.xs⟩] else s++[b]
  | none=>[b]
theorem qA {α:Type} {s:List α} {c:α} (h:s.getLast? =some c):s=s.dropLast++[c]:=by
 have hne:s≠[]:=fun e=>by rw [e] at h;cases h
 rw [List.getLast?_eq_some_getLast hne] at h
 injection h with h
 rw [<-h];exact(List.dropLast_concat_getLast hne).symm
theorem wi {s:List Bd} {b:Bd} (hs: ∀c∈s,c.y1<=b.y0) (hg: ∀c∈s,c.y0<c.y1) (hb:b.y1<=b.y0->b.y1=b.y0) (y:Int):rowAt (mb s b) y=if b.y0<=y/\y<b.y1 then b.xs else rowAt s y:=by
 have key: ∀(s:List Bd) (c:Bd),(∀d∈s,d.y1<=c.y0)->rowAt (s++[c]) y=if c.y0<=y/\y<c.y1 then c.xs else rowAt s y:=by
  intro s c h
  rw [nV]
  by_cases h1:c.y0<=y/\y<c.y1
  ·rw [aD h1,aC (by rintro⟨d,hd,hd2⟩;have:=h d hd;omega),eC.kT h1.1 h1.2]
  ·rw [aC h1]
   by_cases h2: ∃d∈s,d.y0<=y/\y<d.y1
   ·rw [aD h2]
   ·rw [aC h2,kS,aC h1]
    refine(show rowAt [] y=_ from (j5 (s:=s) fun d hd=>?_).symm)
    by_cases h3:d.y0<=y
    ·exact .inr (by have: ¬(d.y0<=y/\y<d.y1):=fun h4=>h2 ⟨d,hd,h4⟩;omega)
    ·exact .inl (by omega)
 unfold mb
 by_cases h0:b.xs= []\/b.y1<=b.y0
 ·rw [aD h0]
  by_cases h1:b.y0<=y/\y<b.y1
  ·rw [aD h1]
   rcases h0 with h0 | h0
   ·rw [h0];exact j5 fun c hc=> .inr (by have:=hs c hc;omega)
   ·omega
  ·rw [aC h1]
 ·rw [aC h0]
  cases hl:s.getLast? with
  | none=>
   have:s= []:=by simpa using hl
   subst this
   rfl
  | some c=>
   dsimp only
   have hsp:=qA hl
   have hcm:c∈s:=by rw [hsp];simp
   by_cases h1:c.y1=b.y0/\c.xs=b.xs
   ·rw [aD h1]
    have hd: ∀d∈s.dropLast,d.y1<=c.y0\/True:=fun _ _=> .inr trivial
    rw [nV]
    have hrow:rowAt s y=if (∃d∈s.dropLast,d.y0<=y/\y<d.y1) then rowAt s.dropLast y else (if c.y0<=y/\y<c.y1 then c.xs else []):=by
     conv=>lhs;rw [hsp]
     rw [nV];rfl
    rw [hrow]
    have hcg:=hg c hcm
    by_cases h2: ∃d∈s.dropLast,d.y0<=y/\y<d.y1
    ·obtain⟨d,hd,hd2⟩:=h2
     have:=hs d (List.dropLast_subset _ hd)
     have he: ∃d∈s.dropLast,d.y0<=y/\y<d.y1:=⟨d,hd,hd2⟩
     rw [aD he,aD he,aC (by omega)]
    ·rw [aC h2,aC h2]
     show (if c.y0<=y/\y<b.y1 then c.xs else [])=_
     by_cases h3:b.y0<=y/\y<b.y1
     ·rw [aD h3,aD ⟨by omega,h3.2⟩,h1.2]
     ·rw [aC h3]
      by_cases h4:c.y0<=y/\y<c.y1
      ·rw [aD h4,aD ⟨h4.1,by omega⟩]
      ·rw [aC h4,aC (by omega)]
   ·rw [aC h1]
    exact key s b hs
theorem wj {s:List Bd} {b:Bd} (h:eC s) (hs: ∀c∈s,c.y1<=b.y0) (hb:l6 b.xs) (he:b.xs.length % 2=0):eC (mb s b):=by
 unfold mb
 by_cases h0:b.xs= []\/b.y1<=b.y0
 ·rw [aD h0];exact h
 ·rw [aC h0]
  have hbg:b.y0<b.y1/\b.xs≠[]/\l6 b.xs/\b.xs.length % 2=0:=⟨by omega,fun e=>h0 (.inl e),hb,he⟩
  cases hl:s.getLast? with
  | none=>exact⟨fun c hc=>by simp at hc;subst hc;exact hbg,List.pairwise_singleton _ _⟩
  | some c=>
   dsimp only
   have hsp:=qA hl
   have hcm:c∈s:=by rw [hsp];simp
   have hc:=h.each c hcm
   have hord:=h.ord
   rw [hsp,List.pairwise_append] at hord
   by_cases h1:c.y1=b.y0/\c.xs=b.xs
   ·rw [aD h1]
    refine⟨fun d hd=>?_,?_⟩
    ·rcases cU.1 hd with hd | hd
     ·exact h.each d (List.dropLast_subset _ hd)
     ·simp at hd;subst hd;exact⟨by show c.y0<b.y1;omega,hc.2⟩
    ·rw [List.pairwise_append]
     refine⟨hord.1,List.pairwise_singleton _ _,fun d hd e he=>?_⟩
     simp at he;subst he
     exact hord.2.2 d hd c (by simp)
   ·rw [aC h1]
    refine⟨fun d hd=>?_,?_⟩
    ·rcases cU.1 hd with hd | hd
     ·exact h.each d hd
     ·simp at hd;subst hd;exact hbg
    ·rw [List.pairwise_append]
     refine⟨h.ord,List.pairwise_singleton _ _,fun d hd e he=>?_⟩
     simp at he;subst he
     refine⟨hs d hd,fun e1 e2=>?_⟩
     rw [hsp] at hd
     rcases cU.1 hd with hd | hd
     ·have h2:=(hord.2.2 d hd c (by simp)).1
      have:=hs c hcm
      omega
     ·simp at hd;subst hd;exact h1 ⟨e1,e2⟩
theorem wk {s:List Bd} {b:Bd} (hs: ∀c∈s,c.y1<=b.y0) (hb:b.y0<=b.y1): ∀c∈mb s b,c.y1<=b.y1:=by
 intro c hc
 unfold mb at hc
 split at hc
 ·have:=hs c hc;omega
 ·split at hc
  ·split at hc
   ·rcases cU.1 hc with hc | hc
    ·have:=hs c (List.dropLast_subset _ hc);omega
    ·simp at hc;subst hc;exact Int.le_refl _
   ·rcases cU.1 hc with hc | hc
    ·have:=hs c hc;omega
    ·simp at hc;subst hc;exact Int.le_refl _
  ·simp at hc;subst hc;exact Int.le_refl _
end Go.Gk
namespace Go.Gk
open Go
section
variable {N:Nat}
def bR (b:aA):Bd:=⟨b.Y0,b.Y1,b.Xs⟩
def small (a:Int):Prop:= -1099511627776<=a/\a<=1099511627776
structure CI (r:aI):Prop where
 x:r.X0<r.X1
 y:r.Y0<r.Y1
 s1:small r.X0
 s2:small r.X1
 s3:small r.Y0
 s4:small r.Y1
def Dc (l:List aI) (x:Int):Bool:=l.any (fun r=>decide (r.X0<=x)&&decide (x<r.X1))
def wO (l:List aI) (x y:Int):Bool:=l.any (fun r=>(decide (r.X0<=x)&&decide (x<r.X1))&&(decide (r.Y0<=y)&&decide (y<r.Y1)))
theorem yj {l:List aI} {x:Int}:Dc l x=true↔∃r∈l,r.X0<=x/\x<r.X1:=by unfold Dc;simp [jA]
theorem j6 {l:List aI} {x y:Int}:wO l x y=true↔∃r∈l,(r.X0<=x/\x<r.X1)/\r.Y0<=y/\y<r.Y1:=by unfold wO;simp [jA]
theorem wrap_small {a b:Int} (ha:small a) (hb:small b):IntKind.wrap .i64 (a - b)=a - b:=by unfold small at *;exact fx (by omega) (by omega)
theorem Cc {n:Nat} (h:0<n) (hn:n<=4611686018427387904):IntKind.wrap .i64 (((n:Nat):Int) - 1)= ((n - 1:Nat):Int):=kh h hn
structure MO (out:List Int) (m:List aI) (k:Nat):Prop where
 row: (k=0/\out= [])\/∃A s e,out=A++[s,e]/\l6 A/\(∀c∈A,c<s)/\A.length % 2=0/\s<e/\∃j r,j<k/\m[j]? =some r/\s=r.X0
 mE: ∀x,mE out x=Dc (m.take k) x
 len:out.length<=2*k
 mem: ∀c∈out,∃r∈m,c=r.X0\/c=r.X1
theorem wm (l:List aI) (r:aI) (x:Int):Dc (l++[r]) x= (Dc l x||(decide (r.X0<=x)&&decide (x<r.X1))):=by unfold Dc;rw [List.any_append];simp
theorem AQ {l:List aI} (hl:l.length<=268435456) (hok: ∀r∈l,CI r): ∃row l',ik N l=some (row,l')/\l'.Perm l/\l6 row/\row.length % 2=0/\(∀x,mE row x=Dc l x)/\row.length<=2*l.length/\∀c∈row,∃r∈l,c=r.X0\/c=r.X1:=by
 unfold ik
 obtain⟨m,h1,h2,h3⟩:=yc (φ:=fS N) (l:=l) (fun a b=>a.X0 - b.X0) (fun a ha b hb=>by
  unfold fS;rw [wrap_small (hok a ha).s1 (hok b hb).s1]) (fun a _=>by omega) (fun a _ b _ c _ h1 h2=>by omega) (fun a _ b _ c _ h1 h2=>by omega) (by omega)
 have hml:m.length=l.length:=h2.length_eq
 have hmok: ∀r∈m,CI r:=fun r hr=>hok r (h2.subset hr)
 rw [h1,aB]
 obtain⟨out,a1,a2⟩:=xt (m:=m.length) (s:=([]:List Int)) (body:=fun(k32:Nat) (s33: (List Int))=>((idx m (k32:Int)).bind fun x79=>(bif (decide ((IntKind.wrap .i64 ((s33.length:Int) - 1))>=0)) then ((idx s33 (IntKind.wrap .i64 ((s33.length:Int) - 1))).bind fun x86=>some (decide (x79.X0<=x86))) else (some false)).bind fun s84=>(bif s84 then ((idx s33 (IntKind.wrap .i64 ((s33.length:Int) - 1))).bind fun x94=>(idx s33 (IntKind.wrap .i64 ((s33.length:Int) - 1))).bind fun x95=>some (s33.set (Int.toNat (IntKind.wrap .i64 ((s33.length:Int) - 1))) (if x94<x79.X1 then x79.X1 else x94))) else ((app 8 s33 ([x79.X0,x79.X1]: (List Int))).bind fun x97=>some x97)).bind fun s92=>some s92:Option ((List Int))))
  (fun k out=>MO out m k) (by omega) ⟨.inl ⟨rfl,rfl⟩,fun x=>rfl,by simp,fun c hc=>by cases hc⟩ (fun k out hk ⟨i1,i2,i3,i4⟩=>by
   have hx:m[k]? =some m[k]:=aJ hk
   have hr:=hmok _ (cJ hk)
   rw [dD hx,aB]
   have hts:m.take (k+1)=m.take k++[m[k]]:=fu hk
   rcases i1 with ⟨rfl,rfl⟩ | ⟨A,s,e,rfl,hA,hAs,hAe,hse,j,r,hj,hjr,hsr⟩
   ·rw [show decide (IntKind.wrap .i64 (((([]:List Int).length:Nat):Int) - 1)>=0)=false by decide,aS,aB,aS,gH (by simp),aB,aB]
    refine⟨_,rfl, .inr ⟨[],_,_,rfl,jR,fun c hc=>by simp at hc,rfl,hr.x,0,m[0],by omega,hx,rfl⟩,fun x=>?_,by simp,fun c hc=>⟨m[0],cJ hk,by simpa using hc⟩⟩
    rw [hts,wm,<-i2 x]
    exact vm (l:=[]) (fun c hc=>by simp at hc) rfl hr.x x
   ·have hlen: (A++[s,e]).length=A.length+2:=by simp
    have hwp:IntKind.wrap .i64 ((((A++[s,e]).length:Nat):Int) - 1)= ((A.length+1:Nat):Int):=by rw [Cc (by omega) (by omega),hlen];rfl
    have hlast: (A++[s,e])[A.length+1]? =some e:=by rw [fF (by omega)];simp
    have hs:s<=m[k].X0:=by
     have:=lR.1 h3 j k (by have:=(bD.1 hjr).1;omega) hk hj
     rw [hsr,<-(bD.1 hjr).2];omega
    rw [hwp,cD (by omega),aR,dD hlast,aB,aB]
    by_cases hc:m[k].X0<=e
    ·rw [cD hc,aR,aB,aB,aB,bS]
     have lZ: (A++[s,e]).set (A.length+1) (if e<m[k].X1 then m[k].X1 else e)=A++[s,max e m[k].X1]:=by
      rw [List.set_append_right _ _ (by omega)]
      have:A.length+1 - A.length=1:=by omega
      rw [this,Int.max_def]
      simp only [List.set_cons_succ,List.set_cons_zero]
      congr 2
      split <;> split <;> simp <;> omega
     rw [lZ]
     refine⟨_,rfl, .inr ⟨A,s,_,rfl,hA,hAs,hAe,by omega,j,r,by omega,hjr,hsr⟩,fun x=>?_,by simp at i3 ⊢;omega,fun c hc=>by
      rcases cU.1 hc with h | h
      ·exact i4 c (List.mem_append_left _ h)
      ·simp at h
       rcases h with h | h
       ·exact i4 c (by simp [h])
       ·rw [Int.max_def] at h
        split at h
        ·exact⟨_,cJ hk, .inr h⟩
        ·exact i4 c (by simp [h])⟩
     rw [hts,wm,<-i2 x]
     exact Gx hAs hAe hse hs hc hr.x x
    ·rw [bF hc,aS,gH (by rw [hlen];simp;omega),aB,aB]
     have hall: ∀c∈A++[s,e],c<m[k].X0:=fun c hc'=>by
      rcases cU.1 hc' with h | h
      ·have:=hAs c h;omega
      ·simp at h;omega
     refine⟨_,rfl, .inr ⟨A++[s,e],_,_,rfl,hA.snoc hAs hse,hall,by rw [hlen];omega,hr.x,k,m[k],by omega,hx,rfl⟩,fun x=>?_,by simp at i3 ⊢;omega,fun c hc=>by
      rcases cU.1 hc with h | h
      ·exact i4 c h
      ·exact⟨m[k],cJ hk,by simpa using h⟩⟩
     rw [hts,wm,<-i2 x]
     exact vm hall (by rw [hlen];omega) hr.x x)
 rw [a1,aB]
 refine⟨out,m,rfl,h2,?_,?_,fun x=>?_,by rw [<-hml];exact a2.len,fun c hc=>by obtain⟨r,hr,h⟩:=a2.mem c hc;exact⟨r,h2.subset hr,h⟩⟩
 ·rcases a2.row with ⟨_,h⟩ | ⟨A,s,e,rfl,hA,hAs,hAe,hse,_⟩
  ·rw [h];exact jR
  ·exact hA.snoc hAs hse
 ·rcases a2.row with ⟨_,h⟩ | ⟨A,s,e,rfl,hA,hAs,hAe,hse,_⟩
  ·rw [h];rfl
  ·simp;omega
 ·rw [a2.mE x,eR,fO,yj,yj]
  constructor
  ·rintro⟨r,hr,h⟩;exact⟨r,h2.subset hr,h⟩
  ·rintro⟨r,hr,h⟩;exact⟨r,h2.symm.subset hr,h⟩
theorem EY {l m:List Int} (hl:l.length<=4611686018427387904):kZ N l m=some (decide (l=m)):=sJ hl
theorem D7 {s:List aA} {b:aA} (hs:s.length<=1048576000) (hx: ∀c∈s,c.Xs.length<=1048576000): ∃s',gW N s b=some s'/\s'.map bR=mb (s.map bR) (bR b):=by
 unfold gW mb
 by_cases h0:b.Xs= []\/b.Y1<=b.Y0
 ·have e: ((((b.Xs.length:Nat):Int)==0)||(decide (b.Y1<=b.Y0)))=true:=by
   rw [dS]
   rcases h0 with h | h
   ·left;rw [h];rfl
   ·right;exact cD h
  rw [e,aR,aD (show (bR b).xs= []\/(bR b).y1<=(bR b).y0 from h0)]
  exact⟨s,rfl,rfl⟩
 ·have e: ((((b.Xs.length:Nat):Int)==0)||(decide (b.Y1<=b.Y0)))=false:=by
   rw [Bool.or_eq_false_iff]
   constructor
   ·rw [beq_eq_false_iff_ne];intro h;exact h0 (.inl (List.eq_nil_of_length_eq_zero (by omega)))
   ·exact bF fun h=>h0 (.inr h)
  rw [e,aS,aC (show ¬((bR b).xs= []\/(bR b).y1<=(bR b).y0) from h0)]
  rcases List.eq_nil_or_concat s with rfl | ⟨A,c,hA⟩
  ·rw [show decide (IntKind.wrap .i64 (((([]:List aA).length:Nat):Int) - 1)>=0)=false by decide,aS,aB,aS,gH (by simp),aB]
   exact⟨_,rfl,rfl⟩
  ·rw [List.concat_eq_append] at hA
   subst hA
   have hlen: (A++[c]).length=A.length+1:=by simp
   have hwp:IntKind.wrap .i64 ((((A++[c]).length:Nat):Int) - 1)= ((A.length:Nat):Int):=by rw [Cc (by omega) (by omega),hlen];rfl
   have hlast: (A++[c])[A.length]? =some c:=by simp
   rw [hwp,cD (by omega),aR,dD hlast,aB,aB,EY (by have:=hx c (by simp);omega),aB,aB,bS,gH (by rw [hlen];simp;omega),aB]
   have hl2: ((A++[c]).map bR).getLast? =some (bR c):=by simp
   have hd2: ((A++[c]).map bR).dropLast=A.map bR:=by simp
   rw [hl2,hd2]
   dsimp only
   by_cases h1:c.Y1=b.Y0/\c.Xs=b.Xs
   ·rw [aD (show (bR c).y1= (bR b).y0/\(bR c).xs= (bR b).xs from h1),show (c.Y1==b.Y0)=true by rw [h1.1];simp,aR,cD h1.2,aB,aR]
    refine⟨_,rfl,?_⟩
    rw [List.set_append_right _ _ (bP _),Nat.sub_self]
    simp [bR]
   ·rw [aC (show ¬((bR c).y1= (bR b).y0/\(bR c).xs= (bR b).xs) from h1)]
    have e2: (bif (c.Y1==b.Y0) then (some (decide (c.Xs=b.Xs))) else (some false))=some false:=by
     by_cases h2:c.Y1=b.Y0
     ·rw [show (c.Y1==b.Y0)=true by rw [h2];simp,aR,bF (fun h=>h1 ⟨h2,h⟩)]
     ·rw [show (c.Y1==b.Y0)=false by simpa using h2,aS]
    rw [e2,aB,aS]
    exact⟨_,rfl,by simp⟩
end
end Go.Gk
namespace Go.Gk
open Go
def o7 (l:List (Int×Int)):List Int:=l.flatMap fun s=>[s.1,s.2]
def EZ (l:List (Int×Int)) (x:Int):Bool:=l.any fun s=>decide (s.1<=x)&&decide (x<s.2)
theorem mV (s:Int×Int) (l:List (Int×Int)):o7 (s::l)=s.1::s.2::o7 l:=rfl
theorem E0 (l:List (Int×Int)): (o7 l).length=2*l.length:=by
 induction l with
 | nil=>rfl
 | cons s l ih=>rw [mV,je,je,je,ih];omega
theorem E1 (s:Int×Int) (l:List (Int×Int)) (x:Int):EZ (s::l) x= ((decide (s.1<=x)&&decide (x<s.2))||EZ l x):=rfl
theorem yk {l:List (Int×Int)} {x:Int}:EZ l x=true↔∃s∈l,s.1<=x/\x<s.2:=by
 unfold EZ;simp
theorem E2 {a b:Int} {m:List Int} (h:l6 (a::b::m)) (x:Int):mE (a::b::m) x= ((decide (a<=x)&&decide (x<b))||mE m x):=by
 have hab:a<b:=h.head b (by simp)
 have hm:=h.tail.head
 rw [fO,dS,bT,bK,bK,vj,vj,lK,lK]
 by_cases h1:a<=x
 ·rw [aD h1]
  by_cases h2:b<=x
  ·rw [aD h2];omega
  ·rw [aC h2,ye (fun c hc=>by have:=hm c hc;omega)];omega
 ·rw [aC h1,aC (by omega)];omega
theorem vo: ∀{l:List (Int×Int)},l6 (o7 l)->∀x,mE (o7 l) x=EZ l x
 | [],_,x=>rfl
 | s::l,h,x=>by
  rw [mV] at h ⊢
  rw [E2 h,E1,vo h.tail.tail]
end Go.Gk
namespace Go.Gk
open Go
end Go.Gk
namespace Go.Gk
open Go
def Ok {β:Type} (o:Option β) (P:β->Prop):Prop:=∃r,o=some r/\P r
section
variable {α β S R:Type} {P:α->Prop} {Q:β->Prop}
theorem Ok.ret {x:β} (h:Q x):Ok (some x) Q:=⟨x,rfl,h⟩
theorem Ok.of {o:Option β} {x:β} (h:o=some x) (hq:Q x):Ok o Q:=⟨x,h,hq⟩
theorem Ok.mono {o:Option α} {P':α->Prop} (h:Ok o P) (k: ∀x,P x->P' x):Ok o P':=by obtain⟨x,h1,h2⟩:=h;exact⟨x,h1,k x h2⟩
theorem Ok.bind {o:Option α} {f:α->Option β} (h:Ok o P) (k: ∀x,P x->Ok (f x) Q):Ok (o.bind f) Q:=by
 obtain⟨x,h1,h2⟩:=h;rw [h1];exact k x h2
theorem Ok.eq {o:Option α} {f:α->Option β} {x:α} (h:o=some x) (k:Ok (f x) Q):Ok (o.bind f) Q:=by rw [h];exact k
theorem Ok.bif {b:Bool} {x y:Option β} (ht:b=true->Ok x Q) (hf:b=false->Ok y Q):Ok (bif b then x else y) Q:=by
 cases b with
 | true=>exact ht rfl
 | false=>exact hf rfl
theorem Ok.get {o:Option β} {x:β} (h:Ok o (fun r=>r=x)):o=some x:=by obtain⟨r,h1,h2⟩:=h;rw [h1,h2]
def Le (Go:S->Prop) (Rt:R->Prop):Fo S R->Prop | .go s=>Go s | .rt r=>Rt r
def IK (Nx Br:S->Prop) (Rt:R->Prop):Fl S R->Prop | .nx s=>Nx s | .br s=>Br s | .rt r=>Rt r
theorem Ok.nx {Nx Br:S->Prop} {Rt:R->Prop} {s:S} (h:Nx s):Ok (some (Fl.nx s)) (IK Nx Br Rt):=⟨_,rfl,h⟩
theorem Ok.br {Nx Br:S->Prop} {Rt:R->Prop} {s:S} (h:Br s):Ok (some (Fl.br s)) (IK Nx Br Rt):=⟨_,rfl,h⟩
theorem Ok.rt {Nx Br:S->Prop} {Rt:R->Prop} {r:R} (h:Rt r):Ok (some (Fl.rt r:Fl S R)) (IK Nx Br Rt):=⟨_,rfl,h⟩
theorem Ok.cs {Go:S->Prop} {Rt:R->Prop} {o:Fo S R} {f:S->Option β} {g:R->Option β} (h:Le Go Rt o) (hf: ∀s,Go s->Ok (f s) Q) (hg: ∀r,Rt r->Ok (g r) Q):Ok (o.cs f g) Q:=by
 cases o with
 | go s=>exact hf s h
 | rt r=>exact hg r h
theorem Ok.iF {body:Nat->S->Option S} {m:Nat} {s:S} (Inv:Nat->S->Prop) (hm:m<=4611686018427387904) (h0:Inv 0 s) (h: ∀k s,k<m->Inv k s->Ok (body k s) (Inv (k+1))):Ok (iF m body s) (Inv m):=
 xt Inv hm h0 h
theorem Ok.oZ {body:Nat->S->Option (Fl S R)} {m:Nat} {s:S} (Inv:Nat->S->Prop) {Go:S->Prop} {Rt:R->Prop} (hm:m<=4611686018427387904) (h0:Inv 0 s)
  (h: ∀k s,k<m->Inv k s->Ok (body k s) (IK (Inv (k+1)) Go Rt)) (hg: ∀s,Inv m s->Go s):Ok (oZ m body s) (Le Go Rt):=by
 obtain⟨o,h1,h2⟩:=HU (R:=R) Inv Go Rt hm h0 (fun k s hk hi=>by
  obtain⟨fl,a1,a2⟩:=h k s hk hi
  exact⟨fl,a1,by cases fl <;> exact a2⟩) hg
 exact⟨o,h1,by cases o <;> exact h2⟩
theorem Ok.np {body:S->Option (Fl S R)} {N:Nat} {s:S} (Inv:S->Prop) (μ:S->Nat) {Go:S->Prop} {Rt:R->Prop}
  (h: ∀s,Inv s->Ok (body s) (IK (fun s'=>Inv s'/\μ s'<μ s) Go Rt)) (hi:Inv s) (hn:μ s<N):Ok (np body N s) (Le Go Rt):=by
 obtain⟨o,h1,h2⟩:=uX (R:=R) Inv μ Go Rt (fun s hi=>by
  obtain⟨fl,a1,a2⟩:=h s hi
  exact⟨fl,a1,by cases fl <;> exact a2⟩) N s hi hn
 exact⟨o,h1,by cases o <;> exact h2⟩
theorem Ok.app {b:Nat} {l ys:List α} {f:List α->Option β} (h: (l.length+ys.length)*b<=140737488355328) (k:Ok (f (l++ys)) Q):Ok ((Go.Gk.app b l ys).bind f) Q:=by rw [gH h];exact k
theorem Ok.idx {l:List α} {i:Nat} {f:α->Option β} (h:i<l.length) (k:Ok (f l[i]) Q):Ok ((Go.Gk.idx l ((i:Nat):Int)).bind f) Q:=by rw [jD l i h];exact k
theorem Ok.ix {l:List α} {i:Nat} {x:α} {f:α->Option β} (h:l[i]? =some x) (k:Ok (f x) Q):Ok ((Go.Gk.idx l ((i:Nat):Int)).bind f) Q:=by rw [dD h];exact k
end
theorem Cd {n:Nat} (h:n<=4611686018427387904):IntKind.wrap .i64 ((n:Nat):Int)= ((n:Nat):Int):=fx (by omega) (by omega)
theorem wrap_add {n m:Nat} (h:n+m<=4611686018427387904):IntKind.wrap .i64 (((n:Nat):Int)+ ((m:Nat):Int))= ((n+m:Nat):Int):=by rw [fx (by omega) (by omega)];simp
theorem fK {n:Nat} (h:n+1<=4611686018427387904):IntKind.wrap .i64 (((n:Nat):Int)+1)= ((n+1:Nat):Int):=by rw [fx (by omega) (by omega)];simp
theorem zK {n:Nat} (h:n+2<=4611686018427387904):IntKind.wrap .i64 (((n:Nat):Int)+2)= ((n+2:Nat):Int):=by rw [fx (by omega) (by omega)];simp
theorem dN {α:Type} [DecidableEq α]: ∀{l m:List α},l.Nodup->(∀x∈l,x∈m)->l.length<=m.length
 | [],m,_,_=>mi _
 | a::l,m,hn,hs=>by
  have ha:a∈m:=hs a (by simp)
  have hn':=List.nodup_cons.1 hn
  have:=dN (l:=l) (m:=m.erase a) hn'.2 (fun x hx=>by
   rw [List.mem_erase_of_ne (fun e=>hn'.1 (by rw [<-e];exact hx))]
   exact hs x (jy _ hx))
  rw [List.length_erase_of_mem ha] at this
  have:=List.length_pos_of_mem ha
  simp;omega
section
variable {α:Type} {N:Nat}
def Lg (z:α) (N:Nat) (p0:List α) (p1:α->Option Bool):Option (List α):=
 (qy p0 p1).bind fun x31=>bif (x31==(-1)) then (some p0) else ((np (fun(s33: (List α)×Int×Int)=>(bif (decide (s33.2.2< (s33.1.length:Int))) then ((idx s33.1 s33.2.2).bind fun x54=>(p1 x54).bind fun x58=>(bif (!x58) then ((idx s33.1 s33.2.1).bind fun x63=>some ((s33.1.set (Int.toNat s33.2.1) x54),(IntKind.wrap .i64 (s33.2.1+1)))) else (some (s33.1,s33.2.1))).bind fun s61=>some (.nx (s61.1,s61.2,(IntKind.wrap .i64 (s33.2.2+1))))) else (some (.br (s33.1,s33.2.1,s33.2.2))):Option (Fl ((List α)×Int×Int) Empty))) N (p0,x31,(IntKind.wrap .i64 (x31+1)))).bind fun o67=>o67.cs (fun(s33: (List α)×Int×Int)=>(uw s33.1 s33.2.1 (s33.1.length:Int)).bind fun x64=>(uw (s33.1.take (Int.toNat s33.2.1)++List.replicate (s33.1.length - Int.toNat s33.2.1) z) 0 s33.2.1).bind fun x65=>some x65) (fun r=>r.elim))
theorem Gy {z:α} {l:List α} {φ:α->Option Bool} (p:α->Bool) (hφ: ∀x∈l,φ x=some (p x)) (hl:l.length<=4611686018427387000) (hN:l.length<N):Lg z N l φ=some (l.filter (fun x=> !p x)):=by
 unfold Lg
 rw [pr p (by omega) hφ,aB]
 rcases sI l p with ⟨h1,h2⟩ | ⟨k,x,h1,h2,h3,h4⟩
 ·rw [h1]
  have:l.filter (fun x=> !p x)=l:=List.filter_eq_self.2 fun a ha=>by rw [h2 a ha];rfl
  rw [this];rfl
 ·rw [h1,show (((k:Nat):Int)== -1)=false by simp,aS]
  have hk:=(bD.1 h2).1
  have hpre: (l.take k).filter (fun x=> !p x)=l.take k:=List.filter_eq_self.2 fun a ha=>by
   obtain⟨j,hj⟩:=gk ha
   have hjk:j<k:=by have:=(bD.1 hj).1;rw [dF] at this;omega
   rw [List.getElem?_take_of_lt hjk] at hj
   rw [h4 j a hjk hj];rfl
  have hst:l.take (k+1)=l.take k++[x]:=by
   rw [fu hk];congr 1
   have:=(bD.1 h2).2;rw [this]
  have hk1:IntKind.wrap .i64 (((k:Nat):Int)+1)= ((k+1:Nat):Int):=by rw [fx (by omega) (by omega)];omega
  rw [hk1]
  obtain⟨o,a1,a2⟩:=uX (S:=(List α)×Int×Int) (R:=Empty) (body:=fun(s33: (List α)×Int×Int)=>(bif (decide (s33.2.2< (s33.1.length:Int))) then ((idx s33.1 s33.2.2).bind fun x54=>(φ x54).bind fun x58=>(bif (!x58) then ((idx s33.1 s33.2.1).bind fun x63=>some ((s33.1.set (Int.toNat s33.2.1) x54),(IntKind.wrap .i64 (s33.2.1+1)))) else (some (s33.1,s33.2.1))).bind fun s61=>some (.nx (s61.1,s61.2,(IntKind.wrap .i64 (s33.2.2+1))))) else (some (.br (s33.1,s33.2.1,s33.2.2))):Option (Fl ((List α)×Int×Int) Empty)))
   (fun s=>∃i j:Nat,s.2.1= ((i:Nat):Int)/\s.2.2= ((j:Nat):Int)/\i<j/\j<=l.length/\s.1.length=l.length/\s.1.take i= (l.take j).filter (fun x=> !p x)/\∀m,j<=m->s.1[m]? =l[m]?)
   (fun s=>l.length - s.2.2.toNat) (fun s=>∃i:Nat,s.2.1= ((i:Nat):Int)/\i<=l.length/\s.1.length=l.length/\s.1.take i=l.filter (fun x=> !p x)) (fun _=>True) (fun s ⟨i,j,e1,e2,hij,hj,hlen,ht,hd⟩=>by
    obtain⟨s,a,b⟩:=s
    dsimp only at e1 e2 hlen ht hd ⊢
    subst e1;subst e2
    by_cases hlt:j<l.length
    ·rw [cD (by rw [hlen];omega),aR]
     have hx:s[j]? =some l[j]:=by rw [hd j (bP _)];exact aJ hlt
     have w1:IntKind.wrap .i64 (((j:Nat):Int)+1)= ((j+1:Nat):Int):=by rw [fx (by omega) (by omega)];omega
     have w2:IntKind.wrap .i64 (((i:Nat):Int)+1)= ((i+1:Nat):Int):=by rw [fx (by omega) (by omega)];omega
     have hs2:l.take (j+1)=l.take j++[l[j]]:=fu hlt
     rw [dD hx,aB,hφ _ (cJ hlt),aB,w1]
     cases hp:p l[j] with
     | true=>
      refine⟨.nx (s,((i:Nat):Int),((j+1:Nat):Int)),by rw [lS,aS,aB],⟨i,j+1,rfl,rfl,by omega,by omega,hlen,?_,fun m hm=>hd m (by omega)⟩,?_⟩
      ·rw [hs2,g8,ht];simp [hp]
      ·simp only [bS];omega
     | false=>
      refine⟨.nx (s.set i l[j],((i+1:Nat):Int),((j+1:Nat):Int)),by rw [mj,aR,jD _ _ (by omega),aB,bS,w2,aB],⟨i+1,j+1,rfl,rfl,by omega,by omega,by simp [hlen],?_,fun m hm=>?_⟩,?_⟩
      ·rw [hs2,g8,<-ht]
       have: (s.set i l[j]).take (i+1)=s.take i++[l[j]]:=by
        rw [fu (by simp;omega),List.take_set_of_le (bP _)];simp
       rw [this];simp [hp]
      ·rw [fw,aC (by omega)];exact hd m (by omega)
      ·simp only [bS];omega
    ·rw [bF (by rw [hlen];omega),aS]
     have hje:j=l.length:=by omega
     subst hje
     rw [eR] at ht
     exact⟨.br (s,((i:Nat):Int),((l.length:Nat):Int)),rfl,i,rfl,by omega,hlen,ht⟩)
   N (l,((k:Nat):Int),((k+1:Nat):Int)) ⟨k,k+1,rfl,rfl,by omega,by omega,rfl,by rw [hst,g8,hpre];simp [h3],fun _ _=>rfl⟩ (by simp only [bS];omega)
  rw [a1,aB]
  cases o with
  | rt r=>exact r.elim
  | go s=>
   obtain⟨i,e1,hi,hlen,ht⟩:=a2
   obtain⟨s,a,b⟩:=s
   dsimp only at e1 hlen ht
   subst e1
   simp only [Fo.cs]
   rw [uZ _ _ (by omega),aB,bS,uY _ _ (by simp;omega),aB,List.take_append_of_le_length (by simp;omega),List.take_take,Nat.min_self,ht]
end
section
variable {κ ν:Type} [DecidableEq κ]
theorem jd (m:List (κ×ν)) (k k':κ) (x z:ν):dM (ph m k x) k' z=if k'=k then x else dM m k' z:=by
 induction m with
 | nil=>unfold ph dM;by_cases h:k'=k <;> simp [h]
 | cons p m ih=>
  unfold ph
  by_cases h:k=p.1
  ·rw [aD h]
   by_cases h':k'=k
   ·subst h';simp [dM]
   ·simp only [dM,List.find?_cons,aC h',bF h']
    rw [bF (fun e=>h' (e.trans h.symm))]
  ·rw [aC h]
   by_cases h':k'=p.1
   ·have:k'≠k:=fun e=>h (e.symm.trans h')
    simp only [dM,List.find?_cons,cD h',aC this]
   ·unfold dM at ih ⊢
    simp only [List.find?_cons,bF h']
    exact ih
theorem ll (m:List (κ×ν)) (k k':κ) (x:ν):iW (ph m k x) k'= (decide (k'=k)||iW m k'):=by
 induction m with
 | nil=>unfold ph iW;simp
 | cons p m ih=>
  unfold ph
  by_cases h:k=p.1
  ·rw [aD h]
   by_cases h':k'=k
   ·simp [iW,h']
   ·simp only [iW,List.any_cons,bF h',Bool.false_or]
    rw [bF (fun e=>h' (e.trans h.symm)),Bool.false_or]
  ·rw [aC h]
   unfold iW at ih ⊢
   simp only [List.any_cons]
   rw [ih]
   cases decide (k'=p.1) <;> cases decide (k'=k) <;> simp
end
end Go.Gk
namespace Go.Gk
open Go
section
variable {N:Nat}
theorem yl (l:List Int) (a b:Nat) (h:a+b<l.length):CS l ((a:Nat):Int) ((b:Nat):Int)=some l[a+b]:=by
 unfold CS
 rw [aD (by omega),show ((a:Nat):Int)+ ((b:Nat):Int)= ((a+b:Nat):Int) by omega,jD _ _ h]
theorem l6.Gz {l:List Int} {a:Int} (h:l6 l) (hl: ∀c∈l,c<a):l6 (l++[a]):=by
 unfold l6
 rw [List.pairwise_append]
 exact⟨h,List.pairwise_singleton _ _,fun c hc d hd=>by simp at hd;subst hd;exact hl c hc⟩
theorem l6.last {l:List Int} {a:Int} (h:l6 l) (hl:l.getLast? =some a): ∀c∈l,c<=a:=by
 intro c hc
 have hs:=qA hl
 rw [hs] at h hc
 rcases cU.1 hc with h1 | h1
 ·have:=(List.pairwise_append.1 h).2.2 c h1 a (by simp);omega
 ·simp at h1;omega
theorem AR {l:List Int} (hs:l.Pairwise (fun x y=>x<=y)) (hl:l.length<=4611686018427387000) (hN:l.length<N):
  Ok (fR N l) (fun m=>l6 m/\∀c,c∈m↔c∈l):=by
 unfold fR
 refine Ok.bif (fun h2=>Ok.ret ⟨?_,fun c=>Iff.rfl⟩) (fun h2=>?_)
 ·have h2:=of_decide_eq_true h2
  match l,h2 with
  | [],_=>exact jR
  | [a],_=>exact List.pairwise_singleton _ _
  | a::b::l,h2=>simp at h2;omega
 ·have h2:=of_decide_eq_false h2
  have le: ∀(i j:Nat) (x y:Int),i<j->l[i]? =some x->l[j]? =some y->x<=y:=fun i j x y hij hx hy=>by
   have:=lR.1 hs i j (bD.1 hx).1 (bD.1 hy).1 hij
   rw [(bD.1 hx).2,(bD.1 hy).2] at this;exact this
  refine Ok.bind (Ok.np (Go:=fun _=>l6 l) (Rt:=fun m=>l6 m/\∀c,c∈m↔c∈l) (fun s=>∃k:Nat,s= ((k:Nat):Int)/\1<=k/\k<=l.length/\l6 (l.take k)) (fun s=>l.length - s.toNat) ?_ ⟨1,rfl,bP _,by omega,?_⟩ (by simp;omega)) ?_
  ·rintro s ⟨k,rfl,hk1,hkl,hinc⟩
   refine Ok.bif (fun h=>?_) (fun h=>Ok.br ?_)
   ·have hk:k<l.length:=by have:=of_decide_eq_true h;omega
    refine Ok.idx hk ?_
    rw [kh hk1 (by omega)]
    refine Ok.idx (by omega) ?_
    refine Ok.bif (fun he=>?_) (fun he=>?_)
    ·have he:l[k]=l[k - 1]:=by simpa using he
     refine Ok.eq (uZ l k hkl) ?_
     refine Ok.bind (Ok.np (Go:=fun s=>∃i:Nat,s.2.1= ((i:Nat):Int)/\i<=l.length/\s.1.length=l.length/\l6 (s.1.take i)/\∀c,c∈s.1.take i↔c∈l) (Rt:=fun _=>True)
      (fun s=>∃i j:Nat,s.2.1= ((i:Nat):Int)/\s.2.2= ((j:Nat):Int)/\1<=j/\k+j<=l.length/\i<=k+j - 1/\s.1.length=l.length/\l6 (s.1.take i)/\(s.1.take i).getLast? =l[k+j - 1]? /\
       (∀c,c∈s.1.take i↔c∈l.take (k+j))/\∀m,k+j - 1<=m->s.1[m]? =l[m]?) (fun s=>l.length - s.2.2.toNat) ?_ ?_ (by simp;omega)) ?_
     ·rintro⟨u,a,b⟩ ⟨i,j,e1,e2,hj,hjl,hij,hlen,hi,hlast,hmem,hrest⟩
      dsimp only at e1 e2 hlen hi hlast hmem hrest ⊢
      subst e1;subst e2
      rw [bS]
      refine Ok.bif (fun h=>?_) (fun h=>Ok.br ?_)
      ·have hlt:k+j<l.length:=by have:=of_decide_eq_true h;omega
       have hx:u[k+j]'(by omega)=l[k+j]:=by have:=hrest (k+j) (by omega);rw [aJ (by omega),aJ hlt] at this;injection this
       have hy:u[k+ (j - 1)]'(by omega)=l[k+ (j - 1)]:=by have:=hrest (k+ (j - 1)) (by omega);rw [aJ (by omega),aJ (by omega)] at this;injection this
       refine Ok.eq (yl u k j (by omega)) ?_
       rw [kh hj (by omega)]
       refine Ok.eq (yl u k (j - 1) (by omega)) ?_
       rw [hx,hy]
       have hts:l.take (k+j+1)=l.take (k+j)++[l[k+j]]:=fu hlt
       have hlast': (u.take i).getLast? =some l[k+ (j - 1)]:=by rw [hlast,show k+j - 1=k+ (j - 1) by omega,aJ (by omega)]
       have hxy:l[k+ (j - 1)]<=l[k+j]:=le (k+ (j - 1)) (k+j) _ _ (by omega) (aJ _) (aJ _)
       refine Ok.bind (P:=fun s'=>s'.1.length=l.length/\∃i':Nat,s'.2= ((i':Nat):Int)/\i'<=k+j/\l6 (s'.1.take i')/\(s'.1.take i').getLast? =l[k+j]? /\(∀c,c∈s'.1.take i'↔c∈l.take (k+j+1))/\∀m,k+j<=m->s'.1[m]? =l[m]?) ?_ ?_
       ·refine Ok.bif (fun hne=>?_) (fun hne=>Ok.ret ?_)
        ·have hne:l[k+j]≠l[k+ (j - 1)]:=by simpa using hne
         refine Ok.eq (yl u k j (by omega)) ?_
         rw [hx]
         refine Ok.idx (by omega) (Ok.ret ⟨by simp [hlen],i+1,?_,by omega,?_⟩)
         ·rw [fK (by omega)]
         ·dsimp only
          rw [bS]
          have ht: (u.set i l[k+j]).take (i+1)=u.take i++[l[k+j]]:=by
           rw [fu (by simp;omega),List.take_set_of_le (bP _)];simp
          rw [ht]
          refine⟨hi.Gz fun c hc=>?_,by simp [aJ hlt],fun c=>?_,fun m hm=>?_⟩
          ·have:=hi.last hlast' c hc;omega
          ·rw [hts,cU,cU,hmem]
          ·rw [fw,aC (by omega)];exact hrest m (by omega)
        ·have he:l[k+j]=l[k+ (j - 1)]:=by simpa using hne
         refine⟨hlen,i,rfl,by omega,hi,?_,fun c=>?_,fun m hm=>hrest m (by omega)⟩
         ·dsimp only;rw [hlast',aJ hlt,he]
         ·rw [hts,cU,<-hmem]
          constructor
          ·exact .inl
          ·rintro(h | h)
           ·exact h
           ·simp at h;subst h
            rw [he];exact List.mem_of_getLast? hlast'
       ·rintro⟨v,a⟩ ⟨g1,i',g2,g3,g4,g5,g6,g7⟩
        dsimp only at g1 g2 g4 g5 g6 g7 ⊢
        refine Ok.nx ⟨⟨i',j+1,g2,?_,by omega,by omega,by omega,g1,g4,?_,g6,fun m hm=>g7 m (by omega)⟩,?_⟩
        ·rw [fK (by omega)]
        ·rw [show k+ (j+1) - 1=k+j by omega];exact g5
        ·rw [fK (by omega)];simp only [bS];omega
      ·have hge:k+j=l.length:=by have:=of_decide_eq_false h;omega
       refine⟨i,rfl,by omega,hlen,hi,fun c=>?_⟩
       rw [hmem,hge,eR]
     ·refine⟨k,1,rfl,rfl,bP _,by omega,by omega,rfl,hinc,?_,fun c=>?_,fun m _=>rfl⟩
      ·dsimp only
       rw [show k+1 - 1=k by omega,aJ hk,he,List.getLast?_eq_getElem?,dF,Nat.min_eq_left hkl,List.getElem?_take_of_lt (by omega),aJ (by omega)]
      ·dsimp only
       rw [fu hk,cU]
       constructor
       ·exact .inl
       ·rintro(h | h)
        ·exact h
        ·simp at h;subst h;rw [he]
         refine gT (i:=k - 1) ?_
         rw [List.getElem?_take_of_lt (by omega),aJ (by omega)]
     ·rintro o ho
      refine Ok.cs ho ?_ (fun r=>r.elim)
      rintro⟨u,a,b⟩ ⟨i,e1,hi,hlen,hinc',hmem⟩
      dsimp only at e1 hlen hinc' hmem ⊢
      subst e1
      refine Ok.eq (uZ u i (by omega)) ?_
      rw [bS]
      refine Ok.eq (uY _ i (by simp;omega)) (Ok.rt ?_)
      rw [List.take_append_of_le_length (by simp;omega),List.take_take,Nat.min_self]
      exact⟨hinc',hmem⟩
    ·have he:l[k]≠l[k - 1]:=by simpa using he
     refine Ok.nx ⟨⟨k+1,by rw [fK (by omega)],by omega,by omega,?_⟩,by rw [fK (by omega)];simp only [bS];omega⟩
     rw [fu hk]
     refine hinc.Gz fun c hc=>?_
     have hlast: (l.take k).getLast? =some l[k - 1]:=by
      rw [List.getLast?_eq_getElem?,dF,Nat.min_eq_left hkl,List.getElem?_take_of_lt (by omega),aJ (by omega)]
     have h3:=hinc.last hlast c hc
     have h4:=le (k - 1) k _ _ (by omega) (aJ (by omega:k - 1<l.length)) (aJ hk)
     omega
   ·have hge:k=l.length:=by have:=of_decide_eq_false h;omega
    subst hge;rw [eR] at hinc;exact hinc
  ·match l,h2 with
   | [],h2=>simp at h2
   | a::l,_=>exact List.pairwise_singleton _ _
  ·rintro o ho
   exact Ok.cs ho (fun s h=>Ok.ret ⟨h,fun c=>Iff.rfl⟩) (fun r h=>Ok.ret h)
def pW (l:List aI):List Int:=l.flatMap fun r=>[r.X0,r.X1]
def lL (l:List aI):List Int:=l.flatMap fun r=>[r.Y0,r.Y1]
theorem pX {l:List aI} {c:Int}:c∈pW l↔∃r∈l,c=r.X0\/c=r.X1:=by unfold pW;simp [List.mem_flatMap]
theorem kU {l:List aI} {c:Int}:c∈lL l↔∃r∈l,c=r.Y0\/c=r.Y1:=by unfold lL;simp [List.mem_flatMap]
theorem lM (l:List aI): (pW l).length=2*l.length:=by
 induction l with
 | nil=>rfl
 | cons r l ih=>unfold pW at *;simp [List.flatMap_cons,ih];omega
theorem jN (l:List aI): (lL l).length=2*l.length:=by
 induction l with
 | nil=>rfl
 | cons r l ih=>unfold lL at *;simp [List.flatMap_cons,ih];omega
def uy (X Y:List Int) (s:List Bd):Prop:=∀b∈s,b.y0∈Y/\b.y1∈Y/\∀c∈b.xs,c∈X
theorem uy.push {X Y:List Int} {s:List Bd} {b:Bd} (h:uy X Y s) (h0:b.y0∈Y) (h1:b.y1∈Y) (h2: ∀c∈b.xs,c∈X):uy X Y (mb s b):=by
 intro c hc
 unfold mb at hc
 split at hc
 ·exact h c hc
 ·split at hc
  ·rename_i d hd
   have hdm:d∈s:=List.mem_of_getLast? hd
   split at hc
   ·rcases cU.1 hc with hc | hc
    ·exact h c (List.dropLast_subset _ hc)
    ·simp at hc;subst hc;exact⟨(h d hdm).1,h1,(h d hdm).2.2⟩
   ·rcases cU.1 hc with hc | hc
    ·exact h c hc
    ·simp at hc;subst hc;exact⟨h0,h1,h2⟩
  ·simp at hc;subst hc;exact⟨h0,h1,h2⟩
theorem l6.nodup {l:List Int} (h:l6 l):l.Nodup:=List.Pairwise.imp (fun h=>by omega) h
theorem uy.row {X Y:List Int} {s:List Bd} (h:uy X Y s) (hc:eC s) {b:Bd} (hb:b∈s):b.xs.length<=X.length:=dN (hc.each b hb).2.2.1.nodup (h b hb).2.2
theorem uy.len {X Y:List Int} {s:List Bd} (h:uy X Y s) (hc:eC s):s.length<=Y.length:=by
 have hn: (s.map Bd.y0).Nodup:=by
  unfold List.Nodup
  rw [List.pairwise_map]
  refine List.Pairwise.imp_of_mem (fun{a b} ha hb hab=>?_) hc.ord
  have:=(hc.each a ha).1
  have:=hab.1
  omega
 have:=dN hn (m:=Y) (fun x hx=>by
  obtain⟨b,hb,rfl⟩:=cR.1 hx
  exact(h b hb).1)
 rwa [fD] at this
theorem uy.mono {X Y X' Y':List Int} {s:List Bd} (h:uy X Y s) (hx: ∀c∈X,c∈X') (hy: ∀c∈Y,c∈Y'):uy X' Y' s:=fun b hb=>⟨hy _ (h b hb).1,hy _ (h b hb).2.1,fun c hc=>hx c ((h b hb).2.2 c hc)⟩
theorem l6.lt {l:List Int} (h:l6 l) {i j:Nat} {x y:Int} (hij:i<j) (hx:l[i]? =some x) (hy:l[j]? =some y):x<y:=by
 have:=lR.1 h i j (bD.1 hx).1 (bD.1 hy).1 hij
 rw [(bD.1 hx).2,(bD.1 hy).2] at this;exact this
theorem l6.next {l:List Int} (h:l6 l) {k:Nat} {x y c:Int} (hx:l[k]? =some x) (hy:l[k+1]? =some y) (hc:c∈l) (hxc:x<c):y<=c:=by
 obtain⟨j,hj⟩:=gk hc
 rcases Nat.lt_trichotomy j (k+1) with h1 | h1 | h1
 ·exfalso
  by_cases e:j=k
  ·subst e;rw [hx] at hj;injection hj with hj;omega
  ·have:=h.lt (show j<k by omega) hj hx;omega
 ·subst h1;rw [hy] at hj;injection hj with hj;omega
 ·have:=h.lt h1 hy hj;omega
theorem uc {l:List aI} {φ:aI->Option Bool} (p:aI->Bool) (hφ: ∀x∈l,φ x=some (p x)) (hl:l.length<=4611686018427387000) (hN:l.length<N):gr N l φ=some (l.filter (fun x=> !p x)):=
 Gy (z:=(⟨0,0,0,0⟩:aI)) p hφ hl hN
theorem za {l:List aI} (hl:l.length<=268435456):g9 N l=some l:=by
 unfold g9;rw [gH (by simp;omega),aB,List.nil_append]
structure Lh (l m:List aI) (ys:List Int) (k:Nat) (out:List aA) (now:List aI) (nx:Nat):Prop where
 can:eC (out.map bR)
 top: ∀c∈out,∀y,ys[k]? =some y->c.Y1<=y
 cover: ∀x y,vn (out.map bR) x y= (wO l x y&&decide (∀a,ys[k]? =some a->y<a))
 lim:uy (pW l) (lL l) (out.map bR)
 Nd: ∀r∈now,r∈m.take nx
 Nf: ∀r∈m.take nx,∀y,ys[k]? =some y->y<r.Y1->r∈now
 len:now.length<=nx
 MP:nx<=m.length
 rest: ∀(j:Nat) r y,nx<=j->m[j]? =some r->ys[k]? =some y->y<=r.Y0
 low: ∀r∈now,∀y,ys[k]? =some y->r.Y0<=y
structure o8 (l:List aI) (s:List aA):Prop where
 can:eC (s.map bR)
 cover: ∀x y,vn (s.map bR) x y=wO l x y
 lim:uy (pW l) (lL l) (s.map bR)
theorem qB {l:List aI} (hl:l.length<=134217728) (hok: ∀r∈l,CI r) (hN:4294967296<=N):Ok (fX N l) (o8 l):=by
 unfold fX
 refine Ok.eq (za (by omega)) ?_
 obtain⟨m,h1,h2,h3⟩:=yc (φ:=iM N) (l:=l) (fun a b=>a.Y0 - b.Y0) (fun a ha b hb=>by
  unfold iM;rw [wrap_small (hok a ha).s3 (hok b hb).s3]) (fun a _=>by omega) (fun a _ b _ c _ h1 h2=>by omega) (fun a _ b _ c _ h1 h2=>by omega) (by omega)
 refine Ok.eq h1 ?_
 have hml:m.length=l.length:=h2.length_eq
 have hmem: ∀r,r∈m↔r∈l:=fun r=>h2.mem_iff
 refine Ok.bind (Ok.iF (fun k s=>s=lL (m.take k)) (by omega) rfl (fun k s hk e=>?_)) ?_
 ·subst e
  refine Ok.idx hk (Ok.app ?_ (Ok.ret ?_))
  ·rw [jN];simp;omega
  ·rw [fu hk]
   unfold lL;rw [List.flatMap_append];rfl
 rintro s rfl
 rw [eR]
 have hgs:rl (lL m)=some ((lL m).mergeSort (fun x y=>decide (x<=y))):=by unfold rl;rw [aD (by rw [jN];omega)]
 refine Ok.eq hgs ?_
 have hsp: ((lL m).mergeSort (fun x y=>decide (x<=y))).Pairwise (fun x y=>x<=y):=by
  have:=List.pairwise_mergeSort (le:=fun(x y:Int)=>decide (x<=y)) (fun a b c h1 h2=>by simp at *;omega) (fun a b=>by simp;omega) (lL m)
  exact List.Pairwise.imp (fun h=>by simpa using h) this
 have hsm: ∀c,c∈(lL m).mergeSort (fun x y=>decide (x<=y))↔c∈lL m:=fun c=>List.mem_mergeSort
 have hsl: ((lL m).mergeSort (fun x y=>decide (x<=y))).length=2*m.length:=by rw [List.length_mergeSort,jN]
 generalize (lL m).mergeSort (fun x y=>decide (x<=y))=sy at hsp hsm hsl
 refine Ok.bind (AR (N:=N) hsp (by omega) (by omega)) ?_
 rintro ys ⟨hy,hym⟩
 have hyl:ys.length<=2*m.length:=by
  have:=dN hy.nodup (m:=sy) (fun c hc=>(hym c).1 hc)
  omega
 have y0m: ∀r∈m,r.Y0∈ys:=fun r hr=>(hym _).2 ((hsm _).2 (kU.2 ⟨r,hr, .inl rfl⟩))
 have y1m: ∀r∈m,r.Y1∈ys:=fun r hr=>(hym _).2 ((hsm _).2 (kU.2 ⟨r,hr, .inr rfl⟩))
 have yml: ∀c∈ys,c∈lL l:=fun c hc=>by
  obtain⟨r,hr,h⟩:=kU.1 ((hsm _).1 ((hym _).1 hc))
  exact kU.2 ⟨r,(hmem r).1 hr,h⟩
 refine Ok.bind (Ok.np (Go:=fun s=>o8 l s.1) (Rt:=fun _=>True) (fun s=>∃k nx:Nat,s.2.2.2= ((k:Nat):Int)/\s.2.2.1= ((nx:Nat):Int)/\(k<ys.length\/k=0)/\Lh l m ys k s.1 s.2.1 nx) (fun s=>ys.length - s.2.2.2.toNat) ?_ ?_ (by simp;omega)) ?_
 ·rintro⟨out,now,a,b⟩ ⟨k,nx,e1,e2,hk,I⟩
  dsimp only at e1 e2 I ⊢
  subst e1;subst e2
  rw [fK (by omega)]
  refine Ok.bif (fun h=>?_) (fun h=>Ok.br ?_)
  ·have hk1:k+1<ys.length:=by have:=of_decide_eq_true h;omega
   have hyk:ys[k]? =some ys[k]:=aJ _
   have hyk1:ys[k+1]? =some ys[k+1]:=aJ hk1
   have hlt:=hy.lt (Nat.lt_succ_self k) hyk hyk1
   have hcov:=I.cover
   simp only [hyk,Option.some.injEq,forall_eq'] at hcov
   refine Ok.eq (uc (fun r=>decide (r.Y1<=ys[k])) (fun r _=>by unfold mo;rw [jD ys k (by omega),aB]) (by have:=I.len;have:=I.MP;omega) (by have:=I.len;have:=I.MP;omega)) ?_
   have hfl:=jz (fun r:aI=> !decide (r.Y1<=ys[k])) now
   have hIl:=I.len
   have hIn:=I.MP
   refine Ok.bind (Ok.np (Go:=fun s=>∃nx':Nat,s.2= ((nx':Nat):Int)/\nx'<=m.length/\s.1.length<=nx'/\(∀r∈s.1,r∈m.take nx')/\(∀r∈m.take nx',ys[k]<r.Y1->r∈s.1)/\(∀r∈s.1,r.Y0<=ys[k]/\ys[k]<r.Y1)/\(∀(j:Nat) r,nx'<=j->m[j]? =some r->ys[k]<r.Y0)) (Rt:=fun _=>True)
    (fun s=>∃nx':Nat,s.2= ((nx':Nat):Int)/\nx<=nx'/\nx'<=m.length/\s.1.length<=nx'/\(∀r∈s.1,r∈m.take nx')/\(∀r∈m.take nx',ys[k]<r.Y1->r∈s.1)/\(∀r∈s.1,r.Y0<=ys[k]/\ys[k]<r.Y1)) (fun s=>m.length - s.2.toNat) ?_ ?_ (by simp;omega)) ?_
   ·rintro⟨nw,b⟩ ⟨nx',e1,g0,g1,g2,g3,g4,g5⟩
    dsimp only at e1 g2 g3 g4 g5 ⊢
    subst e1
    refine Ok.bind (P:=fun b=>b=true↔∃h:nx'<m.length,m[nx'].Y0<=ys[k]) ?_ ?_
    ·refine Ok.bif (fun h=>?_) (fun h=>Ok.ret ?_)
     ·have hlt:nx'<m.length:=by have:=of_decide_eq_true h;omega
      refine Ok.idx hlt (Ok.idx (by omega) (Ok.ret ?_))
      rw [bK];exact⟨fun h=>⟨hlt,h⟩,fun⟨_,h⟩=>h⟩
     ·have:=of_decide_eq_false h
      constructor
      ·intro h;cases h
      ·rintro⟨h,_⟩;omega
    ·intro bb hbb
     refine Ok.bif (fun h=>?_) (fun h=>Ok.br ?_)
     ·obtain⟨hlt,h0⟩:=hbb.1 h
      have hts:m.take (nx'+1)=m.take nx'++[m[nx']]:=fu hlt
      refine Ok.idx hlt (Ok.app (by simp;omega) (Ok.nx ⟨⟨nx'+1,by rw [fK (by omega)],by omega,by omega,by simp;omega,fun r hr=>?_,fun r hr hr2=>?_,fun r hr=>?_⟩,by rw [fK (by omega)];simp only [bS];omega⟩))
      ·rw [hts]
       rcases cU.1 hr with h | h
       ·exact List.mem_append_left _ (g3 r h)
       ·exact List.mem_append_right _ h
      ·rw [hts] at hr
       rcases cU.1 hr with h | h
       ·exact List.mem_append_left _ (g4 r h hr2)
       ·exact List.mem_append_right _ h
      ·rcases cU.1 hr with h | h
       ·exact g5 r h
       ·simp at h;subst h
        refine⟨h0,?_⟩
        have:=(hok m[nx'] ((hmem _).1 (cJ hlt))).y
        have:=I.rest nx' _ ys[k] g0 (aJ hlt) hyk
        omega
     ·refine⟨nx',rfl,g1,g2,g3,g4,g5,fun j r hj hr=>?_⟩
      have hjl:=(bD.1 hr).1
      have hlt:nx'<m.length:=by omega
      have h0: ¬m[nx'].Y0<=ys[k]:=fun h0=>by rw [hbb.2 ⟨hlt,h0⟩] at h;cases h
      by_cases e:nx'=j
      ·subst e;rw [aJ hlt] at hr;injection hr with hr;subst hr;omega
      ·have:=lR.1 h3 nx' j hlt hjl (by omega)
       have hr':=(bD.1 hr).2
       rw [hr'] at this;omega
   ·refine⟨nx,rfl,bP _,hIn,by dsimp only;omega,fun r hr=>I.Nd r (iB.1 hr).1,fun r hr h=>iB.2 ⟨I.Nf r hr ys[k] hyk h,by simpa using h⟩,fun r hr=>?_⟩
    have hr:=iB.1 hr
    have hr2:ys[k]<r.Y1:=by simpa using hr.2
    exact⟨I.low r hr.1 ys[k] hyk,hr2⟩
   ·rintro o ho
    refine Ok.cs ho ?_ (fun r=>r.elim)
    rintro⟨nw,b⟩ ⟨nx',e1,g1,g2,g3,g4,g5,g6⟩
    dsimp only at e1 g2 g3 g4 g5 ⊢
    subst e1
    refine Ok.idx (by omega) (Ok.idx hk1 ?_)
    have hnm: ∀r∈nw,r∈l:=fun r hr=>(hmem r).1 (List.take_subset _ _ (g3 r hr))
    obtain⟨row,nw',s1,s2,s3,s4,s5,s6,s7⟩:=AQ (N:=N) (l:=nw) (by omega) (fun r hr=>hok r (hnm r hr))
    refine Ok.eq s1 ?_
    have hlimx: ∀c∈row,c∈pW l:=fun c hc=>by
     obtain⟨r,hr,h⟩:=s7 c hc
     exact pX.2 ⟨r,hnm r hr,h⟩
    have hol:out.length<=2*l.length:=by have:=I.lim.len I.can;rw [jN,fD] at this;exact this
    have hox: ∀c∈out,c.Xs.length<=2*l.length:=fun c hc=>by
     have:=I.lim.row I.can (b:=bR c) (cR.2 ⟨c,hc,rfl⟩)
     rw [lM] at this;exact this
    obtain⟨out',p1,p2⟩:=D7 (N:=N) (s:=out) (b:=⟨ys[k],ys[k+1],row⟩) (by omega) (fun c hc=>by have:=hox c hc;omega)
    refine Ok.eq p1 ?_
    have htop: ∀c∈out.map bR,c.y1<=(bR ⟨ys[k],ys[k+1],row⟩).y0:=fun c hc=>by
     obtain⟨d,hd,rfl⟩:=cR.1 hc
     exact I.top d hd ys[k] hyk
    have hcan:=wj I.can htop s3 s4
    refine Ok.nx ⟨⟨k+1,nx',rfl,rfl, .inl hk1,⟨by dsimp only;rw [p2];exact hcan,fun c hc y hy1=>?_,fun x y=>?_,?_,fun r hr=>g3 r (s2.subset hr),fun r hr y hy1 h=>?_,by rw [s2.length_eq];exact g2,g1,fun j r y hj hr hy1=>?_,fun r hr y hy1=>?_⟩⟩,by simp only [bS];omega⟩
    ·rw [hyk1] at hy1;injection hy1 with hy1;subst hy1
     have hm':bR c∈mb (out.map bR) (bR ⟨ys[k],ys[k+1],row⟩):=by rw [<-p2];exact cR.2 ⟨c,hc,rfl⟩
     exact wk htop (by show ys[k]<=ys[k+1];omega) _ hm'
    ·simp only [hyk1,Option.some.injEq,forall_eq']
     unfold vn
     rw [p2,wi htop (fun c hc=>(I.can.each c hc).1) (fun h=>absurd h (by show ¬ys[k+1]<=ys[k];omega))]
     by_cases hyy:ys[k]<=y/\y<ys[k+1]
     ·rw [aD (show (bR ⟨ys[k],ys[k+1],row⟩).y0<=y/\y< (bR ⟨ys[k],ys[k+1],row⟩).y1 from hyy),cD hyy.2,Bool.and_true]
      show mE row x=_
      rw [s5,fO,yj,j6]
      constructor
      ·rintro⟨r,hr,h⟩
       have hrm:=List.take_subset _ _ (g3 r hr)
       have h5:=g5 r hr
       have:=hy.next hyk hyk1 (y1m r hrm) h5.2
       exact⟨r,hnm r hr,h,by omega,by omega⟩
      ·rintro⟨r,hr,h,h7,h8⟩
       have hrm:=(hmem r).2 hr
       have h9:r.Y0<=ys[k]:=by
        by_cases h10:r.Y0<=ys[k]
        ·exact h10
        ·have:=hy.next hyk hyk1 (y0m r hrm) (by omega);omega
       have h11:r∈m.take nx':=by
        obtain⟨j,hj⟩:=gk hrm
        by_cases h12:j<nx'
        ·exact gT (i:=j) (by rw [List.getElem?_take_of_lt h12];exact hj)
        ·have:=g6 j r (by omega) hj;omega
       exact⟨r,g4 r h11 (by omega),h⟩
     ·rw [aC (show ¬((bR ⟨ys[k],ys[k+1],row⟩).y0<=y/\y< (bR ⟨ys[k],ys[k+1],row⟩).y1) from hyy)]
      show vn (out.map bR) x y=_
      rw [hcov]
      by_cases h1:y<ys[k]
      ·rw [cD h1,cD (show y<ys[k+1] by omega)]
      ·rw [bF h1,bF (show ¬y<ys[k+1] by omega)]
    ·show uy (pW l) (lL l) (out'.map bR)
     rw [p2]
     exact I.lim.push (yml _ (cJ _)) (yml _ (cJ _)) hlimx
    ·rw [hyk1] at hy1;injection hy1 with hy1;subst hy1
     exact s2.symm.subset (g4 r hr (by omega))
    ·rw [hyk1] at hy1;injection hy1 with hy1;subst hy1
     exact hy.next hyk hyk1 (y0m r (gT hr)) (g6 j r hj hr)
    ·rw [hyk1] at hy1;injection hy1 with hy1;subst hy1
     have:=(g5 r (s2.subset hr)).1;omega
  ·have hge: ¬k+1<ys.length:=by have:=of_decide_eq_false h;omega
   refine⟨I.can,fun x y=>?_,I.lim⟩
   rw [I.cover]
   by_cases hyn:ys= []
   ·have:wO l x y=false:=by
     rw [<-oT,j6]
     rintro⟨r,hr,_⟩
     have:=y0m r ((hmem r).2 hr)
     rw [hyn] at this;cases this
    rw [this];rfl
   ·have hkl:k<ys.length:=by
     rcases hk with h | h
     ·exact h
     ·subst h;exact List.length_pos_iff.2 hyn
    rw [aJ hkl]
    simp only [Option.some.injEq,forall_eq']
    cases hc:wO l x y with
    | false=>rfl
    | true=>
     obtain⟨r,hr,_,h7,h8⟩:=j6.1 hc
     have:=y1m r ((hmem r).2 hr)
     obtain⟨j,hj⟩:=gk this
     have hjl:=(bD.1 hj).1
     have:r.Y1<=ys[k]:=by
      by_cases e:j=k
      ·subst e;rw [aJ hkl] at hj;injection hj with hj;omega
      ·have:=hy.lt (show j<k by omega) hj (aJ hkl);omega
     rw [cD (show y<ys[k] by omega)];rfl
 ·refine⟨0,0,rfl,rfl, .inr rfl,?_⟩
  show Lh l m ys 0 [] [] 0
  refine⟨eC.nil,fun c hc=>(by cases hc),fun x y=>?_,fun b hb=>(by cases hb),fun r hr=>(by cases hr),fun r hr=>(by rw [List.take_zero] at hr;cases hr),bP _,mi _,fun j r y _ hr hy0=>?_,fun r hr=>(by cases hr)⟩
  ·show false=_
   symm
   rw [Bool.and_eq_false_iff]
   cases hc:wO l x y with
   | false=>exact .inl rfl
   | true=>
    right
    obtain⟨r,hr,_,h7,h8⟩:=j6.1 hc
    have hr0:=y0m r ((hmem r).2 hr)
    have hpos:0<ys.length:=List.length_pos_of_mem hr0
    rw [decide_eq_false_iff_not]
    intro h
    have h:=h ys[0] (aJ hpos)
    obtain⟨j,hj⟩:=gk hr0
    by_cases e:j=0
    ·subst e;rw [aJ hpos] at hj;injection hj with hj;omega
    ·have:=hy.lt (show 0<j by omega) (aJ hpos) hj;omega
  ·obtain⟨j',hj'⟩:=gk (y0m r (gT hr))
   by_cases e:j'=0
   ·subst e;rw [hy0] at hj';injection hj' with hj';omega
   ·have:=hy.lt (show 0<j' by omega) hy0 hj';omega
 ·rintro o ho
  refine Ok.cs ho (fun s h=>Ok.ret h) (fun r=>r.elim)
end
end Go.Gk
namespace Go.Gk
open Go
section
variable {N:Nat}
def zL:List Int->List (Int×Int)
 | a::b::l=>(a,b)::zL l
 | _=>[]
theorem xv: ∀(xs:List Int),(zL xs).length=xs.length / 2
 | []=>rfl
 | [a]=>by simp [zL]
 | a::b::l=>by unfold zL;rw [je,xv l];simp only [je];omega
theorem vq: ∀(xs:List Int) (j:Nat) (h:2*j+1<xs.length),(zL xs)[j]? =some (xs[2*j],xs[2*j+1])
 | [],j,h=>by simp at h
 | [a],j,h=>by simp at h
 | a::b::l,0,h=>rfl
 | a::b::l,j+1,h=>by
  have:=vq l j (by simp at h;omega)
  unfold zL
  rw [List.getElem?_cons_succ,this]
  have e1: (a::b::l)[2* (j+1)]=l[2*j]'(by simp at h;omega):=by simp [show 2* (j+1)=2*j+1+1 by omega]
  have e2: (a::b::l)[2* (j+1)+1]=l[2*j+1]'(by simp at h;omega):=by simp [show 2* (j+1)+1=2*j+1+1+1 by omega]
  rw [e1,e2]
theorem vr: ∀{xs:List Int},xs.length % 2=0->o7 (zL xs)=xs
 | [],_=>rfl
 | [a],h=>by simp at h
 | a::b::l,h=>by unfold zL;rw [mV,vr (by simp at h;omega)]
theorem H4 {xs:List Int} (h:l6 xs) (he:xs.length % 2=0) (x:Int):mE xs x=EZ (zL xs) x:=by
 have:=vo (l:=zL xs) (by rw [vr he];exact h) x
 rwa [vr he] at this
theorem AU {xs:List Int}: ∀p∈zL xs,p.1∈xs/\p.2∈xs:=by
 intro p hp
 obtain⟨j,hj⟩:=gk hp
 have hjl:=(bD.1 hj).1
 rw [xv] at hjl
 rw [vq xs j (by omega)] at hj
 injection hj with hj;subst hj
 exact⟨cJ _,cJ _⟩
theorem Dd {xs:List Int} (h:l6 xs): ∀p∈zL xs,p.1<p.2:=by
 intro p hp
 obtain⟨j,hj⟩:=gk hp
 have hjl:=(bD.1 hj).1
 rw [xv] at hjl
 rw [vq xs j (by omega)] at hj
 injection hj with hj;subst hj
 exact h.lt (show 2*j<2*j+1 by omega) (aJ _) (aJ _)
def mc (b:aA):List aI:=(zL b.Xs).map fun p=>⟨p.1,b.Y0,p.2,b.Y1⟩
def aO (s:List aA):List aI:=s.flatMap mc
theorem me (b:aA) (s:List aA):aO (b::s)=mc b++aO s:=rfl
theorem ln (b:aA): (mc b).length=b.Xs.length / 2:=by unfold mc;rw [fD,xv]
theorem lN (s t:List aA):aO (s++t)=aO s++aO t:=List.flatMap_append
theorem wo (s:List aA) (k:Nat): (aO (s.take k)).length<=(aO s).length:=by
 conv=>rhs;rw [<-List.take_append_drop k s,lN,dW]
 omega
theorem ym {s:List aA} {A B:Nat} (h1:s.length<=A) (h2: ∀b∈s,b.Xs.length<=B): (aO s).length<=A*B:=by
 induction s generalizing A with
 | nil=>simp [aO]
 | cons b s ih=>
  rw [me,dW,ln]
  simp at h1
  obtain⟨A',rfl⟩: ∃A',A=A'+1:=⟨A - 1,by omega⟩
  have:=ih (A:=A') (by omega) (fun c hc=>h2 c (jy _ hc))
  have:=h2 b (by simp)
  rw [Nat.add_mul];omega
theorem yn {s:List aA} (he: ∀b∈s,b.Xs.length % 2=0) (h1:s.length<=1099511627776) (h2: ∀b∈s,b.Xs.length<=1099511627776/\b.Xs.length<N) (h3: (aO s).length<=1099511627776):il N s=some (aO s):=by
 refine Ok.get ?_
 unfold il
 refine Ok.bind (Ok.iF (fun k t=>t=aO (s.take k)) (by omega) rfl (fun k t hk e=>?_)) (fun t e=>Ok.ret (by rw [e,eR]))
 subst e
 refine Ok.idx hk ?_
 have hm:=cJ hk
 generalize hb:s[k]=b at hm ⊢
 have heb:=he b hm
 have hbl:=h2 b hm
 have hts:aO (s.take (k+1))=aO (s.take k)++mc b:=by
  rw [fu hk,lN,hb];simp [aO]
 have hle:=wo s (k+1)
 rw [hts,dW,ln] at hle
 refine Ok.bind (Ok.np (Go:=fun s'=>s'.1=aO (s.take (k+1))) (Rt:=fun _=>True) (fun s'=>∃j:Nat,s'.2= ((2*j:Nat):Int)/\2*j<=b.Xs.length/\s'.1=aO (s.take k)++(mc b).take j) (fun s'=>b.Xs.length - s'.2.toNat) ?_ ⟨0,rfl,by omega,by simp⟩ (by simp;omega)) ?_
 ·rintro⟨acc,i⟩ ⟨j,e1,hj,e2⟩
  dsimp only at e1 e2 ⊢
  subst e1;subst e2
  refine Ok.bif (fun h=>?_) (fun h=>Ok.br ?_)
  ·have hlt:2*j+1<b.Xs.length:=by have:=of_decide_eq_true h;omega
   refine Ok.idx (by omega) ?_
   rw [fK (by omega)]
   refine Ok.idx hlt (Ok.app ?_ (Ok.nx ⟨⟨j+1,?_,by omega,?_⟩,?_⟩))
   ·simp;rw [ln];omega
   ·rw [zK (by omega)];congr 1
   ·rw [jf]
    congr 1
    have hg: (mc b)[j]? =some ⟨b.Xs[2*j],b.Y0,b.Xs[2*j+1],b.Y1⟩:=by
     unfold mc;rw [fG,vq _ _ hlt];rfl
    have hjl:=(bD.1 hg).1
    rw [fu hjl,(bD.1 hg).2]
   ·rw [zK (by omega)];simp only [bS];omega
  ·have hge:2*j=b.Xs.length:=by have:=of_decide_eq_false h;omega
   show aO (s.take k)++(mc b).take j=_
   rw [hts,oU (l:=mc b) (by rw [ln];omega)]
 ·rintro o ho
  exact Ok.cs ho (fun s' h=>Ok.ret h) (fun r=>r.elim)
theorem H5 {s:List aA} (h1:s.length<=1099511627776) (h2: ∀b∈s,b.Xs.length<=1099511627776) (h3: (aO s).length<=1099511627776):kI N s=some (((aO s).length:Nat):Int):=by
 refine Ok.get ?_
 unfold kI
 refine Ok.bind (Ok.iF (fun k t=>t= (((aO (s.take k)).length:Nat):Int)) (by omega) rfl (fun k t hk e=>?_)) (fun t e=>Ok.ret (by rw [e,eR]))
 subst e
 refine Ok.idx hk (Ok.ret ?_)
 have hm:=cJ hk
 have hbl:=h2 _ hm
 have hts:aO (s.take (k+1))=aO (s.take k)++mc s[k]:=by
  rw [fu hk,lN];simp [aO]
 have hle:=wo s (k+1)
 rw [hts,dW,ln] at hle
 have e:Int.tdiv ((s[k].Xs.length:Nat):Int) 2= ((s[k].Xs.length / 2:Nat):Int):=by
  rw [show (2:Int)= ((2:Nat):Int) by rfl,<-Int.ofNat_tdiv]
 rw [e,Cd (by omega),wrap_add (by omega),hts,dW,ln]
theorem De (l m:List aI) (x y:Int):wO (l++m) x y= (wO l x y||wO m x y):=List.any_append
theorem GA {b:aA} (h:l6 b.Xs) (he:b.Xs.length % 2=0) (x y:Int):wO (mc b) x y= (mE b.Xs x&&(decide (b.Y0<=y)&&decide (y<b.Y1))):=by
 rw [H4 h he,fO,j6,bT,yk,bT,bK,bK]
 unfold mc
 constructor
 ·rintro⟨r,hr,h1,h2⟩
  obtain⟨p,hp,rfl⟩:=cR.1 hr
  exact⟨⟨p,hp,h1⟩,h2⟩
 ·rintro⟨⟨p,hp,h1⟩,h2⟩
  exact⟨_,cR.2 ⟨p,hp,rfl⟩,h1,h2⟩
theorem sL: ∀{s:List aA},eC (s.map bR)->∀x y,wO (aO s) x y=vn (s.map bR) x y
 | [],_,x,y=>rfl
 | b::s,h,x,y=>by
  rw [me,De,sL h.tail x y]
  have hb:=h.each (bR b) (by simp)
  rw [GA hb.2.2.1 hb.2.2.2]
  unfold vn
  rw [eG,kS]
  by_cases hy:b.Y0<=y/\y<b.Y1
  ·rw [aD (show (bR b).y0<=y/\y< (bR b).y1 from hy),j5 (fun c hc=> .inl (by have:=h.yg c hc;have e: (bR b).y1=b.Y1:=rfl;omega)),cD hy.1,cD hy.2]
   show (mE b.Xs x&&true||false)=mE b.Xs x
   simp
  ·rw [aC (show ¬((bR b).y0<=y/\y< (bR b).y1) from hy)]
   have: (decide (b.Y0<=y)&&decide (y<b.Y1))=false:=by rw [Bool.and_eq_false_iff,decide_eq_false_iff_not,decide_eq_false_iff_not];omega
   rw [this];simp
theorem n8 {s:List aA} {r:aI} (h:r∈aO s): ∃b∈s,∃p∈zL b.Xs,r= ⟨p.1,b.Y0,p.2,b.Y1⟩:=by
 unfold aO mc at h
 obtain⟨b,hb,h⟩:=List.mem_flatMap.1 h
 obtain⟨p,hp,rfl⟩:=cR.1 h
 exact⟨b,hb,p,hp,rfl⟩
theorem yo {s:List aA} {X Y:List Int} (h:eC (s.map bR)) (hl:uy X Y (s.map bR)) (hx: ∀c∈X,small c) (hy: ∀c∈Y,small c): ∀r∈aO s,CI r/\(r.X0∈X/\r.X1∈X)/\r.Y0∈Y/\r.Y1∈Y:=by
 intro r hr
 obtain⟨b,hb,p,hp,rfl⟩:=n8 hr
 have hm:bR b∈s.map bR:=cR.2 ⟨b,hb,rfl⟩
 have hc:=h.each _ hm
 have hll:=hl _ hm
 have h1:=AU p hp
 have h2:=hll.2.2 p.1 h1.1
 have h3:=hll.2.2 p.2 h1.2
 exact⟨⟨Dd hc.2.2.1 p hp,hc.1,hx _ h2,hx _ h3,hy _ hll.1,hy _ hll.2.1⟩,⟨h2,h3⟩,hll.1,hll.2.1⟩
theorem ud {l:List Int} {x:Int} (h: ∀c∈l,c<=x):mE l x= (l.length % 2==1):=by unfold mE;rw [D5 h]
theorem wq {l:List Int} {a x:Int} (h:x<a):mE (l++[a]) x=mE l x:=by unfold mE;rw [yd,lK,aC (by omega),AP];rfl
def E3 (l:List Int):Bool:=l.length % 2==1
theorem yp (l:List Int) (a:Int):E3 (l++[a]) = !E3 l:=by
 unfold E3
 rw [dW,fO,Bool.not_eq_true',beq_iff_eq,beq_eq_false_iff_ne]
 simp;omega
structure Ce (j3:Bool->Bool->Bool) (a b a' b' out:List Int) (inA inB is:Bool) (pa pb:List Int):Prop where
 ea:a=pa++a'
 eb:b=pb++b'
 oa:inA=E3 pa
 ob:inB=E3 pb
 oo:is=E3 out
 ok:is=j3 inA inB
 low: ∀c,(c∈pa\/c∈pb\/c∈out)->∀d,(d∈a'\/d∈b')->c<d
 inc:l6 out
 Li: ∀x,(∀d,(d∈a'\/d∈b')->x<d)->mE out x=j3 (mE pa x) (mE pb x)
 mem: ∀c∈out,c∈pa\/c∈pb
 len:out.length<=pa.length+pb.length
theorem Ce.step {j3:Bool->Bool->Bool} {a b a' b' out:List Int} {inA inB is:Bool} {pa pb:List Int} (I:Ce j3 a b a' b' out inA inB is pa pb) (ha:l6 a) (hb:l6 b) (x:Int) (ta tb:List Int) (wa wb:Bool)
  (h1:a'= (if wa then x::ta else ta)) (h2:b'= (if wb then x::tb else tb)) (hw:wa=true\/wb=true) (hx: ∀d,(d∈ta\/d∈tb)->x<d):
  Ce j3 a b ta tb (if j3 (inA ^^ wa) (inB ^^ wb)=is then out else out++[x]) (inA ^^ wa) (inB ^^ wb) (j3 (inA ^^ wa) (inB ^^ wb)) (if wa then pa++[x] else pa) (if wb then pb++[x] else pb):=by
 have hxm:x∈a'\/x∈b':=by
  rcases hw with h | h
  ·left;rw [h1,aD h];simp
  ·right;rw [h2,aD h];simp
 have hsub: ∀d,(d∈ta\/d∈tb)->d∈a'\/d∈b':=fun d hd=>by
  rcases hd with h | h
  ·left;rw [h1];split
   ·exact jy _ h
   ·exact h
  ·right;rw [h2];split
   ·exact jy _ h
   ·exact h
 have hlow: ∀c,(c∈pa\/c∈pb\/c∈out)->c<x:=fun c hc=>I.low c hc x hxm
 have hpa: ∀c∈(if wa then pa++[x] else pa),c∈pa\/(wa=true/\c=x):=fun c hc=>by
  split at hc
  ·rename_i h
   rcases cU.1 hc with h' | h'
   ·exact .inl h'
   ·simp at h';exact .inr ⟨h,h'⟩
  ·exact .inl hc
 have hpb: ∀c∈(if wb then pb++[x] else pb),c∈pb\/(wb=true/\c=x):=fun c hc=>by
  split at hc
  ·rename_i h
   rcases cU.1 hc with h' | h'
   ·exact .inl h'
   ·simp at h';exact .inr ⟨h,h'⟩
  ·exact .inl hc
 have hout: ∀c∈(if j3 (inA ^^ wa) (inB ^^ wb)=is then out else out++[x]),c∈out\/c=x:=fun c hc=>by
  split at hc
  ·exact .inl hc
  ·rcases cU.1 hc with h' | h'
   ·exact .inl h'
   ·simp at h';exact .inr h'
 have ooA: (inA ^^ wa)=E3 (if wa then pa++[x] else pa):=by
  rw [I.oa];cases wa <;> simp [yp]
 have ooB: (inB ^^ wb)=E3 (if wb then pb++[x] else pb):=by
  rw [I.ob];cases wb <;> simp [yp]
 have ooO:j3 (inA ^^ wa) (inB ^^ wb)=E3 (if j3 (inA ^^ wa) (inB ^^ wb)=is then out else out++[x]):=by
  split
  ·rename_i h;rw [h];exact I.oo
  ·rename_i h
   rw [yp,<-I.oo]
   cases hk:j3 (inA ^^ wa) (inB ^^ wb) <;> cases his:is <;> simp_all
 refine⟨?_,?_,ooA,ooB,ooO,rfl,?_,?_,?_,?_,?_⟩
 ·rw [I.ea,h1];split <;> simp
 ·rw [I.eb,h2];split <;> simp
 ·intro c hc d hd
  have hd':=hx d hd
  have hdd:=hsub d hd
  rcases hc with h | h | h
  ·rcases hpa c h with h' | ⟨_,rfl⟩
   ·exact I.low c (.inl h') d hdd
   ·exact hd'
  ·rcases hpb c h with h' | ⟨_,rfl⟩
   ·exact I.low c (.inr (.inl h')) d hdd
   ·exact hd'
  ·rcases hout c h with h' | rfl
   ·exact I.low c (.inr (.inr h')) d hdd
   ·exact hd'
 ·split
  ·exact I.inc
  ·exact I.inc.Gz fun c hc=>hlow c (.inr (.inr hc))
 ·intro y hy
  by_cases hxy:y<x
  ·have e1:mE (if wa then pa++[x] else pa) y=mE pa y:=by split;exact wq hxy;rfl
   have e2:mE (if wb then pb++[x] else pb) y=mE pb y:=by split;exact wq hxy;rfl
   have e3:mE (if j3 (inA ^^ wa) (inB ^^ wb)=is then out else out++[x]) y=mE out y:=by split;rfl;exact wq hxy
   rw [e1,e2,e3]
   refine I.Li y fun d hd=>?_
   have:x<=d:=by
    rcases hd with h | h
    ·rw [h1] at h
     split at h
     ·rcases fN.1 h with rfl | h
      ·exact Int.le_refl _
      ·have:=hx d (.inl h);omega
     ·have:=hx d (.inl h);omega
    ·rw [h2] at h
     split at h
     ·rcases fN.1 h with rfl | h
      ·exact Int.le_refl _
      ·have:=hx d (.inr h);omega
     ·have:=hx d (.inr h);omega
   omega
  ·rw [ud (l:=if wa then pa++[x] else pa),ud (l:=if wb then pb++[x] else pb),ud]
   ·have e1:=ooA;have e2:=ooB;have e3:=ooO
    unfold E3 at e1 e2 e3
    rw [<-e1,<-e2,<-e3]
   ·intro c hc
    rcases hout c hc with h | rfl
    ·have:=hlow c (.inr (.inr h));omega
    ·omega
   ·intro c hc
    rcases hpb c hc with h | ⟨_,rfl⟩
    ·have:=hlow c (.inr (.inl h));omega
    ·omega
   ·intro c hc
    rcases hpa c hc with h | ⟨_,rfl⟩
    ·have:=hlow c (.inl h);omega
    ·omega
 ·intro c hc
  have m1: ∀c,c∈pa->c∈(if wa then pa++[x] else pa):=fun c h=>by split;exact List.mem_append_left _ h;exact h
  have m2: ∀c,c∈pb->c∈(if wb then pb++[x] else pb):=fun c h=>by split;exact List.mem_append_left _ h;exact h
  rcases hout c hc with h | rfl
  ·rcases I.mem c h with h | h
   ·exact .inl (m1 c h)
   ·exact .inr (m2 c h)
  ·rcases hw with h | h
   ·left;rw [aD h];simp
   ·right;rw [aD h];simp
 ·have:=I.len
  have h3: (if wa then pa++[x] else pa).length+ (if wb then pb++[x] else pb).length>=pa.length+pb.length+1:=by
   rcases hw with h | h
   ·subst h;cases wb <;> simp <;> omega
   ·subst h;cases wa <;> simp <;> omega
  split
  ·omega
  ·simp at h3 ⊢;omega
end
end Go.Gk
namespace Go.Gk
open Go
section
variable {N:Nat}
theorem iA (x:Int) (l:List Int):idx (x::l) 0=some x:=rfl
theorem pY {α:Type} (x:α) (l:List α):uw (x::l) 1 (((x::l).length:Nat):Int)=some l:=uZ (x::l) 1 (by simp)
theorem jm {α:Type} (x:α) (l:List α):decide ((((x::l).length:Nat):Int)>0)=true:=cD (by simp)
theorem sM {α:Type} (x:α) (l:List α): ((((x::l).length:Nat):Int)==0)=false:=by rw [beq_eq_false_iff_ne];simp;omega
theorem Df {a b:List Int} (ha:l6 a) (hb:l6 b) (h:a≠[]\/b≠[]): ∃x ta tb wa wb,a= (if wa then x::ta else ta)/\b= (if wb then x::tb else tb)/\(wa=true\/wb=true)/\(∀d,(d∈ta\/d∈tb)->x<d):=by
 match a,b,ha,hb,h with
 | [],[],_,_,h=>rcases h with h | h <;> exact absurd rfl h
 | x::ta,[],ha,_,_=>exact⟨x,ta,[],true,false,rfl,rfl, .inl rfl,fun d hd=>by rcases hd with h | h;exact ha.head d h;cases h⟩
 | [],y::tb,_,hb,_=>exact⟨y,[],tb,false,true,rfl,rfl, .inr rfl,fun d hd=>by rcases hd with h | h;cases h;exact hb.head d h⟩
 | x::ta,y::tb,ha,hb,_=>
  rcases Int.lt_trichotomy x y with h | h | h
  ·refine⟨x,ta,y::tb,true,false,rfl,rfl, .inl rfl,fun d hd=>?_⟩
   rcases hd with h1 | h1
   ·exact ha.head d h1
   ·rcases fN.1 h1 with rfl | h1
    ·exact h
    ·have:=hb.head d h1;omega
  ·subst h
   exact⟨x,ta,tb,true,true,rfl,rfl, .inl rfl,fun d hd=>by rcases hd with h | h;exact ha.head d h;exact hb.head d h⟩
  ·refine⟨y,x::ta,tb,false,true,rfl,rfl, .inr rfl,fun d hd=>?_⟩
   rcases hd with h1 | h1
   ·rcases fN.1 h1 with rfl | h1
    ·exact h
    ·have:=ha.head d h1;omega
   ·exact hb.head d h1
theorem E4 {φ:Bool->Bool->Option Bool} {j3:Bool->Bool->Bool} (hφ: ∀p q,φ p q=some (j3 p q)) (hk:j3 false false=false) {a b:List Int} (ha:l6 a) (hb:l6 b) (hae:a.length % 2=0) (hbe:b.length % 2=0)
  (jC:a.length<=1099511627776) (hbl:b.length<=1099511627776) (hN:a.length+b.length<N):
  Ok (oc N a b φ) (fun m=>l6 m/\m.length % 2=0/\(∀x,mE m x=j3 (mE a x) (mE b x))/\∀c∈m,c∈a\/c∈b):=by
 unfold oc
 refine Ok.bind (Ok.np (Go:=fun s=>l6 s.2.2.1/\s.2.2.1.length % 2=0/\(∀x,mE s.2.2.1 x=j3 (mE a x) (mE b x))/\∀c∈s.2.2.1,c∈a\/c∈b) (Rt:=fun _=>True)
  (fun s=>∃pa pb,Ce j3 a b s.1 s.2.1 s.2.2.1 s.2.2.2.1 s.2.2.2.2.1 s.2.2.2.2.2 pa pb) (fun s=>s.1.length+s.2.1.length) ?_ ?_ hN) ?_
 ·rintro⟨a',b',out,inA,inB,is⟩ ⟨pa,pb,I⟩
  dsimp only at I ⊢
  have ha':l6 a':=by have:=ha;rw [I.ea] at this;exact(List.pairwise_append.1 this).2.1
  have hb':l6 b':=by have:=hb;rw [I.eb] at this;exact(List.pairwise_append.1 this).2.1
  have hle:pa.length+a'.length=a.length:=by rw [I.ea];simp
  have hlb:pb.length+b'.length=b.length:=by rw [I.eb];simp
  have hlo:=I.len
  by_cases hne:a'≠[]\/b'≠[]
  ·obtain⟨x,ta,tb,wa,wb,h1,h2,hw,hx⟩:=Df ha' hb' hne
   have J:=I.step ha hb x ta tb wa wb h1 h2 hw hx
   have fin: ∀(sa sb:List Int×Bool),sa= (ta,inA ^^ wa)->sb= (tb,inB ^^ wb)->
     Ok ((φ sa.2 sb.2).bind fun x220=>(bif (x220 != is) then ((app 8 out ([x]: (List Int))).bind fun x227=>some (x227,x220)) else (some (out,is))).bind fun s224=>some (Fl.nx (sa.1,sb.1,s224.1,sa.2,sb.2,s224.2)))
      (IK (fun s':List Int×List Int×List Int×Bool×Bool×Bool=>(∃pa pb,Ce j3 a b s'.1 s'.2.1 s'.2.2.1 s'.2.2.2.1 s'.2.2.2.2.1 s'.2.2.2.2.2 pa pb)/\s'.1.length+s'.2.1.length<a'.length+b'.length) (fun s=>l6 s.2.2.1/\s.2.2.1.length % 2=0/\(∀x,mE s.2.2.1 x=j3 (mE a x) (mE b x))/\∀c∈s.2.2.1,c∈a\/c∈b) (fun _:Empty=>True)):=by
    rintro _ _ rfl rfl
    refine Ok.eq (hφ _ _) ?_
    have hlt:ta.length+tb.length<a'.length+b'.length:=by
     rw [h1,h2]
     rcases hw with h | h
     ·subst h;cases wb <;> simp <;> omega
     ·subst h;cases wa <;> simp <;> omega
    by_cases he:j3 (inA ^^ wa) (inB ^^ wb)=is
    ·rw [aD he] at J
     refine Ok.eq (x:=(out,is)) (by rw [he,show (is != is)=false by simp,aS]) ?_
     rw [he] at J
     exact Ok.nx ⟨⟨_,_,J⟩,hlt⟩
    ·rw [aC he] at J
     refine Ok.eq (x:=(out++[x],j3 (inA ^^ wa) (inB ^^ wb))) (by rw [show (j3 (inA ^^ wa) (inB ^^ wb) != is)=true by simp [he],aR,gH (by simp;omega),aB]) (Ok.nx ⟨⟨_,_,J⟩,hlt⟩)
   rcases hw with rfl | rfl
   ·rw [aD rfl] at h1
    subst h1
    refine Ok.eq (x:=true) (by rw [jm,aR]) ?_
    rw [aR]
    have hle2: (bif (((b'.length:Nat):Int)==0) then (some true) else (bif (decide ((((x::ta).length:Nat):Int)>0)) then ((idx (x::ta) 0).bind fun x181=>(idx b' 0).bind fun x183=>some (decide (x181<=x183))) else (some false)))=some true:=by
     cases b' with
     | nil=>rfl
     | cons y b''=>
      rw [sM,aS,jm,aR,iA,aB,iA,aB]
      have:x<=y:=by
       cases wb with
       | true=>simp at h2;omega
       | false=>have:=hx y (.inr (by simp at h2;rw [<-h2];simp));omega
      rw [cD this]
    refine Ok.eq hle2 ?_
    rw [aR]
    refine Ok.eq (x:=x) (by rw [iA,aB]) ?_
    refine Ok.eq (x:=true) (by rw [jm,aR,iA,aB];simp) ?_
    refine Ok.eq (x:=(ta,!inA)) (by rw [aR,pY,aB]) ?_
    cases wb with
    | true=>
     rw [aD rfl] at h2
     subst h2
     refine Ok.eq (x:=true) (by rw [jm,aR,iA,aB];simp) ?_
     refine Ok.eq (x:=(tb,!inB)) (by rw [aR,pY,aB]) ?_
     exact fin _ _ (by simp) (by simp)
    | false=>
     have h2:b'=tb:=h2
     subst h2
     refine Ok.eq (x:=false) ?_ ?_
     ·cases b' with
      | nil=>rfl
      | cons y b''=>
       have:=hx y (.inr (by simp))
       rw [jm,aR,iA,aB,show (y==x)=false by rw [beq_eq_false_iff_ne];omega]
     ·refine Ok.eq (x:=(b',inB)) (by rw [aS]) ?_
      exact fin _ _ (by simp) (by simp)
   ·cases wa with
    | true=>
     rw [aD rfl] at h1 h2
     subst h1;subst h2
     refine Ok.eq (x:=true) (by rw [jm,aR]) ?_
     rw [aR]
     refine Ok.eq (x:=true) (by rw [sM,aS,jm,aR,iA,aB,iA,aB];simp) ?_
     rw [aR]
     refine Ok.eq (x:=x) (by rw [iA,aB]) ?_
     refine Ok.eq (x:=true) (by rw [jm,aR,iA,aB];simp) ?_
     refine Ok.eq (x:=(ta,!inA)) (by rw [aR,pY,aB]) ?_
     refine Ok.eq (x:=true) (by rw [jm,aR,iA,aB];simp) ?_
     refine Ok.eq (x:=(tb,!inB)) (by rw [aR,pY,aB]) ?_
     exact fin _ _ (by simp) (by simp)
    | false=>
     have h1:a'=ta:=h1
     rw [aD rfl] at h2
     subst h1;subst h2
     refine Ok.eq (x:=true) (by rw [jm,HX];simp) ?_
     rw [aR]
     refine Ok.eq (x:=false) ?_ ?_
     ·rw [sM,aS]
      cases a' with
      | nil=>rfl
      | cons y a''=>
       have:=hx y (.inl (by simp))
       rw [jm,aR,iA,aB,iA,aB,bF (by omega)]
     ·rw [aS]
      refine Ok.eq (x:=x) (by rw [iA,aB]) ?_
      refine Ok.eq (x:=false) ?_ ?_
      ·cases a' with
       | nil=>rfl
       | cons y a''=>
        have:=hx y (.inl (by simp))
        rw [jm,aR,iA,aB,show (y==x)=false by rw [beq_eq_false_iff_ne];omega]
      ·refine Ok.eq (x:=(a',inA)) (by rw [aS]) ?_
       refine Ok.eq (x:=true) (by rw [jm,aR,iA,aB];simp) ?_
       refine Ok.eq (x:=(tb,!inB)) (by rw [aR,pY,aB]) ?_
       exact fin _ _ (by simp) (by simp)
  ·have ea:a'= []:=Classical.byContradiction fun h=>hne (.inl h)
   have eb:b'= []:=Classical.byContradiction fun h=>hne (.inr h)
   subst ea;subst eb
   refine Ok.eq (x:=false) rfl ?_
   refine Ok.br ⟨I.inc,?_,fun x=>?_,fun c hc=>?_⟩
   ·have h1:=I.ea;have h2:=I.eb
    rw [kX] at h1 h2
    have h3:E3 out=false:=by
     rw [<-I.oo,I.ok,I.oa,I.ob,<-h1,<-h2]
     unfold E3;rw [hae,hbe];exact hk
    unfold E3 at h3
    rw [beq_eq_false_iff_ne] at h3
    dsimp only;omega
   ·have:=I.Li x (fun d hd=>by rcases hd with h | h <;> cases h)
    have h1:=I.ea;have h2:=I.eb
    rw [kX] at h1 h2
    rw [h1,h2];exact this
   ·have h1:=I.ea;have h2:=I.eb
    rw [kX] at h1 h2
    rw [h1,h2];exact I.mem c hc
 ·exact⟨[],[],rfl,rfl,rfl,rfl,rfl,hk.symm,fun c hc=>(by rcases hc with h | h | h <;> cases h),jR,fun x _=>hk.symm,fun c hc=>(by cases hc),bP _⟩
 ·rintro o ho
  exact Ok.cs ho (fun s h=>Ok.ret h) (fun r=>r.elim)
theorem eC.app {s t:List Bd} (h:eC (s++t)):eC t:=⟨fun b hb=>h.each b (List.mem_append_right _ hb),(List.pairwise_append.1 h.ord).2.1⟩
theorem eC.low {b:Bd} {s:List Bd} (h:eC (b::s)): ∀c∈b::s,b.y0<=c.y0:=fun c hc=>by
 rcases fN.1 hc with rfl | hc
 ·exact Int.le_refl _
 ·have:=h.yg c hc;have:=(h.each b (by simp)).1;omega
theorem eC.high {s:List Bd} {b:Bd} (h:eC (s++[b])): ∀c∈s++[b],c.y1<=b.y1:=fun c hc=>by
 rcases cU.1 hc with hc | hc
 ·have:=((List.pairwise_append.1 h.ord).2.2 c hc b (by simp)).1
  have:=(h.each b (by simp)).1;omega
 ·simp at hc;subst hc;exact Int.le_refl _
def CJ (s:List aA) (y e:Int):List Int×Int:=match s with
 | []=>([],e)
 | b::_=>if y<b.Y0 then ([],if b.Y0<e then b.Y0 else e) else (b.Xs,if b.Y1<e then b.Y1 else e)
theorem GB {α:Type} (x:α) (l:List α):idx (x::l) 0=some x:=rfl
theorem IL (s:List aA) (y e:Int):k8 N s y e=some (CJ s y e):=by
 unfold k8 CJ
 cases s with
 | nil=>rfl
 | cons b s=>
  dsimp only
  rw [sM,aS,GB,aB,aB,aB,aB]
  by_cases h:y<b.Y0
  ·rw [cD h,aR,aD h]
  ·rw [bF h,aS,aC h]
theorem D8 {s:List aA} {y e:Int} {X Y:List Int} (hc:eC (s.map bR)) (hl:uy X Y (s.map bR)) (hh: ∀b t,s=b::t->y<b.Y1) (hy:y<e):
  y< (CJ s y e).2/\(CJ s y e).2<=e/\(∀y',y<=y'->y'< (CJ s y e).2->rowAt (s.map bR) y'= (CJ s y e).1)/\l6 (CJ s y e).1/\(CJ s y e).1.length % 2=0/\((CJ s y e).2=e\/(CJ s y e).2∈Y)/\∀c∈(CJ s y e).1,c∈X:=by
 cases s with
 | nil=>exact⟨hy,Int.le_refl _,fun y' _ _=>rfl,jR,rfl, .inl rfl,fun c hc=>(by cases hc)⟩
 | cons b t=>
  have hb:=hc.each (bR b) (by simp)
  have hlb:=hl (bR b) (by simp)
  have h1:=hh b t rfl
  unfold CJ
  dsimp only
  by_cases h:y<b.Y0
  ·rw [aD h]
   dsimp only
   refine⟨by split <;> omega,by split <;> omega,fun y' h2 h3=>?_,jR,rfl,?_,fun c hc=>(by cases hc)⟩
   ·exact hc.sK (by show y'<b.Y0;split at h3 <;> omega)
   ·split
    ·exact .inr hlb.1
    ·exact .inl rfl
  ·rw [aC h]
   dsimp only
   refine⟨by split <;> omega,by split <;> omega,fun y' h2 h3=>?_,hb.2.2.1,hb.2.2.2,?_,hlb.2.2⟩
   ·exact eC.kT (b:=bR b) (by show b.Y0<=y';omega) (by show y'<b.Y1;split at h3 <;> omega)
   ·split
    ·exact .inr hlb.2.1
    ·exact .inl rfl
theorem zM {y:Int} {a:List aA} (hN:a.length<N) {body:List aA->Option (Fl (List aA) Empty)}
  (hb:body=fun(s373: (List aA))=>((bif (decide ((s373.length:Int)>0)) then ((idx s373 0).bind fun x407=>some (decide (x407.Y1<=y))) else (some false)).bind fun s405=>bif s405 then ((uw s373 1 (s373.length:Int)).bind fun x410=>some (.nx x410)) else (some (.br s373)):Option (Fl ((List aA)) Empty))):
  Ok (np body N a) (Le (fun a'=>∃p,a=p++a'/\(∀c∈p,c.Y1<=y)/\∀b t,a'=b::t->y<b.Y1) (fun _=>True)):=by
 subst hb
 refine Ok.np (fun a'=>∃p,a=p++a'/\∀c∈p,c.Y1<=y) List.length ?_ ⟨[],rfl,fun c hc=>(by cases hc)⟩ hN
 rintro a' ⟨p,e,hp⟩
 cases a' with
 | nil=>exact Ok.eq (x:=false) rfl (Ok.br ⟨p,e,hp,fun b t h=>(by cases h)⟩)
 | cons b t=>
  refine Ok.eq (x:=decide (b.Y1<=y)) (by rw [jm,aR,GB,aB]) ?_
  refine Ok.bif (fun h=>?_) (fun h=>Ok.br ⟨p,e,hp,fun b' t' h'=>?_⟩)
  ·have h:=of_decide_eq_true h
   refine Ok.eq (pY b t) (Ok.nx ⟨⟨p++[b],by rw [e];simp,fun c hc=>?_⟩,by simp⟩)
   rcases cU.1 hc with hc | hc
   ·exact hp c hc
   ·simp at hc;subst hc;exact h
  ·have h:=of_decide_eq_false h
   injection h' with h1 h2;subst h1;omega
theorem Cf {p a':List Bd} {y y':Int} (hp: ∀c∈p,c.y1<=y) (h:y<=y'):rowAt (p++a') y'=rowAt a' y':=by
 rw [nV,aC]
 rintro⟨b,hb,h1⟩
 have:=hp b hb;omega
structure AV (j3:Bool->Bool->Bool) (X Y:List Int) (a b s:List aA):Prop where
 can:eC (s.map bR)
 cover: ∀x y,vn (s.map bR) x y=j3 (vn (a.map bR) x y) (vn (b.map bR) x y)
 lim:uy X Y (s.map bR)
theorem yq {s:List aA} (hs:s≠[]) (hl:s.length<=1099511627776) (hc:eC (s.map bR)): ∃f l,idx s 0=some f/\idx s (IntKind.wrap .i64 (((s.length:Nat):Int) - 1))=some l/\f∈s/\l∈s/\∀c∈s,f.Y0<=c.Y0/\c.Y1<=l.Y1:=by
 cases s with
 | nil=>exact absurd rfl hs
 | cons f t=>
  rw [kh (by simp) (by omega)]
  have hlt: (f::t).length - 1< (f::t).length:=by simp
  refine⟨f,(f::t)[(f::t).length - 1],rfl,jD _ _ hlt,by simp,cJ _,fun c hcm=>⟨?_,?_⟩⟩
  ·exact hc.low (bR c) (cR.2 ⟨c,hcm,rfl⟩)
  ·have e: (f::t)= (f::t).dropLast++[(f::t)[(f::t).length - 1]]:=by
    have:=List.dropLast_concat_getLast (show f::t≠[] by simp)
    rw [<-List.getLast_eq_getElem (h:=by simp)];exact this.symm
   generalize (f::t)[(f::t).length - 1]=l at e
   have hc2:=hc
   rw [e,eQ] at hc2
   have hm:bR c∈(List.map bR (f::t).dropLast++[bR l]):=by
    have:bR c∈(f::t).map bR:=cR.2 ⟨c,hcm,rfl⟩
    rw [e,eQ] at this;exact this
   exact eC.high hc2 (bR c) hm
theorem Dg {φ:Bool->Bool->Option Bool} {j3:Bool->Bool->Bool} (hφ: ∀p q,φ p q=some (j3 p q)) (hk:j3 false false=false) {a b:List aA} {X Y:List Int} (ca:eC (a.map bR)) (cb:eC (b.map bR))
  (la:uy X Y (a.map bR)) (lb:uy X Y (b.map bR)) (hX:X.length<=1048576000) (hY:Y.length<=1048576000) (hs: ∀c∈Y,small c) (hN:4398046511104<=N):Ok (m6 N a b φ) (AV j3 X Y a b):=by
 have jC:a.length<=Y.length:=by have:=la.len ca;rwa [fD] at this
 have hbl:b.length<=Y.length:=by have:=lb.len cb;rwa [fD] at this
 unfold m6
 rw [wrap_add (by omega)]
 refine Ok.bif (fun h=>Ok.ret ?_) (fun h=>?_)
 ·have h:a.length+b.length=0:=by have:=beq_iff_eq.1 h;omega
  have e1:a= []:=List.eq_nil_of_length_eq_zero (by omega)
  have e2:b= []:=List.eq_nil_of_length_eq_zero (by omega)
  subst e1;subst e2
  exact⟨eC.nil,fun x y=>hk.symm,fun c hc=>(by cases hc)⟩
 have h0:a≠[]\/b≠[]:=by
  rw [beq_eq_false_iff_ne] at h
  by_cases e:a= []
  ·right;intro e2;subst e;subst e2;exact h rfl
  ·exact .inl e
 refine Ok.bind (Ok.iF (fun k s=>match k with | 0=>True | 1=>a= []\/((∀c∈a,s.1<=c.Y0/\c.Y1<=s.2)/\s.1∈Y/\s.2∈Y) | _=>((∀c∈a,s.1<=c.Y0/\c.Y1<=s.2)/\(∀c∈b,s.1<=c.Y0/\c.Y1<=s.2)/\s.1∈Y/\s.2∈Y)) (by simp) trivial (fun k s hk hI=>?_)) ?_
 ·obtain⟨y,e⟩:=s
  have hk:k=0\/k=1:=by simp at hk;omega
  rcases hk with rfl | rfl
  ·refine Ok.ix (x:=a) rfl ?_
   by_cases ea:a= []
   ·subst ea
    exact Ok.eq (x:=(y,e)) rfl (Ok.ret (.inl rfl))
   ·obtain⟨f,l,f1,f2,f3,f4,f5⟩:=yq ea (by omega) ca
    have hpos:decide (((a.length:Nat):Int)>0)=true:=cD (by have:=List.length_pos_iff.2 ea;omega)
    refine Ok.eq (x:=(f.Y0,l.Y1)) ?_ (Ok.ret (.inr ⟨f5,(la _ (cR.2 ⟨f,f3,rfl⟩)).1,(la _ (cR.2 ⟨l,f4,rfl⟩)).2.1⟩))
    rw [hpos,aR]
    show ((some true).bind _)=_
    rw [aB,aR,f1,aB,f2,aB,aB,aB,aB]
    simp
  ·refine Ok.ix (x:=b) rfl ?_
   have hI:a= []\/((∀c∈a,y<=c.Y0/\c.Y1<=e)/\y∈Y/\e∈Y):=hI
   by_cases eb:b= []
   ·subst eb
    refine Ok.eq (x:=(y,e)) rfl (Ok.ret ?_)
    rcases hI with h | ⟨h1,h2,h3⟩
    ·rcases h0 with h' | h'
     ·exact absurd h h'
     ·exact absurd rfl h'
    ·exact⟨h1,fun c hc=>(by cases hc),h2,h3⟩
   ·obtain⟨f,l,f1,f2,f3,f4,f5⟩:=yq eb (by omega) cb
    have hpos:decide (((b.length:Nat):Int)>0)=true:=cD (by have:=List.length_pos_iff.2 eb;omega)
    have g1:f.Y0∈Y:=(lb _ (cR.2 ⟨f,f3,rfl⟩)).1
    have g2:l.Y1∈Y:=(lb _ (cR.2 ⟨l,f4,rfl⟩)).2.1
    by_cases ea:a= []
    ·subst ea
     refine Ok.eq (x:=(f.Y0,l.Y1)) ?_ (Ok.ret ⟨fun c hc=>(by cases hc),f5,g1,g2⟩)
     rw [hpos,aR]
     show ((some true).bind _)=_
     rw [aB,aR,f1,aB,f2,aB,aB,aB,aB]
     simp
    ·obtain⟨h1,h2,h3⟩:=hI.resolve_left ea
     refine Ok.eq (x:=(if f.Y0<y then f.Y0 else y,if e<l.Y1 then l.Y1 else e)) ?_ (Ok.ret ⟨fun c hc=>?_,fun c hc=>?_,?_,?_⟩)
     ·rw [hpos,aR]
      have ez: (((a.length:Nat):Int)==0)=false:=by rw [beq_eq_false_iff_ne];have:=List.length_pos_iff.2 ea;omega
      rw [ez]
      show ((some false).bind _)=_
      rw [aB,aS,aB,f1,aB,f2,aB]
     ·have:=h1 c hc;dsimp only;split <;> split <;> omega
     ·have:=f5 c hc;dsimp only;split <;> split <;> omega
     ·dsimp only;split
      ·exact g1
      ·exact h2
     ·dsimp only;split
      ·exact g2
      ·exact h3
 ·rintro⟨y0,e0⟩ hI
  have hI: (∀c∈a,y0<=c.Y0/\c.Y1<=e0)/\(∀c∈b,y0<=c.Y0/\c.Y1<=e0)/\y0∈Y/\e0∈Y:=hI
  obtain⟨ia,ib,iy,ie⟩:=hI
  have sy:=hs _ iy
  have se:=hs _ ie
  unfold small at sy se
  dsimp only
  refine Ok.bind (Ok.np (Go:=fun s=>AV j3 X Y a b s.2.2.1) (Rt:=fun _=>True)
   (fun s=>∃pa pb,a=pa++s.1/\b=pb++s.2.1/\(∀c∈pa,c.Y1<=s.2.2.2)/\(∀c∈pb,c.Y1<=s.2.2.2)/\y0<=s.2.2.2/\s.2.2.2<=max y0 e0/\s.2.2.2∈Y/\eC (s.2.2.1.map bR)/\uy X Y (s.2.2.1.map bR)/\(∀c∈s.2.2.1,c.Y1<=s.2.2.2)/\
    ∀x y,vn (s.2.2.1.map bR) x y= (j3 (vn (a.map bR) x y) (vn (b.map bR) x y)&&decide (y<s.2.2.2)))
   (fun s=>(e0 - s.2.2.2).toNat) ?_ ?_ (by dsimp only;omega)) ?_
  ·rintro⟨a',b',out,y⟩ ⟨pa,pb,ea,eb,hpa,hpb,hy0,hye,hyY,hcan,hlim,htop,hcov⟩
   dsimp only at ea eb hpa hpb hy0 hye hyY hcan hlim htop hcov ⊢
   refine Ok.bif (fun h=>?_) (fun h=>Ok.br ?_)
   ·have hlt:y<e0:=of_decide_eq_true h
    have hsl: ∀(p s t:List aA),t=p++s->s.length<=t.length:=fun p s t e=>by rw [e];simp
    have hal':=hsl _ _ _ ea
    have hbl':=hsl _ _ _ eb
    refine Ok.bind (zM (y:=y) (a:=a') (by omega) rfl) (fun o ho=>Ok.cs ho ?_ (fun r=>r.elim))
    rintro a2 ⟨qa,ea2,hqa,hha⟩
    refine Ok.bind (zM (y:=y) (a:=b') (by omega) rfl) (fun o ho=>Ok.cs ho ?_ (fun r=>r.elim))
    rintro b2 ⟨qb,eb2,hqb,hhb⟩
    have ea3:a= (pa++qa)++a2:=by rw [ea,ea2];simp
    have eb3:b= (pb++qb)++b2:=by rw [eb,eb2];simp
    have hPa: ∀c∈pa++qa,c.Y1<=y:=fun c hc=>by rcases cU.1 hc with h | h;exact hpa c h;exact hqa c h
    have hPb: ∀c∈pb++qb,c.Y1<=y:=fun c hc=>by rcases cU.1 hc with h | h;exact hpb c h;exact hqb c h
    have ca2:eC (a2.map bR):=by have:=ca;rw [ea3,eQ] at this;exact this.app
    have cb2:eC (b2.map bR):=by have:=cb;rw [eb3,eQ] at this;exact this.app
    have la2:uy X Y (a2.map bR):=fun c hc=>la c (by rw [ea3,eQ];exact List.mem_append_right _ hc)
    have lb2:uy X Y (b2.map bR):=fun c hc=>lb c (by rw [eb3,eQ];exact List.mem_append_right _ hc)
    refine Ok.eq (IL a2 y e0) (Ok.eq (IL b2 y e0) ?_)
    obtain⟨a1,a3,a4,a5,a6,a7,a8⟩:=D8 ca2 la2 hha hlt
    obtain⟨b1,b3,b4,b5,b6,b7,b8⟩:=D8 cb2 lb2 hhb hlt
    have hal2: (CJ a2 y e0).1.length<=X.length:=dN a5.nodup a8
    have hbl2: (CJ b2 y e0).1.length<=X.length:=dN b5.nodup b8
    generalize CJ a2 y e0=pa2 at *
    generalize CJ b2 y e0=pb2 at *
    obtain⟨xa,n⟩:=pa2
    obtain⟨xb,m⟩:=pb2
    dsimp only at *
    refine Ok.bind (E4 hφ hk a5 b5 a6 b6 (by omega) (by omega) (by omega)) ?_
    rintro row ⟨r1,r2,r3,r4⟩
    have hnx: ∃nx,nx= (if m<n then m else n)/\y<nx/\nx<=e0/\nx<=n/\nx<=m/\nx∈Y:=by
     refine⟨_,rfl,by split <;> omega,by split <;> omega,by split <;> omega,by split <;> omega,?_⟩
     split
     ·rcases b7 with h | h
      ·rw [h];exact ie
      ·exact h
     ·rcases a7 with h | h
      ·rw [h];exact ie
      ·exact h
    obtain⟨nx,hnx,n1,n2,n3,n4,n5⟩:=hnx
    rw [<-hnx]
    have hol:out.length<=Y.length:=by have:=hlim.len hcan;rwa [fD] at this
    obtain⟨out',p1,p2⟩:=D7 (N:=N) (s:=out) (b:=⟨y,nx,row⟩) (by omega) (fun c hc=>by
     have:=hlim.row hcan (b:=bR c) (cR.2 ⟨c,hc,rfl⟩)
     have e: (bR c).xs=c.Xs:=rfl
     rw [e] at this;omega)
    refine Ok.eq p1 ?_
    have htop': ∀c∈out.map bR,c.y1<=(bR ⟨y,nx,row⟩).y0:=fun c hc=>by
     obtain⟨d,hd,rfl⟩:=cR.1 hc
     exact htop d hd
    refine Ok.nx ⟨⟨pa++qa,pb++qb,ea3,eb3,fun c hc=>by have:=hPa c hc;dsimp only;omega,fun c hc=>by have:=hPb c hc;dsimp only;omega,by dsimp only;omega,by dsimp only;omega,n5,by dsimp only;rw [p2];exact wj hcan htop' r1 r2,?_,fun c hc=>?_,fun x y'=>?_⟩,by dsimp only;omega⟩
    ·dsimp only;rw [p2]
     refine hlim.push hyY n5 (fun c hc=>?_)
     rcases r4 c hc with h | h
     ·exact a8 c h
     ·exact b8 c h
    ·have hm':bR c∈mb (out.map bR) (bR ⟨y,nx,row⟩):=by rw [<-p2];exact cR.2 ⟨c,hc,rfl⟩
     exact wk htop' (by show y<=nx;omega) _ hm'
    ·show mE (rowAt (out'.map bR) y') x=_
     rw [p2,wi htop' (fun c hc=>(hcan.each c hc).1) (fun h=>absurd h (by show ¬nx<=y;omega))]
     by_cases hyy:y<=y'/\y'<nx
     ·rw [aD (show (bR ⟨y,nx,row⟩).y0<=y'/\y'< (bR ⟨y,nx,row⟩).y1 from hyy),cD hyy.2,Bool.and_true]
      show mE row x=_
      have mp: ∀p q:List aA,(∀c∈p++q,c.Y1<=y)->∀c∈(p++q).map bR,c.y1<=y:=fun p q h c hc=>by
       obtain⟨d,hd,rfl⟩:=cR.1 hc
       exact h d hd
      have q1:vn (a.map bR) x y'=mE xa x:=by
       unfold vn
       rw [ea3,eQ,Cf (mp _ _ hPa) hyy.1,a4 y' hyy.1 (by omega)]
      have q2:vn (b.map bR) x y'=mE xb x:=by
       unfold vn
       rw [eb3,eQ,Cf (mp _ _ hPb) hyy.1,b4 y' hyy.1 (by omega)]
      rw [r3,q1,q2]
     ·rw [aC (show ¬((bR ⟨y,nx,row⟩).y0<=y'/\y'< (bR ⟨y,nx,row⟩).y1) from hyy)]
      show vn (out.map bR) x y'=_
      rw [hcov]
      by_cases h1:y'<y
      ·rw [cD h1,cD (show y'<nx by omega)]
      ·rw [bF h1,bF (show ¬y'<nx by omega)]
   ·have hge:e0<=y:=by have:=of_decide_eq_false h;omega
    refine⟨hcan,fun x y'=>?_,hlim⟩
    dsimp only
    rw [hcov]
    by_cases h1:y'<y
    ·rw [cD h1,Bool.and_true]
    ·have z: ∀s:List aA,(∀c∈s,y0<=c.Y0/\c.Y1<=e0)->vn (s.map bR) x y'=false:=fun s h=>by
      unfold vn
      rw [j5 fun c hc=>?_]
      ·rfl
      ·obtain⟨d,hd,rfl⟩:=cR.1 hc
       exact .inr (by have:=(h d hd).2;show d.Y1<=y';omega)
     rw [z a ia,z b ib,hk];rfl
  ·refine⟨[],[],rfl,rfl,fun c hc=>(by cases hc),fun c hc=>(by cases hc),Int.le_refl _,by dsimp only;omega,iy,eC.nil,fun c hc=>(by cases hc),fun c hc=>(by cases hc),fun x y=>?_⟩
   dsimp only
   show false=_
   by_cases h1:y<y0
   ·have z: ∀s:List aA,(∀c∈s,y0<=c.Y0/\c.Y1<=e0)->vn (s.map bR) x y=false:=fun s h=>by
     unfold vn
     rw [j5 fun c hc=>?_]
     ·rfl
     ·obtain⟨d,hd,rfl⟩:=cR.1 hc
      exact .inl (by have:=(h d hd).1;show y<d.Y0;omega)
    rw [z a ia,z b ib,hk];rfl
   ·rw [bF h1,Bool.and_false]
  ·rintro o ho
   exact Ok.cs ho (fun s h=>Ok.ret h) (fun r=>r.elim)
theorem E5 {a b:List aA} {X Y:List Int} (ca:eC (a.map bR)) (cb:eC (b.map bR)) (la:uy X Y (a.map bR)) (lb:uy X Y (b.map bR)) (hX:X.length<=1048576000) (hY:Y.length<=1048576000) (hs: ∀c∈Y,small c) (hN:4398046511104<=N):
  Ok (jK N a b) (AV (fun p q=>p&& !q) X Y a b):=by
 unfold jK
 exact Ok.bind (Dg (j3:=fun p q=>p&& !q) (fun p q=>rfl) rfl ca cb la lb hX hY hs hN) (fun s h=>Ok.ret h)
end
end Go.Gk
namespace Go.Gk
open Go
section
variable {N:Nat}
structure UF (n:Nat) (up:List Int) (r:Nat->Nat):Prop where
 len:up.length=n
 rt: ∀i,i<n->∃u:Nat,up[i]? =some ((u:Nat):Int)/\u<=i/\r u=r i/\(u=i↔r i=i)
theorem UF.le {n:Nat} {up:List Int} {r:Nat->Nat} (h:UF n up r): ∀i,i<n->r i<=i:=by
 intro i
 induction i using Nat.strongRecOn with
 | ind i ih=>
  intro hi
  obtain⟨u,_,h2,h3,h4⟩:=h.rt i hi
  by_cases e:u=i
  ·rw [h4.1 e];exact bP _
  ·rw [<-h3];have:=ih u (by omega) (by omega);omega
theorem UF.rr {n:Nat} {up:List Int} {r:Nat->Nat} (h:UF n up r): ∀i,i<n->r (r i)=r i:=by
 intro i
 induction i using Nat.strongRecOn with
 | ind i ih=>
  intro hi
  obtain⟨u,_,h2,h3,h4⟩:=h.rt i hi
  by_cases e:u=i
  ·rw [h4.1 e,h4.1 e]
  ·rw [<-h3];exact ih u (by omega) (by omega)
theorem lY {l:List Int} {j:Nat} {v:Int} {i:Nat} (hj:j<l.length): (l.set j v)[i]? =if i=j then some v else l[i]? :=by
 rw [fw]
 by_cases e:j=i
 ·rw [aD e,aD e.symm,aD hj]
 ·rw [aC e,aC (fun h=>e h.symm)]
theorem UF.init (n:Nat) (up:List Int) (h1:up.length=n) (h2: ∀i,i<n->up[i]? =some ((i:Nat):Int)):UF n up (fun i=>i):=
 ⟨h1,fun i hi=>⟨i,h2 i hi,bP _,rfl,by simp⟩⟩
theorem rY {n:Nat} (hn:n<=1048576000): ∃up,iI N ((n:Nat):Int)=some up/\UF n up (fun i=>i):=by
 unfold iI
 rw [o4 0 (by omega),aB]
 have h0: (List.replicate n (0:Int)).length=n:=by simp
 obtain⟨s',h1,h2⟩:=xt (m:=(List.replicate n (0:Int)).length) (s:=List.replicate n (0:Int)) (body:=fun(k34:Nat) (s35: (List Int))=>((idx s35 (k34:Int)).bind fun x38=>some (s35.set (Int.toNat (k34:Int)) (k34:Int)):Option ((List Int))))
  (fun k s=>s.length=n/\∀i,i<k->s[i]? =some ((i:Nat):Int)) (by omega) ⟨h0,fun i hi=>by omega⟩ (fun k s hk ⟨hs,hi⟩=>by
   refine⟨s.set k ((k:Nat):Int),?_,by simp [hs],fun i hi'=>?_⟩
   ·rw [jD _ _ (by omega),aB,bS]
   ·rw [lY (by omega)]
    split
    ·rename_i e;rw [e]
    ·exact hi i (by omega))
 rw [h1,aB]
 exact⟨s',rfl,UF.init n s' h2.1 (fun i hi=>h2.2 i (by omega))⟩
theorem nC {n:Nat} {up:List Int} {r:Nat->Nat} (h:UF n up r) {i:Nat} (hi:i<n) (hn:n<N): ∃up',dQ N up ((i:Nat):Int)=some (((r i:Nat):Int),up')/\UF n up' r:=by
 unfold dQ
 obtain⟨o,h1,h2⟩:=uX (R:=Empty) (body:=fun(s32: (List Int)×Int)=>((idx s32.1 s32.2).bind fun x43=>bif (x43 != s32.2) then ((idx s32.1 s32.2).bind fun x44=>(idx s32.1 x44).bind fun x45=>(idx s32.1 s32.2).bind fun x46=>(idx (s32.1.set (Int.toNat s32.2) x45) s32.2).bind fun x47=>some (.nx ((s32.1.set (Int.toNat s32.2) x45),x47))) else (some (.br (s32.1,s32.2))):Option (Fl ((List Int)×Int) Empty)))
  (fun s=>UF n s.1 r/\∃j:Nat,s.2= ((j:Nat):Int)/\j<n/\r j=r i) (fun s=>s.2.toNat) (fun s=>s.2= ((r i:Nat):Int)/\UF n s.1 r) (fun _=>True) (fun s ⟨hu,j,hj,hjn,hr⟩=>by
   obtain⟨l,y⟩:=s
   dsimp only at hu hj ⊢
   subst hj
   obtain⟨u,a1,a2,a3,a4⟩:=hu.rt j hjn
   rw [dD a1,aB]
   by_cases e:u=j
   ·subst e
    refine⟨.br (l,((u:Nat):Int)),by rw [show (((u:Nat):Int) != ((u:Nat):Int))=false by simp,aS],?_,hu⟩
    show ((u:Nat):Int)=_
    rw [<-hr,a4.1 rfl]
   ·obtain⟨v,b1,b2,b3,b4⟩:=hu.rt u (by omega)
    have hl:=hu.len
    refine⟨.nx (l.set j ((v:Nat):Int),((v:Nat):Int)),by
     rw [show (((u:Nat):Int) != ((j:Nat):Int))=true by simp;omega,aR,aB,dD b1,aB,aB,bS,
      dD (x:=((v:Nat):Int)) (by rw [lY (by omega),aD rfl]),aB],⟨⟨by simp [hl],fun k hk=>?_⟩,v,rfl,by omega,?_⟩,?_⟩
    ·rw [lY (by omega)]
     by_cases e2:k=j
     ·subst e2
      rw [aD rfl]
      refine⟨v,rfl,by omega,by rw [b3,a3],?_⟩
      constructor
      ·intro h;omega
      ·intro h;exact absurd (a4.2 h) e
     ·rw [aC e2];exact hu.rt k hk
    ·rw [b3,a3,hr]
    ·simp only [bS];omega)
  N (up,((i:Nat):Int)) ⟨h,i,rfl,hi,rfl⟩ (by simp only [bS];omega)
 rw [h1,aB]
 cases o with
 | go s'=>exact⟨s'.1,by rw [<-h2.1];rfl,h2.2⟩
 | rt r=>exact r.elim
def mH (r:Nat->Nat) (a b:Nat):Nat->Nat:=fun x=>if r x=max a b then min a b else r x
theorem GC (a b:Nat): (if ((a:Nat):Int)< ((b:Nat):Int) then ((b:Nat):Int) else ((a:Nat):Int))= ((max a b:Nat):Int):=by
 rw [Nat.max_def];split <;> split <;> omega
theorem GD (a b:Nat): (if ((b:Nat):Int)< ((a:Nat):Int) then ((b:Nat):Int) else ((a:Nat):Int))= ((min a b:Nat):Int):=by
 rw [Nat.min_def];split <;> split <;> omega
theorem D9 {n:Nat} {up:List Int} {r:Nat->Nat} (h:UF n up r) {i k:Nat} (hi:i<n) (hk:k<n) (hn:n<N):
  ∃up',dH N up ((i:Nat):Int) ((k:Nat):Int)=some up'/\UF n up' (mH r (r i) (r k)):=by
 obtain⟨u1,a1,a2⟩:=nC h hi hn
 obtain⟨u2,b1,b2⟩:=nC a2 hk hn
 have hri:=h.le i hi
 have hrk:=h.le k hk
 have rri:=h.rr i hi
 have rrk:=h.rr k hk
 unfold dH
 rw [a1,aB,b1,aB]
 dsimp only
 rw [GC,GD]
 have hm:max (r i) (r k)<n:=by omega
 have hl:=b2.len
 rw [jD _ _ (by omega),aB,bS]
 refine⟨_,rfl,by simp [hl],fun x hx=>?_⟩
 have rmax:r (max (r i) (r k))=max (r i) (r k):=by rcases Nat.le_total (r i) (r k) with e | e <;> simp [Nat.max_def] <;> split <;> omega
 have rmin:r (min (r i) (r k))=min (r i) (r k):=by rcases Nat.le_total (r i) (r k) with e | e <;> simp [Nat.min_def] <;> split <;> omega
 rw [lY (by omega)]
 by_cases e:x=max (r i) (r k)
 ·subst e
  rw [aD rfl]
  refine⟨min (r i) (r k),rfl,by omega,?_,?_⟩
  ·unfold mH;rw [rmin,rmax,aD rfl];split <;> rfl
  ·unfold mH;rw [rmax,aD rfl]
 ·rw [aC e]
  obtain⟨u,c1,c2,c3,c4⟩:=b2.rt x hx
  refine⟨u,c1,c2,?_,?_⟩
  ·unfold mH;rw [c3]
  ·unfold mH
   split
   ·rename_i e2
    constructor
    ·intro hu;have:=c4.1 hu;omega
    ·intro hu
     have h1:=b2.le x hx
     have:min (r i) (r k)=max (r i) (r k)\/x<max (r i) (r k):=by omega
     have h3:x=max (r i) (r k):=by omega
     exact absurd h3 e
   ·exact c4
def mW (r:Nat->Nat) (E:List (Nat×Nat)):Prop:=∀p∈E,r p.1=r p.2
def wt (n:Nat) (r:Nat->Nat) (E:List (Nat×Nat)):Prop:=∀S:Nat->Prop,(∀p∈E,S p.1↔S p.2)->∀i j,i<n->j<n->r i=r j->S i->S j
theorem mW.join {r:Nat->Nat} {E:List (Nat×Nat)} (h:mW r E) (i k:Nat) (_h2:r (r i)=r i):mW (mH r (r i) (r k)) (E++[(i,k)]):=fun p hp=>by
 rcases cU.1 hp with hp | hp
 ·unfold mH;rw [h p hp]
 ·simp at hp;subst hp
  unfold mH
  dsimp only
  split <;> split <;> omega
theorem wt.join {n:Nat} {r:Nat->Nat} {E:List (Nat×Nat)} (h:wt n r E) {i k:Nat} (hi:i<n) (hk:k<n):wt n (mH r (r i) (r k)) (E++[(i,k)]):=fun S hS x y hx hy hr hSx=>by
 have hE: ∀p∈E,S p.1↔S p.2:=fun p hp=>hS p (List.mem_append_left _ hp)
 have hik:S i↔S k:=hS (i,k) (by simp)
 have key:=h S hE
 unfold mH at hr
 by_cases h1:r x=r y
 ·exact key x y hx hy h1 hSx
 ·have: (r x=r i/\r y=r k)\/(r x=r k/\r y=r i):=by
   split at hr <;> split at hr <;> omega
  rcases this with ⟨e1,e2⟩ | ⟨e1,e2⟩
  ·exact key k y hk hy e2.symm (hik.1 (key x i hx hi e1 hSx))
  ·exact key i y hi hy e2.symm (hik.2 (key x k hx hk e1 hSx))
theorem wt.id (n:Nat):wt n (fun i=>i) []:=fun S _ i j _ _ h hs=>by
 have h:i=j:=h
 subst h;exact hs
theorem mW.id:mW (fun i=>i) []:=fun p hp=>by simp at hp
def bV (n:Nat) (r:Nat->Nat):List Nat:=(List.range n).filter (fun k=>decide (r k=k))
def cls (n:Nat) (r:Nat->Nat) (k:Nat):List Nat:=(List.range n).filter (fun i=>decide (r i=k))
theorem jw (n:Nat) (r:Nat->Nat):bV (n+1) r=if r n=n then bV n r++[n] else bV n r:=by
 unfold bV
 rw [List.range_succ,g8]
 by_cases h:r n=n
 ·rw [aD h];simp [h]
 ·rw [aC h];simp [h]
theorem rZ (n:Nat) (r:Nat->Nat) (k:Nat):cls (n+1) r k=if r n=k then cls n r k++[n] else cls n r k:=by
 unfold cls
 rw [List.range_succ,g8]
 by_cases h:r n=k
 ·rw [aD h];simp [h]
 ·rw [aC h];simp [h]
theorem mX (n:Nat) (r:Nat->Nat): (bV n r).length<=n:=by
 have:=jz (fun k=>decide (r k=k)) (List.range n)
 rw [List.length_range] at this;exact this
theorem AW (n:Nat) (r:Nat->Nat) (k:Nat): (cls n r k).length<=n:=by
 have:=jz (fun i=>decide (r i=k)) (List.range n)
 rw [List.length_range] at this;exact this
theorem hZ {n k:Nat} {r:Nat->Nat}:k∈bV n r↔k<n/\r k=k:=by unfold bV;simp
theorem mf (n:Nat) (r:Nat->Nat): (bV n r).Nodup:=List.Nodup.sublist List.filter_sublist List.nodup_range
def oF (n:Nat) (r:Nat->Nat):List (List Int):=(bV n r).map (fun k=>(cls n r k).map (fun i=>((i:Nat):Int)))
theorem Ea {n k:Nat} {r:Nat->Nat} (h: ∀i,i<n->r i<=i) (hk:n<=k):cls n r k= []:=by
 unfold cls
 rw [List.filter_eq_nil_iff]
 intro i hi
 have h1:=gm.1 hi
 have:=h i h1
 simp;omega
theorem r5 {α β:Type} (f g:α->β) (l:List α) (j:Nat) (a:α) (hn:l.Nodup) (hj:l[j]? =some a) (hf: ∀b,b∈l->b≠a->f b=g b): (l.map f).set j (g a)=l.map g:=by
 apply List.ext_getElem?
 intro i
 have hjl:=(bD.1 hj).1
 rw [fw,fD,fG,fG]
 by_cases e:j=i
 ·subst e;rw [aD rfl,aD hjl,hj];rfl
 ·rw [aC e]
  cases hb:l[i]? with
  | none=>rfl
  | some b=>
   have hne:b≠a:=fun he=>by
    subst he
    have hil:=(bD.1 hb).1
    exact e ((List.getElem_inj hn).1 (by rw [(bD.1 hb).2,(bD.1 hj).2]) |>.symm)
   show some (f b)=some (g b)
   rw [hf b (gT hb) hne]
def Lj (n:Nat) (r:Nat->Nat) (m:List (Int×Int)):Prop:=∀(j k:Nat),(bV n r)[j]? =some k->dM m ((k:Nat):Int) 0= ((j:Nat):Int)
theorem H6 {n:Nat} {up:List Int} {r:Nat->Nat} (h:UF n up r) (hn:n<N) (hn2:n<=1048576000): ∃up',iP N up=some (oF n r,up')/\UF n up' r:=by
 unfold iP
 have hlen:=h.len
 have hle:=h.le
 have hrr:=h.rr
 obtain⟨s',h1,h2⟩:=xt (m:=up.length) (s:=(up,([]: (List (List Int))),([]: (List (Int×Int)))))
  (body:=fun(k32:Nat) (s33: (List Int)×(List (List Int))×(List (Int×Int)))=>((dQ N s33.1 (k32:Int)).bind fun x117=>(bif (x117.1==(k32:Int)) then ((app 24 s33.2.1 [([]: (List Int))]).bind fun x126=>some (x126,(ph s33.2.2 (k32:Int) (s33.2.1.length:Int)))) else (some (s33.2.1,s33.2.2))).bind fun s122=>(idx s122.1 (dM s122.2 x117.1 (0:Int))).bind fun x128=>(app 8 x128 ([(k32:Int)]: (List Int))).bind fun x134=>(idx s122.1 (dM s122.2 x117.1 (0:Int))).bind fun x136=>some (x117.2,(s122.1.set (Int.toNat (dM s122.2 x117.1 (0:Int))) x134),s122.2):Option ((List Int)×(List (List Int))×(List (Int×Int)))))
  (fun k s=>UF n s.1 r/\s.2.1=oF k r/\Lj k r s.2.2) (by omega) ⟨h,rfl,fun j k hj=>by simp [bV] at hj⟩ (fun k s hk ⟨hu,hs,hm⟩=>by
   obtain⟨l,ss,m⟩:=s
   dsimp only at hu hs hm ⊢
   subst hs
   rw [hlen] at hk
   obtain⟨u',a1,a2⟩:=nC hu hk hn
   rw [a1,aB]
   dsimp only
   have hhl:=mX k r
   have hsl: (oF k r).length= (bV k r).length:=by unfold oF;simp
   have hrk:=hle k hk
   by_cases e:r k=k
   ·
    rw [show (((r k:Nat):Int)==((k:Nat):Int))=true by rw [e];simp,aR,gH (by rw [hsl];simp;omega),aB,aB]
    dsimp only
    rw [e,jd,aD rfl,hsl]
    have hi: (oF k r++[([]:List Int)])[(bV k r).length]? =some []:=by rw [<-hsl,fF (bP _),Nat.sub_self];rfl
    rw [dD hi,aB,gH (by simp),aB,aB,bS]
    refine⟨_,rfl,a2,?_,fun j q hj=>?_⟩
    ·dsimp only
     rw [<-hsl,List.set_append_right _ _ (bP _),Nat.sub_self]
     unfold oF
     rw [jw,aD e,eQ]
     congr 1
     ·apply List.map_congr_left
      intro a ha
      have:=(hZ.1 ha).1
      rw [rZ,aC (by omega)]
     ·simp only [List.set_cons_zero,eG,List.map_nil,List.nil_append]
      rw [rZ,aD e,Ea (fun i hi=>hle i (by omega)) (bP _)];rfl
    ·dsimp only
     rw [jw,aD e] at hj
     rw [jd]
     by_cases e2:j< (bV k r).length
     ·rw [fM e2] at hj
      have:=(hZ.1 (gT hj)).1
      rw [aC (by omega)];exact hm j q hj
     ·rw [fF (by omega)] at hj
      have hj0:j - (bV k r).length=0:=by
       have:=(bD.1 hj).1;simp at this;omega
      rw [hj0] at hj;simp at hj;subst hj
      rw [aD rfl];congr 1;omega
   ·rw [show (((r k:Nat):Int)==((k:Nat):Int))=false by simp;omega,aS,aB]
    dsimp only
    have hh:r k∈bV k r:=hZ.2 ⟨by omega,hrr k hk⟩
    obtain⟨j,hj⟩:=gk hh
    rw [hm j (r k) hj]
    have hcl:=AW k r (r k)
    have hi: (oF k r)[j]? =some ((cls k r (r k)).map (fun i=>((i:Nat):Int))):=by unfold oF;rw [fG,hj];rfl
    rw [dD hi,aB,gH (by simp;omega),aB,aB,bS]
    refine⟨_,rfl,a2,?_,fun j' q hj'=>?_⟩
    ·unfold oF
     rw [jw,aC e]
     have:=r5 (fun a=>(cls k r a).map (fun i=>((i:Nat):Int))) (fun a=>(cls (k+1) r a).map (fun i=>((i:Nat):Int))) (bV k r) j (r k) (mf k r) hj (fun b hb hne=>by
      rw [rZ,aC (fun h=>hne h.symm)])
     rw [rZ,aD rfl,eQ] at this
     exact this
    ·rw [jw,aC e] at hj';exact hm j' q hj')
 rw [h1,aB]
 obtain⟨l,ss,m⟩:=s'
 dsimp only at h2
 rw [hlen] at h2
 refine⟨l,?_,h2.1⟩
 rw [<-h2.2.1]
end
end Go.Gk
namespace Go.Gk
open Go
section
variable {N:Nat}
theorem AX {n:Nat} {up:List Int} {r:Nat->Nat} (h:UF n up r) {i:Nat} (hi:i<n) (hn:n<N): ∃up',eB N ((i:Nat):Int) up=some (((r i:Nat):Int),up')/\UF n up' r:=by
 unfold eB
 have:=Ok.bind (β:=Int×List Int) (Q:=fun x=>x.1= ((r i:Nat):Int)/\UF n x.2 r) (Ok.np (body:=fun(s32:Int×(List Int))=>((idx s32.2 s32.1).bind fun x43=>bif (x43 != s32.1) then ((idx s32.2 s32.1).bind fun x44=>(idx s32.2 x44).bind fun x45=>(idx s32.2 s32.1).bind fun x46=>(idx (s32.2.set (Int.toNat s32.1) x45) s32.1).bind fun x47=>some (.nx (x47,(s32.2.set (Int.toNat s32.1) x45)))) else (some (.br (s32.1,s32.2))):Option (Fl (Int×(List Int)) Empty)))
  (N:=N) (s:=(((i:Nat):Int),up)) (Go:=fun s=>s.1= ((r i:Nat):Int)/\UF n s.2 r) (Rt:=fun _=>True) (fun s=>UF n s.2 r/\∃j:Nat,s.1= ((j:Nat):Int)/\j<n/\r j=r i) (fun s=>s.1.toNat) (by
   rintro⟨y,l⟩ ⟨hu,j,hj,hjn,hr⟩
   dsimp only at hu hj ⊢
   subst hj
   obtain⟨u,a1,a2,a3,a4⟩:=hu.rt j hjn
   refine Ok.ix a1 ?_
   by_cases e:u=j
   ·subst e
    rw [show (((u:Nat):Int) != ((u:Nat):Int))=false by simp,aS]
    refine Ok.br ⟨?_,hu⟩
    show ((u:Nat):Int)=_
    rw [<-hr,a4.1 rfl]
   ·obtain⟨v,b1,b2,b3,b4⟩:=hu.rt u (by omega)
    have hl:=hu.len
    rw [show (((u:Nat):Int) != ((j:Nat):Int))=true by simp;omega,aR]
    refine Ok.ix a1 (Ok.ix b1 (Ok.ix a1 (Ok.ix (x:=((v:Nat):Int)) (by rw [bS,lY (by omega),aD rfl]) (Ok.nx ⟨⟨⟨by simp [hl],fun k hk=>?_⟩,v,rfl,by omega,?_⟩,?_⟩))))
    ·rw [bS,lY (by omega)]
     by_cases e2:k=j
     ·subst e2
      rw [aD rfl]
      refine⟨v,rfl,by omega,by rw [b3,a3],?_⟩
      constructor
      ·intro h;omega
      ·intro h;exact absurd (a4.2 h) e
     ·rw [aC e2];exact hu.rt k hk
    ·rw [b3,a3,hr]
    ·simp only [bS];omega)
  ⟨h,i,rfl,hi,rfl⟩ (by simp only [bS];omega))
  (fun o ho=>Ok.cs (f:=fun(s32:Int×(List Int))=>some (s32.1,s32.2)) (g:=fun r:Empty=>r.elim) ho (fun s h=>Ok.ret h) (fun r=>r.elim))
 obtain⟨⟨x,up'⟩,h1,h2,h3⟩:=this
 exact⟨up',by rw [<-h2];exact h1,h3⟩
theorem GF {n:Nat} {up:List Int} {r:Nat->Nat} (h:UF n up r) {i k:Nat} (hi:i<n) (hk:k<n) {f:List Int->Option (List Int)} (hn:n<N):
  ∃up',((eB N ((i:Nat):Int) up).bind fun x840=>(eB N ((k:Nat):Int) x840.2).bind fun x842=>(idx x842.2 (if x840.1<x842.1 then x842.1 else x840.1)).bind fun x844=>some (x842.2.set (Int.toNat (if x840.1<x842.1 then x842.1 else x840.1)) (if x842.1<x840.1 then x842.1 else x840.1)))=some up'/\UF n up' (mH r (r i) (r k)):=by
 obtain⟨u1,a1,a2⟩:=AX h hi hn
 obtain⟨u2,b1,b2⟩:=AX a2 hk hn
 obtain⟨v1,c1,c2⟩:=nC h hi hn
 have hri:=h.le i hi
 have hrk:=h.le k hk
 have rri:=h.rr i hi
 have rrk:=h.rr k hk
 rw [a1,aB,b1,aB]
 dsimp only
 rw [GC,GD]
 have hm:max (r i) (r k)<n:=by omega
 have hl:=b2.len
 rw [jD _ _ (by omega),aB,bS]
 refine⟨_,rfl,by simp [hl],fun x hx=>?_⟩
 have rmax:r (max (r i) (r k))=max (r i) (r k):=by rcases Nat.le_total (r i) (r k) with e | e <;> simp [Nat.max_def] <;> split <;> omega
 have rmin:r (min (r i) (r k))=min (r i) (r k):=by rcases Nat.le_total (r i) (r k) with e | e <;> simp [Nat.min_def] <;> split <;> omega
 rw [lY (by omega)]
 by_cases e:x=max (r i) (r k)
 ·subst e
  rw [aD rfl]
  refine⟨min (r i) (r k),rfl,by omega,?_,?_⟩
  ·unfold mH;rw [rmin,rmax,aD rfl];split <;> rfl
  ·unfold mH;rw [rmax,aD rfl]
 ·rw [aC e]
  obtain⟨u,c1,c2,c3,c4⟩:=b2.rt x hx
  refine⟨u,c1,c2,?_,?_⟩
  ·unfold mH;rw [c3]
  ·unfold mH
   split
   ·rename_i e2
    constructor
    ·intro hu;have:=c4.1 hu;omega
    ·intro hu
     have h1:=b2.le x hx
     have h3:x=max (r i) (r k):=by omega
     exact absurd h3 e
   ·exact c4
def gI (s:List aA) (k:Nat):Nat:=(aO (s.take k)).length
theorem wu {s:List aA} {k:Nat} (h:k<s.length):gI s (k+1)=gI s k+s[k].Xs.length / 2:=by
 unfold gI
 rw [fu h,lN,dW]
 show _+ (aO [s[k]]).length=_
 rw [show aO [s[k]]=mc s[k] by simp [aO],ln]
theorem wv {s:List aA} {k m:Nat} (h:k<=m):gI s k<=gI s m:=by
 unfold gI
 have:=wo (s.take m) k
 rwa [List.take_take,Nat.min_eq_left h] at this
theorem Cg (s:List aA):gI s s.length= (aO s).length:=by unfold gI;rw [eR]
theorem H7 {s:List aA} {k t:Nat} (h:k<s.length) (ht:2*t+1<s[k].Xs.length): (aO s)[gI s k+t]? =some ⟨s[k].Xs[2*t],s[k].Y0,s[k].Xs[2*t+1],s[k].Y1⟩:=by
 have e:aO s=aO (s.take k)++(mc s[k]++aO (s.drop (k+1))):=by
  conv=>lhs;rw [<-List.take_append_drop k s,qh h]
  rw [lN,me]
 rw [e]
 unfold gI
 rw [fF (by omega),Nat.add_sub_cancel_left,fM (by rw [ln];omega)]
 unfold mc
 rw [fG,vq _ _ ht];rfl
theorem Eb {s:List aA} {i:Nat} (h:i< (aO s).length): ∃k,k<s.length/\gI s k<=i/\i<gI s (k+1):=by
 have key: ∀m,m<=s.length->i<gI s m->∃k,k<m/\gI s k<=i/\i<gI s (k+1):=by
  intro m
  induction m with
  | zero=>intro _ h;unfold gI at h;simp [aO] at h
  | succ m ih=>
   intro hm hi
   by_cases h1:i<gI s m
   ·obtain⟨k,hk,h2⟩:=ih (by omega) h1
    exact⟨k,by omega,h2⟩
   ·exact⟨m,by omega,by omega,hi⟩
 exact key s.length (bP _) (by rw [Cg];exact h)
def Jv (a c:aI):Prop:=a.Y1=c.Y0/\a.X0<c.X1/\c.X0<a.X1
def E6 (all:List aI) (i j:Nat):Prop:=∃a c,all[i]? =some a/\all[j]? =some c/\Jv a c
theorem sN {s:List aA} (he: ∀b∈s,b.Xs.length % 2=0) {k i:Nat} (hk:k<s.length) (h1:gI s k<=i) (h2:i<gI s (k+1)): ∃t,i=gI s k+t/\∃h:2*t+1<s[k].Xs.length,(aO s)[i]? =some ⟨s[k].Xs[2*t],s[k].Y0,s[k].Xs[2*t+1],s[k].Y1⟩:=by
 rw [wu hk] at h2
 have:=he _ (cJ hk)
 refine⟨i - gI s k,by omega,by omega,?_⟩
 have h3:=H7 (t:=i - gI s k) hk (by omega)
 rwa [show gI s k+ (i - gI s k)=i by omega] at h3
theorem yr {s:List aA} (hc:eC (s.map bR)) {p q:Nat} (hp:p<s.length) (hq:q<s.length) (h:p<q):s[p].Y1<=s[q].Y0:=by
 have:=lR.1 hc.ord p q (by simp;omega) (by simp;omega) h
 simp only [List.getElem_map] at this
 exact this.1
theorem yt {s:List aA} (hc:eC (s.map bR)) {p:Nat} (hp:p<s.length):s[p].Y0<s[p].Y1:=(hc.each (bR s[p]) (cR.2 ⟨_,cJ hp,rfl⟩)).1
theorem pZ {s:List aA} (hc:eC (s.map bR)): ∀b∈s,b.Xs.length % 2=0:=fun b hb=>(hc.each (bR b) (cR.2 ⟨b,hb,rfl⟩)).2.2.2
theorem Ec {s:List aA} (hc:eC (s.map bR)): ∀b∈s,l6 b.Xs:=fun b hb=>(hc.each (bR b) (cR.2 ⟨b,hb,rfl⟩)).2.2.1
theorem Ch {s:List aA} (hc:eC (s.map bR)) {i j q:Nat} (hq:q<s.length) (h1:gI s q<=j) (h2:j<gI s (q+1)) (ht:E6 (aO s) i j): ∃hq0:0<q,s[q - 1].Y1=s[q].Y0/\gI s (q - 1)<=i/\i<gI s q:=by
 obtain⟨a,c,ha,hb,e1,e2,e3⟩:=ht
 obtain⟨t,e4,ht,hj⟩:=sN (pZ hc) hq h1 h2
 rw [hj] at hb;injection hb with hb;subst hb
 have hil:=(bD.1 ha).1
 obtain⟨p,hp,p1,p2⟩:=Eb hil
 obtain⟨u,e5,hu,hi⟩:=sN (pZ hc) hp p1 p2
 rw [hi] at ha;injection ha with ha;subst ha
 have e1:s[p].Y1=s[q].Y0:=e1
 have hpp:=yt hc hp
 have hqq:=yt hc hq
 have hpq:p+1=q:=by
  rcases Nat.lt_trichotomy p q with h | h | h
  ·by_cases h':p+1=q
   ·exact h'
   ·have h3:=yr hc hp (show p+1<s.length by omega) (by omega)
    have h4:=yr hc (show p+1<s.length by omega) hq (by omega)
    have h5:=yt hc (show p+1<s.length by omega)
    omega
  ·subst h;omega
  ·have:=yr hc hq hp h;omega
 subst hpq
 exact⟨by omega,e1,p1,p2⟩
structure PJ (all:List aI) (n:Nat) (up:List Int) (r:Nat->Nat) (E:List (Nat×Nat)):Prop where
 uf:UF n up r
 co:mW r E
 fi:wt n r E
 so: ∀p∈E,E6 all p.1 p.2
theorem PJ.join {all:List aI} {n:Nat} {up up':List Int} {r:Nat->Nat} {E:List (Nat×Nat)} (h:PJ all n up r E) {i j:Nat} (hi:i<n) (hj:j<n) (hu:UF n up' (mH r (r i) (r j))) (ht:E6 all i j):PJ all n up' (mH r (r i) (r j)) (E++[(i,j)]):=
 ⟨hu,h.co.join i j (h.uf.rr i hi),h.fi.join hi hj,fun p hp=>by
  rcases cU.1 hp with hp | hp
  ·exact h.so p hp
  ·simp at hp;subst hp;exact ht⟩
structure Joined (all:List aI) (r:Nat->Nat):Prop where
 le: ∀i,i<all.length->r i<=i
 rr: ∀i,i<all.length->r (r i)=r i
 co: ∀i j,E6 all i j->r i=r j
 fi: ∀S:Nat->Prop,(∀i j,E6 all i j->(S i↔S j))->∀i j,i<all.length->j<all.length->r i=r j->S i->S j
def mh (all:List aI) (n:Nat) (r:Nat->Nat) (h:Nat):List aI:=(cls n r h).filterMap (fun i=>all[i]?)
theorem yu (all:List aI) (n:Nat) (r:Nat->Nat) (h:Nat): (mh all n r h).length<=n:=by
 have h1:=List.length_filterMap_le (fun i=>all[i]?) (cls n r h)
 have h2:=AW n r h
 unfold mh;omega
theorem sO {all:List aI} {n:Nat} {r:Nat->Nat} (h:Nat) {x:aI} (hx:all[n]? =some x):mh all (n+1) r h=if r n=h then mh all n r h++[x] else mh all n r h:=by
 unfold mh
 rw [rZ]
 split
 ·rw [List.filterMap_append];simp [hx]
 ·rfl
theorem nj {all:List aI} {n:Nat} {r:Nat->Nat} {h:Nat} {x:aI}:x∈mh all n r h↔∃i,i<n/\r i=h/\all[i]? =some x:=by
 unfold mh cls
 rw [List.mem_filterMap]
 constructor
 ·rintro⟨i,hi,h⟩
  have:=iB.1 hi
  exact⟨i,gm.1 this.1,by simpa using this.2,h⟩
 ·rintro⟨i,h1,h2,h3⟩
  exact⟨i,iB.2 ⟨gm.2 h1,by simpa using h2⟩,h3⟩
structure qC (s:List aA) (r:Nat->Nat) (ps:List (List aA)):Prop where
 join:Joined (aO s) r
 len:ps.length= (bV (aO s).length r).length
 each: ∀(j h:Nat) (p:List aA),(bV (aO s).length r)[j]? =some h->ps[j]? =some p->o8 (mh (aO s) (aO s).length r h) p
def MQ (n:Nat) (r:Nat->Nat) (m:List (Int×Int)):Prop:=(∀(j k:Nat),(bV n r)[j]? =some k->dM m ((k:Nat):Int) 0= ((j:Nat):Int))/\∀k:Nat,iW m ((k:Nat):Int)=decide (k∈bV n r)
theorem Dh {s:List aA} {X Y:List Int} (hc:eC (s.map bR)) (hl:uy X Y (s.map bR)) (hX: ∀c∈X,small c) (hY: ∀c∈Y,small c) (h1:s.length<=1073741824) (h2: ∀b∈s,b.Xs.length<=1073741824) (h3: (aO s).length<=134217728) (hN:4398046511104<=N):
  Ok (ka N s) (fun ps=>∃r,qC s r ps):=by
 unfold ka
 have hev:=pZ hc
 have hinc:=Ec hc
 refine Ok.eq (yn hev (by omega) (fun b hb=>by have:=h2 b hb;omega) (by omega)) ?_
 have hok:=yo hc hl hX hY
 have hall:gI s s.length= (aO s).length:=Cg s
 generalize hn: (aO s).length=n at *
 refine Ok.eq (o4 0 (by omega)) ?_
 rw [show ((List.replicate n (0:Int)).length)=n by simp]
 refine Ok.bind (Ok.iF (fun k up=>up.length=n/\∀i,i<k->up[i]? =some ((i:Nat):Int)) (by omega) ⟨by simp,fun i hi=>by omega⟩ (fun k up hk hI=>?_)) ?_
 ·obtain⟨hs,hi⟩:=hI
  refine Ok.idx (by omega) (Ok.ret ⟨by simp [hs],fun i hi'=>?_⟩)
  rw [bS,lY (by omega)]
  split
  ·rename_i e;rw [e]
  ·exact hi i (by omega)
 rintro up0 ⟨hu1,hu2⟩
 refine Ok.bind (Ok.iF (fun k st=>st.2.1= ((gI s k:Nat):Int)/\(0<k->st.2.2= ((gI s (k - 1):Nat):Int))/\∃r E,PJ (aO s) n st.1 r E/\∀q,q<k->∀i j,gI s q<=j->j<gI s (q+1)->E6 (aO s) i j->(i,j)∈E) (by omega)
  ⟨rfl,fun h=>by omega,_,_,⟨UF.init n up0 hu1 hu2,mW.id,wt.id n,fun p hp=>(by cases hp)⟩,fun q hq=>by omega⟩ (fun k st hk hI=>?_)) ?_
 ·obtain⟨up,a,b⟩:=st
  obtain⟨e1,e2,r,E,hP,hE⟩:=hI
  dsimp only at e1 e2 hP ⊢
  subst e1
  refine Ok.idx hk ?_
  have hoff:=wu hk
  have hoffle:gI s (k+1)<=n:=by rw [<-hall];exact wv hk
  have hkm:=cJ hk
  have hlen:IntKind.wrap .i64 (Int.tdiv ((s[k].Xs.length:Nat):Int) 2)= ((s[k].Xs.length / 2:Nat):Int):=by
   have:=h2 _ hkm
   rw [show (2:Int)= ((2:Nat):Int) by rfl,<-Int.ofNat_tdiv,Cd (by omega)]
  rw [hlen,wrap_add (by omega),<-hoff]
  refine Ok.bind (P:=fun c=>c=true↔∃h0:0<k,s[k - 1].Y1=s[k].Y0) ?_ (fun c hcc=>?_)
  ·refine Ok.bif (fun h=>?_) (fun h=>Ok.ret ?_)
   ·have hpos:0<k:=by have:=of_decide_eq_true h;omega
    rw [kh hpos (by omega)]
    refine Ok.idx (by omega) (Ok.ret ?_)
    rw [beq_iff_eq]
    exact⟨fun h=>⟨hpos,h⟩,fun⟨_,h⟩=>h⟩
   ·have:=of_decide_eq_false h
    constructor
    ·intro h;cases h
    ·rintro⟨h0,_⟩;omega
  refine Ok.bind (P:=fun up'=>∃r E,PJ (aO s) n up' r E/\∀q,q<k+1->∀i j,gI s q<=j->j<gI s (q+1)->E6 (aO s) i j->(i,j)∈E) ?_ (fun up' hI=>Ok.ret ⟨rfl,fun _=>rfl,hI⟩)
  refine Ok.bif (fun h=>?_) (fun h=>Ok.ret ⟨r,E,hP,fun q hq i j q1 q2 ht=>?_⟩)
  ·obtain⟨hpos,hyy⟩:=hcc.1 h
   rw [e2 hpos]
   have hoffp:=wu (show k - 1<s.length by omega)
   rw [show k - 1+1=k by omega] at hoffp
   refine Ok.bind (Ok.np (Go:=fun st=>∃r E,PJ (aO s) n st.1 r E/\∀q,q<k+1->∀i j,gI s q<=j->j<gI s (q+1)->E6 (aO s) i j->(i,j)∈E) (Rt:=fun _=>True)
    (fun st=>∃i j:Nat,st.2.1= ((i:Nat):Int)/\st.2.2= ((j:Nat):Int)/\gI s (k - 1)<=i/\i<=gI s k/\gI s k<=j/\j<=gI s (k+1)/\∃r E,PJ (aO s) n st.1 r E/\(∀q,q<k->∀i j,gI s q<=j->j<gI s (q+1)->E6 (aO s) i j->(i,j)∈E)/\
     ∀i' j',gI s (k - 1)<=i'->i'<gI s k->gI s k<=j'->j'<gI s (k+1)->(i'<i\/j'<j)->E6 (aO s) i' j'->(i',j')∈E)
    (fun st=>(n - st.2.1.toNat)+ (n - st.2.2.toNat)) ?_ ?_ (by simp only [bS];omega)) (fun o ho=>Ok.cs ho (fun st h=>Ok.ret h) (fun r=>r.elim))
   ·rintro⟨up,a,b⟩ ⟨i,j,e3,e4,i1,i2,j1,j2,r,E,hP,hE,hE2⟩
    dsimp only at e3 e4 hP ⊢
    subst e3;subst e4
    refine Ok.bif (fun h=>?_) (fun h=>Ok.br ?_)
    ·rw [bT,bK,bK] at h
     have hi:i<gI s k:=by omega
     have hj:j<gI s (k+1):=by omega
     obtain⟨t,et,_,hri⟩:=sN hev (show k - 1<s.length by omega) i1 (by rw [show k - 1+1=k by omega];exact hi)
     obtain⟨u,eu,_,hrj⟩:=sN hev hk j1 hj
     have xi:=hinc _ (cJ (show k - 1<s.length by omega))
     have xj:=hinc _ hkm
     have farI: ∀i' a,i<i'->i'<gI s k->(aO s)[i']? =some a->s[k - 1].Xs[2*t+1]<a.X0:=fun i' a h4 h5 h6=>by
      obtain⟨t',et',ht',hr'⟩:=sN hev (show k - 1<s.length by omega) (show gI s (k - 1)<=i' by omega) (by rw [show k - 1+1=k by omega];exact h5)
      rw [hr'] at h6;injection h6 with h6;subst h6
      exact xi.lt (show 2*t+1<2*t' by omega) (aJ _) (aJ _)
     have farJ: ∀j' a,j<j'->j'<gI s (k+1)->(aO s)[j']? =some a->s[k].Xs[2*u+1]<a.X0:=fun j' a h4 h5 h6=>by
      obtain⟨u',eu',hu',hr'⟩:=sN hev hk (show gI s k<=j' by omega) h5
      rw [hr'] at h6;injection h6 with h6;subst h6
      exact xj.lt (show 2*u+1<2*u' by omega) (aJ _) (aJ _)
     refine Ok.bind (P:=fun c=>c=true↔E6 (aO s) i j) ?_ (fun c hct=>?_)
     ·refine Ok.ix hri (Ok.ix hrj (Ok.bif (fun h=>Ok.ix hrj (Ok.ix hri (Ok.ret ?_))) (fun h=>Ok.ret ?_)))
      ·rw [bK] at h ⊢
       constructor
       ·intro h';exact⟨_,_,hri,hrj,hyy,h,h'⟩
       ·rintro⟨a,c,ha,hc',_,_,h'⟩
        rw [hri] at ha;injection ha with ha;subst ha
        rw [hrj] at hc';injection hc' with hc';subst hc'
        exact h'
      ·constructor
       ·intro h;cases h
       ·rintro⟨a,c,ha,hc',_,h',_⟩
        rw [hri] at ha;injection ha with ha;subst ha
        rw [hrj] at hc';injection hc' with hc';subst hc'
        rw [decide_eq_false_iff_not] at h;exact absurd h' h
     refine Ok.bind (P:=fun up'=>∃r E',PJ (aO s) n up' r E'/\(∀p∈E,p∈E')/\(E6 (aO s) i j->(i,j)∈E')) ?_ ?_
     ·refine Ok.bif (fun h=>?_) (fun h=>Ok.ret ⟨r,E,hP,fun p hp=>hp,fun ht=>by rw [hct.2 ht] at h;cases h⟩)
      obtain⟨up',u1,u2⟩:=GF (N:=N) (f:=fun x=>some x) hP.uf (i:=i) (k:=j) (by omega) (by omega) (by omega)
      refine⟨up',u1,_,_,hP.join (by omega) (by omega) u2 (hct.1 h),fun p hp=>List.mem_append_left _ hp,fun _=>by simp⟩
     ·rintro up' ⟨r',E',hP',hsub,hij⟩
      refine Ok.ix hri (Ok.ix hrj ?_)
      dsimp only
      by_cases hx:s[k - 1].Xs[2*t+1]<s[k].Xs[2*u+1]
      ·rw [cD hx,aR]
       refine Ok.eq (x:=(((i+1:Nat):Int),((j:Nat):Int))) (by rw [fK (by omega)]) (Ok.nx ⟨⟨i+1,j,rfl,rfl,by omega,by omega,j1,j2,r',E',hP',fun q hq i j q1 q2 ht=>hsub _ (hE q hq i j q1 q2 ht),fun i' j' g1 g2 g3 g4 g5 ht=>?_⟩,by simp only [bS];omega⟩)
       by_cases h5:i'<i\/j'<j
       ·exact hsub _ (hE2 i' j' g1 g2 g3 g4 h5 ht)
       ·have:i'=i:=by omega
        subst this
        by_cases h6:j'=j
        ·subst h6;exact hij ht
        ·exfalso
         obtain⟨a,c,ha,hc',_,_,h'⟩:=ht
         rw [hri] at ha;injection ha with ha;subst ha
         have:=farJ j' c (by omega) g4 hc'
         dsimp only at h';omega
      ·rw [bF hx,aS]
       refine Ok.eq (x:=(((i:Nat):Int),((j+1:Nat):Int))) (by rw [fK (by omega)]) (Ok.nx ⟨⟨i,j+1,rfl,rfl,i1,i2,by omega,by omega,r',E',hP',fun q hq i j q1 q2 ht=>hsub _ (hE q hq i j q1 q2 ht),fun i' j' g1 g2 g3 g4 g5 ht=>?_⟩,by simp only [bS];omega⟩)
       by_cases h5:i'<i\/j'<j
       ·exact hsub _ (hE2 i' j' g1 g2 g3 g4 h5 ht)
       ·have:j'=j:=by omega
        subst this
        by_cases h6:i'=i
        ·subst h6;exact hij ht
        ·exfalso
         obtain⟨a,c,ha,hc',_,h',_⟩:=ht
         rw [hrj] at hc';injection hc' with hc';subst hc'
         have:=farI i' a (by omega) g2 ha
         dsimp only at h';omega
    ·refine⟨r,E,hP,fun q hq i' j' q1 q2 ht=>?_⟩
     by_cases hqk:q<k
     ·exact hE q hqk i' j' q1 q2 ht
     ·have:q=k:=by omega
      subst this
      obtain⟨_,_,g1,g2⟩:=Ch hc hk q1 q2 ht
      refine hE2 i' j' g1 g2 q1 q2 ?_ ht
      rw [Bool.and_eq_false_iff,decide_eq_false_iff_not,decide_eq_false_iff_not] at h
      omega
   ·exact⟨gI s (k - 1),gI s k,rfl,rfl,bP _,wv (by omega),bP _,wv (by omega),r,E,hP,hE,fun i' j' g1 g2 g3 g4 g5=>by omega⟩
  ·by_cases hqk:q<k
   ·exact hE q hqk i j q1 q2 ht
   ·have:q=k:=by omega
    subst this
    obtain⟨g0,g1,_⟩:=Ch hc hk q1 q2 ht
    rw [hcc.2 ⟨g0,g1⟩] at h;cases h
 ·rintro⟨up,a,b⟩ ⟨_,_,r,E,hP,hE⟩
  dsimp only at hP ⊢
  have hEq: ∀i j,E6 (aO s) i j->(i,j)∈E:=fun i j ht=>by
   have hjl:j< (aO s).length:=by obtain⟨a,c,_,hb,_⟩:=ht;exact(bD.1 hb).1
   obtain⟨q,hq,q1,q2⟩:=Eb hjl
   exact hE q hq i j q1 q2 ht
  have hJ:Joined (aO s) r:=⟨by rw [hn];exact hP.uf.le,by rw [hn];exact hP.uf.rr,fun i j ht=>hP.co (i,j) (hEq i j ht),fun S hS i j hi hj=>by
   rw [hn] at hi hj
   exact hP.fi S (fun p hp=>hS p.1 p.2 (hP.so p hp)) i j hi hj⟩
  refine Ok.bind (Ok.iF (fun k st=>UF n st.1 r/\MQ k r st.2.1/\st.2.2= (bV k r).map (mh (aO s) k r)) (by omega) ⟨hP.uf,⟨fun j k hj=>by simp [bV] at hj,fun k=>rfl⟩,rfl⟩ (fun k st hk hI=>?_)) ?_
  ·obtain⟨l,m,ls⟩:=st
   obtain⟨hu,⟨hm1,hm2⟩,hs⟩:=hI
   dsimp only at hu hm1 hm2 hs ⊢
   subst hs
   have hkx: (aO s)[k]? =some ((aO s)[k]'(by omega)):=aJ (by omega)
   refine Ok.ix hkx ?_
   obtain⟨u',a1,a2⟩:=AX (N:=N) hu hk (by omega)
   refine Ok.eq a1 ?_
   dsimp only
   have hhl:=mX k r
   have hrk:=hP.uf.le k hk
   have hrr:=hP.uf.rr k hk
   have hcl:=yu (aO s) k r (r k)
   have hmap: ((bV k r).map (mh (aO s) k r)).length= (bV k r).length:=by simp
   rw [hm2]
   by_cases e:r k=k
   ·have hnot:r k∉bV k r:=fun h=>by have:=(hZ.1 h).1;omega
    refine Ok.eq (x:=(ph m ((r k:Nat):Int) (((bV k r).length:Nat):Int),(bV k r).map (mh (aO s) k r)++[([]:List aI)],(((bV k r).length:Nat):Int))) ?_ ?_
    ·rw [bF hnot,mj,aR,gH (by simp;omega),aB,hmap]
    ·dsimp only
     have hi: ((bV k r).map (mh (aO s) k r)++[([]:List aI)])[(bV k r).length]? =some []:=by rw [<-hmap,fF (bP _),Nat.sub_self];rfl
     refine Ok.ix hi (Ok.app (by simp) (Ok.ix hi (Ok.ret ⟨a2,⟨fun j q hj=>?_,fun q=>?_⟩,?_⟩)))
     ·dsimp only
      rw [jw,aD e] at hj
      rw [jd]
      by_cases e2:j< (bV k r).length
      ·rw [fM e2] at hj
       have:=(hZ.1 (gT hj)).1
       rw [aC (by omega)];exact hm1 j q hj
      ·rw [fF (by omega)] at hj
       have hj0:j - (bV k r).length=0:=by
        have:=(bD.1 hj).1;simp at this;omega
       rw [hj0] at hj;simp at hj;subst hj
       rw [aD (by rw [e])];congr 1;omega
     ·dsimp only
      rw [ll,hm2,jw,aD e,fO]
      rw [dS,bK,bK,bK,cU,List.mem_singleton,e]
      constructor
      ·rintro(h | h)
       ·exact .inr (by omega)
       ·exact .inl h
      ·rintro(h | h)
       ·exact .inr h
       ·exact .inl (by omega)
     ·dsimp only
      rw [bS,<-hmap,List.set_append_right _ _ (bP _),Nat.sub_self,jw,aD e,eQ]
      congr 1
      ·apply List.map_congr_left
       intro a ha
       have:=(hZ.1 ha).1
       rw [sO a hkx,aC (by omega)]
      ·simp only [List.set_cons_zero,eG,List.map_nil,List.nil_append]
       rw [sO k hkx,aD e]
       have:mh (aO s) k r k= []:=by unfold mh;rw [Ea (fun i hi=>hP.uf.le i (by omega)) (bP _)];rfl
       rw [this];rfl
   ·have hh:r k∈bV k r:=hZ.2 ⟨by omega,hrr⟩
    obtain⟨j,hj⟩:=gk hh
    refine Ok.eq (x:=(m,(bV k r).map (mh (aO s) k r),((j:Nat):Int))) ?_ ?_
    ·rw [cD hh,lS,aS,hm1 j (r k) hj]
    ·dsimp only
     have hi: ((bV k r).map (mh (aO s) k r))[j]? =some (mh (aO s) k r (r k)):=by rw [fG,hj];rfl
     refine Ok.ix hi (Ok.app (by simp;omega) (Ok.ix hi (Ok.ret ⟨a2,⟨fun j' q hj'=>?_,fun q=>?_⟩,?_⟩)))
     ·rw [jw,aC e] at hj';exact hm1 j' q hj'
     ·rw [jw,aC e];exact hm2 q
     ·dsimp only
      rw [bS,jw,aC e]
      have:=r5 (mh (aO s) k r) (mh (aO s) (k+1) r) (bV k r) j (r k) (mf k r) hj (fun b hb hne=>by
       rw [sO b hkx,aC (fun h=>hne h.symm)])
      rw [sO (r k) hkx,aD rfl] at this
      exact this
  ·rintro⟨l,m,ls⟩ ⟨_,_,hs⟩
   dsimp only at hs ⊢
   subst hs
   have hhl:=mX n r
   refine Ok.bind (Ok.iF (fun k ps=>ps.length=k/\∀(j h:Nat) (p:List aA),j<k->(bV n r)[j]? =some h->ps[j]? =some p->o8 (mh (aO s) n r h) p) (by simp;omega) ⟨rfl,fun j h p hj=>by omega⟩ (fun k ps hk hI=>?_)) ?_
   ·obtain⟨hp1,hp2⟩:=hI
    have hk':k< (bV n r).length:=by simpa using hk
    refine Ok.ix (x:=mh (aO s) n r (bV n r)[k]) (by rw [fG,aJ hk'];rfl) ?_
    have hcl:=yu (aO s) n r (bV n r)[k]
    refine Ok.bind (qB (N:=N) (by omega) (fun x hx=>?_) (by omega)) ?_
    ·obtain⟨i,_,_,h⟩:=nj.1 hx
     exact(hok x (gT h)).1
    ·intro p hp
     refine Ok.app (by rw [hp1];simp;omega) (Ok.ret ⟨by simp [hp1],fun j h q hj hh hq=>?_⟩)
     by_cases hjk:j<k
     ·rw [fM (by omega)] at hq
      exact hp2 j h q hjk hh hq
     ·have:j=k:=by omega
      subst this
      rw [fF (by omega),hp1,Nat.sub_self] at hq
      simp at hq;subst hq
      rw [aJ hk'] at hh;injection hh with hh;subst hh
      exact hp
   ·rintro ps ⟨hp1,hp2⟩
    refine Ok.ret ⟨r,hJ,?_,fun j h p hh hp=>?_⟩
    ·rw [hp1,hn];simp
    ·rw [hn] at hh ⊢
     exact hp2 j h p (by have:=(bD.1 hp).1;omega) hh hp
end
end Go.Gk
namespace Go.Gk
open Go
section
variable {N:Nat}
theorem kz {n:Int} (h: -9223372036854775808<=n/\n<=9223372036854775807):IntKind.wrap .i64 n=n:=by rw [IntKind.wrap_i64];omega
def ig (n lo hi:Int):Bool:=decide (n>=lo)&&decide (n<=hi)
def oG (n:Int):Bool:=ig n (-1000000) 1000000
def tx (p:eN):Bool:=oG p.X&&oG p.Y
def dA (r:aI):Bool:=oG r.X0&&(oG r.Y0&&(oG r.X1&&oG r.Y1))
theorem yv (n:Int):jV N n=some (oG n):=rfl
theorem wP (p:eN):iG N p=some (tx p):=by
 unfold iG tx
 rw [yv,aB,yv]
 cases oG p.X <;> rfl
theorem yw (r:aI):kY N r=some (dA r):=by
 unfold kY dA
 simp only [yv,aB]
 cases oG r.X0 <;> cases oG r.Y0 <;> cases oG r.X1 <;> rfl
theorem Ci {a b:Int} (h:a≠b):fR (N+4) [a,b]=some [a,b]:=by
 have e: (b==a)=false:=by rw [beq_eq_false_iff_ne];exact fun e=>h e.symm
 have w1:IntKind.wrap .i64 ((1:Int) - 1)=0:=by decide
 have w2:IntKind.wrap .i64 ((1:Int)+1)=2:=by decide
 unfold fR
 have e1:idx [a,b] 1=some b:=rfl
 have e2:idx [a,b] 0=some a:=rfl
 have l2: (([a,b]:List Int).length:Int)=2:=rfl
 rw [l2,show decide ((2:Int)<2)=false by decide,aS]
 rw [np.eq_def]
 dsimp only
 rw [show decide ((1:Int)<2)=true by decide,aR,e1,aB,w1,e2,aB,e,aS,aB,w2]
 dsimp only
 rw [np.eq_def]
 dsimp only
 rw [show decide ((2:Int)<2)=false by decide,aS,aB]
 rfl
theorem IM (x:Int):IntKind.wrap .i64 (x - x)=0:=by rw [Int.sub_self];decide
theorem E7 {r:aI} (hx:r.X0<r.X1) (hy:r.Y0<r.Y1):fX (N+16) [r]=some [⟨r.Y0,r.Y1,[r.X0,r.X1]⟩]:=by
 have s1:uG (iM (N+16)) [r]=some [r]:=zI (by unfold iM;rw [IM])
 have s2:uG (fS (N+16)) [r]=some [r]:=zI (by unfold fS;rw [IM])
 have s3:rl [r.Y0,r.Y1]=some [r.Y0,r.Y1]:=y9 (by simp;omega) (by simp)
 have c1:g9 (N+16) [r]=some [r]:=rfl
 have f1: ∀φ,gr (N+16) [] φ=some []:=fun φ=>rfl
 have st:ik (N+16) [r]=some ([r.X0,r.X1],[r]):=by
  unfold ik
  rw [s2,aB]
  rfl
 have pu: ∀b:aA,b.Xs= [r.X0,r.X1]->b.Y0<b.Y1->gW (N+16) [] b=some [b]:=fun b h1 h2=>by
  unfold gW
  rw [h1,bF (show ¬b.Y1<=b.Y0 by omega)]
  rfl
 unfold fX
 rw [c1,aB,s1,aB]
 have ys: (iF ([r]:List aI).length (fun(k35:Nat) (s36: (List Int))=>((idx [r] (k35:Int)).bind fun x54=>(app 8 s36 ([x54.Y0,x54.Y1]: (List Int))).bind fun x58=>some x58:Option ((List Int)))) ([]: (List Int)))=some [r.Y0,r.Y1]:=rfl
 rw [ys,aB,s3,aB,Ci (N:=N+12) (by omega),aB]
 have l2: (([r.Y0,r.Y1]:List Int).length:Int)=2:=rfl
 have l1: (([r]:List aI).length:Int)=1:=rfl
 have w1:IntKind.wrap .i64 ((0:Int)+1)=1:=by decide
 have w2:IntKind.wrap .i64 ((1:Int)+1)=2:=by decide
 have i0:idx [r.Y0,r.Y1] 0=some r.Y0:=rfl
 have i1:idx [r.Y0,r.Y1] 1=some r.Y1:=rfl
 have j0:idx [r] 0=some r:=rfl
 have a1:app 32 ([]:List aI) [r]=some [r]:=rfl
 rw [l2,l1]
 rw [np.eq_def]
 dsimp only
 rw [w1,show decide ((1:Int)<2)=true by decide,aR,f1,aB]
 rw [np.eq_def]
 dsimp only
 rw [show decide ((0:Int)<1)=true by decide,aR,j0,aB,i0,aB,aB,show decide (r.Y0<=r.Y0)=true by simp,aR,aB,a1,aB,w1,aB]
 dsimp only
 rw [np.eq_def]
 dsimp only
 rw [show decide ((1:Int)<1)=false by decide,aS,aB,aS,aB,aB]
 unfold Fo.cs
 dsimp only
 rw [aB,i1,aB,st,aB,pu _ rfl hy,aB,aB]
 dsimp only
 rw [np.eq_def]
 dsimp only
 rw [w2,show decide ((2:Int)<2)=false by decide,aS,aB]
 rfl
theorem GG {r:aI} (hx:r.X0<r.X1):kG N [⟨r.Y0,r.Y1,[r.X0,r.X1]⟩]=some (dA r):=by
 have ar:k6 N [⟨r.Y0,r.Y1,[r.X0,r.X1]⟩]=some r:=by
  have e1: (if r.X0<r.X0 then r.X0 else r.X0)=r.X0:=by split <;> rfl
  have e2: (if r.X1<r.X1 then r.X1 else r.X1)=r.X1:=by split <;> rfl
  show some ({X0:=(if r.X0<r.X0 then r.X0 else r.X0),Y0:=r.Y0,X1:=(if r.X1<r.X1 then r.X1 else r.X1),Y1:=r.Y1}:aI)=some r
  rw [e1,e2]
 unfold kG
 rw [ar,aB,yw]
 rfl
def xw (b:bZ):aI:=⟨b.At.X - b.eZ / 2,b.At.Y - b.eZ / 2,b.At.X - b.eZ / 2+b.eZ,b.At.Y - b.eZ / 2+b.eZ⟩
def r6 (b:bZ):Bool:=ig b.eZ 1 10000&&tx b.At
def m4 (b:bZ):aI×Int:=if r6 b&&dA (xw b) then (xw b,0) else (⟨0,0,0,0⟩,1)
theorem r7 {b:bZ} (h:r6 b=true): (1<=b.eZ/\b.eZ<=10000)/\(-1000000<=b.At.X/\b.At.X<=1000000)/\(-1000000<=b.At.Y/\b.At.Y<=1000000):=by
 simp only [r6,ig,tx,oG,bT,decide_eq_true_iff] at h
 omega
theorem mg {b:bZ} (h:r6 b=true):eW N b=some (xw b):=by
 obtain⟨h1,h2,h3⟩:=r7 h
 have t:Int.tdiv b.eZ 2=b.eZ / 2:=Int.tdiv_eq_ediv_of_nonneg (by omega)
 unfold eW xw
 rw [t,kz (n:=b.eZ / 2) (by omega),kz (n:=b.At.X - b.eZ / 2) (by omega),kz (n:=b.At.Y - b.eZ / 2) (by omega),kz (by omega),kz (by omega)]
theorem wx {b:bZ}:kf (N+16) b=some (m4 b):=by
 have e0:gl (N+16) b.eZ 1 10000=some (ig b.eZ 1 10000):=rfl
 have e1: (bif (!(ig b.eZ 1 10000)) then (some true) else (some (!(tx b.At))))=some (!r6 b):=by unfold r6;cases ig b.eZ 1 10000 <;> rfl
 unfold kf m4
 rw [e0,aB,wP,aB,e1,aB]
 cases hf:r6 b with
 | false=>rfl
 | true=>
  obtain⟨h1,h2,h3⟩:=r7 hf
  have hx: (xw b).X0< (xw b).X1:=by simp only [xw];omega
  have hy: (xw b).Y0< (xw b).Y1:=by simp only [xw];omega
  rw [lS,aS,mg hf,aB,E7 hx hy,aB,GG hx,aB]
  cases dA (xw b) <;> rfl
end
end Go.Gk
namespace Go.Gk
open Go
section
variable {N:Nat}
def Jw (c:UInt8):Bool:=
 ((((decide (((c.toNat:Nat):Int)<65))||(decide (((c.toNat:Nat):Int)>90)))&&((decide (((c.toNat:Nat):Int)<97))||(decide (((c.toNat:Nat):Int)>122))))&&((decide (((c.toNat:Nat):Int)<48))||(decide (((c.toNat:Nat):Int)>57))))&&decide (Lib.indexByte [95,43,45,35] c<0)
def isWord (s:dJ):Bool:= !s.cS.any Jw&&(decide (1<=s.cS.length)&&decide (s.cS.length<=40))
theorem vt (s:dJ) (c:UInt8):hU N s ((c.toNat:Nat):Int)=some (Lib.indexByte s.cS c):=by
 show some (Lib.indexByte s.cS (Int.toNat ((c.toNat:Nat):Int)).toUInt8)=_
 rw [bS];simp
theorem Di {R:Type} (b1:Bool) (c:UInt8) (r:R):
  ((bif b1 then ((hU N (⟨[95,43,45,35]⟩) ((c.toNat:Nat):Int)).bind fun x14=>some (decide (x14<0))) else (some false)).bind fun s12=>bif s12 then (some (.rt r)) else (some (.nx ())):Option (Fl Unit R))=some (if (b1&&decide (Lib.indexByte [95,43,45,35] c<0))=true then .rt r else .nx ()):=by
 rw [vt,aB]
 cases b1
 ·rfl
 ·rw [aR,aB,Bool.true_and]
  cases decide (Lib.indexByte [95,43,45,35] c<0) <;> rfl
theorem o9 {s:dJ} (h:s.cS.length<=1048576):gX N s=some (isWord s):=by
 unfold gX
 rw [HW Jw false (by omega) (fun k x hx=>by
  have hk:=(bD.1 hx).1
  have e:Et s ((k:Nat):Int)=some x:=by rw [Gg s k hk,<-aJ hk,hx]
  rw [e,aB]
  exact Di (R:=Bool) _ x false),aB]
 unfold isWord
 cases s.cS.any Jw
 ·simp only [Fo.cs,mj,Bool.true_and,Bool.false_eq_true,if_false,Option.some.injEq]
  rw [fO,bT,bT]
  simp only [bK]
  omega
 ·simp [Fo.cs]
def cutAt (c:UInt8):List UInt8->List (List UInt8)
 | []=>[[]]
 | b::l=>if b==c then []::cutAt c l else match cutAt c l with | h::t=>(b::h)::t | []=>[[b]]
theorem yx {c:UInt8}: ∀{l:List UInt8},c∉l->cutAt c l= [l]
 | [],_=>rfl
 | b::l,h=>by
  unfold cutAt
  have hb: (b==c)=false:=by rw [beq_eq_false_iff_ne];rintro rfl;exact h (by simp)
  rw [hb,yx (fun h'=>h (by simp [h']))];rfl
theorem Cj {c:UInt8}: ∀{a b:List UInt8},c∉a->cutAt c (a++c::b)=a::cutAt c b
 | [],b,_=>by rw [List.nil_append];show (if (c==c)=true then _ else _)=_;simp
 | x::a,b,h=>by
  have hb: (x==c)=false:=by rw [beq_eq_false_iff_ne];rintro rfl;exact h (by simp)
  have ih:=Cj (c:=c) (a:=a) (b:=b) (fun h'=>h (by simp [h']))
  show (if (x==c)=true then []::cutAt c (a++c::b) else match cutAt c (a++c::b) with | h::t=>(x::h)::t | []=>[[x]])=_
  rw [hb,ih];rfl
theorem r8: ∀(l:List UInt8) (c:UInt8),(Lib.indexByte l c = -1/\c∉l)\/∃a b,l=a++c::b/\c∉a/\Lib.indexByte l c= ((a.length:Nat):Int)
 | [],c=> .inl ⟨rfl,by simp⟩
 | x::l,c=>by
  unfold Lib.indexByte
  by_cases hx:x=c
  ·subst hx;exact .inr ⟨[],l,rfl,by simp,by simp⟩
  ·have hb: (x==c)=false:=by rw [beq_eq_false_iff_ne];exact hx
   rcases r8 l c with ⟨h1,h2⟩ | ⟨a,b,h1,h2,h3⟩
   ·left;rw [hb,h1];refine⟨by simp,?_⟩;simp [h2];exact fun h=>hx h.symm
   ·right
    refine⟨x::a,b,by rw [h1];rfl,by simp [h2];exact fun h=>hx h.symm,?_⟩
    rw [hb,h3]
    have: (((a.length:Nat):Int)== -1)=false:=by rw [beq_eq_false_iff_ne];omega
    rw [this];simp
theorem GH (s:dJ) (c:UInt8):kg N s ⟨[c]⟩=some (Lib.indexByte s.cS c):=by
 show (ji N s ⟨[c]⟩).bind _=_
 unfold ji
 by_cases h:dJ.CL ⟨[c]⟩ s=true
 ·have:s= ⟨[c]⟩:=(HV.1 h).symm
  subst this
  rw [h];simp [Lib.indexByte]
 ·rw [oT] at h
  rw [h]
  show ((gG N s ((c.toNat:Nat):Int)).bind _).bind _=_
  have:=vt (N:=N) s c
  simp only [hU] at this
  rw [this];rfl
theorem GI (s:dJ) (c:UInt8):lE N s ⟨[c]⟩=some ((s.cS.count c:Nat):Int):=by
 unfold lE
 show (some _:Option Int)=_
 simp [Lib.countByte]
theorem E8 {s:dJ} {k:Nat} (h:k<=s.cS.length):tI s 0 ((k:Nat):Int)=some ⟨s.cS.take k⟩:=by
 unfold tI;rw [aD ⟨by omega,by omega,by omega⟩]
 simp only [Int.toNat_zero,List.drop_zero,Int.sub_zero,bS]
theorem E9 {s:dJ} {k:Nat} (h:k<=s.cS.length):tI s ((k:Nat):Int) ((s.cS.length:Nat):Int)=some ⟨s.cS.drop k⟩:=by
 unfold tI;rw [aD ⟨by omega,by omega,by omega⟩]
 simp only [bS]
 rw [oU];rw [gO];omega
def qD (s:dJ) (c:UInt8):List dJ:=(cutAt c s.cS).map dJ.mk
theorem GJ {s:dJ} (c:UInt8) (h:s.cS.length<=1048576) (hN:4194304<=N):lF N s ⟨[c]⟩=some (qD s c):=by
 have hc:s.cS.count c<=s.cS.length:=List.count_le_length
 unfold lF k7
 rw [show ((-1:Int)==0)=false by decide,aS,show dJ.CL ⟨[c]⟩ ⟨[]⟩=false by simp [dJ.CL],aS,GI,aB]
 rw [fx (x:=((s.cS.count c:Nat):Int)+1) (by omega) (by omega),show decide ((-1:Int)<0)=true by decide,aR,aB]
 rw [fx (x:=((s.cS.length:Nat):Int)+1) (by omega) (by omega)]
 have e1: (if ((s.cS.length:Nat):Int)+1< ((s.cS.count c:Nat):Int)+1 then ((s.cS.length:Nat):Int)+1 else ((s.cS.count c:Nat):Int)+1)= ((s.cS.count c+1:Nat):Int):=by
  rw [aC (by omega)];omega
 rw [e1,o4 _ (by omega),aB]
 rw [fx (x:=((s.cS.count c+1:Nat):Int) - 1) (by omega) (by omega)]
 have key:=uX (S:=dJ×List dJ×Int) (R:=Empty) (body:=(fun(s7:dJ×(List dJ)×Int)=>(bif (decide (s7.2.2< ((s.cS.count c+1:Nat):Int) - 1)) then ((kg N s7.1 ⟨[c]⟩).bind fun x23=>bif (decide (x23<0)) then (some (.br (s7.1,s7.2.1,s7.2.2))) else ((tI s7.1 0 (IntKind.wrap .i64 (x23+0))).bind fun x24=>(idx s7.2.1 s7.2.2).bind fun x25=>(tI s7.1 (IntKind.wrap .i64 (x23+ (((⟨[c]⟩:dJ).cS.length:Nat):Int))) ((s7.1.cS.length:Nat):Int)).bind fun x27=>some (.nx (x27,(s7.2.1.set (Int.toNat s7.2.2) x24),(IntKind.wrap .i64 (s7.2.2+1)))))) else (some (.br (s7.1,s7.2.1,s7.2.2))):Option (Fl (dJ×(List dJ)×Int) Empty))))
  (fun st=>∃ws:List (List UInt8),st.2.2= ((ws.length:Nat):Int)/\cutAt c s.cS=ws++cutAt c st.1.cS/\ws.length+st.1.cS.count c=s.cS.count c/\st.1.cS.length<=s.cS.length/\st.2.1=ws.map dJ.mk++List.replicate (s.cS.count c+1 - ws.length) ⟨[]⟩)
  (fun st=>s.cS.count c+1 - st.2.2.toNat)
  (fun st=>∃ws:List (List UInt8),st.2.2= ((ws.length:Nat):Int)/\cutAt c s.cS=ws++[st.1.cS]/\ws.length=s.cS.count c/\st.2.1=ws.map dJ.mk++[⟨[]⟩])
  (fun _=>True) (by
   rintro⟨r,arr,i⟩ ⟨ws,h1,h2,h3,h4,h5⟩
   simp only at h1 h2 h3 h4 h5
   subst h1 h5
   by_cases hlt:ws.length<s.cS.count c
   ·have hd:decide (((ws.length:Nat):Int)< ((s.cS.count c+1:Nat):Int) - 1)=true:=by rw [bK];omega
    simp only [hd,aR,GH,aB]
    rcases r8 r.cS c with ⟨_,hn⟩ | ⟨a,b,hr,ha,hi⟩
    ·rw [List.count_eq_zero_of_not_mem hn] at h3;omega
    ·have hrl:r.cS.length=a.length+ (b.length+1):=by rw [hr];simp
     rw [hi,bF (by omega),aS]
     rw [show ((a.length:Nat):Int)+0= ((a.length:Nat):Int) by omega,fx (x:=((a.length:Nat):Int)) (by omega) (by omega),E8 (by omega),aB]
     rw [jD _ _ (by simp;omega),aB]
     rw [show ((a.length:Nat):Int)+ (((⟨[c]⟩:dJ).cS.length:Nat):Int)= ((a.length+1:Nat):Int) by simp,fx (x:=((a.length+1:Nat):Int)) (by omega) (by omega),E9 (by omega),aB]
     refine⟨_,rfl,⟨ws++[a],?_,?_,?_,?_,?_⟩,?_⟩
     ·simp only;rw [fx (by omega) (by omega)];simp
     ·simp only
      rw [h2,hr,Cj ha];simp
     ·simp only
      rw [hr] at h3 ⊢
      simp [List.count_eq_zero_of_not_mem ha] at h3 ⊢;omega
     ·simp;omega
     ·simp only [bS]
      rw [List.set_append_right _ _ (by simp)]
      simp only [fD,Nat.sub_self]
      obtain⟨d,hd'⟩: ∃d,s.cS.count c+1 - ws.length=d+1:=⟨s.cS.count c - ws.length,by omega⟩
      rw [hd',List.replicate_succ,List.set_cons_zero,show s.cS.count c+1 - (ws++[a]).length=d by simp;omega]
      simp [hr]
     ·simp only;rw [fx (by omega) (by omega)];omega
   ·have hd:decide (((ws.length:Nat):Int)< ((s.cS.count c+1:Nat):Int) - 1)=false:=by rw [decide_eq_false_iff_not];omega
    simp only [hd,aS]
    refine⟨_,rfl,ws,rfl,?_,by omega,?_⟩
    ·have h0:r.cS.count c=0:=by omega
     rw [h2,yx (List.count_eq_zero.1 h0)]
    ·rw [show s.cS.count c+1 - ws.length=1 by omega];rfl)
  N (s,List.replicate (s.cS.count c+1) ⟨[]⟩,0) ⟨[],rfl,rfl,by simp,bP _,by simp⟩ (by simp only;omega)
 obtain⟨o,ho,hgo⟩:=key
 rw [ho,aB]
 cases o with
 | rt r=>exact r.elim
 | go st=>
  obtain⟨r,arr,i⟩:=st
  obtain⟨ws,h1,h2,h3,h4⟩:=hgo
  simp only at h1 h2 h3 h4
  subst h1 h4
  simp only [Fo.cs]
  rw [jD _ _ (by simp),aB,fx (by omega) (by omega)]
  rw [show ((ws.length:Nat):Int)+1= ((ws.length+1:Nat):Int) by omega,uY _ _ (by simp),aB,aB]
  unfold qD
  rw [h2]
  rw [bS,List.set_append_right _ _ (by simp),oU (by simp)]
  simp
def pB (s:dJ):Bool:=decide (s.cS.length<=200)&&(qD s 47).all isWord
theorem sP {c:UInt8}: ∀{l x:List UInt8},x∈cutAt c l->x.length<=l.length
 | [],x,h=>by simp [cutAt] at h;subst h;simp
 | b::l,x,h=>by
  unfold cutAt at h
  split at h
  ·rcases fN.1 h with h | h
   ·subst h;simp
   ·have:=sP h;simp;omega
  ·split at h
   ·rename_i t e
    rcases fN.1 h with h | h
    ·subst h;have:=sP (c:=c) (l:=l) (by rw [e];exact List.mem_cons_self);simp;omega
    ·have:=sP (c:=c) (l:=l) (by rw [e];exact jy _ h);simp;omega
   ·simp at h;subst h;simp
theorem zN (c:UInt8): ∀(l:List UInt8),(cutAt c l).length<=l.length+1
 | []=>by simp [cutAt]
 | b::l=>by
  have:=zN c l
  unfold cutAt
  split
  ·simp;omega
  ·split
   ·rename_i e;rw [e] at this;simp at this ⊢;omega
   ·simp
theorem Fa {s x:dJ} {c:UInt8} (h:x∈qD s c):x.cS.length<=s.cS.length:=by
 obtain⟨y,hy,rfl⟩:=cR.1 h
 exact sP hy
theorem Fb (s:dJ) (c:UInt8): (qD s c).length<=s.cS.length+1:=by unfold qD;rw [fD];exact zN c _
theorem vu {s:dJ} (h:s.cS.length<=1048576) (hN:4194304<=N):kH N s=some (pB s):=by
 unfold kH pB
 by_cases hl:s.cS.length<=200
 ·rw [cD (by omega),aR,GJ 47 h hN,aB]
  have e:=pO (l:=qD s 47) (φ:=gv N) (fun x=> !isWord x) (by have:=Fb s 47;omega) (fun x hx=>by
   unfold gv
   rw [o9 (by have:=Fa hx;omega)];rfl)
  have e2:gu N (qD s 47) (gv N)=pw (qD s 47) (gv N):=rfl
  rw [e2,e,aB,aB,cD hl,Bool.true_and]
  congr 1
  rw [fO]
  simp
 ·rw [bF (by omega),aS,aB,bF hl,Bool.false_and]
end
end Go.Gk
namespace Go.Gk
open Go Classical
section
variable {N:Nat}
theorem GK {a b:aA} (h:bR a=bR b):a=b:=by cases a;cases b;unfold bR at h;simp at h;obtain⟨h1,h2,h3⟩:=h;subst h1;subst h2;subst h3;rfl
theorem vv: ∀{s t:List aA},s.map bR=t.map bR->s=t
 | [],[],_=>rfl
 | [],_::_,h=>by cases h
 | _::_,[],h=>by cases h
 | a::s,b::t,h=>by
  rw [eG,eG] at h
  injection h with h1 h2
  rw [GK h1,vv h2]
theorem Ck {s t:List aA} (hs:eC (s.map bR)) (ht:eC (t.map bR)) (h: ∀x y,vn (s.map bR) x y=vn (t.map bR) x y):s=t:=vv (yi hs ht h)
theorem o8.unique {l:List aI} {s t:List aA} (hs:o8 l s) (ht:o8 l t):s=t:=Ck hs.can ht.can fun x y=>by rw [hs.cover,ht.cover]
theorem o8.GL {l:List aI} {s:List aA} (h:o8 l s):s.length<=2*l.length/\(∀b∈s,b.Xs.length<=2*l.length)/\(aO s).length<=2*l.length* (2*l.length):=by
 have h1:s.length<=2*l.length:=by have:=h.lim.len h.can;rwa [fD,jN] at this
 have h2: ∀b∈s,b.Xs.length<=2*l.length:=fun b hb=>by
  have:=h.lim.row h.can (b:=bR b) (cR.2 ⟨b,hb,rfl⟩)
  rwa [lM] at this
 exact⟨h1,h2,ym h1 h2⟩
theorem sQ {n:Int} (h:oG n=true): -1000000<=n/\n<=1000000:=by
 unfold oG ig at h
 rw [bT,bK,bK] at h;omega
theorem gZ {r:aI} (h:dA r=true): (-1000000<=r.X0/\r.X0<=1000000)/\(-1000000<=r.Y0/\r.Y0<=1000000)/\(-1000000<=r.X1/\r.X1<=1000000)/\(-1000000<=r.Y1/\r.Y1<=1000000):=by
 unfold dA at h
 simp only [bT] at h
 exact⟨sQ h.1,sQ h.2.1,sQ h.2.2.1,sQ h.2.2.2⟩
theorem yy {r:aI} (h: (-1000000<=r.X0/\r.X0<=1000000)/\(-1000000<=r.Y0/\r.Y0<=1000000)/\(-1000000<=r.X1/\r.X1<=1000000)/\(-1000000<=r.Y1/\r.Y1<=1000000)):dA r=true:=by
 unfold dA oG ig
 simp only [bT,bK]
 omega
theorem GM {r:aI} (h:dA r=true) (hx:r.X0<r.X1) (hy:r.Y0<r.Y1):CI r:=by
 have:=gZ h
 refine⟨hx,hy,?_,?_,?_,?_⟩ <;> unfold small <;> omega
def nW (r:aI):Option Int:=if dA r=true then (if r.X1<=r.X0\/r.Y1<=r.Y0 then some 13 else none) else some 1
def lO (l:List aI):Int:=if 2000<l.length then 2 else (l.findSome? nW).getD 0
theorem zb {l:List aI} (hl:l.length<=4611686018427387904):jG N l=some (lO l):=by
 unfold jG lO
 by_cases h:2000<l.length
 ·rw [cD (by omega),aR,aD h]
 ·rw [bF (by omega),aS,aC h,u4 nW hl (fun k x hx=>by
   rw [dD hx,aB,yw,aB]
   unfold nW
   cases hr:dA x with
   | false=>rfl
   | true=>
    rw [lS,aS,aD rfl]
    by_cases h2:x.X1<=x.X0\/x.Y1<=x.Y0
    ·rw [aD h2,show (decide (x.X1<=x.X0)||decide (x.Y1<=x.Y0))=true by rw [dS,bK,bK];exact h2];rfl
    ·rw [aC h2,show (decide (x.X1<=x.X0)||decide (x.Y1<=x.Y0))=false by rw [<-oT,dS,bK,bK];exact h2];rfl),aB]
  cases l.findSome? nW <;> rfl
theorem vx {r:aI}:nW r=none↔dA r=true/\r.X0<r.X1/\r.Y0<r.Y1:=by
 unfold nW
 by_cases h:dA r=true
 ·rw [aD h]
  by_cases h2:r.X1<=r.X0\/r.Y1<=r.Y0
  ·rw [aD h2]
   constructor
   ·intro h;cases h
   ·rintro⟨_,h3,h4⟩;omega
  ·rw [aC h2]
   exact⟨fun _=>⟨h,by omega,by omega⟩,fun _=>rfl⟩
 ·rw [aC h]
  constructor
  ·intro h;cases h
  ·rintro⟨h3,_⟩;exact absurd h3 h
theorem Cl {r:aI} {e:Int} (h:nW r=some e):e≠0:=by
 unfold nW at h
 split at h
 ·split at h
  ·injection h with h;omega
  ·cases h
 ·injection h with h;omega
theorem pC {l:List aI}:lO l=0↔l.length<=2000/\∀r∈l,dA r=true/\r.X0<r.X1/\r.Y0<r.Y1:=by
 unfold lO
 by_cases h:2000<l.length
 ·rw [aD h];constructor
  ·intro h;omega
  ·intro h;omega
 ·rw [aC h]
  cases hf:l.findSome? nW with
  | none=>
   rw [List.findSome?_eq_none_iff] at hf
   exact⟨fun _=>⟨by omega,fun r hr=>vx.1 (hf r hr)⟩,fun _=>rfl⟩
  | some e=>
   obtain⟨r,hr,he⟩:=List.exists_of_findSome?_eq_some hf
   constructor
   ·intro h0;exact absurd h0 (Cl he)
   ·rintro⟨_,h2⟩
    rw [vx.2 (h2 r hr)] at he;cases he
def Ll (l:List aI):Prop:=∀(k:Nat) a b,l[k]? =some a->l[k+1]? =some b->¬(b.Y0<a.Y0\/(b.Y0=a.Y0/\b.X0<=a.X0))
def AY (l:List aI):Prop:=∃s,o8 l s/\aO s=l
noncomputable def i9 (l:List aI):Int:=if lO l≠0 then lO l else if Ll l then (if AY l then 0 else 3) else 8
theorem Dj {l:List aI} (h:lO l=0):l.length<=2000/\∀r∈l,CI r:=⟨(pC.1 h).1,fun r hr=>by have:=(pC.1 h).2 r hr;exact GM this.1 this.2.1 this.2.2⟩
theorem Dk {l m:List aI} (hl:l.length<=4611686018427387904):jg N l m=some (decide (l=m)):=by
 have:=sJ (l:=l) (m:=m) hl
 unfold C8 at this
 unfold jg
 rw [show (decide (l=m)) = @decide (l=m) (instDecidableEqList l m) from decide_eq_decide.2 Iff.rfl]
 exact this
theorem r9 {l:List aI} (hl:l.length<=1073741824) (hN:4398046511104<=N):hQ N l=some (i9 l):=by
 refine Ok.get ?_
 unfold hQ
 refine Ok.eq (zb (by omega)) ?_
 unfold i9
 refine Ok.bif (fun h=>Ok.ret ?_) (fun h=>?_)
 ·rw [aD (by simpa using h)]
 ·have h0:lO l=0:=by simpa using h
  rw [aC (by simpa using h0)]
  obtain⟨hlen,hok⟩:=Dj h0
  refine Ok.bind (Ok.np (Go:=fun _=>Ll l) (Rt:=fun r=>r=8/\¬Ll l) (fun s=>∃k:Nat,s= ((k:Nat):Int)/\1<=k/\∀(j:Nat) a b,j+1<k->l[j]? =some a->l[j+1]? =some b->¬(b.Y0<a.Y0\/(b.Y0=a.Y0/\b.X0<=a.X0))) (fun s=>l.length - s.toNat) ?_ ⟨1,rfl,bP _,fun j a b hj=>by omega⟩ (by simp;omega)) ?_
  ·rintro s ⟨k,rfl,hk,hI⟩
   refine Ok.bif (fun h=>?_) (fun h=>Ok.br fun j a b ha hb=>hI j a b ?_ ha hb)
   ·have hk2:k<l.length:=by have:=of_decide_eq_true h;omega
    rw [kh hk (by omega)]
    refine Ok.idx (by omega) (Ok.idx hk2 (Ok.bif (fun hb=>Ok.rt ⟨rfl,fun hu=>?_⟩) (fun hb=>Ok.nx ⟨⟨k+1,by rw [fK (by omega)],by omega,fun j a b hj ha hb'=>?_⟩,by rw [fK (by omega)];simp only [bS];omega⟩)))
    ·refine hu (k - 1) l[k - 1] l[k] (aJ _) (by rw [show k - 1+1=k by omega];exact aJ _) ?_
     rw [dS,bT,bK,bK,beq_iff_eq] at hb;exact hb
    ·by_cases e:j+1<k
     ·exact hI j a b e ha hb'
     ·have:j+1=k:=by omega
      subst this
      rw [aJ (by omega)] at ha hb'
      injection ha with ha;injection hb' with hb'
      subst ha;subst hb'
      rw [<-oT,dS,bT,bK,bK,beq_iff_eq] at hb;exact hb
   ·have:=of_decide_eq_false h
    have:=(bD.1 hb).1;omega
  ·rintro o ho
   refine Ok.cs ho (fun s hu=>?_) (fun r hr=>Ok.ret (by rw [hr.1,aC hr.2]))
   rw [aD hu]
   refine Ok.bind (qB (N:=N) (by omega) hok (by omega)) ?_
   intro s hs
   obtain⟨z1,z2,z3⟩:=hs.GL
   have z4:2*l.length* (2*l.length)<=4000*4000:=Nat.mul_le_mul (by omega) (by omega)
   refine Ok.eq (yn (pZ hs.can) (by omega) (fun b hb=>by have:=z2 b hb;omega) (by omega)) (Ok.eq (Dk (by omega)) ?_)
   have hiff:AY l↔aO s=l:=⟨fun⟨t,h1,h2⟩=>by rw [hs.unique h1];exact h2,fun h=>⟨s,hs,h⟩⟩
   refine Ok.bif (fun h=>Ok.ret ?_) (fun h=>Ok.ret ?_)
   ·have h: ¬aO s=l:=by simpa using h
    rw [aC (fun h'=>h (hiff.1 h'))]
   ·have h:aO s=l:=by simpa using h
    rw [aD (hiff.2 h)]
theorem pd {l:List aI}:i9 l=0↔lO l=0/\Ll l/\AY l:=by
 unfold i9
 by_cases h:lO l=0
 ·rw [aC (by simpa using h)]
  by_cases h2:Ll l
  ·rw [aD h2]
   by_cases h3:AY l
   ·rw [aD h3];exact⟨fun _=>⟨h,h2,h3⟩,fun _=>rfl⟩
   ·rw [aC h3];constructor
    ·intro h;omega
    ·rintro⟨_,_,h4⟩;exact absurd h4 h3
  ·rw [aC h2];constructor
   ·intro h;omega
   ·rintro⟨_,h4,_⟩;exact absurd h4 h2
 ·rw [aD h]
  constructor
  ·intro h2;exact absurd h2 h
  ·rintro⟨h2,_⟩;exact absurd h2 h
theorem ue (n lo hi:Int):gl N n lo hi=some (ig n lo hi):=rfl
theorem Fc {b:bZ} (hN:16<=N):kf N b=some (m4 b):=by
 have:=wx (N:=N - 16) (b:=b)
 rwa [show N - 16+16=N by omega] at this
def pf (n:Nat) (b:bZ):Option Int:=if (m4 b).2≠0 then some (m4 b).2 else if ig b.bU 0 (((n:Nat):Int) - 1)=true/\ig b.To b.bU (((n:Nat):Int) - 1)=true then none else some 1
def lP (a:gS):Int:=if 500<a.aW.length then 2 else (a.aW.findSome? (pf a.aL.length)).getD 0
theorem zc {a:gS} (h1:a.aL.length<=4611686018427387904) (h2:a.aW.length<=4611686018427387904) (hN:16<=N):jh N a=some (lP a):=by
 unfold jh lP
 by_cases h:500<a.aW.length
 ·rw [cD (by omega),aR,aD h]
 ·have hw:IntKind.wrap .i64 (((a.aL.length:Nat):Int) - 1)= ((a.aL.length:Nat):Int) - 1:=fx (by omega) (by omega)
  rw [bF (by omega),aS,aC h,u4 (pf a.aL.length) h2 (fun k x hx=>by
   rw [dD hx,aB,Fc hN,aB]
   unfold pf
   by_cases h0: (m4 x).2=0
   ·rw [aC (by simpa using h0),h0,show ((0:Int) != 0)=false by rfl,aS,hw,ue,aB,ue,aB]
    cases h3:ig x.bU 0 (((a.aL.length:Nat):Int) - 1) <;> cases h4:ig x.To x.bU (((a.aL.length:Nat):Int) - 1) <;> rfl
   ·rw [aD h0,show ((m4 x).2 != 0)=true by simpa using h0];rfl),aB]
  cases a.aW.findSome? (pf a.aL.length) <;> rfl
theorem Cm {b:bZ} (h: (m4 b).2=0):r6 b=true/\dA (xw b)=true:=by
 unfold m4 at h
 split at h
 ·rename_i h';rwa [bT] at h'
 ·cases h
theorem pD {a:gS} (h:lP a=0):a.aW.length<=500/\∀b∈a.aW,r6 b=true/\dA (xw b)=true/\0<=b.bU/\b.bU<=b.To/\b.To< ((a.aL.length:Nat):Int):=by
 unfold lP at h
 split at h
 ·omega
 ·refine⟨by omega,fun b hb=>?_⟩
  have hn:pf a.aL.length b=none:=by
   cases hf:a.aW.findSome? (pf a.aL.length) with
   | none=>exact List.findSome?_eq_none_iff.1 hf b hb
   | some e=>
    rw [hf] at h
    obtain⟨c,hc,he⟩:=List.exists_of_findSome?_eq_some hf
    have h:e=0:=h
    subst h
    unfold pf at he
    split at he
    ·rename_i h';injection he with he;exact absurd he h'
    ·split at he
     ·cases he
     ·injection he with he;omega
  unfold pf at hn
  split at hn
  ·cases hn
  ·rename_i h0
   split at hn
   ·rename_i h1
    have h0: (m4 b).2=0:=by simpa using h0
    have:=Cm h0
    unfold ig at h1
    simp only [bT,bK] at h1
    exact⟨this.1,this.2,by omega,by omega,by omega⟩
   ·cases hn
theorem Lm {b:bZ} (h1:r6 b=true) (h2:dA (xw b)=true):CI (xw b):=by
 have hf:=r7 h1
 refine GM h2 ?_ ?_
 ·show b.At.X - b.eZ / 2<b.At.X - b.eZ / 2+b.eZ;omega
 ·show b.At.Y - b.eZ / 2<b.At.Y - b.eZ / 2+b.eZ;omega
def gx (p q:fV):Int:=if Lib.compareBytes p.Part.cS q.Part.cS≠0 then Lib.compareBytes p.Part.cS q.Part.cS else Lib.compareBytes p.fV.cS q.fV.cS
theorem kd (p q:fV):dK N p q=some (gx p q):=by
 unfold dK gx
 show (bif (Lib.compareBytes p.Part.cS q.Part.cS != 0) then _ else _)=_
 by_cases h:Lib.compareBytes p.Part.cS q.Part.cS=0
 ·rw [h,aC (by simp)];rfl
 ·rw [aD h,show (Lib.compareBytes p.Part.cS q.Part.cS != 0)=true by simpa using h];rfl
def kV (l:cY):fV:=⟨l.Part,l.fV⟩
theorem wy (l:cY):jW N l=some (kV l):=rfl
def lq (a:gS) (k:Nat):Option Int:=(a.bJ[k]?).bind fun x=>
 if (pB x.Part&&isWord x.fV)=true then
  if (ig x.cZ 0 (((a.aL.length:Nat):Int) - 1)&&tx x.At)=true then
   if 0<k/\(∃y,a.bJ[k - 1]? =some y/\gx (kV x) (kV y)<=0) then some 8 else none
  else some 1
 else some 5
noncomputable def kW (a:gS):Int:=if 1000<a.bJ.length then 2 else (m9 a.bJ.length (lq a)).getD 0
end
end Go.Gk
namespace Go.Gk
open Go Classical
section
variable {N:Nat}
def yz (a:gS):Prop:=∀x∈a.bJ,x.Part.cS.length<=1048576/\x.fV.cS.length<=1048576
theorem zd {a:gS} (h1:a.aL.length<=1073741824) (h2:a.bJ.length<=1073741824) (h3:yz a) (hN:4194304<=N):jk N a=some (kW a):=by
 unfold jk kW
 by_cases h:1000<a.bJ.length
 ·rw [cD (by omega),aR,aD h]
 ·have hw:IntKind.wrap .i64 (((a.aL.length:Nat):Int) - 1)= ((a.aL.length:Nat):Int) - 1:=fx (by omega) (by omega)
  rw [bF (by omega),aS,aC h,mz (lq a) (by omega) (fun k hk _=>by
   have hx:a.bJ[k]? =some a.bJ[k]:=aJ hk
   have hs:=h3 _ (cJ hk)
   rw [dD hx,aB,vu hs.1 hN,aB]
   have hle:lq a k= (if (pB a.bJ[k].Part&&isWord a.bJ[k].fV)=true then
     if (ig a.bJ[k].cZ 0 (((a.aL.length:Nat):Int) - 1)&&tx a.bJ[k].At)=true then
      if 0<k/\(∃y,a.bJ[k - 1]? =some y/\gx (kV a.bJ[k]) (kV y)<=0) then some 8 else none
     else some 1
    else some 5):=by unfold lq;rw [hx];rfl
   rw [hle]
   have e1: ((bif (!pB a.bJ[k].Part) then (some true) else ((gX N a.bJ[k].fV).bind fun x225=>some (!x225))):Option Bool)=some (!(pB a.bJ[k].Part&&isWord a.bJ[k].fV)):=by
    rw [o9 hs.2,aB]
    cases pB a.bJ[k].Part <;> rfl
   have e2: ((gl N a.bJ[k].cZ 0 (IntKind.wrap .i64 (((a.aL.length:Nat):Int) - 1))).bind fun x318=>bif (!x318) then (some true) else ((iG N a.bJ[k].At).bind fun x321=>some (!x321)))=some (!(ig a.bJ[k].cZ 0 (((a.aL.length:Nat):Int) - 1)&&tx a.bJ[k].At)):=by
    rw [hw,ue,aB,wP,aB]
    cases ig a.bJ[k].cZ 0 (((a.aL.length:Nat):Int) - 1) <;> rfl
   show ((bif (!pB a.bJ[k].Part) then (some true) else ((gX N a.bJ[k].fV).bind fun x225=>some (!x225))):Option Bool).bind _=_
   rw [e1,aB]
   cases h4: (pB a.bJ[k].Part&&isWord a.bJ[k].fV) with
   | false=>rfl
   | true=>
    rw [lS,aS,aD rfl]
    show (((gl N a.bJ[k].cZ 0 (IntKind.wrap .i64 (((a.aL.length:Nat):Int) - 1))).bind fun x318=>bif (!x318) then (some true) else ((iG N a.bJ[k].At).bind fun x321=>some (!x321)))).bind _=_
    rw [e2,aB]
    cases h5: (ig a.bJ[k].cZ 0 (((a.aL.length:Nat):Int) - 1)&&tx a.bJ[k].At) with
    | false=>rfl
    | true=>
     rw [lS,aS,aD rfl]
     by_cases h0:0<k
     ·rw [cD (by omega),aR,kh h0 (by omega),jD _ _ (by omega:k - 1<a.bJ.length)]
      simp only [wy,aB,kd]
      by_cases h6:gx (kV a.bJ[k]) (kV a.bJ[k - 1])<=0
      ·rw [cD h6,aD ⟨h0,_,aJ (by omega:k - 1<a.bJ.length),h6⟩];rfl
      ·rw [bF h6,aC (by
        rintro⟨_,y,hy,h7⟩
        rw [aJ (by omega:k - 1<a.bJ.length)] at hy;injection hy with hy
        rw [<-hy] at h7;exact h6 h7)];rfl
     ·rw [bF (by omega),aC (fun h=>h0 h.1)];rfl),aB]
  cases m9 a.bJ.length (lq a) <;> rfl
def lQ (b:bZ) (k:Int):Bool:=decide (b.bU<=k)&&decide (k<=b.To)
theorem yA (b:bZ) (k:Int):jJ N b k=some (lQ b k):=rfl
def nk (bs:List bZ) (k:Int):List aI:=(bs.filter (fun b=>lQ b k)).map xw
structure mY (bs:List bZ):Prop where
 len:bs.length<=500
 ok: ∀b∈bs,r6 b=true/\dA (xw b)=true
structure sR (r hs:List aI) (s:List aA):Prop where
 can:eC (s.map bR)
 cover: ∀x y,vn (s.map bR) x y= (wO r x y&& !wO hs x y)
 lim:uy (pW r++pW hs) (lL r++lL hs) (s.map bR)
theorem zO {bs:List bZ} (h:mY bs) (k:Int): (nk bs k).length<=500:=by
 unfold nk
 rw [fD]
 have:=jz (fun b=>lQ b k) bs
 have:=h.len;omega
theorem vz {bs:List bZ} (h:mY bs) (k:Int): ∀r∈nk bs k,CI r/\dA r=true:=by
 intro r hr
 unfold nk at hr
 obtain⟨b,hb,rfl⟩:=cR.1 hr
 have:=h.ok b (iB.1 hb).1
 exact⟨Lm this.1 this.2,this.2⟩
theorem sR.small {r hs:List aI} {s:List aA} (h:sR r hs s) (h1: ∀x∈r,CI x) (h2: ∀x∈hs,CI x): (∀c∈pW r++pW hs,small c)/\∀c∈lL r++lL hs,small c:=by
 constructor
 ·intro c hc
  rcases cU.1 hc with h | h
  ·obtain⟨x,hx,rfl | rfl⟩:=pX.1 h
   ·exact(h1 x hx).s1
   ·exact(h1 x hx).s2
  ·obtain⟨x,hx,rfl | rfl⟩:=pX.1 h
   ·exact(h2 x hx).s1
   ·exact(h2 x hx).s2
 ·intro c hc
  rcases cU.1 hc with h | h
  ·obtain⟨x,hx,rfl | rfl⟩:=kU.1 h
   ·exact(h1 x hx).s3
   ·exact(h1 x hx).s4
  ·obtain⟨x,hx,rfl | rfl⟩:=kU.1 h
   ·exact(h2 x hx).s3
   ·exact(h2 x hx).s4
theorem wz {s:List aA} {X Y:List Int} {A:Nat} (hc:eC (s.map bR)) (h:uy X Y (s.map bR)) (hX:X.length<=A) (hY:Y.length<=A):s.length<=A/\(∀b∈s,b.Xs.length<=A)/\(aO s).length<=A*A:=by
 have h1:s.length<=A:=by have:=h.len hc;rw [fD] at this;omega
 have h2: ∀b∈s,b.Xs.length<=A:=fun b hb=>by
  have:=h.row hc (b:=bR b) (cR.2 ⟨b,hb,rfl⟩)
  have e: (bR b).xs=b.Xs:=rfl
  rw [e] at this;omega
 exact⟨h1,h2,ym h1 h2⟩
theorem ze {r hs:List aI} (h1:r.length<=2000) (h2: ∀x∈r,CI x) (h3:hs.length<=500) (h4: ∀x∈hs,CI x) (hN:4398046511104<=N) {β:Type} {f:List aA->Option β} {Q:β->Prop} (k: ∀s,sR r hs s->Ok (f s) Q):
  Ok ((fX N r).bind fun x378=>(fX N hs).bind fun x380=>(jK N x378 x380).bind f) Q:=by
 refine Ok.bind (qB (N:=N) (by omega) h2 (by omega)) (fun s hs1=>?_)
 refine Ok.bind (qB (N:=N) (by omega) h4 (by omega)) (fun t ht=>?_)
 have hz: ∀c∈lL r++lL hs,small c:=by
  intro c hc
  rcases cU.1 hc with h | h
  ·obtain⟨x,hx,rfl | rfl⟩:=kU.1 h
   ·exact(h2 x hx).s3
   ·exact(h2 x hx).s4
  ·obtain⟨x,hx,rfl | rfl⟩:=kU.1 h
   ·exact(h4 x hx).s3
   ·exact(h4 x hx).s4
 refine Ok.bind (E5 (X:=pW r++pW hs) (Y:=lL r++lL hs) hs1.can ht.can (hs1.lim.mono (fun c h=>List.mem_append_left _ h) (fun c h=>List.mem_append_left _ h)) (ht.lim.mono (fun c h=>List.mem_append_right _ h) (fun c h=>List.mem_append_right _ h))
  (by rw [dW,lM,lM];omega) (by rw [dW,jN,jN];omega) hz hN) (fun u hu=>?_)
 exact k u ⟨hu.can,fun x y=>by rw [hu.cover,hs1.cover,ht.cover],hu.lim⟩
def bY:Nat->List (List (List aA))->List aH
 | _,[]=>[]
 | k,ps::r=>ps.map (fun p=>⟨((k:Nat):Int),p,aO p⟩)++bY (k+1) r
theorem ug (ps:List (List aA)): ∀(r:List (List (List aA))) (k:Nat),bY k (r++[ps])=bY k r++ps.map (fun p=>⟨((k+r.length:Nat):Int),p,aO p⟩)
 | [],k=>by unfold bY;simp [bY]
 | q::r,k=>by
  show _++bY (k+1) (r++[ps])= (_++bY (k+1) r)++_
  rw [ug ps r (k+1),jf]
  congr 3
  simp only [je]
  rw [show k+ (r.length+1)=k+1+r.length by omega]
theorem yB {s p:List aA} {ps:List (List aA)} {r:Nat->Nat} {X Y:List Int} (h:qC s r ps) (hc:eC (s.map bR)) (hl:uy X Y (s.map bR)) (hX: ∀c∈X,small c) (hY: ∀c∈Y,small c) (hp:p∈ps):
  ∃j k:Nat,ps[j]? =some p/\(bV (aO s).length r)[j]? =some k/\o8 (mh (aO s) (aO s).length r k) p/\uy X Y (p.map bR):=by
 obtain⟨j,hj⟩:=gk hp
 have hjl:=(bD.1 hj).1
 rw [h.len] at hjl
 have hh: (bV (aO s).length r)[j]? =some (bV (aO s).length r)[j]:=aJ hjl
 have hs:=h.each j _ p hh hj
 refine⟨j,_,hj,hh,hs,hs.lim.mono (fun c hcx=>?_) (fun c hcx=>?_)⟩
 ·obtain⟨x,hx,hxc⟩:=pX.1 hcx
  obtain⟨i,_,_,hi⟩:=nj.1 hx
  have:=yo hc hl hX hY x (gT hi)
  rcases hxc with rfl | rfl
  ·exact this.2.1.1
  ·exact this.2.1.2
 ·obtain⟨x,hx,hxc⟩:=kU.1 hcx
  obtain⟨i,_,_,hi⟩:=nj.1 hx
  have:=yo hc hl hX hY x (gT hi)
  rcases hxc with rfl | rfl
  ·exact this.2.2.1
  ·exact this.2.2.2
structure uh (cs:List (List aI)) (bs:List bZ) (k:Nat) (jQ:List (List aA)) (cQ:List (List (List aA))):Prop where
 len:jQ.length=k
 AZ:cQ.length=k
 dr: ∀(i:Nat) r s,i<k->cs[i]? =some r->jQ[i]? =some s->sR r (nk bs ((i:Nat):Int)) s
 pt: ∀(i:Nat) s ps,i<k->jQ[i]? =some s->cQ[i]? =some ps->∃u,qC s u ps
 A0: (bY 0 cQ).length<=k*25000000
theorem qC.A0 {s:List aA} {u:Nat->Nat} {ps:List (List aA)} (h:qC s u ps):ps.length<=(aO s).length:=by
 rw [h.len];exact mX _ _
theorem Dl {cs:List (List aI)} {bs:List bZ} (hcs:cs.length<=16) (hc: ∀r∈cs,r.length<=2000/\∀x∈r,CI x) (hb:mY bs) (hN:4398046511104<=N):
  Ok (iN N cs bs [] []) (fun x=>∃cQ,uh cs bs cs.length x.2.1 cQ/\x.2.2=bY 0 cQ/\(x.1=true↔(∀s∈x.2.1,(aO s).length<=2000)/\x.2.2.length<=2000)):=by
 unfold iN
 refine Ok.bind (P:=fun(st:List (List aA)×List aH×Bool)=>∃cQ,uh cs bs cs.length st.1 cQ/\st.2.1=bY 0 cQ/\(st.2.2=true↔∀s∈st.1,(aO s).length<=2000)) (Ok.iF (fun(k:Nat) (st:List (List aA)×List aH×Bool)=>∃cQ,uh cs bs k st.1 cQ/\st.2.1=bY 0 cQ/\(st.2.2=true↔∀s∈st.1,(aO s).length<=2000)) (by omega)
  ⟨[],⟨rfl,rfl,fun i r s hi=>by omega,fun i s ps hi=>by omega,by simp [bY]⟩,rfl,by simp⟩ (fun k st hk hI=>?_)) ?_
 ·obtain⟨jQ,pcs,okk⟩:=st
  obtain⟨cQ,D,e1,e2⟩:=hI
  dsimp only at D e1 e2 ⊢
  subst e1
  have hkx:cs[k]? =some cs[k]:=aJ hk
  obtain⟨hr1,hr2⟩:=hc _ (cJ hk)
  refine Ok.ix hkx ?_
  refine Ok.bind (P:=fun t=>t=nk bs ((k:Nat):Int)) (Ok.mono (Ok.iF (fun j t=>t=nk (bs.take j) ((k:Nat):Int)) (by have:=hb.len;omega) rfl (fun j t hj e=>?_)) (fun t e=>by rw [e,eR])) (fun t e=>?_)
  ·subst e
   refine Ok.idx hj (Ok.eq (yA _ _) ?_)
   have hts:bs.take (j+1)=bs.take j++[bs[j]]:=fu hj
   have hgb:=hb.ok _ (cJ hj)
   have hl: (nk (bs.take j) ((k:Nat):Int)).length<=500:=by
    unfold nk
    rw [fD]
    have:=jz (fun b=>lQ b ((k:Nat):Int)) (bs.take j)
    rw [dF] at this
    have:=hb.len;omega
   cases ht:lQ bs[j] ((k:Nat):Int) with
   | false=>
    rw [aS]
    refine Ok.eq rfl (Ok.ret ?_)
    unfold nk
    rw [hts,g8];simp [ht]
   | true=>
    rw [aR]
    refine Ok.eq (x:=nk (bs.take j) ((k:Nat):Int)++[xw bs[j]]) (by rw [mg hgb.1,aB,gH (by simp;omega),aB]) (Ok.ret ?_)
    unfold nk
    rw [hts,g8,eQ];simp [ht]
  ·subst e
   have hho:=vz hb ((k:Nat):Int)
   have hhl:=zO hb ((k:Nat):Int)
   refine ze hr1 hr2 hhl (fun x hx=>(hho x hx).1) hN (fun s hs=>?_)
   obtain⟨sx,sy⟩:=hs.small hr2 (fun x hx=>(hho x hx).1)
   obtain⟨z1,z2,z3⟩:=wz (A:=5000) hs.can hs.lim (by rw [dW,lM,lM];omega) (by rw [dW,jN,jN];omega)
   have hmany:=H5 (N:=N) (s:=s) (by omega) (fun b hb=>by have:=z2 b hb;omega) (by omega)
   refine Ok.eq (x:=(okk&&decide ((aO s).length<=2000),s)) ?_ ?_
   ·cases okk with
    | false=>rfl
    | true=>
     rw [aR,hmany,aB,Bool.true_and]
     rw [show decide ((((aO s).length:Nat):Int)<=2000)=decide ((aO s).length<=2000) from decide_eq_decide.2 (by omega)]
   dsimp only
   refine Ok.app (by rw [D.len];simp;omega) ?_
   refine Ok.bind (Dh (N:=N) hs.can hs.lim sx sy (by omega) (fun b hb=>by have:=z2 b hb;omega) (by omega) hN) ?_
   rintro ps ⟨u,hu⟩
   have hfew:=hu.A0
   have hk16:k*25000000<=16*25000000:=Nat.mul_le_mul_right _ (by omega)
   have hDf:=D.A0
   refine Ok.bind (P:=fun t=>t=bY 0 cQ++ps.map (fun p=>(⟨((k:Nat):Int),p,aO p⟩:aH))) (Ok.mono (Ok.iF (fun j t=>t=bY 0 cQ++(ps.take j).map (fun p=>(⟨((k:Nat):Int),p,aO p⟩:aH))) (by omega) (by simp) (fun j t hj e=>?_)) (fun t e=>by rw [e,eR])) (fun t e=>Ok.ret ?_)
   ·subst e
    have hjx:ps[j]? =some ps[j]:=aJ hj
    refine Ok.ix hjx ?_
    obtain⟨_,_,_,_,lZ,hpl⟩:=yB hu hs.can hs.lim sx sy (cJ hj)
    obtain⟨y1,y2,y3⟩:=wz (A:=5000) lZ.can hpl (by rw [dW,lM,lM];omega) (by rw [dW,jN,jN];omega)
    refine Ok.eq (yn (pZ lZ.can) (by omega) (fun b hb=>by have:=y2 b hb;omega) (by omega)) (Ok.app ?_ (Ok.ret ?_))
    ·simp only [dW,fD,dF,List.length_singleton];omega
    ·rw [fu hj,eQ,jf];rfl
   ·subst e
    refine⟨cQ++[ps],⟨by simp [D.len],by simp [D.AZ],fun i r s' hi hr hs'=>?_,fun i s' ps' hi hs' hps'=>?_,?_⟩,?_,?_⟩
    ·dsimp only at hs'
     by_cases hik:i<k
     ·rw [fM (by rw [D.len];exact hik)] at hs'
      exact D.dr i r s' hik hr hs'
     ·have:i=k:=by omega
      subst this
      rw [fF (by rw [D.len];omega),D.len,Nat.sub_self] at hs'
      simp at hs';subst hs'
      rw [hkx] at hr;injection hr with hr;subst hr
      exact hs
    ·dsimp only at hs'
     by_cases hik:i<k
     ·rw [fM (by rw [D.len];exact hik)] at hs'
      rw [fM (by rw [D.AZ];exact hik)] at hps'
      exact D.pt i s' ps' hik hs' hps'
     ·have:i=k:=by omega
      subst this
      rw [fF (by rw [D.len];omega),D.len,Nat.sub_self] at hs'
      rw [fF (by rw [D.AZ];omega),D.AZ,Nat.sub_self] at hps'
      simp at hs' hps';subst hs';subst hps'
      exact⟨u,hu⟩
    ·rw [ug,dW,fD];omega
    ·dsimp only
     rw [ug,D.AZ,gj]
    ·dsimp only
     rw [bT,e2,bK]
     constructor
     ·rintro⟨h1,h2⟩ s' hs'
      rcases cU.1 hs' with h | h
      ·exact h1 s' h
      ·simp at h;subst h;exact h2
     ·intro h
      exact⟨fun s' hs'=>h s' (List.mem_append_left _ hs'),h s (by simp)⟩
 ·rintro⟨jQ,pcs,okk⟩ ⟨cQ,D,e1,e2⟩
  dsimp only at D e1 e2 ⊢
  subst e1
  refine Ok.bind (P:=fun b=>b=true↔(∀s∈jQ,(aO s).length<=2000)/\(bY 0 cQ).length<=2000) (Ok.bif (fun h=>Ok.ret ?_) (fun h=>Ok.ret ?_)) (fun b hb=>Ok.ret ⟨cQ,D,rfl,hb⟩)
  ·rw [bK]
   constructor
   ·intro h';exact⟨e2.1 h,by omega⟩
   ·rintro⟨_,h'⟩;omega
  ·constructor
   ·intro h';cases h'
   ·rintro⟨h',_⟩;rw [e2.2 h'] at h;cases h
end
end Go.Gk
namespace Go.Gk
open Go Classical
section
variable {N:Nat}
section
variable {α:Type}
def sd (P:α->Bool) (l:List α) (n:Nat):List Nat:=(List.range n).filter (fun k=>(l[k]?).any P)
theorem Dm {P:α->Bool} {l:List α} {n:Nat} {x:α} (h:l[n]? =some x):sd P l (n+1)=if P x=true then sd P l n++[n] else sd P l n:=by
 unfold sd
 rw [List.range_succ,g8]
 by_cases hp:P x=true
 ·rw [aD hp];simp [h,hp]
 ·rw [aC hp];simp [h,hp]
theorem zP (P:α->Bool) (l:List α) (n:Nat): (sd P l n).length<=n:=by
 have:=jz (fun k=>(l[k]?).any P) (List.range n)
 rw [List.length_range] at this;exact this
theorem Fe {P:α->Bool} {l:List α} {n k:Nat}:k∈sd P l n↔k<n/\(l[k]?).any P=true:=by unfold sd;simp
theorem vA {β:Type} {l:List α} (P:α->Bool) (g:Nat->β):m9 l.length (fun k=>(l[k]?).bind fun x=>if P x=true then some (g k) else none)= (l.findIdx? P).map g:=by
 cases h:l.findIdx? P with
 | none=>
  rw [List.findIdx?_eq_none_iff] at h
  refine gC.2 fun k hk=>?_
  rw [aJ hk]
  have:=h _ (cJ hk)
  simp [this]
 | some j=>
  obtain⟨hj,hp,hn⟩:=List.findIdx?_eq_some_iff_getElem.1 h
  refine iK.2 ⟨j,hj,by rw [aJ hj];simp [hp],fun i hi=>?_⟩
  rw [aJ (by omega)]
  have:=hn i hi
  simp [this]
end
def ints (l:List Nat):List Int:=l.map fun i=>((i:Nat):Int)
theorem sf (l m:List Nat):ints (l++m)=ints l++ints m:=eQ
theorem mB (l:List Nat): (ints l).length=l.length:=fD _
theorem yC {l:List Nat} {x:Int}:x∈ints l↔∃i∈l,x= ((i:Nat):Int):=by
 unfold ints;rw [cR]
 constructor
 ·rintro⟨i,h1,h2⟩;exact⟨i,h1,h2.symm⟩
 ·rintro⟨i,h1,h2⟩;exact⟨i,h1,h2.symm⟩
def Ed (p0 p1:aI):Bool:=((((decide (p0.X0<p1.X1))&&(decide (p1.X0<p0.X1)))&&((p0.Y1==p1.Y0)||(p1.Y1==p0.Y0)))||(((decide (p0.Y0<p1.Y1))&&(decide (p1.Y0<p0.Y1)))&&((p0.X1==p1.X0)||(p1.X1==p0.X0))))
def mC (b:bZ) (p:aH):Bool:=b.ij&&(lQ b p.cZ&&p.iZ.any (fun r=>Ed r (xw b)))
def eL (bs:List bZ) (pcs:List aH):List (List Int):=bs.map fun b=>ints (sd (mC b) pcs pcs.length)
theorem pg {l:List aI} {φ:aI->Option Bool} (p:aI->Bool) (hl:l.length<=4611686018427387904) (h: ∀x∈l,φ x=some (p x)):fJ N l φ=some (l.any p):=
 pO p hl h
theorem GN {bs:List bZ} {pcs:List aH} (hb:mY bs) (hp:pcs.length<=1073741824) (hr: ∀p∈pcs,p.iZ.length<=1073741824):iO N bs pcs []=some (eL bs pcs):=by
 refine Ok.get ?_
 have hbl:=hb.len
 unfold iO
 refine Ok.bind (Ok.iF (fun k st=>st=eL (bs.take k) pcs) (by omega) rfl (fun k st hk e=>?_)) (fun st e=>Ok.ret (by rw [e,eR]))
 subst e
 have hg:=hb.ok _ (cJ hk)
 refine Ok.idx hk ?_
 refine Ok.bind (P:=fun t=>t=ints (sd (mC bs[k]) pcs pcs.length)) (Ok.iF (fun j t=>t=ints (sd (mC bs[k]) pcs j)) (by omega) rfl (fun j t hj e=>?_)) (fun t e=>?_)
 ·subst e
  have hjx:pcs[j]? =some pcs[j]:=aJ hj
  have hl:=zP (mC bs[k]) pcs j
  refine Ok.ix hjx ?_
  refine Ok.eq (x:=mC bs[k] pcs[j]) ?_ ?_
  ·unfold mC
   cases bs[k].ij with
   | false=>rfl
   | true=>
    rw [aR,yA,aB,Bool.true_and]
    cases lQ bs[k] pcs[j].cZ with
    | false=>rfl
    | true=>
     rw [aR,pg (fun r=>Ed r (xw bs[k])) (by have:=hr _ (cJ hj);omega) (fun r _=>by
      unfold iV;rw [mg hg.1];rfl),aB,Bool.true_and]
  ·rw [Dm hjx]
   cases ht:mC bs[k] pcs[j] with
   | false=>rw [aS,aC (by simp)];exact Ok.eq rfl (Ok.ret rfl)
   | true=>
    rw [aR,aD rfl]
    refine Ok.eq (x:=ints (sd (mC bs[k]) pcs j)++[((j:Nat):Int)]) (by rw [gH (by rw [mB];simp;omega),aB]) (Ok.ret ?_)
    rw [sf];rfl
 ·subst e
  refine Ok.app ?_ (Ok.ret ?_)
  ·unfold eL;simp;omega
  ·unfold eL
   rw [fu hk,eQ];rfl
def Cn (r:List aI) (p:eN):Bool:=r.any (fun x=>decide (p.X>=x.X0)&&(decide (p.X<x.X1)&&(decide (p.Y>=x.Y0)&&decide (p.Y<x.Y1))))
theorem vB {r:List aI} {p:eN} (hl:r.length<=4611686018427387904):jc N r p=some (Cn r p):=by
 unfold jc
 rw [pg (fun x=>decide (p.X>=x.X0)&&(decide (p.X<x.X1)&&(decide (p.Y>=x.Y0)&&decide (p.Y<x.Y1)))) hl (fun x _=>by
  unfold jX
  cases decide (p.X>=x.X0) <;> cases decide (p.X<x.X1) <;> cases decide (p.Y>=x.Y0) <;> rfl)];rfl
def ui (l:cY) (b:bZ):Bool:=b.ij&&(lQ b l.cZ&&Cn [xw b] l.At)
def vC (l:cY) (p:aH):Bool:=(p.cZ==l.cZ)&&Cn p.iZ l.At
def nD (bs:List bZ) (pcs:List aH) (l:cY):Option dU:=match bs.findIdx? (ui l) with
 | some k=>some ⟨true,((k:Nat):Int)⟩
 | none=>(pcs.findIdx? (vC l)).map fun k=>⟨false,((k:Nat):Int)⟩
theorem GO {bs:List bZ} {pcs:List aH} (hb:mY bs) (hp:pcs.length<=1073741824) (hr: ∀p∈pcs,p.iZ.length<=1073741824) (l:cY):
  iQ N bs pcs l=some ((nD bs pcs l).getD ⟨false,0⟩,(nD bs pcs l).isSome):=by
 have hbl:=hb.len
 unfold iQ
 rw [mz (fun k=>(bs[k]?).bind fun x=>if ui l x=true then some ((⟨true,((k:Nat):Int)⟩:dU),true) else none) (by omega) (fun k hk _=>by
  have hkx:bs[k]? =some bs[k]:=aJ hk
  have hg:=hb.ok _ (cJ hk)
  rw [dD hkx,aB,hkx,mg hg.1,aB,aB,vB (by simp)]
  unfold ui
  cases bs[k].ij with
  | false=>rfl
  | true=>
   show (((bif lQ bs[k] l.cZ then _ else _:Option Bool)).bind _)=_
   cases lQ bs[k] l.cZ with
   | false=>rfl
   | true=>
    cases Cn [xw bs[k]] l.At <;> rfl),aB,vA (ui l) (fun k=>((⟨true,((k:Nat):Int)⟩:dU),true))]
 unfold nD
 cases bs.findIdx? (ui l) with
 | some k=>rfl
 | none=>
  show ((oZ pcs.length _ ()).bind _)=_
  rw [mz (fun k=>(pcs[k]?).bind fun x=>if vC l x=true then some ((⟨false,((k:Nat):Int)⟩:dU),true) else none) (by omega) (fun k hk _=>by
   have hkx:pcs[k]? =some pcs[k]:=aJ hk
   rw [dD hkx,aB,hkx,aB,vB (by have:=hr _ (cJ hk);omega)]
   unfold vC
   cases pcs[k].cZ==l.cZ with
   | false=>rfl
   | true=>cases Cn pcs[k].iZ l.At <;> rfl),aB,vA (vC l) (fun k=>((⟨false,((k:Nat):Int)⟩:dU),true))]
  cases pcs.findIdx? (vC l) <;> rfl
def Lk (n:Nat) (tch:List (List Int)) (i j:Nat):Prop:=∃(k:Nat) (l:List Int),tch[k]? =some l/\((i:Nat):Int)∈l/\j=n+k
structure zf (n m:Nat) (tch:List (List Int)) (r:Nat->Nat):Prop where
 le: ∀i,i<n+m->r i<=i
 rr: ∀i,i<n+m->r (r i)=r i
 co: ∀i j,Lk n tch i j->r i=r j
 fi: ∀S:Nat->Prop,(∀i j,Lk n tch i j->(S i↔S j))->∀i j,i<n+m->j<n+m->r i=r j->S i->S j
theorem zQ {n m:Nat} {tch:List (List Int)} (hm:tch.length=m) (ht: ∀l∈tch,l.length<=1073741824/\∀x∈l,∃i:Nat,i<n/\x= ((i:Nat):Int)) (hn:n<=1073741824) (hm2:m<=1073741824) {up:List Int} (hu:UF (n+m) up (fun i=>i)) (hN:4398046511104<=N):
  Ok (iF tch.length (fun(k34:Nat) (s35: (List Int))=>((idx tch (k34:Int)).bind fun x89=>(iF x89.length (fun(k92:Nat) (s93: (List Int))=>((idx x89 (k92:Int)).bind fun x107=>(dH N s93 x107 (IntKind.wrap .i64 ((n:Int)+ (k34:Int)))).bind fun x109=>some x109:Option ((List Int)))) s35).bind fun s93=>some s93:Option ((List Int)))) up)
   (fun up'=>∃r,UF (n+m) up' r/\zf n m tch r):=by
 have base:Ok (iF tch.length (fun(k34:Nat) (s35: (List Int))=>((idx tch (k34:Int)).bind fun x89=>(iF x89.length (fun(k92:Nat) (s93: (List Int))=>((idx x89 (k92:Int)).bind fun x107=>(dH N s93 x107 (IntKind.wrap .i64 ((n:Int)+ (k34:Int)))).bind fun x109=>some x109:Option ((List Int)))) s35).bind fun s93=>some s93:Option ((List Int)))) up)
   (fun up'=>∃r E,UF (n+m) up' r/\mW r E/\wt (n+m) r E/\(∀p∈E,Lk n tch p.1 p.2)/\∀(k:Nat) l (i:Nat),k<tch.length->tch[k]? =some l->((i:Nat):Int)∈l->(i,n+k)∈E):=by
  refine Ok.iF (fun q up'=>∃r E,UF (n+m) up' r/\mW r E/\wt (n+m) r E/\(∀p∈E,Lk n tch p.1 p.2)/\∀(k:Nat) l (i:Nat),k<q->tch[k]? =some l->((i:Nat):Int)∈l->(i,n+k)∈E) (by omega)
   ⟨_,_,hu,mW.id,wt.id _,fun p hp=>(by cases hp),fun k l i hk=>by omega⟩ (fun q up' hq hI=>?_)
  obtain⟨r,E,h1,h2,h3,h4,h5⟩:=hI
  have hqx:tch[q]? =some tch[q]:=aJ hq
  obtain⟨hl1,hl2⟩:=ht _ (cJ hq)
  refine Ok.ix hqx ?_
  rw [wrap_add (by omega)]
  refine Ok.bind (Ok.iF (fun t up'=>∃r E,UF (n+m) up' r/\mW r E/\wt (n+m) r E/\(∀p∈E,Lk n tch p.1 p.2)/\(∀(k:Nat) l (i:Nat),k<q->tch[k]? =some l->((i:Nat):Int)∈l->(i,n+k)∈E)/\∀i:Nat,((i:Nat):Int)∈tch[q].take t->(i,n+q)∈E) (by omega)
   ⟨r,E,h1,h2,h3,h4,h5,fun i hi=>by simp at hi⟩ (fun t up' htl hI=>?_)) (fun up' hI=>Ok.ret ?_)
  ·obtain⟨r,E,h1,h2,h3,h4,h5,h6⟩:=hI
   refine Ok.idx htl ?_
   obtain⟨i,hi,e⟩:=hl2 _ (cJ htl)
   rw [e]
   obtain⟨u2,a1,a2⟩:=D9 (N:=N) h1 (i:=i) (k:=n+q) (by omega) (by omega) (by omega)
   refine Ok.eq a1 (Ok.ret ⟨_,_,a2,h2.join i (n+q) (h1.rr i (by omega)),h3.join (by omega) (by omega),fun p hp=>?_,fun k l j hk hl hj=>List.mem_append_left _ (h5 k l j hk hl hj),fun j hj=>?_⟩)
   ·rcases cU.1 hp with hp | hp
    ·exact h4 p hp
    ·simp at hp;subst hp
     exact⟨q,tch[q],hqx,by rw [<-e];exact cJ htl,rfl⟩
   ·rw [fu htl,cU] at hj
    rcases hj with hj | hj
    ·exact List.mem_append_left _ (h6 j hj)
    ·rw [List.mem_singleton,e] at hj
     have:j=i:=by omega
     subst this;simp
  ·obtain⟨r,E,h1,h2,h3,h4,h5,h6⟩:=hI
   refine⟨r,E,h1,h2,h3,h4,fun k l i hk hl hi=>?_⟩
   by_cases hkq:k<q
   ·exact h5 k l i hkq hl hi
   ·have:k=q:=by omega
    subst this
    rw [hqx] at hl;injection hl with hl;subst hl
    exact h6 i (by rw [eR];exact hi)
 obtain⟨up',e,r,E,h1,h2,h3,h4,h5⟩:=base
 have hE: ∀i j,Lk n tch i j->(i,j)∈E:=fun i j ⟨k,l,hl,hi,hj⟩=>by
  rw [hj];exact h5 k l i (bD.1 hl).1 hl hi
 exact⟨up',e,r,h1,h1.le,h1.rr,fun i j h=>h2 (i,j) (hE i j h),fun S hS i j hi hj=>h3 S (fun p hp=>hS p.1 p.2 (h4 p hp)) i j hi hj⟩
def vD (bs:List bZ) (j:Nat):Bool:=(bs[j]?).any (fun b=>b.ij)
def gP (n:Nat) (c:List Nat):List Nat:=c.filter (fun i=>decide (i<n))
def gB (bs:List bZ) (n:Nat) (c:List Nat):List Nat:=(c.filter (fun i=> !decide (i<n)&&vD bs (i - n))).map (fun i=>i - n)
def GP (bs:List bZ) (n:Nat) (c:List Nat):Bool:=decide (0< (gP n c).length+ (gB bs n c).length)
def M3 (bs:List bZ) (n:Nat) (c:List Nat):cI:=⟨ints (gP n c),ints (gB bs n c),[]⟩
theorem Ee (n:Nat) (c:List Nat) (i:Nat):gP n (c++[i])=if i<n then gP n c++[i] else gP n c:=by
 unfold gP;rw [g8];split <;> rename_i h <;> simp [h]
theorem Ef (bs:List bZ) (n:Nat) (c:List Nat) (i:Nat):gB bs n (c++[i])=if i<n then gB bs n c else if vD bs (i - n)=true then gB bs n c++[i - n] else gB bs n c:=by
 unfold gB;rw [g8,eQ]
 split
 ·rename_i h;simp [h]
 ·rename_i h
  split <;> rename_i h2 <;> simp [h,h2]
theorem GQ (n:Nat) (c:List Nat): (gP n c).length<=c.length:=jz _ _
theorem GR (bs:List bZ) (n:Nat) (c:List Nat): (gB bs n c).length<=c.length:=by unfold gB;rw [fD];exact jz _ _
def live (bs:List bZ) (n t:Nat) (r:Nat->Nat) (hs:List Nat):List Nat:=hs.filter (fun h=>GP bs n (cls t r h))
def qE (bs:List bZ) (n t:Nat) (r:Nat->Nat) (hs:List Nat):List cI:=(live bs n t r hs).map (fun h=>M3 bs n (cls t r h))
theorem Ff (bs:List bZ) (n t:Nat) (r:Nat->Nat) (hs:List Nat) (h:Nat):live bs n t r (hs++[h])=if GP bs n (cls t r h)=true then live bs n t r hs++[h] else live bs n t r hs:=by
 unfold live;rw [g8];split <;> rename_i h2 <;> simp [h2]
theorem sg (bs:List bZ) (n t:Nat) (r:Nat->Nat) (hs:List Nat): (qE bs n t r hs).length= (live bs n t r hs).length:=by unfold qE;rw [fD]
def gi (bs:List bZ) (n t:Nat) (r:Nat->Nat) (h:Nat):Nat:=(live bs n t r ((bV t r).takeWhile (fun x=>decide (x≠h)))).length
theorem tz {l:List Nat} (hn:l.Nodup) {k h:Nat} (hk:l[k]? =some h):l.takeWhile (fun x=>decide (x≠h))=l.take k:=by
 induction l generalizing k with
 | nil=>simp at hk
 | cons a l ih=>
  cases k with
  | zero=>simp at hk;subst hk;simp
  | succ k=>
   have hk:l[k]? =some h:=by simpa using hk
   have hne:a≠h:=fun e=>(List.nodup_cons.1 hn).1 (by rw [e];exact gT hk)
   rw [List.takeWhile_cons,aD (by simpa using hne),List.take_succ_cons,ih (List.nodup_cons.1 hn).2 hk]
theorem qF (bs:List bZ) (n t:Nat) (r:Nat->Nat) (hs:List Nat): (live bs n t r hs).length<=hs.length:=jz _ _
theorem Co {bs:List bZ} {n t:Nat} {r:Nat->Nat} {h:Nat} (hh:h∈bV t r) (hne:GP bs n (cls t r h)=true):gi bs n t r h< (live bs n t r (bV t r)).length/\(live bs n t r (bV t r))[gi bs n t r h]? =some h:=by
 obtain⟨k,hk⟩:=gk hh
 have hkl:=(bD.1 hk).1
 unfold gi
 rw [tz (mf t r) hk]
 have e:bV t r= (bV t r).take k++h::(bV t r).drop (k+1):=by
  have h1:=(List.take_append_drop k (bV t r)).symm
  rw [qh hkl,(bD.1 hk).2] at h1;exact h1
 have e2:live bs n t r (bV t r)=live bs n t r ((bV t r).take k)++h::live bs n t r ((bV t r).drop (k+1)):=by
  conv=>lhs;rw [e]
  unfold live
  rw [g8,List.filter_cons,aD hne]
 constructor
 ·rw [e2];simp
 ·rw [e2]
  simp
end
end Go.Gk
namespace Go.Gk
open Go Classical
section
variable {N:Nat}
theorem zR {l:List Nat} (h:l.Nodup) {i j a:Nat} (hi:l[i]? =some a) (hj:l[j]? =some a):i=j:=
 (List.getElem_inj (h₀:=(bD.1 hi).1) (h₁:=(bD.1 hj).1) h).1 (by rw [(bD.1 hi).2,(bD.1 hj).2])
theorem sS {n i k:Nat} {r:Nat->Nat}:i∈cls n r k↔i<n/\r i=k:=by unfold cls;simp
theorem Fg (n:Nat) (r:Nat->Nat) (k:Nat): (cls n r k).Nodup:=List.Nodup.sublist List.filter_sublist List.nodup_range
structure Ln (bs:List bZ) (n m:Nat) (r:Nat->Nat) (hs:List Nat) (ofP ofB:List Int):Prop where
 lp:ofP.length=n
 lb:ofB.length=m
 pc: ∀i,i<n->r i∈hs->ofP[i]? =some ((gi bs n (n+m) r (r i):Nat):Int)
 bo: ∀j,j<m->r (n+j)∈hs->ofB[j]? =some (if vD bs j=true then ((gi bs n (n+m) r (r (n+j)):Nat):Int) else -1)
theorem Cp {bs:List bZ} {n m:Nat} {r:Nat->Nat} (hm:bs.length=m) (hn:n<=1073741824) (hm2:m<=1073741824) {op ob:List Int} (hop:op.length=n) (hob:ob.length=m)
  {body:Nat->List cI×List Int×List Int->Option (List cI×List Int×List Int)}
  (hbody:body= (fun(k123:Nat) (s124: (List cI)×(List Int)×(List Int))=>((idx (oF (n+m) r) (k123:Int)).bind fun x455=>(iF x455.length (fun(k458:Nat) (s459: (List Int)×(List Int)×(List Int)×(List Int))=>((idx x455 (k458:Int)).bind fun x556=>(bif (decide (x556< (n:Int))) then ((idx s459.1 x556).bind fun x580=>(app 8 s459.2.2.1 ([x556]: (List Int))).bind fun x582=>some ((s459.1.set (Int.toNat x556) (s124.1.length:Int)),s459.2.1,x582,s459.2.2.2)) else ((idx bs (IntKind.wrap .i64 (x556 - (n:Int)))).bind fun x584=>(bif x584.ij then ((idx s459.2.1 (IntKind.wrap .i64 (x556 - (n:Int)))).bind fun x594=>(app 8 s459.2.2.2 ([(IntKind.wrap .i64 (x556 - (n:Int)))]: (List Int))).bind fun x596=>some ((s459.2.1.set (Int.toNat (IntKind.wrap .i64 (x556 - (n:Int)))) (s124.1.length:Int)),x596)) else ((idx s459.2.1 (IntKind.wrap .i64 (x556 - (n:Int)))).bind fun x598=>some ((s459.2.1.set (Int.toNat (IntKind.wrap .i64 (x556 - (n:Int)))) (-1)),s459.2.2.2))).bind fun s592=>some (s459.1,s592.1,s459.2.2.1,s592.2))).bind fun s577=>some (s577.1,s577.2.1,s577.2.2.1,s577.2.2.2):Option ((List Int)×(List Int)×(List Int)×(List Int)))) (s124.2.1,s124.2.2,([]: (List Int)),([]: (List Int)))).bind fun s459=>(bif (decide ((IntKind.wrap .i64 ((s459.2.2.1.length:Int)+ (s459.2.2.2.length:Int)))>0)) then ((app 72 s124.1 [(⟨s459.2.2.1,s459.2.2.2,([]: (List fV))⟩:cI)]).bind fun x610=>some x610) else (some s124.1)).bind fun s606=>some (s606,s459.1,s459.2.1):Option ((List cI)×(List Int)×(List Int))))):
  Ok (iF (oF (n+m) r).length body ([],op,ob)) (fun st=>st.1=qE bs n (n+m) r (bV (n+m) r)/\Ln bs n m r (bV (n+m) r) st.2.1 st.2.2):=by
 subst hbody
 have hsl: (oF (n+m) r).length= (bV (n+m) r).length:=by unfold oF;simp
 have hhl:=mX (n+m) r
 refine Ok.mono (Ok.iF (fun(k:Nat) (st:List cI×List Int×List Int)=>st.1=qE bs n (n+m) r ((bV (n+m) r).take k)/\Ln bs n m r ((bV (n+m) r).take k) st.2.1 st.2.2) (by omega) ⟨rfl,hop,hob,fun i hi h=>by simp at h,fun j hj h=>by simp at h⟩ (fun k st hk hI=>?_)) (fun st h=>by rw [hsl,eR] at h;exact h)
 obtain⟨gs,ofP,ofB⟩:=st
 obtain⟨e1,I⟩:=hI
 dsimp only at e1 I ⊢
 subst e1
 rw [hsl] at hk
 have hkx: (bV (n+m) r)[k]? =some (bV (n+m) r)[k]:=aJ hk
 have hts: (bV (n+m) r).take (k+1)= (bV (n+m) r).take k++[(bV (n+m) r)[k]]:=fu hk
 have hgk:gi bs n (n+m) r (bV (n+m) r)[k]= (qE bs n (n+m) r ((bV (n+m) r).take k)).length:=by
  unfold gi;rw [tz (mf _ _) hkx,sg]
 generalize hh: (bV (n+m) r)[k]=h at *
 have hsx: (oF (n+m) r)[k]? =some (ints (cls (n+m) r h)):=by unfold oF;rw [fG,hkx];rfl
 refine Ok.ix hsx ?_
 have hcl:=AW (n+m) r h
 rw [mB]
 have hgl: (qE bs n (n+m) r ((bV (n+m) r).take k)).length<=n+m:=by
  rw [sg]
  have:=qF bs n (n+m) r ((bV (n+m) r).take k)
  rw [dF] at this;omega
 have hold: ∀i∈cls (n+m) r h,∀i',r i'∈(bV (n+m) r).take k->i≠i':=fun i hi i' hi' e=>by
  subst e
  rw [(sS.1 hi).2] at hi'
  obtain⟨j,hj⟩:=gk hi'
  have hjk:j<k:=by have:=(bD.1 hj).1;rw [dF] at this;omega
  rw [List.getElem?_take_of_lt hjk] at hj
  have:=zR (mf (n+m) r) hj hkx
  omega
 refine Ok.bind (P:=fun s'=>Ln bs n m r ((bV (n+m) r).take (k+1)) s'.1 s'.2.1/\s'.2.2.1=ints (gP n (cls (n+m) r h))/\s'.2.2.2=ints (gB bs n (cls (n+m) r h))) (Ok.mono (Ok.iF
  (fun(t:Nat) (s':List Int×List Int×List Int×List Int)=>Ln bs n m r ((bV (n+m) r).take k) s'.1 s'.2.1/\s'.2.2.1=ints (gP n ((cls (n+m) r h).take t))/\s'.2.2.2=ints (gB bs n ((cls (n+m) r h).take t))/\
   (∀i∈(cls (n+m) r h).take t,i<n->s'.1[i]? =some ((gi bs n (n+m) r h:Nat):Int))/\∀i∈(cls (n+m) r h).take t,¬i<n->s'.2.1[i - n]? =some (if vD bs (i - n)=true then ((gi bs n (n+m) r h:Nat):Int) else -1)) (by omega)
   ⟨I,rfl,rfl,fun i hi=>by simp at hi,fun i hi=>by simp at hi⟩ (fun t s' ht hI'=>?_)) ?_) ?_
 ·obtain⟨oP,oB,pp,bb⟩:=s'
  obtain⟨J,e2,e3,J1,J2⟩:=hI'
  dsimp only at J e2 e3 J1 J2 ⊢
  subst e2;subst e3
  have htx: (ints (cls (n+m) r h))[t]? =some (((cls (n+m) r h)[t]:Nat):Int):=by unfold ints;rw [fG,aJ ht];rfl
  refine Ok.ix htx ?_
  have htt: (cls (n+m) r h).take (t+1)= (cls (n+m) r h).take t++[(cls (n+m) r h)[t]]:=fu ht
  have hcm:=cJ ht
  have hdist: ∀i∈(cls (n+m) r h).take t,i≠(cls (n+m) r h)[t]:=fun i hi e=>by
   obtain⟨j,hj⟩:=gk hi
   have hjt:j<t:=by have:=(bD.1 hj).1;rw [dF] at this;omega
   rw [List.getElem?_take_of_lt hjt] at hj
   have:=zR (Fg (n+m) r h) hj (by rw [e];exact aJ ht)
   omega
  generalize (cls (n+m) r h)[t]=c at *
  obtain⟨hc1,hc2⟩:=sS.1 hcm
  have hgp:=GQ n ((cls (n+m) r h).take t)
  have hgb:=GR bs n ((cls (n+m) r h).take t)
  rw [dF] at hgp hgb
  by_cases hcn:c<n
  ·rw [cD (by omega: ((c:Nat):Int)< ((n:Nat):Int)),aR]
   refine Ok.bind (P:=fun x=>x= (oP.set c ((gi bs n (n+m) r h:Nat):Int),oB,ints (gP n ((cls (n+m) r h).take t))++[((c:Nat):Int)],ints (gB bs n ((cls (n+m) r h).take t)))) ?_ ?_
   ·refine Ok.idx (by rw [J.lp];exact hcn) (Ok.app (by rw [mB];simp;omega) (Ok.ret ?_))
    rw [bS,hgk]
   ·rintro _ rfl
    refine Ok.ret ⟨⟨by simp [J.lp],J.lb,fun i hi hr=>?_,J.bo⟩,?_,?_,fun i hi hin=>?_,fun i hi hin=>?_⟩
    ·dsimp only
     rw [lY (by rw [J.lp];exact hcn),aC (fun e=>hold c hcm i hr e.symm)];exact J.pc i hi hr
    ·dsimp only;rw [htt,Ee,aD hcn,sf];rfl
    ·dsimp only;rw [htt,Ef,aD hcn]
    ·dsimp only
     rw [lY (by rw [J.lp];exact hcn)]
     split
     ·rfl
     ·rename_i hne
      rw [htt] at hi
      rcases cU.1 hi with hi | hi
      ·exact J1 i hi hin
      ·exact absurd (by simpa using hi) hne
    ·rw [htt] at hi
     rcases cU.1 hi with hi | hi
     ·exact J2 i hi hin
     ·have:i=c:=by simpa using hi
      subst this;exact absurd hcn hin
  ·rw [bF (by omega: ¬((c:Nat):Int)< ((n:Nat):Int)),aS]
   have hw:IntKind.wrap .i64 (((c:Nat):Int) - ((n:Nat):Int))= ((c - n:Nat):Int):=by rw [fx (by omega) (by omega)];omega
   have hcm2:c - n<bs.length:=by omega
   have hpl:vD bs (c - n)=bs[c - n].ij:=by unfold vD;rw [aJ hcm2];rfl
   rw [hw]
   refine Ok.bind (P:=fun x=>x= (oP,oB.set (c - n) (if vD bs (c - n)=true then ((gi bs n (n+m) r h:Nat):Int) else -1),ints (gP n ((cls (n+m) r h).take t)),ints (gB bs n ((cls (n+m) r h).take t++[c])))) ?_ ?_
   ·refine Ok.idx hcm2 ?_
    rw [Ef,aC hcn,hpl]
    cases hp:bs[c - n].ij with
    | true=>
     rw [aR,aD rfl,aD rfl]
     refine Ok.eq (x:=(oB.set (c - n) ((gi bs n (n+m) r h:Nat):Int),ints (gB bs n ((cls (n+m) r h).take t)++[c - n]))) ?_ (Ok.ret rfl)
     rw [jD _ _ (by rw [J.lb];omega),aB,gH (by rw [mB];simp;omega),aB,bS,hgk,sf];rfl
    | false=>
     rw [aS,aC (by simp),aC (by simp)]
     refine Ok.eq (x:=(oB.set (c - n) (-1),ints (gB bs n ((cls (n+m) r h).take t)))) ?_ (Ok.ret rfl)
     rw [jD _ _ (by rw [J.lb];omega),aB,bS]
   ·rintro _ rfl
    refine Ok.ret ⟨⟨J.lp,by simp [J.lb],J.pc,fun j hj hr=>?_⟩,?_,?_,fun i hi hin=>?_,fun i hi hin=>?_⟩
    ·dsimp only
     rw [lY (by rw [J.lb];omega),aC (fun e=>hold c hcm (n+j) hr (by omega))];exact J.bo j hj hr
    ·dsimp only;rw [htt,Ee,aC hcn]
    ·dsimp only;rw [htt]
    ·rw [htt] at hi
     rcases cU.1 hi with hi | hi
     ·exact J1 i hi hin
     ·have:i=c:=by simpa using hi
      subst this;exact absurd hin hcn
    ·dsimp only
     rw [lY (by rw [J.lb];omega)]
     split
     ·rename_i e;rw [e]
     ·rename_i hne
      rw [htt] at hi
      rcases cU.1 hi with hi | hi
      ·exact J2 i hi hin
      ·exact absurd (by have:i=c:=(by simpa using hi);rw [this]) hne
 ·rintro⟨oP,oB,pp,bb⟩ ⟨J,e2,e3,J1,J2⟩
  dsimp only at J e2 e3 J1 J2 ⊢
  rw [eR] at e2 e3 J1 J2
  refine⟨⟨J.lp,J.lb,fun i hi hr=>?_,fun j hj hr=>?_⟩,e2,e3⟩
  ·rw [hts] at hr
   rcases cU.1 hr with hr | hr
   ·exact J.pc i hi hr
   ·have hr:r i=h:=by simpa using hr
    rw [hr];exact J1 i (sS.2 ⟨by omega,hr⟩) hi
  ·rw [hts] at hr
   rcases cU.1 hr with hr | hr
   ·exact J.bo j hj hr
   ·have hr:r (n+j)=h:=by simpa using hr
    rw [hr]
    have:=J2 (n+j) (sS.2 ⟨by omega,hr⟩) (by omega)
    rwa [Nat.add_sub_cancel_left] at this
 ·rintro⟨oP,oB,pp,bb⟩ ⟨J,e2,e3⟩
  dsimp only at J e2 e3 ⊢
  subst e2;subst e3
  have hgp:=GQ n (cls (n+m) r h)
  have hgb:=GR bs n (cls (n+m) r h)
  rw [mB,mB,wrap_add (by omega)]
  have hgs:qE bs n (n+m) r ((bV (n+m) r).take (k+1))=if GP bs n (cls (n+m) r h)=true then qE bs n (n+m) r ((bV (n+m) r).take k)++[M3 bs n (cls (n+m) r h)] else qE bs n (n+m) r ((bV (n+m) r).take k):=by
   unfold qE
   rw [hts,Ff]
   split
   ·rw [eQ];rfl
   ·rfl
  refine Ok.bind (P:=fun x=>x=qE bs n (n+m) r ((bV (n+m) r).take (k+1))) (Ok.bif (fun hb=>?_) (fun hb=>Ok.ret ?_)) (fun x e=>Ok.ret ⟨e,J⟩)
  ·have hne:GP bs n (cls (n+m) r h)=true:=cD (by have:=of_decide_eq_true hb;omega)
   refine Ok.app (by simp;omega) (Ok.ret ?_)
   rw [hgs,aD hne];rfl
  ·have hne: ¬GP bs n (cls (n+m) r h)=true:=fun h'=>by
    have h1:=of_decide_eq_true h'
    have h2:=of_decide_eq_false hb
    omega
   rw [hgs,aC hne]
end
end Go.Gk
namespace Go.Gk
open Go Classical
section
variable {N:Nat}
def eP (n:Nat) (h:dU):Nat:=if h.bZ=true then n+h.Number.toNat else h.Number.toNat
structure GS (bs:List bZ) (n m:Nat) (h:dU):Prop where
 num: ∃k:Nat,h.Number= ((k:Nat):Int)/\(h.bZ=true->k<m/\vD bs k=true)/\(h.bZ=false->k<n)
theorem Dn {bs:List bZ} {pcs:List aH} {l:cY} {h:dU} (hh:nD bs pcs l=some h):GS bs pcs.length bs.length h:=by
 unfold nD at hh
 cases hf:bs.findIdx? (ui l) with
 | some k=>
  rw [hf] at hh
  injection hh with hh;subst hh
  obtain⟨hk,hp,_⟩:=List.findIdx?_eq_some_iff_getElem.1 hf
  refine⟨k,rfl,fun _=>⟨hk,?_⟩,fun h=>by cases h⟩
  unfold ui at hp
  unfold vD
  rw [aJ hk]
  rw [bT] at hp
  exact hp.1
 | none=>
  rw [hf] at hh
  dsimp only at hh
  rw [Option.map_eq_some_iff] at hh
  obtain⟨k,hk,rfl⟩:=hh
  obtain⟨hk,_⟩:=List.findIdx?_eq_some_iff_getElem.1 hk
  exact⟨k,rfl,fun h=>(by cases h),fun _=>hk⟩
def uj (bs:List bZ) (pcs:List aH) (r:Nat->Nat) (l:cY):Option Nat:=(nD bs pcs l).map fun h=>gi bs pcs.length (pcs.length+bs.length) r (r (eP pcs.length h))
def Bf (bs:List bZ) (pcs:List aH) (r:Nat->Nat) (l:cY):Int:=match uj bs pcs r l with | some g=>((g:Nat):Int) | none=> -1
def iU (gs:List cI) (lg:cY->Option Nat) (ls:List cY):List cI:=gs.mapIdx (fun g x=>{x with gV:=(ls.filter (fun l=>decide (lg l=some g))).map kV})
theorem j7 {gs:List cI} {lg:cY->Option Nat} {ls:List cY} {g:Nat}: (iU gs lg ls)[g]? = (gs[g]?).map fun x=>{x with gV:=(ls.filter (fun l=>decide (lg l=some g))).map kV}:=by
 unfold iU;rw [List.getElem?_mapIdx]
theorem vE (gs:List cI) (lg:cY->Option Nat) (ls:List cY): (iU gs lg ls).length=gs.length:=by unfold iU;rw [List.length_mapIdx]
theorem zg {gs:List cI} {lg:cY->Option Nat} {ls:List cY} {l:cY} (h:lg l=none):iU gs lg (ls++[l])=iU gs lg ls:=by
 apply List.ext_getElem?
 intro g
 rw [j7,j7]
 congr 2
 funext x
 rw [g8]
 simp [h]
theorem A1 {gs:List cI} {lg:cY->Option Nat} {ls:List cY} {l:cY} {k:Nat} {x:cI} (h:lg l=some k) (hx: (iU gs lg ls)[k]? =some x):
  (iU gs lg ls).set k {x with gV:=x.gV++[kV l]}=iU gs lg (ls++[l]):=by
 apply List.ext_getElem?
 intro g
 have hk:=(bD.1 hx).1
 rw [fw]
 by_cases e:k=g
 ·subst e
  rw [aD rfl,aD hk,j7]
  rw [j7,Option.map_eq_some_iff] at hx
  obtain⟨y,hy,rfl⟩:=hx
  rw [hy,g8]
  simp [h]
 ·rw [aC e,j7,j7]
  congr 2
  funext x
  rw [g8]
  have: ¬(lg l=some g):=by rw [h];intro h';injection h' with h';exact e h'
  simp [this]
theorem GU {bs:List bZ} {n t:Nat} {r:Nat->Nat} {i:Nat} (hi:i<n) (ht:i<t):GP bs n (cls t r (r i))=true:=by
 unfold GP
 rw [bK]
 have:i∈gP n (cls t r (r i)):=iB.2 ⟨sS.2 ⟨ht,rfl⟩,by simpa using hi⟩
 have:=List.length_pos_of_mem this
 omega
theorem GV {bs:List bZ} {n t:Nat} {r:Nat->Nat} {j:Nat} (hp:vD bs j=true) (ht:n+j<t):GP bs n (cls t r (r (n+j)))=true:=by
 unfold GP
 rw [bK]
 have:j∈gB bs n (cls t r (r (n+j))):=cR.2 ⟨n+j,iB.2 ⟨sS.2 ⟨ht,rfl⟩,by simp [hp]⟩,by omega⟩
 have:=List.length_pos_of_mem this
 omega
structure yD (bs:List bZ) (ls:List cY) (pcs:List aH) (r:Nat->Nat) (gs:List cI) (ofP ofB fH:List Int) (fC:List dU):Prop where
 conn:zf pcs.length bs.length (eL bs pcs) r
 gs:gs=iU (qE bs pcs.length (pcs.length+bs.length) r (bV (pcs.length+bs.length) r)) (uj bs pcs r) ls
 of:Ln bs pcs.length bs.length r (bV (pcs.length+bs.length) r) ofP ofB
 fH:fH=ls.map (Bf bs pcs r)
 fC:fC=ls.map (fun l=>(nD bs pcs l).getD ⟨false,0⟩)
theorem yE {bs:List bZ} {pcs:List aH} (hp:pcs.length<=1073741824): ∀l∈eL bs pcs,l.length<=1073741824/\∀x∈l,∃i:Nat,i<pcs.length/\x= ((i:Nat):Int):=by
 intro l hl
 unfold eL at hl
 obtain⟨b,_,rfl⟩:=cR.1 hl
 have:=zP (mC b) pcs pcs.length
 refine⟨by rw [mB];omega,fun x hx=>?_⟩
 obtain⟨i,hi,rfl⟩:=yC.1 hx
 exact⟨i,(Fe.1 hi).1,rfl⟩
theorem A2 {bs:List bZ} {ls:List cY} {pcs:List aH} (hb:mY bs) (hp:pcs.length<=1000000000) (hr: ∀p∈pcs,p.iZ.length<=1073741824) (hl:ls.length<=1073741824) (hN:4398046511104<=N):
  Ok (eT N bs ls pcs (eL bs pcs) [] [] [] []) (fun x=>∃r,yD bs ls pcs r x.1 x.2.1 x.2.2.1 x.2.2.2.1 x.2.2.2.2):=by
 have hbl:=hb.len
 unfold eT
 rw [wrap_add (by omega)]
 obtain⟨up0,u1,u2⟩:=rY (N:=N) (n:=pcs.length+bs.length) (by omega)
 refine Ok.eq u1 ?_
 refine Ok.bind (zQ (n:=pcs.length) (m:=bs.length) (by unfold eL;simp) (yE (by omega)) (by omega) (by omega) u2 hN) ?_
 rintro up1 ⟨r,v1,v2⟩
 refine Ok.eq (o4 0 (by omega)) (Ok.eq (o4 0 (by omega)) ?_)
 obtain⟨up2,w1,_⟩:=H6 (N:=N) v1 (by omega) (by omega)
 refine Ok.eq w1 ?_
 refine Ok.bind (Cp (bs:=bs) (n:=pcs.length) (m:=bs.length) (r:=r) rfl (by omega) (by omega) (op:=List.replicate pcs.length 0) (ob:=List.replicate bs.length 0) (by simp) (by simp) rfl) ?_
 rintro⟨gs,ofP,ofB⟩ ⟨e1,I⟩
 dsimp only at e1 I ⊢
 subst e1
 have hgl: (qE bs pcs.length (pcs.length+bs.length) r (bV (pcs.length+bs.length) r)).length<=pcs.length+bs.length:=by
  rw [sg]
  have:=qF bs pcs.length (pcs.length+bs.length) r (bV (pcs.length+bs.length) r)
  have:=mX (pcs.length+bs.length) r
  omega
 refine Ok.bind (Ok.iF (fun(k:Nat) (st:List cI×List Int×List Int×List Int×List dU)=>st= (iU (qE bs pcs.length (pcs.length+bs.length) r (bV (pcs.length+bs.length) r)) (uj bs pcs r) (ls.take k),ofP,ofB,(ls.take k).map (Bf bs pcs r),(ls.take k).map (fun l=>(nD bs pcs l).getD ⟨false,0⟩))) (by omega) ?_ (fun k st hk e=>?_)) ?_
 ·congr 1
  unfold iU
  apply List.ext_getElem?
  intro g
  rw [List.getElem?_mapIdx]
  unfold qE
  rw [fG]
  cases (live bs pcs.length (pcs.length+bs.length) r (bV (pcs.length+bs.length) r))[g]? <;> rfl
 ·subst e
  dsimp only
  have hts:ls.take (k+1)=ls.take k++[ls[k]]:=fu hk
  refine Ok.idx hk (Ok.eq (GO hb (by omega) hr _) ?_)
  dsimp only
  refine Ok.bind (P:=fun x=>x= (iU (qE bs pcs.length (pcs.length+bs.length) r (bV (pcs.length+bs.length) r)) (uj bs pcs r) (ls.take k++[ls[k]]),Bf bs pcs r ls[k])) ?_ ?_
  ·cases hh:nD bs pcs ls[k] with
   | none=>
    refine Ok.ret ?_
    have h1:uj bs pcs r ls[k]=none:=by unfold uj;rw [hh];rfl
    rw [zg h1]
    unfold Bf;rw [h1]
   | some h=>
    have h1:uj bs pcs r ls[k]=some (gi bs pcs.length (pcs.length+bs.length) r (r (eP pcs.length h))):=by unfold uj;rw [hh];rfl
    have h2:Bf bs pcs r ls[k]= ((gi bs pcs.length (pcs.length+bs.length) r (r (eP pcs.length h)):Nat):Int):=by unfold Bf;rw [h1]
    obtain⟨q,q1,q2,q3⟩:=(Dn hh).num
    have hix:eP pcs.length h<pcs.length+bs.length/\GP bs pcs.length (cls (pcs.length+bs.length) r (r (eP pcs.length h)))=true/\fY N ofP ofB h=some ((gi bs pcs.length (pcs.length+bs.length) r (r (eP pcs.length h)):Nat):Int):=by
     unfold fY eP
     rw [q1,bS]
     cases hbo:h.bZ with
     | true=>
      obtain⟨q4,q5⟩:=q2 hbo
      rw [aR,aD rfl]
      refine⟨by omega,GV q5 (by omega),?_⟩
      have:=I.bo q q4 (hZ.2 ⟨by have:=v2.le (pcs.length+q) (by omega);omega,v2.rr _ (by omega)⟩)
      rw [aD q5] at this
      rw [dD this,aB]
     | false=>
      have q4:=q3 hbo
      rw [aS,aC (by simp)]
      refine⟨by omega,GU q4 (by omega),?_⟩
      have:=I.pc q q4 (hZ.2 ⟨by have:=v2.le q (by omega);omega,v2.rr _ (by omega)⟩)
      rw [dD this,aB]
    obtain⟨i1,i2,i3⟩:=hix
    have hgi:=Co (r:=r) (t:=pcs.length+bs.length) (bs:=bs) (n:=pcs.length) (h:=r (eP pcs.length h)) (hZ.2 ⟨by have:=v2.le _ i1;omega,v2.rr _ i1⟩) i2
    have hgx:gi bs pcs.length (pcs.length+bs.length) r (r (eP pcs.length h))< (iU (qE bs pcs.length (pcs.length+bs.length) r (bV (pcs.length+bs.length) r)) (uj bs pcs r) (ls.take k)).length:=by
     rw [vE,sg];exact hgi.1
    rw [h2]
    dsimp only [Option.getD,Option.isSome]
    rw [aR]
    refine Ok.eq i3 ?_
    generalize gi bs pcs.length (pcs.length+bs.length) r (r (eP pcs.length h))=g at *
    refine Ok.idx hgx (Ok.eq (wy _) ?_)
    have hpl: ((iU (qE bs pcs.length (pcs.length+bs.length) r (bV (pcs.length+bs.length) r)) (uj bs pcs r) (ls.take k))[g]).gV.length<=ls.length:=by
     have:=j7 (gs:=qE bs pcs.length (pcs.length+bs.length) r (bV (pcs.length+bs.length) r)) (lg:=uj bs pcs r) (ls:=ls.take k) (g:=g)
     rw [aJ hgx] at this
     have:=this.symm
     rw [Option.map_eq_some_iff] at this
     obtain⟨y,_,hy⟩:=this
     rw [<-hy,fD]
     have:=jz (fun l=>decide (uj bs pcs r l=some g)) (ls.take k)
     rw [dF] at this;omega
    refine Ok.app (by simp;omega) (Ok.idx hgx (Ok.ret ?_))
    rw [bS]
    congr 1
    exact A1 h1 (aJ hgx)
  ·rintro _ rfl
   dsimp only
   refine Ok.app (by simp;omega) (Ok.app (by simp;omega) (Ok.ret ?_))
   rw [hts,eQ,eQ];rfl
 ·rintro st rfl
  dsimp only
  rw [eR]
  exact Ok.ret ⟨r,v2,rfl,I,rfl,rfl⟩
end
end Go.Gk
