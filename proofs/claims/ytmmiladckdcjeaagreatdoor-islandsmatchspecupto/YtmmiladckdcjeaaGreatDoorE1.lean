/-
  Helping texts: plain functions and plain laws. No statement of the seed is proved here.
-/
import Derived.Test.YtmmiladckdcjeaaGreatDoorA1
import Derived.ChangeShapes
import Derived.ChangeSame
import Derived.Carry
import Derived.RowKit
import Derived.Test.YtmmiladckdcjeaaGreatDoorA2
set_option linter.unusedVariables false
set_option linter.unusedSimpArgs false
set_option linter.unusedSectionVars false
namespace Go.Gk
open Go
noncomputable section
structure aI where
 X0:Int
 Y0:Int
 X1:Int
 Y1:Int
 deriving DecidableEq,Inhabited
structure jt where
 X:Int
 Y:Int
 deriving DecidableEq,Inhabited
structure cE where
 At:jt
 dE:Int
 cM:Int
 To:Int
 eH:Bool
 deriving DecidableEq,Inhabited
structure fW where
 Part:eJ
 fD:eJ
 cU:Int
 At:jt
 deriving DecidableEq,Inhabited
structure k7 where
 aJ: (List (List aI))
 cG: (List aI)
 aM: (List cE)
 bV: (List fW)
 deriving DecidableEq,Inhabited
structure aA where
 Y0:Int
 Y1:Int
 Xs: (List Int)
 deriving DecidableEq,Inhabited
structure fD where
 Part:eJ
 fD:eJ
 deriving DecidableEq,Inhabited
structure aK where
 cU:Int
 Set: (List aA)
 iN: (List aI)
 deriving DecidableEq,Inhabited
structure cC where
 eI: (List Int)
 aM: (List Int)
 eL: (List fD)
 deriving DecidableEq,Inhabited
structure km where
 cE:Bool
 Number:Int
 deriving DecidableEq,Inhabited
structure aF where
 from_:Int
 to:Int
 deriving DecidableEq,Inhabited
structure aL where
 from_:Int
 to:Int
 iZ: (List aF)
 deriving DecidableEq,Inhabited
def sT (N:Nat) (p0 p1 p2:Int):Option (Bool):=
 some ((decide (p0>=p1))&&(decide (p0<=p2)))
def lC (N:Nat) (p0:Int):Option (Bool):=
 (sT N p0 (-1000000) 1000000).bind fun j=>some j
def mU (N:Nat) (p0:aI):Option (Bool):=
 ((lC N p0.X0).bind fun j=>bif j then ((lC N p0.Y0).bind fun o=>bif o then ((lC N p0.X1).bind fun aa=>bif aa then ((lC N p0.Y1).bind fun ab=>some ab) else (some false)) else (some false)) else (some false)).bind fun ad=>some ad
def k8 (N:Nat) (p0: (List aI)):Option (Int):=
 bif (decide ((p0.length:Int)>2000)) then (some 2) else ((vn p0.length (fun(o:Nat) (aa:Unit)=>((idx p0 (o:Int)).bind fun j=>(mU N j).bind fun ab=>bif (!ab) then (some (.rt 1)) else (bif ((decide (j.X1<=j.X0))||(decide (j.Y1<=j.Y0))) then (some (.rt 13)) else (some (.nx ()))):Option (Fl (Unit) Int))) ()).bind fun ad=>ad.cs (fun(aa:Unit)=>some 0) (fun r=>some r))
def jH (N:Nat) (p0: (List aI)):Option ((List aI)):=
 (app 32 ([]: (List aI)) p0).bind fun j=>some j
def j5 (N:Nat) (p0 p1:aI):Option (Int):=
 some (IntKind.wrap .i64 (p0.Y0 - p1.Y0))
def ij (N:Nat) (p0: (List Int)):Option ((List Int)):=
 bif (decide ((p0.length:Int)<2)) then (some p0) else ((jE (fun(o:Int)=>(bif (decide (o< (p0.length:Int))) then ((idx p0 o).bind fun ab=>(idx p0 (IntKind.wrap .i64 (o - 1))).bind fun ad=>bif (ab==ad) then ((sO p0 o (p0.length:Int)).bind fun ak=>(jE (fun(j: (List Int)×Int×Int)=>(bif (decide (j.2.2< (((j.1.length - Int.toNat o):Nat):Int))) then ((Em j.1 o j.2.2).bind fun ae=>(Em j.1 o (IntKind.wrap .i64 (j.2.2 - 1))).bind fun af=>(bif (ae != af) then ((Em j.1 o j.2.2).bind fun ag=>(idx j.1 j.2.1).bind fun al=>some ((j.1.set (Int.toNat j.2.1) ag),(IntKind.wrap .i64 (j.2.1+1)))) else (some (j.1,j.2.1))).bind fun aa=>some (.nx (aa.1,aa.2,(IntKind.wrap .i64 (j.2.2+1))))) else (some (.br (j.1,j.2.1,j.2.2))):Option (Fl ((List Int)×Int×Int) Empty))) N (p0,o,1)).bind fun ah=>ah.cs (fun(j: (List Int)×Int×Int)=>(sO j.1 j.2.1 (j.1.length:Int)).bind fun an=>(sO (j.1.take (Int.toNat j.2.1)++List.replicate (j.1.length - Int.toNat j.2.1) (0:Int)) 0 j.2.1).bind fun ai=>some (.rt ai)) (fun r=>r.elim)) else (some (.nx (IntKind.wrap .i64 (o+1))))) else (some (.br o)):Option (Fl (Int) (List Int)))) N 1).bind fun aj=>aj.cs (fun(o:Int)=>some p0) (fun r=>some r))
def ou (N:Nat) (p0:aI) (p1: (List Int)) (p2:Int):Option (Bool):=
 (idx p1 p2).bind fun j=>some (decide (p0.Y1<=j))
def l3 (N:Nat) (p0: (List aI)) (p1:aI->Option Bool):Option (Int):=
 (vn p0.length (fun(j:Nat) (o:Unit)=>((idx p0 (j:Int)).bind fun aa=>(p1 aa).bind fun ab=>bif ab then (some (.rt (j:Int))) else (some (.nx ())):Option (Fl (Unit) Int))) ()).bind fun ad=>ad.cs (fun(o:Unit)=>some (-1)) (fun r=>some r)
def kR (N:Nat) (p0: (List aI)) (p1:aI->Option Bool):Option (Int):=
 (vn p0.length (fun(j:Nat) (o:Unit)=>((idx p0 (j:Int)).bind fun aa=>(p1 aa).bind fun ab=>bif ab then (some (.rt (j:Int))) else (some (.nx ())):Option (Fl (Unit) Int))) ()).bind fun ad=>ad.cs (fun(o:Unit)=>some (-1)) (fun r=>some r)
def iO (N:Nat) (p0: (List aI)) (p1:aI->Option Bool):Option ((List aI)):=
 (kR N p0 p1).bind fun o=>bif (o==(-1)) then (some p0) else ((jE (fun(j: (List aI)×Int×Int)=>(bif (decide (j.2.2< (j.1.length:Int))) then ((idx j.1 j.2.2).bind fun aa=>(p1 aa).bind fun ad=>(bif (!ad) then ((idx j.1 j.2.1).bind fun ag=>some ((j.1.set (Int.toNat j.2.1) aa),(IntKind.wrap .i64 (j.2.1+1)))) else (some (j.1,j.2.1))).bind fun ab=>some (.nx (ab.1,ab.2,(IntKind.wrap .i64 (j.2.2+1))))) else (some (.br (j.1,j.2.1,j.2.2))):Option (Fl ((List aI)×Int×Int) Empty))) N (p0,o,(IntKind.wrap .i64 (o+1)))).bind fun ae=>ae.cs (fun(j: (List aI)×Int×Int)=>(sO j.1 j.2.1 (j.1.length:Int)).bind fun ah=>(sO (j.1.take (Int.toNat j.2.1)++List.replicate (j.1.length - Int.toNat j.2.1) (⟨0,0,0,0⟩:aI)) 0 j.2.1).bind fun af=>some af) (fun r=>r.elim))
def ik (N:Nat) (p0 p1:aI):Option (Int):=
 some (IntKind.wrap .i64 (p0.X0 - p1.X0))
def jN (N:Nat) (p0: (List aI)):Option ((List Int)×(List aI)):=
 (wP (ik N) p0).bind fun aa=>(nn aa.length (fun(ad:Nat) (j: (List Int))=>((idx aa (ad:Int)).bind fun o=>(bif (decide ((IntKind.wrap .i64 ((j.length:Int) - 1))>=0)) then ((idx j (IntKind.wrap .i64 ((j.length:Int) - 1))).bind fun ae=>some (decide (o.X0<=ae))) else (some false)).bind fun af=>(bif af then ((idx j (IntKind.wrap .i64 ((j.length:Int) - 1))).bind fun ab=>(idx j (IntKind.wrap .i64 ((j.length:Int) - 1))).bind fun ai=>some (j.set (Int.toNat (IntKind.wrap .i64 ((j.length:Int) - 1))) (if ab<o.X1 then o.X1 else ab))) else ((app 8 j ([o.X0,o.X1]: (List Int))).bind fun ag=>some ag)).bind fun ah=>some ah:Option ((List Int)))) ([]: (List Int))).bind fun j=>some (j,aa)
def jZ (N:Nat) (p0: (List Int)) (p1: (List Int)):Option (Bool):=
 bif ((p0.length:Int) != (p1.length:Int)) then (some false) else ((vn p0.length (fun(j:Nat) (o:Unit)=>((idx p0 (j:Int)).bind fun aa=>(idx p1 (j:Int)).bind fun ab=>bif (aa != ab) then (some (.rt false)) else (some (.nx ())):Option (Fl (Unit) Bool))) ()).bind fun ad=>ad.cs (fun(o:Unit)=>some true) (fun r=>some r))
def jz (N:Nat) (p0: (List aA)) (p1:aA):Option ((List aA)):=
 bif (((p1.Xs.length:Int)==0)||(decide (p1.Y1<=p1.Y0))) then (some p0) else ((bif (decide ((IntKind.wrap .i64 ((p0.length:Int) - 1))>=0)) then ((idx p0 (IntKind.wrap .i64 ((p0.length:Int) - 1))).bind fun j=>bif (j.Y1==p1.Y0) then ((idx p0 (IntKind.wrap .i64 ((p0.length:Int) - 1))).bind fun o=>(jZ N o.Xs p1.Xs).bind fun aa=>some aa) else (some false)) else (some false)).bind fun ab=>bif ab then ((idx p0 (IntKind.wrap .i64 ((p0.length:Int) - 1))).bind fun ad=>some (p0.set (Int.toNat (IntKind.wrap .i64 ((p0.length:Int) - 1))) ({ad with Y1:=p1.Y1}))) else ((app 40 p0 ([p1]: (List aA))).bind fun ae=>some ae))
def iz (N:Nat) (p0: (List aI)):Option ((List aA)):=
 (jH N p0).bind fun ag=>(wP (j5 N) ag).bind fun aa=>(nn aa.length (fun(ah:Nat) (ad: (List Int))=>((idx aa (ah:Int)).bind fun ae=>(app 8 ad ([ae.Y0,ae.Y1]: (List Int))).bind fun ai=>some ai:Option ((List Int)))) ([]: (List Int))).bind fun ad=>(ue ad).bind fun aj=>(ij N aj).bind fun ab=>(jE (fun(j: (List aA)×(List aI)×Int×Int)=>(bif (decide ((IntKind.wrap .i64 (j.2.2.2+1))< (ab.length:Int))) then ((iO N j.2.1 (fun y0=>ou N y0 ab j.2.2.2)).bind fun ak=>(jE (fun(o: (List aI)×Int)=>((bif (decide (o.2< (aa.length:Int))) then ((idx aa o.2).bind fun al=>(idx ab j.2.2.2).bind fun an=>some (decide (al.Y0<=an))) else (some false)).bind fun ao=>bif ao then ((idx aa o.2).bind fun aq=>(app 32 o.1 ([aq]: (List aI))).bind fun ar=>some (.nx (ar,(IntKind.wrap .i64 (o.2+1))))) else (some (.br (o.1,o.2))):Option (Fl ((List aI)×Int) Empty))) N (ak,j.2.2.1)).bind fun au=>au.cs (fun(o: (List aI)×Int)=>(idx ab j.2.2.2).bind fun av=>(idx ab (IntKind.wrap .i64 (j.2.2.2+1))).bind fun aw=>(jN N o.1).bind fun af=>(jz N j.1 (⟨av,aw,af.1⟩:aA)).bind fun ax=>some (.nx (ax,af.2,o.2,(IntKind.wrap .i64 (j.2.2.2+1))))) (fun r=>r.elim)) else (some (.br (j.1,j.2.1,j.2.2.1,j.2.2.2))):Option (Fl ((List aA)×(List aI)×Int×Int) Empty))) N (([]: (List aA)),([]: (List aI)),0,0)).bind fun ay=>ay.cs (fun(j: (List aA)×(List aI)×Int×Int)=>some j.1) (fun r=>r.elim)
def jO (N:Nat) (p0: (List aA)):Option ((List aI)):=
 (nn p0.length (fun(ab:Nat) (aa: (List aI))=>((idx p0 (ab:Int)).bind fun o=>(jE (fun(j: (List aI)×Int)=>(bif (decide (j.2< (o.Xs.length:Int))) then ((idx o.Xs j.2).bind fun ad=>(idx o.Xs (IntKind.wrap .i64 (j.2+1))).bind fun ae=>(app 32 j.1 ([(⟨ad,o.Y0,ae,o.Y1⟩:aI)]: (List aI))).bind fun af=>some (.nx (af,(IntKind.wrap .i64 (j.2+2))))) else (some (.br (j.1,j.2))):Option (Fl ((List aI)×Int) Empty))) N (aa,0)).bind fun ag=>ag.cs (fun(j: (List aI)×Int)=>some j.1) (fun r=>r.elim):Option ((List aI)))) ([]: (List aI))).bind fun aa=>some aa
def kF (N:Nat) (p0: (List aI)) (p1: (List aI)):Option (Bool):=
 bif ((p0.length:Int) != (p1.length:Int)) then (some false) else ((vn p0.length (fun(j:Nat) (o:Unit)=>((idx p0 (j:Int)).bind fun aa=>(idx p1 (j:Int)).bind fun ab=>bif (!(decide (aa=ab))) then (some (.rt false)) else (some (.nx ())):Option (Fl (Unit) Bool))) ()).bind fun ad=>ad.cs (fun(o:Unit)=>some true) (fun r=>some r))
def jI (N:Nat) (p0: (List aI)):Option (Int):=
 (k8 N p0).bind fun ab=>bif (ab != 0) then (some ab) else ((jE (fun(j:Int)=>(bif (decide (j< (p0.length:Int))) then ((idx p0 (IntKind.wrap .i64 (j - 1))).bind fun o=>(idx p0 j).bind fun aa=>bif ((decide (aa.Y0<o.Y0))||((aa.Y0==o.Y0)&&(decide (aa.X0<=o.X0)))) then (some (.rt 8)) else (some (.nx (IntKind.wrap .i64 (j+1))))) else (some (.br j)):Option (Fl (Int) Int))) N 1).bind fun ad=>ad.cs (fun(j:Int)=>(iz N p0).bind fun ae=>(jO N ae).bind fun af=>(kF N af p0).bind fun ag=>bif (!ag) then (some 3) else (some 0)) (fun r=>some r))
def iK (N:Nat) (p0 p1 p2:Int):Option (Bool):=
 some ((decide (p0>=p1))&&(decide (p0<=p2)))
def jX (N:Nat) (p0:jt):Option (Bool):=
 ((lC N p0.X).bind fun j=>bif j then ((lC N p0.Y).bind fun o=>some o) else (some false)).bind fun aa=>some aa
def gE (N:Nat) (p0:cE):Option (aI):=
 some (⟨(IntKind.wrap .i64 (p0.At.X - (IntKind.wrap .i64 (Int.tdiv p0.dE 2)))),(IntKind.wrap .i64 (p0.At.Y - (IntKind.wrap .i64 (Int.tdiv p0.dE 2)))),(IntKind.wrap .i64 ((IntKind.wrap .i64 (p0.At.X - (IntKind.wrap .i64 (Int.tdiv p0.dE 2))))+p0.dE)),(IntKind.wrap .i64 ((IntKind.wrap .i64 (p0.At.Y - (IntKind.wrap .i64 (Int.tdiv p0.dE 2))))+p0.dE))⟩:aI)
def mV (N:Nat) (p0: (List aA)):Option (aI):=
 (idx p0 0).bind fun ad=>(idx ad.Xs 0).bind fun ae=>(idx p0 0).bind fun af=>(idx p0 0).bind fun ag=>(idx ag.Xs 1).bind fun ah=>(idx p0 (IntKind.wrap .i64 ((p0.length:Int) - 1))).bind fun ai=>(nn p0.length (fun(aj:Nat) (j:aI)=>((idx p0 (aj:Int)).bind fun o=>(idx o.Xs 0).bind fun aa=>(idx o.Xs (IntKind.wrap .i64 ((o.Xs.length:Int) - 1))).bind fun ab=>some ({{j with X0:=(if aa<j.X0 then aa else j.X0)} with X1:=(if j.X1<ab then ab else j.X1)}):Option (aI))) (⟨ae,af.Y0,ah,ai.Y1⟩:aI)).bind fun j=>some j
def mo (N:Nat) (p0: (List aA)):Option (Bool):=
 (bif ((p0.length:Int)==0) then (some true) else ((mV N p0).bind fun j=>(mU N j).bind fun o=>some o)).bind fun aa=>some aa
def kS (N:Nat) (p0:cE):Option (aI×Int):=
 ((iK N p0.dE 1 10000).bind fun o=>bif (!o) then (some true) else ((jX N p0.At).bind fun aa=>some (!aa))).bind fun ab=>bif ab then (some ((⟨0,0,0,0⟩:aI),1)) else ((gE N p0).bind fun j=>(iz N ([j]: (List aI))).bind fun ad=>(mo N ad).bind fun ae=>bif (!ae) then (some ((⟨0,0,0,0⟩:aI),1)) else (some (j,0)))
def kG (N:Nat) (p0:k7):Option (Int):=
 bif (decide ((p0.aM.length:Int)>500)) then (some 2) else ((vn p0.aM.length (fun(aa:Nat) (ab:Unit)=>((idx p0.aM (aa:Int)).bind fun j=>(kS N j).bind fun o=>bif (o.2 != 0) then (some (.rt o.2)) else (((iK N j.cM 0 (IntKind.wrap .i64 ((p0.aJ.length:Int) - 1))).bind fun ad=>bif (!ad) then (some true) else ((iK N j.To j.cM (IntKind.wrap .i64 ((p0.aJ.length:Int) - 1))).bind fun ae=>some (!ae))).bind fun af=>bif af then (some (.rt 1)) else (some (.nx ()))):Option (Fl (Unit) Int))) ()).bind fun ag=>ag.cs (fun(ab:Unit)=>some 0) (fun r=>some r))
def ja (N:Nat) (p0:eJ) (p1:Int):Option (Int):=
 some (Lib.indexByte p0.cX (Int.toNat p1).toUInt8)
def kH (N:Nat) (p0 p1:eJ):Option (Int):=
 bif (((p1.cX.length:Int)==0)||(p1.sM p0)) then (some 0) else (bif ((p1.cX.length:Int)==1) then ((Eh p1 0).bind fun j=>(ja N p0 (j.toNat:Int)).bind fun o=>some o) else (bif (decide ((p1.cX.length:Int)>=(p0.cX.length:Int))) then (some (-1)) else (none)))
def lS (N:Nat) (p0 p1:eJ):Option (Int):=
 (kH N p0 p1).bind fun j=>some j
def np (N:Nat) (p0 p1:eJ):Option (Int):=
 bif ((p1.cX.length:Int)==0) then (none) else (bif ((p1.cX.length:Int)==1) then ((Eh p1 0).bind fun aa=>some ((Lib.countByte p0.cX (Int.toNat (aa.toNat:Int)).toUInt8:Nat):Int)) else ((jE (fun(j:eJ×Int)=>((lS N j.1 p1).bind fun o=>bif (o==(-1)) then (some (.rt j.2)) else ((vX j.1 (IntKind.wrap .i64 (o+ (p1.cX.length:Int))) (j.1.cX.length:Int)).bind fun ab=>some (.nx (ab,(IntKind.wrap .i64 (j.2+1))))):Option (Fl (eJ×Int) Int))) N (p0,0)).bind fun ad=>ad.cs (fun(j:eJ×Int)=>some 0) (fun r=>some r)))
def mW (N:Nat) (p0 p1:eJ) (p2 p3:Int):Option ((List eJ)):=
 bif (p3==0) then (some ([]: (List eJ))) else (bif (p1.sM (⟨[]⟩)) then (none) else ((bif (decide (p3<0)) then ((np N p0 p1).bind fun ab=>some (IntKind.wrap .i64 (ab+1))) else (some p3)).bind fun o=>(mk 16 (⟨[]⟩:eJ) (if (IntKind.wrap .i64 ((p0.cX.length:Int)+1))<o then (IntKind.wrap .i64 ((p0.cX.length:Int)+1)) else o)).bind fun ad=>(jE (fun(j:eJ×(List eJ)×Int)=>(bif (decide (j.2.2< (IntKind.wrap .i64 ((if (IntKind.wrap .i64 ((p0.cX.length:Int)+1))<o then (IntKind.wrap .i64 ((p0.cX.length:Int)+1)) else o) - 1)))) then ((lS N j.1 p1).bind fun aa=>bif (decide (aa<0)) then (some (.br (j.1,j.2.1,j.2.2))) else ((vX j.1 0 (IntKind.wrap .i64 (aa+p2))).bind fun ae=>(idx j.2.1 j.2.2).bind fun ai=>(vX j.1 (IntKind.wrap .i64 (aa+ (p1.cX.length:Int))) (j.1.cX.length:Int)).bind fun af=>some (.nx (af,(j.2.1.set (Int.toNat j.2.2) ae),(IntKind.wrap .i64 (j.2.2+1)))))) else (some (.br (j.1,j.2.1,j.2.2))):Option (Fl (eJ×(List eJ)×Int) Empty))) N (p0,ad,0)).bind fun ag=>ag.cs (fun(j:eJ×(List eJ)×Int)=>(idx j.2.1 j.2.2).bind fun aj=>(sO (j.2.1.set (Int.toNat j.2.2) j.1) 0 (IntKind.wrap .i64 (j.2.2+1))).bind fun ah=>some ah) (fun r=>r.elim)))
def lT (N:Nat) (p0 p1:eJ):Option ((List eJ)):=
 (mW N p0 p1 0 (-1)).bind fun j=>some j
def k9 (N:Nat) (p0: (List eJ)) (p1:eJ->Option Bool):Option (Int):=
 (vn p0.length (fun(j:Nat) (o:Unit)=>((idx p0 (j:Int)).bind fun aa=>(p1 aa).bind fun ab=>bif ab then (some (.rt (j:Int))) else (some (.nx ())):Option (Fl (Unit) Int))) ()).bind fun ad=>ad.cs (fun(o:Unit)=>some (-1)) (fun r=>some r)
def iP (N:Nat) (p0: (List eJ)) (p1:eJ->Option Bool):Option (Bool):=
 (k9 N p0 p1).bind fun j=>some (decide (j>=0))
def gR (N:Nat) (p0:eJ) (p1:Int):Option (Int):=
 (ja N p0 p1).bind fun j=>some j
def jA (N:Nat) (p0:eJ):Option (Bool):=
 (vn p0.cX.length (fun(o:Nat) (aa:Unit)=>((Eh p0 (o:Int)).bind fun j=>(bif ((((decide ((j.toNat:Int)<65))||(decide ((j.toNat:Int)>90)))&&((decide ((j.toNat:Int)<97))||(decide ((j.toNat:Int)>122))))&&((decide ((j.toNat:Int)<48))||(decide ((j.toNat:Int)>57)))) then ((gR N (⟨[95,43,45,35]⟩) (j.toNat:Int)).bind fun ab=>some (decide (ab<0))) else (some false)).bind fun ad=>bif ad then (some (.rt false)) else (some (.nx ())):Option (Fl (Unit) Bool))) ()).bind fun ae=>ae.cs (fun(aa:Unit)=>some ((decide ((p0.cX.length:Int)>=1))&&(decide ((p0.cX.length:Int)<=40)))) (fun r=>some r)
def iQ (N:Nat) (p0:eJ):Option (Bool):=
 (jA N p0).bind fun j=>some (!j)
def mq (N:Nat) (p0:eJ):Option (Bool):=
 (bif (decide ((p0.cX.length:Int)<=200)) then ((lT N p0 (⟨[47]⟩)).bind fun j=>(iP N j (iQ N)).bind fun o=>some (!o)) else (some false)).bind fun aa=>some aa
def mX (N:Nat) (p0:fW):Option (fD):=
 some (⟨p0.Part,p0.fD⟩:fD)
def l4 (N:Nat) (p0 p1:eJ):Option (Int):=
 some (Lib.compareBytes p0.cX p1.cX)
def nG (N:Nat) (p0 p1:eJ):Option (Int):=
 (l4 N p0 p1).bind fun j=>some j
def jP (N:Nat) (p0 p1:fD):Option (Int):=
 (nG N p0.Part p1.Part).bind fun j=>bif (j != 0) then (some j) else ((nG N p0.fD p1.fD).bind fun o=>some o)
def kI (N:Nat) (p0:k7):Option (Int):=
 bif (decide ((p0.bV.length:Int)>1000)) then (some 2) else ((vn p0.bV.length (fun(o:Nat) (aa:Unit)=>((idx p0.bV (o:Int)).bind fun j=>((mq N j.Part).bind fun ab=>bif (!ab) then (some true) else ((jA N j.fD).bind fun ad=>some (!ad))).bind fun ae=>bif ae then (some (.rt 5)) else (((iK N j.cU 0 (IntKind.wrap .i64 ((p0.aJ.length:Int) - 1))).bind fun af=>bif (!af) then (some true) else ((jX N j.At).bind fun ag=>some (!ag))).bind fun ah=>bif ah then (some (.rt 1)) else ((bif (decide ((o:Int)>0)) then ((idx p0.bV (IntKind.wrap .i64 ((o:Int) - 1))).bind fun ai=>(mX N j).bind fun aj=>(mX N ai).bind fun ak=>(jP N aj ak).bind fun al=>some (decide (al<=0))) else (some false)).bind fun an=>bif an then (some (.rt 8)) else (some (.nx ())))):Option (Fl (Unit) Int))) ()).bind fun ao=>ao.cs (fun(aa:Unit)=>some 0) (fun r=>some r))
def lU (N:Nat) (p0 p1:Int) (p2 p3:Int):Option (Int):=
 some (if (if 0< (IntKind.wrap .i64 ((IntKind.wrap .i64 (p2 - p1))+1)) then (IntKind.wrap .i64 ((IntKind.wrap .i64 (p2 - p1))+1)) else 0)< (IntKind.wrap .i64 ((IntKind.wrap .i64 (p0 - p3))+1)) then (IntKind.wrap .i64 ((IntKind.wrap .i64 (p0 - p3))+1)) else (if 0< (IntKind.wrap .i64 ((IntKind.wrap .i64 (p2 - p1))+1)) then (IntKind.wrap .i64 ((IntKind.wrap .i64 (p2 - p1))+1)) else 0))
def rQ (N:Nat) (p0 p1:aI):Option (Int):=
 (lU N p0.X0 p0.X1 p1.X0 p1.X1).bind fun j=>(lU N p0.Y0 p0.Y1 p1.Y0 p1.Y1).bind fun o=>some (if j<o then o else j)
def ld (N:Nat) (p0:cE) (p1:Int):Option (Bool):=
 some ((decide (p0.cM<=p1))&&(decide (p1<=p0.To)))
def mY (N:Nat) (p0: (List aA)) (p1 p2:Int):Option ((List Int)×Int):=
 bif ((p0.length:Int)==0) then (some (([]: (List Int)),p2)) else ((idx p0 0).bind fun aa=>bif (decide (p1<aa.Y0)) then ((idx p0 0).bind fun j=>some (([]: (List Int)),(if j.Y0<p2 then j.Y0 else p2))) else ((idx p0 0).bind fun ab=>(idx p0 0).bind fun o=>some (ab.Xs,(if o.Y1<p2 then o.Y1 else p2))))
def qs (N:Nat) (p0: (List Int)) (p1: (List Int)) (p2:Bool->Bool->Option Bool):Option ((List Int)):=
 (jE (fun(j: (List Int)×(List Int)×(List Int)×Bool×Bool×Bool)=>((bif (decide ((j.1.length:Int)>0)) then (some true) else (some (decide ((j.2.1.length:Int)>0)))).bind fun af=>bif af then ((bif ((j.2.1.length:Int)==0) then (some true) else (bif (decide ((j.1.length:Int)>0)) then ((idx j.1 0).bind fun ag=>(idx j.2.1 0).bind fun ah=>some (decide (ag<=ah))) else (some false))).bind fun ai=>(bif ai then ((idx j.1 0).bind fun aj=>some aj) else ((idx j.2.1 0).bind fun ak=>some ak)).bind fun o=>(bif (decide ((j.1.length:Int)>0)) then ((idx j.1 0).bind fun al=>some (al==o)) else (some false)).bind fun an=>(bif an then ((sO j.1 1 (j.1.length:Int)).bind fun ao=>some (ao,(!j.2.2.2.1))) else (some (j.1,j.2.2.2.1))).bind fun aa=>(bif (decide ((j.2.1.length:Int)>0)) then ((idx j.2.1 0).bind fun aq=>some (aq==o)) else (some false)).bind fun ar=>(bif ar then ((sO j.2.1 1 (j.2.1.length:Int)).bind fun au=>some (au,(!j.2.2.2.2.1))) else (some (j.2.1,j.2.2.2.2.1))).bind fun ab=>(p2 aa.2 ab.2).bind fun ad=>(bif (ad != j.2.2.2.2.2) then ((app 8 j.2.2.1 ([o]: (List Int))).bind fun av=>some (av,ad)) else (some (j.2.2.1,j.2.2.2.2.2))).bind fun ae=>some (.nx (aa.1,ab.1,ae.1,aa.2,ab.2,ae.2))) else (some (.br (j.1,j.2.1,j.2.2.1,j.2.2.2.1,j.2.2.2.2.1,j.2.2.2.2.2))):Option (Fl ((List Int)×(List Int)×(List Int)×Bool×Bool×Bool) Empty))) N (p0,p1,([]: (List Int)),false,false,false)).bind fun aw=>aw.cs (fun(j: (List Int)×(List Int)×(List Int)×Bool×Bool×Bool)=>some j.2.2.1) (fun r=>r.elim)
def o5 (N:Nat) (p0: (List aA)) (p1: (List aA)) (p2:Bool->Bool->Option Bool):Option ((List aA)):=
 bif ((IntKind.wrap .i64 ((p0.length:Int)+ (p1.length:Int)))==0) then (some ([]: (List aA))) else ((nn (([p0,p1]: (List (List aA))).length) (fun(ah:Nat) (o:Int×Int)=>((idx ([p0,p1]: (List (List aA))) (ah:Int)).bind fun ad=>(bif (decide ((ad.length:Int)>0)) then ((bif ((ah:Int)==0) then (some true) else (some ((p0.length:Int)==0))).bind fun al=>(bif al then ((idx ad 0).bind fun an=>(idx ad (IntKind.wrap .i64 ((ad.length:Int) - 1))).bind fun ao=>some (an.Y0,ao.Y1)) else (some (o.1,o.2))).bind fun ag=>(idx ad 0).bind fun ai=>(idx ad (IntKind.wrap .i64 ((ad.length:Int) - 1))).bind fun aj=>some ((if ai.Y0<ag.1 then ai.Y0 else ag.1),(if ag.2<aj.Y1 then aj.Y1 else ag.2))) else (some (o.1,o.2))).bind fun ak=>some (ak.1,ak.2):Option (Int×Int))) (0,0)).bind fun o=>(jE (fun(j: (List aA)×(List aA)×(List aA)×Int)=>(bif (decide (j.2.2.2<o.2)) then ((jE (fun(aa: (List aA))=>((bif (decide ((aa.length:Int)>0)) then ((idx aa 0).bind fun aq=>some (decide (aq.Y1<=j.2.2.2))) else (some false)).bind fun ar=>bif ar then ((sO aa 1 (aa.length:Int)).bind fun au=>some (.nx au)) else (some (.br aa)):Option (Fl ((List aA)) Empty))) N j.1).bind fun av=>av.cs (fun(aa: (List aA))=>(jE (fun(ab: (List aA))=>((bif (decide ((ab.length:Int)>0)) then ((idx ab 0).bind fun aw=>some (decide (aw.Y1<=j.2.2.2))) else (some false)).bind fun ax=>bif ax then ((sO ab 1 (ab.length:Int)).bind fun ay=>some (.nx ay)) else (some (.br ab)):Option (Fl ((List aA)) Empty))) N j.2.1).bind fun az=>az.cs (fun(ab: (List aA))=>(mY N aa j.2.2.2 o.2).bind fun ae=>(mY N ab j.2.2.2 o.2).bind fun af=>(qs N ae.1 af.1 p2).bind fun a0=>(jz N j.2.2.1 (⟨j.2.2.2,(if af.2<ae.2 then af.2 else ae.2),a0⟩:aA)).bind fun a1=>some (.nx (aa,ab,a1,(if af.2<ae.2 then af.2 else ae.2)))) (fun r=>r.elim)) (fun r=>r.elim)) else (some (.br (j.1,j.2.1,j.2.2.1,j.2.2.2))):Option (Fl ((List aA)×(List aA)×(List aA)×Int) Empty))) N (p0,p1,([]: (List aA)),o.1)).bind fun a2=>a2.cs (fun(j: (List aA)×(List aA)×(List aA)×Int)=>some j.2.2.1) (fun r=>r.elim))
def ov (N:Nat) (p0 p1:Bool):Option (Bool):=
 some (p0&&(!p1))
def lf (N:Nat) (p0: (List aA)) (p1: (List aA)):Option ((List aA)):=
 (o5 N p0 p1 (ov N)).bind fun j=>some j
def mu (N:Nat) (p0: (List aA)):Option (Int):=
 (nn p0.length (fun(o:Nat) (j:Int)=>((idx p0 (o:Int)).bind fun aa=>some (IntKind.wrap .i64 (j+ (IntKind.wrap .i64 (Int.tdiv (aa.Xs.length:Int) 2)))):Option (Int))) 0).bind fun j=>some j
def fI (N:Nat) (p0:Int) (p1_0: (List Int)):Option (Int×(List Int)):=
 (jE (fun(j:Int×(List Int))=>((idx j.2 j.1).bind fun aa=>bif (aa != j.1) then ((idx j.2 j.1).bind fun ab=>(idx j.2 ab).bind fun o=>(idx j.2 j.1).bind fun af=>(idx (j.2.set (Int.toNat j.1) o) j.1).bind fun ad=>some (.nx (ad,(j.2.set (Int.toNat j.1) o)))) else (some (.br (j.1,j.2))):Option (Fl (Int×(List Int)) Empty))) N (p0,p1_0)).bind fun ae=>ae.cs (fun(j:Int×(List Int))=>some (j.1,j.2)) (fun r=>r.elim)
def lK (N:Nat) (p0: (List aA)):Option ((List (List aA))):=
 (jO N p0).bind fun ab=>(mk 8 (0:Int) (ab.length:Int)).bind fun an=>(nn an.length (fun(ai:Nat) (ag: (List Int))=>((idx ag (ai:Int)).bind fun bd=>some (ag.set (Int.toNat (ai:Int)) (ai:Int)):Option ((List Int)))) an).bind fun ag=>(nn p0.length (fun(aj:Nat) (aa: (List Int)×Int×Int)=>((idx p0 (aj:Int)).bind fun ak=>(bif (decide ((aj:Int)>0)) then ((idx p0 (IntKind.wrap .i64 ((aj:Int) - 1))).bind fun ar=>some (ar.Y1==ak.Y0)) else (some false)).bind fun au=>(bif au then ((jE (fun(j: (List Int)×Int×Int)=>(bif ((decide (j.2.1<aa.2.1))&&(decide (j.2.2< (IntKind.wrap .i64 (aa.2.1+ (IntKind.wrap .i64 (Int.tdiv (ak.Xs.length:Int) 2))))))) then (((idx ab j.2.1).bind fun av=>(idx ab j.2.2).bind fun aw=>bif (decide (av.X0<aw.X1)) then ((idx ab j.2.2).bind fun ax=>(idx ab j.2.1).bind fun ay=>some (decide (ax.X0<ay.X1))) else (some false)).bind fun az=>(bif az then ((fI N j.2.1 j.1).bind fun ae=>(fI N j.2.2 ae.2).bind fun ad=>(idx ad.2 (if ae.1<ad.1 then ad.1 else ae.1)).bind fun bf=>some (ad.2.set (Int.toNat (if ae.1<ad.1 then ad.1 else ae.1)) (if ad.1<ae.1 then ad.1 else ae.1))) else (some j.1)).bind fun a0=>(idx ab j.2.1).bind fun a1=>(idx ab j.2.2).bind fun a2=>(bif (decide (a1.X1<a2.X1)) then (some ((IntKind.wrap .i64 (j.2.1+1)),j.2.2)) else (some (j.2.1,(IntKind.wrap .i64 (j.2.2+1))))).bind fun ao=>some (.nx (a0,ao.1,ao.2))) else (some (.br (j.1,j.2.1,j.2.2))):Option (Fl ((List Int)×Int×Int) Empty))) N (aa.1,aa.2.2,aa.2.1)).bind fun a3=>a3.cs (fun(j: (List Int)×Int×Int)=>some j.1) (fun r=>r.elim)) else (some aa.1)).bind fun a4=>some (a4,(IntKind.wrap .i64 (aa.2.1+ (IntKind.wrap .i64 (Int.tdiv (ak.Xs.length:Int) 2)))),aa.2.1):Option ((List Int)×Int×Int))) (ag,0,0)).bind fun aa=>(nn ab.length (fun(aq:Nat) (o: (List Int)×(List (Int×Int))×(List (List aI)))=>((idx ab (aq:Int)).bind fun a5=>(fI N (aq:Int) o.1).bind fun ah=>(bif (!(tM o.2.1 ah.1)) then ((app 24 o.2.2 [([]: (List aI))]).bind fun a6=>some ((vo o.2.1 ah.1 (o.2.2.length:Int)),a6,(o.2.2.length:Int))) else (some (o.2.1,o.2.2,(jy o.2.1 ah.1 (0:Int))))).bind fun af=>(idx af.2.1 af.2.2).bind fun a7=>(app 32 a7 ([a5]: (List aI))).bind fun a8=>(idx af.2.1 af.2.2).bind fun bg=>some (ah.2,af.1,(af.2.1.set (Int.toNat af.2.2) a8)):Option ((List Int)×(List (Int×Int))×(List (List aI))))) (aa.1,([]: (List (Int×Int))),([]: (List (List aI))))).bind fun o=>(nn o.2.2.length (fun(a9:Nat) (al: (List (List aA)))=>((idx o.2.2 (a9:Int)).bind fun ba=>(iz N ba).bind fun bb=>(app 24 al ([bb]: (List (List aA)))).bind fun bc=>some bc:Option ((List (List aA))))) ([]: (List (List aA)))).bind fun al=>some al
def j6 (N:Nat) (p0_0: (List (List aI))) (p0_2: (List cE)) (p0_4: (List (List aA))) (p0_5: (List aK)):Option (Bool×(List (List aA))×(List aK)):=
 (nn p0_0.length (fun(aa:Nat) (j: (List (List aA))×(List aK)×Bool)=>((idx p0_0 (aa:Int)).bind fun ai=>(nn p0_2.length (fun(aj:Nat) (o: (List aI))=>((idx p0_2 (aj:Int)).bind fun af=>(ld N af (aa:Int)).bind fun ak=>(bif ak then ((gE N af).bind fun al=>(app 32 o ([al]: (List aI))).bind fun an=>some an) else (some o)).bind fun ao=>some ao:Option ((List aI)))) ([]: (List aI))).bind fun o=>(iz N ai).bind fun aq=>(iz N o).bind fun ar=>(lf N aq ar).bind fun ab=>(bif j.2.2 then ((mu N ab).bind fun au=>some ((decide (au<=2000)),ab)) else (some (false,ab))).bind fun ad=>(app 24 j.1 ([ad.2]: (List (List aA)))).bind fun av=>(lK N ad.2).bind fun ag=>(nn ag.length (fun(aw:Nat) (ae: (List aK))=>((idx ag (aw:Int)).bind fun ah=>(jO N ah).bind fun ax=>(app 56 ae ([(⟨(aa:Int),ah,ax⟩:aK)]: (List aK))).bind fun ay=>some ay:Option ((List aK)))) j.2.1).bind fun ae=>some (av,ae,ad.1):Option ((List (List aA))×(List aK)×Bool))) (p0_4,p0_5,true)).bind fun j=>(bif j.2.2 then (some (decide ((j.2.1.length:Int)<=2000))) else (some false)).bind fun az=>some (az,j.1,j.2.1)
def ry (N:Nat) (p0 p1:aI):Option (Bool):=
 some ((((decide (p0.X0<p1.X1))&&(decide (p1.X0<p0.X1)))&&((p0.Y1==p1.Y0)||(p1.Y1==p0.Y0)))||(((decide (p0.Y0<p1.Y1))&&(decide (p1.Y0<p0.Y1)))&&((p0.X1==p1.X0)||(p1.X1==p0.X0))))
def ki (N:Nat) (p0:aI) (p1:cE):Option (Bool):=
 (gE N p1).bind fun j=>(ry N p0 j).bind fun o=>some o
def gX (N:Nat) (p0: (List aI)) (p1:aI->Option Bool):Option (Bool):=
 (l3 N p0 p1).bind fun j=>some (decide (j>=0))
def j7 (N:Nat) (p0_2: (List cE)) (p0_5: (List aK)) (p0_6: (List (List Int))):Option ((List (List Int))):=
 (nn p0_2.length (fun(ae:Nat) (o: (List (List Int)))=>((idx p0_2 (ae:Int)).bind fun aa=>(nn p0_5.length (fun(ab:Nat) (j: (List Int))=>((idx p0_5 (ab:Int)).bind fun ad=>(bif aa.eH then ((ld N aa ad.cU).bind fun af=>bif af then ((gX N ad.iN (fun y0=>ki N y0 aa)).bind fun ag=>some ag) else (some false)) else (some false)).bind fun ah=>(bif ah then ((app 8 j ([(ab:Int)]: (List Int))).bind fun ai=>some ai) else (some j)).bind fun aj=>some aj:Option ((List Int)))) ([]: (List Int))).bind fun j=>(app 24 o ([j]: (List (List Int)))).bind fun ak=>some ak:Option ((List (List Int))))) p0_6).bind fun o=>some o
def lh (N:Nat) (p0:Int):Option (((List Int))):=
 (mk 8 (0:Int) p0).bind fun aa=>(nn aa.length (fun(o:Nat) (j: (List Int))=>((idx j (o:Int)).bind fun ab=>some (j.set (Int.toNat (o:Int)) (o:Int)):Option ((List Int)))) aa).bind fun j=>some j
def gS (N:Nat) (p0_0: (List Int)) (p1:Int):Option (Int×(List Int)):=
 (jE (fun(j: (List Int)×Int)=>((idx j.1 j.2).bind fun aa=>bif (aa != j.2) then ((idx j.1 j.2).bind fun ab=>(idx j.1 ab).bind fun o=>(idx j.1 j.2).bind fun af=>(idx (j.1.set (Int.toNat j.2) o) j.2).bind fun ad=>some (.nx ((j.1.set (Int.toNat j.2) o),ad))) else (some (.br (j.1,j.2))):Option (Fl ((List Int)×Int) Empty))) N (p0_0,p1)).bind fun ae=>ae.cs (fun(j: (List Int)×Int)=>some (j.2,j.1)) (fun r=>r.elim)
def il (N:Nat) (p0_0: (List Int)) (p1 p2:Int):Option ((List Int)):=
 (gS N p0_0 p1).bind fun o=>(gS N o.2 p2).bind fun j=>(idx j.2 (if o.1<j.1 then j.1 else o.1)).bind fun aa=>some (j.2.set (Int.toNat (if o.1<j.1 then j.1 else o.1)) (if j.1<o.1 then j.1 else o.1))
def j8 (N:Nat) (p0_0: (List Int)):Option ((List (List Int))×(List Int)):=
 (nn p0_0.length (fun(ab:Nat) (j: (List Int)×(List (List Int))×(List (Int×Int)))=>((gS N j.1 (ab:Int)).bind fun aa=>(bif (aa.1==(ab:Int)) then ((app 24 j.2.1 [([]: (List Int))]).bind fun ad=>some (ad,(vo j.2.2 (ab:Int) (j.2.1.length:Int)))) else (some (j.2.1,j.2.2))).bind fun o=>(idx o.1 (jy o.2 aa.1 (0:Int))).bind fun ae=>(app 8 ae ([(ab:Int)]: (List Int))).bind fun af=>(idx o.1 (jy o.2 aa.1 (0:Int))).bind fun ag=>some (aa.2,(o.1.set (Int.toNat (jy o.2 aa.1 (0:Int))) af),o.2):Option ((List Int)×(List (List Int))×(List (Int×Int))))) (p0_0,([]: (List (List Int))),([]: (List (Int×Int))))).bind fun j=>some (j.2.1,j.1)
def lD (N:Nat) (p0:aI) (p1:jt):Option (Bool):=
 (bif (decide (p1.X>=p0.X0)) then (bif (decide (p1.X<p0.X1)) then (bif (decide (p1.Y>=p0.Y0)) then (some (decide (p1.Y<p0.Y1))) else (some false)) else (some false)) else (some false)).bind fun j=>some j
def ky (N:Nat) (p0: (List aI)) (p1:jt):Option (Bool):=
 (gX N p0 (fun y0=>lD N y0 p1)).bind fun j=>some j
def j9 (N:Nat) (p0_2: (List cE)) (p0_5: (List aK)) (p1:fW):Option (km×Bool):=
 (vn p0_2.length (fun(o:Nat) (ad:Unit)=>((idx p0_2 (o:Int)).bind fun j=>(bif j.eH then ((ld N j p1.cU).bind fun ae=>bif ae then ((gE N j).bind fun af=>(ky N ([af]: (List aI)) p1.At).bind fun ag=>some ag) else (some false)) else (some false)).bind fun ah=>bif ah then (some (.rt ((⟨true,(o:Int)⟩:km),true))) else (some (.nx ())):Option (Fl (Unit) (km×Bool)))) ()).bind fun ai=>ai.cs (fun(ad:Unit)=>(vn p0_5.length (fun(aa:Nat) (aj:Unit)=>((idx p0_5 (aa:Int)).bind fun ab=>(bif (ab.cU==p1.cU) then ((ky N ab.iN p1.At).bind fun ak=>some ak) else (some false)).bind fun al=>bif al then (some (.rt ((⟨false,(aa:Int)⟩:km),true))) else (some (.nx ())):Option (Fl (Unit) (km×Bool)))) ()).bind fun an=>an.cs (fun(aj:Unit)=>some ((⟨false,0⟩:km),false)) (fun r=>some r)) (fun r=>some r)
def iA (N:Nat) (p0_8: (List Int)) (p0_9: (List Int)) (p1:km):Option (Int):=
 bif p1.cE then ((idx p0_9 p1.Number).bind fun j=>some j) else ((idx p0_8 p1.Number).bind fun o=>some o)
def gu (N:Nat) (p0_2: (List cE)) (p0_3: (List fW)) (p0_5: (List aK)) (p0_6: (List (List Int))) (p0_8: (List Int)) (p0_9: (List Int)) (p0_10: (List Int)) (p0_11: (List km)):Option ((List cC)×(List Int)×(List Int)×(List Int)×(List km)):=
 (lh N (IntKind.wrap .i64 ((p0_5.length:Int)+ (p0_2.length:Int)))).bind fun ar=>(nn p0_6.length (fun(ai:Nat) (af: (List Int))=>((idx p0_6 (ai:Int)).bind fun aj=>(nn aj.length (fun(au:Nat) (ag: (List Int))=>((idx aj (au:Int)).bind fun av=>(il N ag av (IntKind.wrap .i64 ((p0_5.length:Int)+ (ai:Int)))).bind fun aw=>some aw:Option ((List Int)))) af).bind fun ag=>some ag:Option ((List Int)))) ar).bind fun af=>(mk 8 (0:Int) (p0_5.length:Int)).bind fun ax=>(mk 8 (0:Int) (p0_2.length:Int)).bind fun ay=>(j8 N af).bind fun ak=>(nn ak.1.length (fun(az:Nat) (aa: (List cC)×(List Int)×(List Int))=>((idx ak.1 (az:Int)).bind fun al=>(nn al.length (fun(a0:Nat) (j: (List Int)×(List Int)×(List Int)×(List Int))=>((idx al (a0:Int)).bind fun ab=>(bif (decide (ab< (p0_5.length:Int))) then ((idx j.1 ab).bind fun bd=>(app 8 j.2.2.1 ([ab]: (List Int))).bind fun a1=>some ((j.1.set (Int.toNat ab) (aa.1.length:Int)),j.2.1,a1,j.2.2.2)) else ((idx p0_2 (IntKind.wrap .i64 (ab - (p0_5.length:Int)))).bind fun a2=>(bif a2.eH then ((idx j.2.1 (IntKind.wrap .i64 (ab - (p0_5.length:Int)))).bind fun bf=>(app 8 j.2.2.2 ([(IntKind.wrap .i64 (ab - (p0_5.length:Int)))]: (List Int))).bind fun a3=>some ((j.2.1.set (Int.toNat (IntKind.wrap .i64 (ab - (p0_5.length:Int)))) (aa.1.length:Int)),a3)) else ((idx j.2.1 (IntKind.wrap .i64 (ab - (p0_5.length:Int)))).bind fun bg=>some ((j.2.1.set (Int.toNat (IntKind.wrap .i64 (ab - (p0_5.length:Int)))) (-1)),j.2.2.2))).bind fun an=>some (j.1,an.1,j.2.2.1,an.2))).bind fun ad=>some (ad.1,ad.2.1,ad.2.2.1,ad.2.2.2):Option ((List Int)×(List Int)×(List Int)×(List Int)))) (aa.2.1,aa.2.2,([]: (List Int)),([]: (List Int)))).bind fun j=>(bif (decide ((IntKind.wrap .i64 ((j.2.2.1.length:Int)+ (j.2.2.2.length:Int)))>0)) then ((app 72 aa.1 [(⟨j.2.2.1,j.2.2.2,([]: (List fD))⟩:cC)]).bind fun a4=>some a4) else (some aa.1)).bind fun a5=>some (a5,j.1,j.2.1):Option ((List cC)×(List Int)×(List Int)))) (([]: (List cC)),ax,ay)).bind fun aa=>(nn p0_3.length (fun(a6:Nat) (o: (List cC)×(List Int)×(List Int)×(List Int)×(List km))=>((idx p0_3 (a6:Int)).bind fun ao=>(j9 N p0_2 p0_5 ao).bind fun ah=>(bif ah.2 then ((iA N o.2.1 o.2.2.1 ah.1).bind fun ae=>(idx o.1 ae).bind fun a7=>(mX N ao).bind fun a8=>(app 32 a7.eL ([a8]: (List fD))).bind fun a9=>(idx o.1 ae).bind fun ba=>some ((o.1.set (Int.toNat ae) {ba with eL:=a9}),ae)) else (some (o.1,(-1)))).bind fun aq=>(app 8 o.2.2.2.1 ([aq.2]: (List Int))).bind fun bb=>(app 16 o.2.2.2.2 ([ah.1]: (List km))).bind fun bc=>some (aq.1,o.2.1,o.2.2.1,bb,bc):Option ((List cC)×(List Int)×(List Int)×(List Int)×(List km)))) (aa.1,aa.2.1,aa.2.2,p0_10,p0_11)).bind fun o=>some (o.1,o.2.1,o.2.2.1,o.2.2.2.1,o.2.2.2.2)
def i5 (N:Nat) (p0:k7):Option (Option ((List (List aI))×(List aI)×(List cE)×(List fW)×(List (List aA))×(List aK)×(List (List Int))×(List cC)×(List Int)×(List Int)×(List Int)×(List km))×Int):=
 bif ((p0.aJ.length:Int)==0) then (some (none,9)) else (bif (decide ((p0.aJ.length:Int)>16)) then (some (none,2)) else ((vn p0.aJ.length (fun(al:Nat) (aa:Int)=>((idx p0.aJ (al:Int)).bind fun ae=>(jI N ae).bind fun af=>bif (af != 0) then (some (.rt (none,af))) else (some (.nx (IntKind.wrap .i64 (aa+ (ae.length:Int))))):Option (Fl (Int) (Option ((List (List aI))×(List aI)×(List cE)×(List fW)×(List (List aA))×(List aK)×(List (List Int))×(List cC)×(List Int)×(List Int)×(List Int)×(List km))×Int)))) (p0.cG.length:Int)).bind fun an=>an.cs (fun(aa:Int)=>(jI N p0.cG).bind fun ag=>bif (ag != 0) then (some (none,ag)) else (bif (decide (aa>2000)) then (some (none,2)) else ((kG N p0).bind fun ah=>bif (ah != 0) then (some (none,ah)) else ((kI N p0).bind fun ai=>bif (ai != 0) then (some (none,ai)) else ((vn p0.aM.length (fun(aj:Nat) (ao:Unit)=>((idx p0.aM (aj:Int)).bind fun ab=>(sO p0.aM 0 (aj:Int)).bind fun tO=>(vn tO.length (fun(aq:Nat) (ar:Unit)=>((idx tO (aq:Int)).bind fun ad=>(bif ((decide (ab.cM<=ad.To))&&(decide (ad.cM<=ab.To))) then ((gE N ab).bind fun au=>(gE N ad).bind fun av=>(rQ N au av).bind fun aw=>some (aw==0)) else (some false)).bind fun ax=>bif ax then (some (.rt (none,12))) else (some (.nx ())):Option (Fl (Unit) (Option ((List (List aI))×(List aI)×(List cE)×(List fW)×(List (List aA))×(List aK)×(List (List Int))×(List cC)×(List Int)×(List Int)×(List Int)×(List km))×Int)))) ()).bind fun ay=>ay.cs (fun(ar:Unit)=>some (.nx ())) (fun r=>some (.rt r)):Option (Fl (Unit) (Option ((List (List aI))×(List aI)×(List cE)×(List fW)×(List (List aA))×(List aK)×(List (List Int))×(List cC)×(List Int)×(List Int)×(List Int)×(List km))×Int)))) ()).bind fun az=>az.cs (fun(ao:Unit)=>(j6 N p0.aJ p0.aM ([]: (List (List aA))) ([]: (List aK))).bind fun j=>bif (!j.1) then (some (none,2)) else ((j7 N p0.aM j.2.2 ([]: (List (List Int)))).bind fun ak=>(gu N p0.aM p0.bV j.2.2 ak ([]: (List Int)) ([]: (List Int)) ([]: (List Int)) ([]: (List km))).bind fun o=>some (some (p0.aJ,p0.cG,p0.aM,p0.bV,j.2.1,j.2.2,ak,o.1,o.2.1,o.2.2.1,o.2.2.2.1,o.2.2.2.2),0))) (fun r=>some r)))))) (fun r=>some r)))
def ka (N:Nat) (p0:k7):Option ((List Int)×Int):=
 (i5 N p0).bind fun j=>GL j.1 (bif (j.2 != 0) then (some (([]: (List Int)),j.2)) else (none)) (fun(aa: ((List (List aI))×(List aI)×(List cE)×(List fW)×(List (List aA))×(List aK)×(List (List Int))×(List cC)×(List Int)×(List Int)×(List Int)×(List km)))=>bif (j.2 != 0) then (some (([]: (List Int)),j.2)) else ((nn aa.2.2.2.2.2.2.2.2.1.length (fun(ab:Nat) (o: (List Int))=>((idx aa.2.2.2.2.2.2.2.2.1 (ab:Int)).bind fun ad=>(idx aa.2.2.2.2.2.2.2.1 ad).bind fun ae=>(bif ((ae.eL.length:Int)==0) then ((app 8 o ([(ab:Int)]: (List Int))).bind fun af=>some af) else (some o)).bind fun ag=>some ag:Option ((List Int)))) ([]: (List Int))).bind fun o=>some (o,0)))
def mw (N:Nat) (p0 p1 p2:Int):Option (Bool):=
 some ((decide (p0>=p1))&&(decide (p0<=p2)))
def cR (N:Nat) (p0:Int):Option (Bool):=
 (mw N p0 (-1000000) 1000000).bind fun j=>some j
def gY (N:Nat) (p0: (List aI)):Option (Int):=
 bif (decide ((p0.length:Int)>2000)) then (some 2) else ((jE (fun(o:Int)=>(bif (decide (o< (p0.length:Int))) then ((idx p0 o).bind fun j=>((cR N j.X0).bind fun aa=>bif (!aa) then (some true) else ((cR N j.Y0).bind fun ab=>bif (!ab) then (some true) else ((cR N j.X1).bind fun ad=>bif (!ad) then (some true) else ((cR N j.Y1).bind fun ae=>some (!ae))))).bind fun af=>bif af then (some (.rt 1)) else (bif ((decide (j.X1<=j.X0))||(decide (j.Y1<=j.Y0))) then (some (.rt 13)) else (some (.nx (IntKind.wrap .i64 (o+1)))))) else (some (.br o)):Option (Fl (Int) Int))) N 0).bind fun ag=>ag.cs (fun(o:Int)=>some 0) (fun r=>some r))
def iB (N:Nat) (p0 p1:aI):Option (Bool):=
 some ((decide (p0.Y0<p1.Y0))||((p0.Y0==p1.Y0)&&(decide (p0.X0<p1.X0))))
def fA (N:Nat) (p0: (List Int)) (p1:Int):Option ((List Int)):=
 (jE (fun(j:Int×Int)=>(bif (decide (j.1<j.2)) then ((idx p0 (IntKind.wrap .i64 (Int.tdiv (IntKind.wrap .i64 (j.1+j.2)) 2))).bind fun aa=>(bif (decide (aa<p1)) then (some ((IntKind.wrap .i64 ((IntKind.wrap .i64 (Int.tdiv (IntKind.wrap .i64 (j.1+j.2)) 2))+1)),j.2)) else (some (j.1,(IntKind.wrap .i64 (Int.tdiv (IntKind.wrap .i64 (j.1+j.2)) 2))))).bind fun o=>some (.nx (o.1,o.2))) else (some (.br (j.1,j.2))):Option (Fl (Int×Int) Empty))) N (0,(p0.length:Int))).bind fun ab=>ab.cs (fun(j:Int×Int)=>(bif (decide (j.1< (p0.length:Int))) then ((idx p0 j.1).bind fun ad=>some (ad==p1)) else (some false)).bind fun ae=>bif ae then (some p0) else ((sO p0 0 j.1).bind fun af=>(app 8 ([]: (List Int)) af).bind fun ag=>(app 8 ag ([p1]: (List Int))).bind fun ah=>(sO p0 j.1 (p0.length:Int)).bind fun ai=>(app 8 ah ai).bind fun aj=>some aj)) (fun r=>r.elim)
def gU (N:Nat) (p0: (List aI)):Option ((List Int)):=
 (jE (fun(j: (List Int)×Int)=>(bif (decide (j.2< (p0.length:Int))) then ((idx p0 j.2).bind fun o=>(idx p0 j.2).bind fun aa=>(fA N j.1 o.Y0).bind fun ab=>(fA N ab aa.Y1).bind fun ad=>some (.nx (ad,(IntKind.wrap .i64 (j.2+1))))) else (some (.br (j.1,j.2))):Option (Fl ((List Int)×Int) Empty))) N (([]: (List Int)),0)).bind fun ae=>ae.cs (fun(j: (List Int)×Int)=>some j.1) (fun r=>r.elim)
def iC (N:Nat) (p0: (List aF)) (p1:aF):Option ((List aF)):=
 (jE (fun(o: (List aF)×Int)=>((bif (decide (o.2< (p0.length:Int))) then ((idx p0 o.2).bind fun ad=>some (decide (ad.to<p1.from_))) else (some false)).bind fun ae=>bif ae then ((idx p0 o.2).bind fun af=>(app 16 o.1 ([af]: (List aF))).bind fun ag=>some (.nx (ag,(IntKind.wrap .i64 (o.2+1))))) else (some (.br (o.1,o.2))):Option (Fl ((List aF)×Int) Empty))) N (([]: (List aF)),0)).bind fun ah=>ah.cs (fun(o: (List aF)×Int)=>(jE (fun(j:aF×Int)=>((bif (decide (j.2< (p0.length:Int))) then ((idx p0 j.2).bind fun ai=>some (decide (ai.from_<=j.1.to))) else (some false)).bind fun aj=>bif aj then ((idx p0 j.2).bind fun aa=>(idx p0 j.2).bind fun ab=>some (.nx ({{j.1 with from_:=(if aa.from_<j.1.from_ then aa.from_ else j.1.from_)} with to:=(if j.1.to<ab.to then ab.to else j.1.to)},(IntKind.wrap .i64 (j.2+1))))) else (some (.br (j.1,j.2))):Option (Fl (aF×Int) Empty))) N (p1,o.2)).bind fun ak=>ak.cs (fun(j:aF×Int)=>(app 16 o.1 ([j.1]: (List aF))).bind fun al=>(sO p0 j.2 (p0.length:Int)).bind fun an=>(app 16 al an).bind fun ao=>some ao) (fun r=>r.elim)) (fun r=>r.elim)
def gT (N:Nat) (p0: (List aI)) (p1:Int):Option ((List aF)):=
 (jE (fun(j: (List aF)×Int)=>(bif (decide (j.2< (p0.length:Int))) then (((idx p0 j.2).bind fun o=>bif (decide (o.Y0<=p1)) then ((idx p0 j.2).bind fun aa=>some (decide (p1<aa.Y1))) else (some false)).bind fun ab=>(bif ab then ((idx p0 j.2).bind fun ad=>(idx p0 j.2).bind fun ae=>(iC N j.1 (⟨ad.X0,ae.X1⟩:aF)).bind fun af=>some af) else (some j.1)).bind fun ag=>some (.nx (ag,(IntKind.wrap .i64 (j.2+1))))) else (some (.br (j.1,j.2))):Option (Fl ((List aF)×Int) Empty))) N (([]: (List aF)),0)).bind fun ah=>ah.cs (fun(j: (List aF)×Int)=>some j.1) (fun r=>r.elim)
def jJ (N:Nat) (p0: (List aF)) (p1: (List aF)):Option (Bool):=
 bif ((p0.length:Int) != (p1.length:Int)) then (some false) else ((jE (fun(j:Int)=>(bif (decide (j< (p0.length:Int))) then ((idx p0 j).bind fun o=>(idx p1 j).bind fun aa=>bif (!(decide (o=aa))) then (some (.rt false)) else (some (.nx (IntKind.wrap .i64 (j+1))))) else (some (.br j)):Option (Fl (Int) Bool))) N 0).bind fun ab=>ab.cs (fun(j:Int)=>some true) (fun r=>some r))
def fY (N:Nat) (p0: (List aL)) (p1:aL):Option ((List aL)):=
 bif ((p1.iZ.length:Int)==0) then (some p0) else ((bif (decide ((p0.length:Int)>0)) then ((idx p0 (IntKind.wrap .i64 ((p0.length:Int) - 1))).bind fun j=>bif (j.to==p1.from_) then ((idx p0 (IntKind.wrap .i64 ((p0.length:Int) - 1))).bind fun o=>(jJ N o.iZ p1.iZ).bind fun aa=>some aa) else (some false)) else (some false)).bind fun ab=>bif ab then ((idx p0 (IntKind.wrap .i64 ((p0.length:Int) - 1))).bind fun ad=>some (p0.set (Int.toNat (IntKind.wrap .i64 ((p0.length:Int) - 1))) ({ad with to:=p1.to}))) else ((app 40 p0 ([p1]: (List aL))).bind fun ae=>some ae))
def jh (N:Nat) (p0: (List aL)):Option ((List aI)):=
 (jE (fun(j: (List aI)×Int)=>(bif (decide (j.2< (p0.length:Int))) then ((jE (fun(o: (List aI)×Int)=>((idx p0 j.2).bind fun aa=>bif (decide (o.2< (aa.iZ.length:Int))) then ((idx p0 j.2).bind fun ab=>(idx ab.iZ o.2).bind fun ad=>(idx p0 j.2).bind fun ae=>(idx p0 j.2).bind fun af=>(idx af.iZ o.2).bind fun ag=>(idx p0 j.2).bind fun ah=>(app 32 o.1 ([(⟨ad.from_,ae.from_,ag.to,ah.to⟩:aI)]: (List aI))).bind fun ai=>some (.nx (ai,(IntKind.wrap .i64 (o.2+1))))) else (some (.br (o.1,o.2))):Option (Fl ((List aI)×Int) Empty))) N (j.1,0)).bind fun aj=>aj.cs (fun(o: (List aI)×Int)=>some (.nx (o.1,(IntKind.wrap .i64 (j.2+1))))) (fun r=>r.elim)) else (some (.br (j.1,j.2))):Option (Fl ((List aI)×Int) Empty))) N (([]: (List aI)),0)).bind fun ak=>ak.cs (fun(j: (List aI)×Int)=>some j.1) (fun r=>r.elim)
def eX (N:Nat) (p0: (List aI)):Option ((List aI)):=
 (gU N p0).bind fun o=>(jE (fun(j: (List aL)×Int)=>(bif (decide (j.2< (o.length:Int))) then ((idx o (IntKind.wrap .i64 (j.2 - 1))).bind fun aa=>(idx o j.2).bind fun ab=>(idx o (IntKind.wrap .i64 (j.2 - 1))).bind fun ad=>(gT N p0 ad).bind fun ae=>(fY N j.1 (⟨aa,ab,ae⟩:aL)).bind fun af=>some (.nx (af,(IntKind.wrap .i64 (j.2+1))))) else (some (.br (j.1,j.2))):Option (Fl ((List aL)×Int) Empty))) N (([]: (List aL)),1)).bind fun ag=>ag.cs (fun(j: (List aL)×Int)=>(jh N j.1).bind fun ah=>some ah) (fun r=>r.elim)
def jK (N:Nat) (p0: (List aI)) (p1: (List aI)):Option (Bool):=
 bif ((p0.length:Int) != (p1.length:Int)) then (some false) else ((jE (fun(j:Int)=>(bif (decide (j< (p0.length:Int))) then ((idx p0 j).bind fun o=>(idx p1 j).bind fun aa=>bif (!(decide (o=aa))) then (some (.rt false)) else (some (.nx (IntKind.wrap .i64 (j+1))))) else (some (.br j)):Option (Fl (Int) Bool))) N 0).bind fun ab=>ab.cs (fun(j:Int)=>some true) (fun r=>some r))
def fE (N:Nat) (p0: (List aI)):Option (Int):=
 (gY N p0).bind fun o=>bif (o != 0) then (some o) else ((jE (fun(j:Int)=>(bif (decide (j< (p0.length:Int))) then ((idx p0 (IntKind.wrap .i64 (j - 1))).bind fun aa=>(idx p0 j).bind fun ab=>(iB N aa ab).bind fun ad=>bif (!ad) then (some (.rt 8)) else (some (.nx (IntKind.wrap .i64 (j+1))))) else (some (.br j)):Option (Fl (Int) Int))) N 1).bind fun ae=>ae.cs (fun(j:Int)=>(eX N p0).bind fun af=>(jK N p0 af).bind fun ag=>bif (!ag) then (some 3) else (some 0)) (fun r=>some r))
def dY (N:Nat) (p0 p1 p2:Int):Option (Bool):=
 some ((decide (p0>=p1))&&(decide (p0<=p2)))
def fZ (N:Nat) (p0:jt):Option (Bool):=
 ((cR N p0.X).bind fun j=>bif j then ((cR N p0.Y).bind fun o=>some o) else (some false)).bind fun aa=>some aa
def cI (N:Nat) (p0:cE):Option (aI):=
 some (⟨(IntKind.wrap .i64 (p0.At.X - (IntKind.wrap .i64 (Int.tdiv p0.dE 2)))),(IntKind.wrap .i64 (p0.At.Y - (IntKind.wrap .i64 (Int.tdiv p0.dE 2)))),(IntKind.wrap .i64 ((IntKind.wrap .i64 (p0.At.X - (IntKind.wrap .i64 (Int.tdiv p0.dE 2))))+p0.dE)),(IntKind.wrap .i64 ((IntKind.wrap .i64 (p0.At.Y - (IntKind.wrap .i64 (Int.tdiv p0.dE 2))))+p0.dE))⟩:aI)
def gM (N:Nat) (p0:cE):Option (Int):=
 ((dY N p0.dE 1 10000).bind fun o=>bif (!o) then (some true) else ((fZ N p0.At).bind fun aa=>some (!aa))).bind fun ab=>bif ab then (some 1) else ((cI N p0).bind fun j=>((cR N j.X0).bind fun ad=>bif (!ad) then (some true) else ((cR N j.Y0).bind fun ae=>bif (!ae) then (some true) else ((cR N j.X1).bind fun af=>bif (!af) then (some true) else ((cR N j.Y1).bind fun ag=>some (!ag))))).bind fun ah=>bif ah then (some 1) else (some 0))
def gv (N:Nat) (p0:eJ):Option (Bool):=
 (jE (fun(o:Int)=>(bif (decide (o< (p0.cX.length:Int))) then ((Eh p0 o).bind fun j=>(bif (!((((decide ((j.toNat:Int)>=97))&&(decide ((j.toNat:Int)<=122)))||((decide ((j.toNat:Int)>=65))&&(decide ((j.toNat:Int)<=90))))||((decide ((j.toNat:Int)>=48))&&(decide ((j.toNat:Int)<=57))))) then ((gR N (⟨[95,43,45,35]⟩) (j.toNat:Int)).bind fun aa=>some (decide (aa<0))) else (some false)).bind fun ab=>bif ab then (some (.rt false)) else (some (.nx (IntKind.wrap .i64 (o+1))))) else (some (.br o)):Option (Fl (Int) Bool))) N 0).bind fun ad=>ad.cs (fun(o:Int)=>(dY N (p0.cX.length:Int) 1 40).bind fun ae=>some ae) (fun r=>some r)
def jB (N:Nat) (p0:eJ):Option (Bool):=
 (lT N p0 (⟨[47]⟩)).bind fun o=>(jE (fun(j:Int)=>(bif (decide (j< (o.length:Int))) then ((idx o j).bind fun aa=>(gv N aa).bind fun ab=>bif (!ab) then (some (.rt false)) else (some (.nx (IntKind.wrap .i64 (j+1))))) else (some (.br j)):Option (Fl (Int) Bool))) N 0).bind fun ad=>ad.cs (fun(j:Int)=>some (decide ((p0.cX.length:Int)<=200))) (fun r=>some r)
def iD (N:Nat) (p0:k7) (p1:Int):Option (Int):=
 (idx p0.bV p1).bind fun j=>((jB N j.Part).bind fun aa=>bif (!aa) then (some true) else ((gv N j.fD).bind fun ab=>some (!ab))).bind fun ad=>bif ad then (some 5) else (((dY N j.cU 0 (IntKind.wrap .i64 ((p0.aJ.length:Int) - 1))).bind fun ae=>bif (!ae) then (some true) else ((fZ N j.At).bind fun af=>some (!af))).bind fun ag=>bif ag then (some 1) else (bif (decide (p1>0)) then ((idx p0.bV (IntKind.wrap .i64 (p1 - 1))).bind fun o=>bif ((j.Part.sN o.Part)||((j.Part.sM o.Part)&&(j.fD.sN o.fD||j.fD.sM o.fD))) then (some 8) else (some 0)) else (some 0)))
def gZ (N:Nat) (p0:k7):Option (Int):=
 bif ((p0.aJ.length:Int)==0) then (some 9) else (bif (decide ((p0.aJ.length:Int)>16)) then (some 2) else ((jE (fun(j:Int×Int)=>(bif (decide (j.2< (p0.aJ.length:Int))) then ((idx p0.aJ j.2).bind fun ah=>(fE N ah).bind fun ad=>bif (ad != 0) then (some (.rt ad)) else ((idx p0.aJ j.2).bind fun ai=>some (.nx ((IntKind.wrap .i64 (j.1+ (ai.length:Int))),(IntKind.wrap .i64 (j.2+1)))))) else (some (.br (j.1,j.2))):Option (Fl (Int×Int) Int))) N ((p0.cG.length:Int),0)).bind fun aj=>aj.cs (fun(j:Int×Int)=>(fE N p0.cG).bind fun ae=>bif (ae != 0) then (some ae) else ((bif (decide (j.1>2000)) then (some true) else (some (decide ((p0.aM.length:Int)>500)))).bind fun ak=>bif ak then (some 2) else ((jE (fun(o:Int)=>(bif (decide (o< (p0.aM.length:Int))) then ((idx p0.aM o).bind fun ab=>(gM N ab).bind fun af=>bif (af != 0) then (some (.rt af)) else (((dY N ab.cM 0 (IntKind.wrap .i64 ((p0.aJ.length:Int) - 1))).bind fun al=>bif (!al) then (some true) else ((dY N ab.To ab.cM (IntKind.wrap .i64 ((p0.aJ.length:Int) - 1))).bind fun an=>some (!an))).bind fun ao=>bif ao then (some (.rt 1)) else (some (.nx (IntKind.wrap .i64 (o+1)))))) else (some (.br o)):Option (Fl (Int) Int))) N 0).bind fun aq=>aq.cs (fun(o:Int)=>bif (decide ((p0.bV.length:Int)>1000)) then (some 2) else ((jE (fun(aa:Int)=>(bif (decide (aa< (p0.bV.length:Int))) then ((iD N p0 aa).bind fun ag=>bif (ag != 0) then (some (.rt ag)) else (some (.nx (IntKind.wrap .i64 (aa+1))))) else (some (.br aa)):Option (Fl (Int) Int))) N 0).bind fun ar=>ar.cs (fun(aa:Int)=>some 0) (fun r=>some r))) (fun r=>some r)))) (fun r=>some r)))
def iE (N:Nat) (p0 p1:cE):Option (Bool):=
 some ((decide (p0.cM<=p1.To))&&(decide (p1.cM<=p0.To)))
def f0 (N:Nat) (p0 p1:aI):Option (Bool):=
 (bif (decide ((if p1.X1<p0.X1 then p1.X1 else p0.X1)> (if p0.X0<p1.X0 then p1.X0 else p0.X0))) then (some (decide ((if p1.Y1<p0.Y1 then p1.Y1 else p0.Y1)> (if p0.Y0<p1.Y0 then p1.Y0 else p0.Y0)))) else (some false)).bind fun j=>some j
def eU (N:Nat) (p0:cE) (p1:Int):Option (Bool):=
 some ((decide (p0.cM<=p1))&&(decide (p1<=p0.To)))
def gw (N:Nat) (p0: (List aF)) (p1:Int):Option (Bool):=
 (jE (fun(j:Int)=>(bif (decide (j< (p0.length:Int))) then (((idx p0 j).bind fun o=>bif (decide (o.from_<=p1)) then ((idx p0 j).bind fun aa=>some (decide (p1<aa.to))) else (some false)).bind fun ab=>bif ab then (some (.rt true)) else (some (.nx (IntKind.wrap .i64 (j+1))))) else (some (.br j)):Option (Fl (Int) Bool))) N 0).bind fun ad=>ad.cs (fun(j:Int)=>some false) (fun r=>some r)
def jQ (N:Nat) (p0: (List aF)) (p1: (List aF)) (p2:Int):Option ((List aF)):=
 (jE (fun(aa: (List Int)×Int)=>(bif (decide (aa.2< (p0.length:Int))) then ((idx p0 aa.2).bind fun ae=>(idx p0 aa.2).bind fun af=>(fA N aa.1 ae.from_).bind fun ag=>(fA N ag af.to).bind fun ah=>some (.nx (ah,(IntKind.wrap .i64 (aa.2+1))))) else (some (.br (aa.1,aa.2))):Option (Fl ((List Int)×Int) Empty))) N (([]: (List Int)),0)).bind fun ai=>ai.cs (fun(aa: (List Int)×Int)=>(jE (fun(j: (List Int)×Int)=>(bif (decide (j.2< (p1.length:Int))) then ((idx p1 j.2).bind fun aj=>(idx p1 j.2).bind fun ak=>(fA N j.1 aj.from_).bind fun al=>(fA N al ak.to).bind fun an=>some (.nx (an,(IntKind.wrap .i64 (j.2+1))))) else (some (.br (j.1,j.2))):Option (Fl ((List Int)×Int) Empty))) N (aa.1,0)).bind fun ao=>ao.cs (fun(j: (List Int)×Int)=>(jE (fun(o: (List aF)×Int)=>(bif (decide (o.2< (j.1.length:Int))) then ((idx j.1 (IntKind.wrap .i64 (o.2 - 1))).bind fun aq=>(idx j.1 (IntKind.wrap .i64 (o.2 - 1))).bind fun ar=>(gw N p0 aq).bind fun ab=>(gw N p1 ar).bind fun ad=>(bif ((((p2==1)&&(ab||ad))||(((p2==2)&&ab)&&ad))||(((p2==3)&&ab)&&(!ad))) then ((idx j.1 (IntKind.wrap .i64 (o.2 - 1))).bind fun au=>(idx j.1 o.2).bind fun av=>(iC N o.1 (⟨au,av⟩:aF)).bind fun aw=>some aw) else (some o.1)).bind fun ax=>some (.nx (ax,(IntKind.wrap .i64 (o.2+1))))) else (some (.br (o.1,o.2))):Option (Fl ((List aF)×Int) Empty))) N (([]: (List aF)),1)).bind fun ay=>ay.cs (fun(o: (List aF)×Int)=>some o.1) (fun r=>r.elim)) (fun r=>r.elim)) (fun r=>r.elim)
def gH (N:Nat) (p0: (List aI)) (p1: (List aI)) (p2:Int):Option ((List aI)):=
 (app 32 ([]: (List aI)) p0).bind fun aa=>(app 32 aa p1).bind fun ab=>(gU N ab).bind fun o=>(jE (fun(j: (List aL)×Int)=>(bif (decide (j.2< (o.length:Int))) then ((idx o (IntKind.wrap .i64 (j.2 - 1))).bind fun ad=>(idx o j.2).bind fun ae=>(idx o (IntKind.wrap .i64 (j.2 - 1))).bind fun af=>(idx o (IntKind.wrap .i64 (j.2 - 1))).bind fun ag=>(gT N p0 af).bind fun ah=>(gT N p1 ag).bind fun ai=>(jQ N ah ai p2).bind fun aj=>(fY N j.1 (⟨ad,ae,aj⟩:aL)).bind fun ak=>some (.nx (ak,(IntKind.wrap .i64 (j.2+1))))) else (some (.br (j.1,j.2))):Option (Fl ((List aL)×Int) Empty))) N (([]: (List aL)),1)).bind fun al=>al.cs (fun(j: (List aL)×Int)=>(jh N j.1).bind fun an=>some an) (fun r=>r.elim)
def kj (N:Nat) (p0: (List aI)) (p1: (List aI)):Option ((List aI)):=
 (gH N p0 p1 3).bind fun j=>some j
def gm (N:Nat) (p0:k7) (p1:Int):Option ((List aI)):=
 (jE (fun(j: (List aI)×Int)=>(bif (decide (j.2< (p0.aM.length:Int))) then ((idx p0.aM j.2).bind fun o=>(eU N o p1).bind fun aa=>(bif aa then ((idx p0.aM j.2).bind fun ab=>(cI N ab).bind fun ad=>(app 32 j.1 ([ad]: (List aI))).bind fun ae=>some ae) else (some j.1)).bind fun af=>some (.nx (af,(IntKind.wrap .i64 (j.2+1))))) else (some (.br (j.1,j.2))):Option (Fl ((List aI)×Int) Empty))) N (([]: (List aI)),0)).bind fun ag=>ag.cs (fun(j: (List aI)×Int)=>(idx p0.aJ p1).bind fun ah=>(eX N j.1).bind fun ai=>(kj N ah ai).bind fun aj=>some aj) (fun r=>r.elim)
def iW (N:Nat) (p0 p1:aI):Option (Bool):=
 some (((decide ((IntKind.wrap .i64 ((if p1.X1<p0.X1 then p1.X1 else p0.X1) - (if p0.X0<p1.X0 then p1.X0 else p0.X0)))>0))&&(decide ((IntKind.wrap .i64 ((if p1.Y1<p0.Y1 then p1.Y1 else p0.Y1) - (if p0.Y0<p1.Y0 then p1.Y0 else p0.Y0)))>=0)))||((decide ((IntKind.wrap .i64 ((if p1.X1<p0.X1 then p1.X1 else p0.X1) - (if p0.X0<p1.X0 then p1.X0 else p0.X0)))>=0))&&(decide ((IntKind.wrap .i64 ((if p1.Y1<p0.Y1 then p1.Y1 else p0.Y1) - (if p0.Y0<p1.Y0 then p1.Y0 else p0.Y0)))>0))))
def jC (N:Nat) (p0: (List (List aI))) (p1: (List aI)):Option ((List (List aI))):=
 (jE (fun(j:Int)=>((bif (decide (j>0)) then ((idx p1 0).bind fun o=>(idx p0 (IntKind.wrap .i64 (j - 1))).bind fun aa=>(idx aa 0).bind fun ab=>(iB N o ab).bind fun ad=>some ad) else (some false)).bind fun ae=>bif ae then (some (.nx (IntKind.wrap .i64 (j - 1)))) else (some (.br j)):Option (Fl (Int) Empty))) N (p0.length:Int)).bind fun af=>af.cs (fun(j:Int)=>(sO p0 0 j).bind fun ag=>(app 24 ([]: (List (List aI))) ag).bind fun ah=>(app 24 ah ([p1]: (List (List aI)))).bind fun ai=>(sO p0 j (p0.length:Int)).bind fun aj=>(app 24 ai aj).bind fun ak=>some ak) (fun r=>r.elim)
def fJ (N:Nat) (p0: (List aI)):Option ((List (List aI))):=
 (mk 1 (false:Bool) (p0.length:Int)).bind fun ad=>(jE (fun(o: (List Bool)×(List (List aI))×Int)=>(bif (decide (o.2.2< (p0.length:Int))) then ((idx o.1 o.2.2).bind fun ae=>bif ae then (some (.nx (o.1,o.2.1,(IntKind.wrap .i64 (o.2.2+1))))) else ((idx o.1 o.2.2).bind fun aw=>(idx p0 o.2.2).bind fun af=>(jE (fun(aa: (List Bool)×(List aI)×Int)=>(bif (decide (aa.2.2< (aa.2.1.length:Int))) then ((jE (fun(j: (List Bool)×(List aI)×Int)=>(bif (decide (j.2.2< (p0.length:Int))) then (((idx j.1 j.2.2).bind fun ag=>bif (!ag) then ((idx j.2.1 aa.2.2).bind fun ah=>(idx p0 j.2.2).bind fun ai=>(iW N ah ai).bind fun aj=>some aj) else (some false)).bind fun ak=>(bif ak then ((idx j.1 j.2.2).bind fun ax=>(idx p0 j.2.2).bind fun al=>(app 32 j.2.1 ([al]: (List aI))).bind fun an=>some ((j.1.set (Int.toNat j.2.2) true),an)) else (some (j.1,j.2.1))).bind fun ab=>some (.nx (ab.1,ab.2,(IntKind.wrap .i64 (j.2.2+1))))) else (some (.br (j.1,j.2.1,j.2.2))):Option (Fl ((List Bool)×(List aI)×Int) Empty))) N (aa.1,aa.2.1,0)).bind fun ao=>ao.cs (fun(j: (List Bool)×(List aI)×Int)=>some (.nx (j.1,j.2.1,(IntKind.wrap .i64 (aa.2.2+1))))) (fun r=>r.elim)) else (some (.br (aa.1,aa.2.1,aa.2.2))):Option (Fl ((List Bool)×(List aI)×Int) Empty))) N ((o.1.set (Int.toNat o.2.2) true),([af]: (List aI)),0)).bind fun aq=>aq.cs (fun(aa: (List Bool)×(List aI)×Int)=>(eX N aa.2.1).bind fun ar=>(jC N o.2.1 ar).bind fun au=>some (.nx (aa.1,au,(IntKind.wrap .i64 (o.2.2+1))))) (fun r=>r.elim))) else (some (.br (o.1,o.2.1,o.2.2))):Option (Fl ((List Bool)×(List (List aI))×Int) Empty))) N (ad,([]: (List (List aI))),0)).bind fun av=>av.cs (fun(o: (List Bool)×(List (List aI))×Int)=>some o.2.1) (fun r=>r.elim)
def dB (N:Nat) (p0:k7):Option (Int):=
 (gZ N p0).bind fun ab=>bif (ab != 0) then (some ab) else ((jE (fun(o:Int)=>(bif (decide (o< (p0.aM.length:Int))) then ((jE (fun(aa:Int)=>(bif (decide (aa<o)) then (((idx p0.aM o).bind fun ae=>(idx p0.aM aa).bind fun af=>(iE N ae af).bind fun ag=>bif ag then ((idx p0.aM o).bind fun ah=>(idx p0.aM aa).bind fun ai=>(cI N ah).bind fun aj=>(cI N ai).bind fun ak=>(f0 N aj ak).bind fun al=>some al) else (some false)).bind fun an=>bif an then (some (.rt 12)) else (some (.nx (IntKind.wrap .i64 (aa+1))))) else (some (.br aa)):Option (Fl (Int) Int))) N 0).bind fun ao=>ao.cs (fun(aa:Int)=>some (.nx (IntKind.wrap .i64 (o+1)))) (fun r=>some (.rt r))) else (some (.br o)):Option (Fl (Int) Int))) N 0).bind fun aq=>aq.cs (fun(o:Int)=>(jE (fun(j:Int×Int)=>(bif (decide (j.2< (p0.aJ.length:Int))) then ((gm N p0 j.2).bind fun ad=>bif (decide ((ad.length:Int)>2000)) then (some (.rt 2)) else ((fJ N ad).bind fun ar=>some (.nx ((IntKind.wrap .i64 (j.1+ (ar.length:Int))),(IntKind.wrap .i64 (j.2+1)))))) else (some (.br (j.1,j.2))):Option (Fl (Int×Int) Int))) N (0,0)).bind fun au=>au.cs (fun(j:Int×Int)=>bif (decide (j.1>2000)) then (some 2) else (some 0)) (fun r=>some r)) (fun r=>some r))
def ji (N:Nat) (p0: (List aI)) (p1:aI):Option (Bool):=
 (jE (fun(j:Int)=>(bif (decide (j< (p0.length:Int))) then ((idx p0 j).bind fun o=>(idx p0 j).bind fun aa=>(idx p0 j).bind fun ab=>(idx p0 j).bind fun ad=>bif (((decide ((IntKind.wrap .i64 ((if p1.X1<o.X1 then p1.X1 else o.X1) - (if aa.X0<p1.X0 then p1.X0 else aa.X0)))>0))&&((IntKind.wrap .i64 ((if p1.Y1<ab.Y1 then p1.Y1 else ab.Y1) - (if ad.Y0<p1.Y0 then p1.Y0 else ad.Y0)))==0))||(((IntKind.wrap .i64 ((if p1.X1<o.X1 then p1.X1 else o.X1) - (if aa.X0<p1.X0 then p1.X0 else aa.X0)))==0)&&(decide ((IntKind.wrap .i64 ((if p1.Y1<ab.Y1 then p1.Y1 else ab.Y1) - (if ad.Y0<p1.Y0 then p1.Y0 else ad.Y0)))>0)))) then (some (.rt true)) else (some (.nx (IntKind.wrap .i64 (j+1))))) else (some (.br j)):Option (Fl (Int) Bool))) N 0).bind fun ae=>ae.cs (fun(j:Int)=>some false) (fun r=>some r)
def cS (N:Nat) (p0: (List Int)) (p1:Int):Option (Bool):=
 (jE (fun(j:Int)=>(bif (decide (j< (p0.length:Int))) then ((idx p0 j).bind fun o=>bif (o==p1) then (some (.rt true)) else (some (.nx (IntKind.wrap .i64 (j+1))))) else (some (.br j)):Option (Fl (Int) Bool))) N 0).bind fun aa=>aa.cs (fun(j:Int)=>some false) (fun r=>some r)
def gz (N:Nat) (p0: (List Int)) (p1:Int):Option ((List Int)):=
 (jE (fun(j:Int)=>((bif (decide (j>0)) then ((idx p0 (IntKind.wrap .i64 (j - 1))).bind fun o=>some (decide (o>p1))) else (some false)).bind fun aa=>bif aa then (some (.nx (IntKind.wrap .i64 (j - 1)))) else (some (.br j)):Option (Fl (Int) Empty))) N (p0.length:Int)).bind fun ab=>ab.cs (fun(j:Int)=>(bif (decide (j>0)) then ((idx p0 (IntKind.wrap .i64 (j - 1))).bind fun ad=>some (ad==p1)) else (some false)).bind fun ae=>bif ae then (some p0) else ((sO p0 0 j).bind fun af=>(app 8 ([]: (List Int)) af).bind fun ag=>(app 8 ag ([p1]: (List Int))).bind fun ah=>(sO p0 j (p0.length:Int)).bind fun ai=>(app 8 ah ai).bind fun aj=>some aj)) (fun r=>r.elim)
def gA (N:Nat) (p0_7: (List (List Int))) (p1:Int) (p2: (List Bool)):Option (((List Int)×(List Int)×(List fD))×(List Bool)):=
 (idx p2 p1).bind fun ax=>(mk 1 (false:Bool) (p0_7.length:Int)).bind fun ae=>(jE (fun(o: (List Bool)×(List Int)×(List Int)×(List Bool)×(List Int)×Int)=>(bif (decide (o.2.2.2.2.2< (o.2.2.2.2.1.length:Int))) then ((jE (fun(j: (List Bool)×(List Int)×(List Int)×(List Bool)×(List Int)×Int)=>(bif (decide (j.2.2.2.2.2< (p0_7.length:Int))) then (((idx j.2.2.2.1 j.2.2.2.2.2).bind fun af=>bif af then (some true) else ((idx p0_7 j.2.2.2.2.2).bind fun ag=>(idx j.2.2.2.2.1 o.2.2.2.2.2).bind fun ah=>(cS N ag ah).bind fun ai=>some (!ai))).bind fun aj=>bif aj then (some (.nx (j.1,j.2.1,j.2.2.1,j.2.2.2.1,j.2.2.2.2.1,(IntKind.wrap .i64 (j.2.2.2.2.2+1))))) else ((idx j.2.2.2.1 j.2.2.2.2.2).bind fun ay=>(gz N j.2.2.1 j.2.2.2.2.2).bind fun ak=>(jE (fun(aa: (List Bool)×(List Int)×(List Int)×Int)=>((idx p0_7 j.2.2.2.2.2).bind fun al=>bif (decide (aa.2.2.2< (al.length:Int))) then ((idx p0_7 j.2.2.2.2.2).bind fun an=>(idx an aa.2.2.2).bind fun ab=>(idx aa.1 ab).bind fun ao=>(bif (!ao) then ((idx aa.1 ab).bind fun az=>(gz N aa.2.1 ab).bind fun aq=>(app 8 aa.2.2.1 ([ab]: (List Int))).bind fun ar=>some ((aa.1.set (Int.toNat ab) true),aq,ar)) else (some (aa.1,aa.2.1,aa.2.2.1))).bind fun ad=>some (.nx (ad.1,ad.2.1,ad.2.2,(IntKind.wrap .i64 (aa.2.2.2+1))))) else (some (.br (aa.1,aa.2.1,aa.2.2.1,aa.2.2.2))):Option (Fl ((List Bool)×(List Int)×(List Int)×Int) Empty))) N (j.1,j.2.1,j.2.2.2.2.1,0)).bind fun au=>au.cs (fun(aa: (List Bool)×(List Int)×(List Int)×Int)=>some (.nx (aa.1,aa.2.1,ak,(j.2.2.2.1.set (Int.toNat j.2.2.2.2.2) true),aa.2.2.1,(IntKind.wrap .i64 (j.2.2.2.2.2+1))))) (fun r=>r.elim))) else (some (.br (j.1,j.2.1,j.2.2.1,j.2.2.2.1,j.2.2.2.2.1,j.2.2.2.2.2))):Option (Fl ((List Bool)×(List Int)×(List Int)×(List Bool)×(List Int)×Int) Empty))) N (o.1,o.2.1,o.2.2.1,o.2.2.2.1,o.2.2.2.2.1,0)).bind fun av=>av.cs (fun(j: (List Bool)×(List Int)×(List Int)×(List Bool)×(List Int)×Int)=>some (.nx (j.1,j.2.1,j.2.2.1,j.2.2.2.1,j.2.2.2.2.1,(IntKind.wrap .i64 (o.2.2.2.2.2+1))))) (fun r=>r.elim)) else (some (.br (o.1,o.2.1,o.2.2.1,o.2.2.2.1,o.2.2.2.2.1,o.2.2.2.2.2))):Option (Fl ((List Bool)×(List Int)×(List Int)×(List Bool)×(List Int)×Int) Empty))) N ((p2.set (Int.toNat p1) true),([p1]: (List Int)),([]: (List Int)),ae,([p1]: (List Int)),0)).bind fun aw=>aw.cs (fun(o: (List Bool)×(List Int)×(List Int)×(List Bool)×(List Int)×Int)=>some ((o.2.1,o.2.2.1,([]: (List fD))),o.1)) (fun r=>r.elim)
def eO (N:Nat) (p0: (List aI)) (p1:jt):Option (Bool):=
 (gT N p0 p1.Y).bind fun j=>(gw N j p1.X).bind fun o=>some o
def gN (N:Nat) (p0_2: (List cE)) (p0_4: (List Int)) (p0_5: (List (List aI))) (p1:fW):Option (km×Bool):=
 (jE (fun(o:Int)=>(bif (decide (o< (p0_5.length:Int))) then (((idx p0_4 o).bind fun aa=>bif (aa==p1.cU) then ((idx p0_5 o).bind fun ab=>(eO N ab p1.At).bind fun ad=>some ad) else (some false)).bind fun ae=>bif ae then (some (.rt ((⟨false,o⟩:km),true))) else (some (.nx (IntKind.wrap .i64 (o+1))))) else (some (.br o)):Option (Fl (Int) (km×Bool)))) N 0).bind fun af=>af.cs (fun(o:Int)=>(jE (fun(j:Int)=>(bif (decide (j< (p0_2.length:Int))) then (((idx p0_2 j).bind fun ag=>bif ag.eH then ((idx p0_2 j).bind fun ah=>(eU N ah p1.cU).bind fun ai=>bif ai then ((idx p0_2 j).bind fun aj=>(cI N aj).bind fun ak=>(eO N ([ak]: (List aI)) p1.At).bind fun al=>some al) else (some false)) else (some false)).bind fun an=>bif an then (some (.rt ((⟨true,j⟩:km),true))) else (some (.nx (IntKind.wrap .i64 (j+1))))) else (some (.br j)):Option (Fl (Int) (km×Bool)))) N 0).bind fun ao=>ao.cs (fun(j:Int)=>some ((⟨false,0⟩:km),false)) (fun r=>some r)) (fun r=>some r)
def dT (N:Nat) (p0_6: (List cC)) (p1:km):Option (Int):=
 (jE (fun(j:Int)=>(bif (decide (j< (p0_6.length:Int))) then ((bif p1.cE then ((idx p0_6 j).bind fun o=>(cS N o.aM p1.Number).bind fun aa=>bif aa then (some true) else (bif (!p1.cE) then ((idx p0_6 j).bind fun ab=>(cS N ab.eI p1.Number).bind fun ad=>some ad) else (some false))) else (bif (!p1.cE) then ((idx p0_6 j).bind fun ae=>(cS N ae.eI p1.Number).bind fun af=>some af) else (some false))).bind fun ag=>bif ag then (some (.rt j)) else (some (.nx (IntKind.wrap .i64 (j+1))))) else (some (.br j)):Option (Fl (Int) Int))) N 0).bind fun ah=>ah.cs (fun(j:Int)=>some (-1)) (fun r=>some r)
def eM (N:Nat) (p0_2: (List cE)) (p0_4: (List Int)) (p0_5: (List (List aI))) (p0_6: (List cC)) (p1:fW):Option (Int):=
 (gN N p0_2 p0_4 p0_5 p1).bind fun j=>bif (!j.2) then (some (-1)) else ((dT N p0_6 j.1).bind fun o=>some o)
def eR (N:Nat) (p0_2: (List cE)) (p0_3: (List fW)) (p0_4: (List Int)) (p0_5: (List (List aI))) (p0_7: (List (List Int))):Option ((List cC)):=
 (mk 1 (false:Bool) (p0_5.length:Int)).bind fun ag=>(jE (fun(j: (List cC)×(List Bool)×Int)=>(bif (decide (j.2.2< (p0_5.length:Int))) then ((idx j.2.1 j.2.2).bind fun ah=>(bif (!ah) then ((gA N p0_7 j.2.2 j.2.1).bind fun ab=>(app 72 j.1 [(⟨ab.1.1,ab.1.2.1,ab.1.2.2⟩:cC)]).bind fun ai=>some (ai,ab.2)) else (some (j.1,j.2.1))).bind fun af=>some (.nx (af.1,af.2,(IntKind.wrap .i64 (j.2.2+1))))) else (some (.br (j.1,j.2.1,j.2.2))):Option (Fl ((List cC)×(List Bool)×Int) Empty))) N (([]: (List cC)),ag,0)).bind fun aj=>aj.cs (fun(j: (List cC)×(List Bool)×Int)=>(jE (fun(aa: (List cC)×Int)=>(bif (decide (aa.2< (p0_7.length:Int))) then (((idx p0_2 aa.2).bind fun ak=>bif ak.eH then ((idx p0_7 aa.2).bind fun al=>some ((al.length:Int)==0)) else (some false)).bind fun an=>(bif an then ((app 72 aa.1 [(⟨([]: (List Int)),([aa.2]: (List Int)),([]: (List fD))⟩:cC)]).bind fun ao=>some ao) else (some aa.1)).bind fun aq=>some (.nx (aq,(IntKind.wrap .i64 (aa.2+1))))) else (some (.br (aa.1,aa.2))):Option (Fl ((List cC)×Int) Empty))) N (j.1,0)).bind fun ar=>ar.cs (fun(aa: (List cC)×Int)=>(jE (fun(o: (List cC)×Int)=>(bif (decide (o.2< (p0_3.length:Int))) then ((idx p0_3 o.2).bind fun ae=>(eM N p0_2 p0_4 p0_5 o.1 ae).bind fun ad=>(bif (decide (ad>=0)) then ((idx o.1 ad).bind fun au=>(app 32 au.eL ([(⟨ae.Part,ae.fD⟩:fD)]: (List fD))).bind fun av=>(idx o.1 ad).bind fun aw=>some (o.1.set (Int.toNat ad) {aw with eL:=av})) else (some o.1)).bind fun ax=>some (.nx (ax,(IntKind.wrap .i64 (o.2+1))))) else (some (.br (o.1,o.2))):Option (Fl ((List cC)×Int) Empty))) N (aa.1,0)).bind fun ay=>ay.cs (fun(o: (List cC)×Int)=>some o.1) (fun r=>r.elim)) (fun r=>r.elim)) (fun r=>r.elim)
def gV (N:Nat) (p0:k7):Option (((List (List aI))×(List aI)×(List cE)×(List fW)×(List Int)×(List (List aI))×(List cC)×(List (List Int)))):=
 (jE (fun(j: (List Int)×(List (List aI))×Int)=>(bif (decide (j.2.2< (p0.aJ.length:Int))) then ((gm N p0 j.2.2).bind fun ae=>(fJ N ae).bind fun ad=>(jE (fun(o: (List Int)×(List (List aI))×Int)=>(bif (decide (o.2.2< (ad.length:Int))) then ((app 8 o.1 ([j.2.2]: (List Int))).bind fun af=>(idx ad o.2.2).bind fun ag=>(app 24 o.2.1 ([ag]: (List (List aI)))).bind fun ah=>some (.nx (af,ah,(IntKind.wrap .i64 (o.2.2+1))))) else (some (.br (o.1,o.2.1,o.2.2))):Option (Fl ((List Int)×(List (List aI))×Int) Empty))) N (j.1,j.2.1,0)).bind fun ai=>ai.cs (fun(o: (List Int)×(List (List aI))×Int)=>some (.nx (o.1,o.2.1,(IntKind.wrap .i64 (j.2.2+1))))) (fun r=>r.elim)) else (some (.br (j.1,j.2.1,j.2.2))):Option (Fl ((List Int)×(List (List aI))×Int) Empty))) N (([]: (List Int)),([]: (List (List aI))),0)).bind fun aj=>aj.cs (fun(j: (List Int)×(List (List aI))×Int)=>(jE (fun(aa: (List (List Int))×Int)=>(bif (decide (aa.2< (p0.aM.length:Int))) then ((jE (fun(ab: (List Int)×Int)=>((bif (decide (ab.2< (j.2.1.length:Int))) then ((idx p0.aM aa.2).bind fun ak=>some ak.eH) else (some false)).bind fun al=>bif al then (((idx p0.aM aa.2).bind fun an=>(idx j.1 ab.2).bind fun ao=>(eU N an ao).bind fun aq=>bif aq then ((idx j.2.1 ab.2).bind fun ar=>(idx p0.aM aa.2).bind fun au=>(cI N au).bind fun av=>(ji N ar av).bind fun aw=>some aw) else (some false)).bind fun ax=>(bif ax then ((app 8 ab.1 ([ab.2]: (List Int))).bind fun ay=>some ay) else (some ab.1)).bind fun az=>some (.nx (az,(IntKind.wrap .i64 (ab.2+1))))) else (some (.br (ab.1,ab.2))):Option (Fl ((List Int)×Int) Empty))) N (([]: (List Int)),0)).bind fun a0=>a0.cs (fun(ab: (List Int)×Int)=>(app 24 aa.1 ([ab.1]: (List (List Int)))).bind fun a1=>some (.nx (a1,(IntKind.wrap .i64 (aa.2+1))))) (fun r=>r.elim)) else (some (.br (aa.1,aa.2))):Option (Fl ((List (List Int))×Int) Empty))) N (([]: (List (List Int))),0)).bind fun a2=>a2.cs (fun(aa: (List (List Int))×Int)=>(eR N p0.aM p0.bV j.1 j.2.1 aa.1).bind fun a3=>some (p0.aJ,p0.cG,p0.aM,p0.bV,j.1,j.2.1,a3,aa.1)) (fun r=>r.elim)) (fun r=>r.elim)
def f9 (N:Nat) (p0:k7):Option ((List Int)×Int):=
 (dB N p0).bind fun ab=>bif (ab != 0) then (some (([]: (List Int)),ab)) else ((gV N p0).bind fun aa=>(jE (fun(j: (List Int)×Int)=>(bif (decide (j.2< (aa.2.2.2.2.2.2.1.length:Int))) then ((jE (fun(o: (List Int)×Int)=>(((idx aa.2.2.2.2.2.2.1 j.2).bind fun ad=>bif (decide (o.2< (ad.eI.length:Int))) then ((idx aa.2.2.2.2.2.2.1 j.2).bind fun ae=>some ((ae.eL.length:Int)==0)) else (some false)).bind fun af=>bif af then ((idx aa.2.2.2.2.2.2.1 j.2).bind fun ag=>(idx ag.eI o.2).bind fun ah=>(gz N o.1 ah).bind fun ai=>some (.nx (ai,(IntKind.wrap .i64 (o.2+1))))) else (some (.br (o.1,o.2))):Option (Fl ((List Int)×Int) Empty))) N (j.1,0)).bind fun aj=>aj.cs (fun(o: (List Int)×Int)=>some (.nx (o.1,(IntKind.wrap .i64 (j.2+1))))) (fun r=>r.elim)) else (some (.br (j.1,j.2))):Option (Fl ((List Int)×Int) Empty))) N (([]: (List Int)),0)).bind fun ak=>ak.cs (fun(j: (List Int)×Int)=>some (j.1,0)) (fun r=>r.elim))
def kb (N:Nat) (p0:k7):Option ((List Int)×Int):=
 (i5 N p0).bind fun j=>GL j.1 (bif (j.2 != 0) then (some (([]: (List Int)),j.2)) else (none)) (fun(aa: ((List (List aI))×(List aI)×(List cE)×(List fW)×(List (List aA))×(List aK)×(List (List Int))×(List cC)×(List Int)×(List Int)×(List Int)×(List km)))=>bif (j.2 != 0) then (some (([]: (List Int)),j.2)) else ((nn aa.2.2.1.length (fun(ab:Nat) (o: (List Int))=>((idx aa.2.2.1 (ab:Int)).bind fun ad=>(bif ad.eH then ((idx aa.2.2.2.2.2.2.1 (ab:Int)).bind fun ae=>some (decide ((ae.length:Int)<2))) else (some false)).bind fun af=>(bif af then ((app 8 o ([(ab:Int)]: (List Int))).bind fun ag=>some ag) else (some o)).bind fun ah=>some ah:Option ((List Int)))) ([]: (List Int))).bind fun o=>some (o,0)))
def ga (N:Nat) (p0:k7):Option ((List Int)×Int):=
 (dB N p0).bind fun o=>bif (o != 0) then (some (([]: (List Int)),o)) else ((gV N p0).bind fun aa=>(jE (fun(j: (List Int)×Int)=>(bif (decide (j.2< (p0.aM.length:Int))) then (((idx p0.aM j.2).bind fun ab=>bif ab.eH then ((idx aa.2.2.2.2.2.2.2 j.2).bind fun ad=>some (decide ((ad.length:Int)<2))) else (some false)).bind fun ae=>(bif ae then ((app 8 j.1 ([j.2]: (List Int))).bind fun af=>some af) else (some j.1)).bind fun ag=>some (.nx (ag,(IntKind.wrap .i64 (j.2+1))))) else (some (.br (j.1,j.2))):Option (Fl ((List Int)×Int) Empty))) N (([]: (List Int)),0)).bind fun ah=>ah.cs (fun(j: (List Int)×Int)=>some (j.1,0)) (fun r=>r.elim))
def iX (N:Nat):Option (Bool):=
 (kS N (⟨⟨0,0⟩,2,0,0,false⟩:cE)).bind fun j=>(bif (j.2==0) then (some (decide (j.1= (⟨(-1),(-1),1,1⟩:aI)))) else (some false)).bind fun o=>some o
def gI (N:Nat) (p0:k7):Option (Bool):=
 (ka N p0).bind fun j=>(f9 N p0).bind fun o=>(kb N p0).bind fun aa=>(ga N p0).bind fun ab=>((jZ N j.1 o.1).bind fun ad=>bif (ad&&(j.2==o.2)) then ((jZ N aa.1 ab.1).bind fun ae=>bif (ae&&(aa.2==ab.2)) then ((iX N).bind fun af=>some af) else (some false)) else (some false)).bind fun ag=>some ag
end
end Go.Gk
namespace Go.Gk
open Go
def vu {R:Type} (m:Nat) (e:Nat->Option R):Option R:=(List.range m).findSome? e
theorem nZ {R:Type} {m:Nat} {e:Nat->Option R}:vu m e=none↔∀k,k<m->e k=none:=by
 simp [vu]
theorem oS {R:Type} {m:Nat} {e:Nat->Option R} {r:R}:vu m e=some r↔∃k,k<m/\e k=some r/\∀j,j<k->e j=none:=by
 constructor
 ·intro h
  obtain⟨l1,a,l2,hl,ha,hn⟩:=List.findSome?_eq_some_iff.1 h
  have hlen:l1.length<m:=by have:=congrArg List.length hl;simp at this;omega
  have hget: ∀i,i<l1.length->l1[i]? =some i:=fun i hi=>by
   have:=congrArg (·[i]?) hl
   simp only [gF hi,List.getElem?_range (show i<m by omega)] at this
   exact this.symm
  have hat:a=l1.length:=by
   have:=congrArg (·[l1.length]?) hl
   simp [List.getElem?_range hlen] at this
   exact this.symm
  refine⟨a,by omega,ha,fun j hj=>hn j ?_⟩
  exact eV (hget j (by omega))
 ·rintro⟨k,hk,he,hn⟩
  refine List.findSome?_eq_some_iff.2 ⟨List.range k,k,(List.range (m - k - 1)).map (· + (k+1)),?_,he,fun x hx=>hn x (oX.1 hx)⟩
  refine List.ext_getElem? fun i=>?_
  by_cases h1:i<k
  ·rw [gF (by simpa using h1),List.getElem?_range (by omega),List.getElem?_range h1]
  ·rw [gQ (by simpa using h1),List.length_range]
   by_cases h2:i=k
   ·subst h2;simp [List.getElem?_range hk]
   ·obtain⟨d,rfl⟩: ∃d,i=k+1+d:=⟨i - (k+1),by omega⟩
    rw [show k+1+d - k=d+1 by omega,List.getElem?_cons_succ,gG]
    by_cases h3:k+1+d<m
    ·rw [List.getElem?_range h3,List.getElem?_range (by omega)];simp;omega
    ·rw [List.getElem?_eq_none (by simp;omega),List.getElem?_eq_none (by simp;omega)];rfl
section
variable {S R:Type}
def FW (o:Option R) (s:S):Fl S R:=match o with | some r=> .rt r | none=> .nx s
def Ev (o:Option R) (s:S):Fo S R:=match o with | some r=> .rt r | none=> .go s
theorem Dn {body:Nat->S->Option (Fl S R)} (F:Nat->S) (e:Nat->Option R) (m:Nat): ∀(n k:Nat),k+n=m->
  (∀j,k<=j->j<m->(∀i,k<=i->i<j->e i=none)->body j (F j)=some (FW (e j) (F (j+1))))->
  ∃o,BR body n k (F k)=some o/\((∀j,k<=j->j<m->e j=none)/\o = .go (F m)\/∃j r,k<=j/\j<m/\e j=some r/\(∀i,k<=i->i<j->e i=none)/\o = .rt r)
 | 0,k,hk,_=>⟨_,rfl, .inl ⟨fun j h1 h2=>by omega,by rw [show k=m by omega]⟩⟩
 | n+1,k,hk,h=>by
  have hb:=h k (bU _) (by omega) (fun i h1 h2=>by omega)
  unfold BR
  rw [hb]
  cases hx:e k with
  | some r=>exact⟨_,rfl, .inr ⟨k,r,bU _,by omega,hx,fun i h1 h2=>by omega,rfl⟩⟩
  | none=>
   obtain⟨o,ho,hc⟩:=Dn F e m n (k+1) (by omega) (fun j h1 h2 h3=>h j (by omega) h2 fun i h4 h5=>by
    by_cases h6:i=k
    ·subst h6;exact hx
    ·exact h3 i (by omega) h5)
   refine⟨o,ho,?_⟩
   rcases hc with ⟨h1,h2⟩ | ⟨j,r,h1,h2,h3,h4,h5⟩
   ·refine .inl ⟨fun j h3 h4=>?_,h2⟩
    by_cases h6:j=k
    ·subst h6;exact hx
    ·exact h1 j (by omega) h4
   ·refine .inr ⟨j,r,by omega,h2,h3,fun i h6 h7=>?_,h5⟩
    by_cases h8:i=k
    ·subst h8;exact hx
    ·exact h4 i (by omega) h7
theorem Im {body:Nat->S->Option (Fl S R)} {m:Nat} {s:S} (F:Nat->S) (e:Nat->Option R) (hm:m<=4611686018427387904) (hs:F 0=s)
  (h: ∀k,k<m->(∀i,i<k->e i=none)->body k (F k)=some (FW (e k) (F (k+1)))):vn m body s=some (Ev (vu m e) (F m)):=by
 subst hs
 unfold vn
 rw [aC hm]
 obtain⟨o,ho,hc⟩:=Dn F e m m 0 (by omega) (fun j _ h2 h3=>h j h2 fun i hi=>h3 i (dH _) hi)
 rw [ho]
 rcases hc with ⟨h1,h2⟩ | ⟨j,r,_,h2,h3,h4,h5⟩
 ·rw [nZ.2 fun k hk=>h1 k (dH _) hk,h2];rfl
 ·rw [oS.2 ⟨j,h2,h3,fun i hi=>h4 i (dH _) hi⟩,h5];rfl
theorem rU {body:Nat->Unit->Option (Fl Unit R)} {m:Nat} (e:Nat->Option R) (hm:m<=4611686018427387904)
  (h: ∀k,k<m->(∀i,i<k->e i=none)->body k ()=some (FW (e k) ())):vn m body ()=some (Ev (vu m e) ()):=
 Im (fun _=>()) e hm rfl h
theorem xe {body:S->Option (Fl S R)} (Inv:S->Prop) (μ:S->Nat) (Go:S->Prop) (Rt:R->Prop)
  (h: ∀s,Inv s->∃fl,body s=some fl/\match fl with | .nx s'=>Inv s'/\μ s'<μ s | .br s'=>Go s' | .rt r=>Rt r):
  ∀(N:Nat) (s:S),Inv s->μ s<N->∃o,jE body N s=some o/\match o with | .go s'=>Go s' | .rt r=>Rt r
 | 0,s,_,hn=>by omega
 | N+1,s,hi,hn=>by
  obtain⟨fl,hb,hf⟩:=h s hi
  unfold jE
  rw [hb]
  cases fl with
  | nx s'=>exact xe Inv μ Go Rt h N s' hf.1 (by have:=hf.2;omega)
  | br s'=>exact⟨_,rfl,hf⟩
  | rt r=>exact⟨_,rfl,hf⟩
theorem Dp {body:Nat->S->Option (Fl S R)} (Inv:Nat->S->Prop) (Go:S->Prop) (Rt:R->Prop) (m:Nat)
  (h: ∀k s,k<m->Inv k s->∃fl,body k s=some fl/\match fl with | .nx s'=>Inv (k+1) s' | .br s'=>Go s' | .rt r=>Rt r) (hg: ∀s,Inv m s->Go s):
  ∀(n k:Nat) (s:S),k+n=m->Inv k s->∃o,BR body n k s=some o/\match o with | .go s'=>Go s' | .rt r=>Rt r
 | 0,k,s,hk,hi=>⟨_,rfl,hg s (by rw [<-hk];exact hi)⟩
 | n+1,k,s,hk,hi=>by
  obtain⟨fl,hb,hf⟩:=h k s (by omega) hi
  unfold BR
  rw [hb]
  cases fl with
  | nx s'=>exact Dp Inv Go Rt m h hg n (k+1) s' (by omega) hf
  | br s'=>exact⟨_,rfl,hf⟩
  | rt r=>exact⟨_,rfl,hf⟩
theorem Io {body:Nat->S->Option (Fl S R)} {m:Nat} {s:S} (Inv:Nat->S->Prop) (Go:S->Prop) (Rt:R->Prop) (hm:m<=4611686018427387904) (h0:Inv 0 s)
  (h: ∀k s,k<m->Inv k s->∃fl,body k s=some fl/\match fl with | .nx s'=>Inv (k+1) s' | .br s'=>Go s' | .rt r=>Rt r) (hg: ∀s,Inv m s->Go s):
  ∃o,vn m body s=some o/\match o with | .go s'=>Go s' | .rt r=>Rt r:=by
 unfold vn
 rw [aC hm]
 exact Dp Inv Go Rt m h hg m 0 s (by omega) h0
theorem Dq {body:Nat->S->Option S} (Inv:Nat->S->Prop) (m:Nat) (h: ∀k s,k<m->Inv k s->∃s',body k s=some s'/\Inv (k+1) s'):
  ∀(n k:Nat) (s:S),k+n=m->Inv k s->∃s',Gz body n k s=some s'/\Inv m s'
 | 0,k,s,hk,hi=>⟨_,rfl,by rw [<-hk];exact hi⟩
 | n+1,k,s,hk,hi=>by
  obtain⟨s',hb,hf⟩:=h k s (by omega) hi
  unfold Gz
  rw [hb]
  exact Dq Inv m h n (k+1) s' (by omega) hf
theorem zw {body:Nat->S->Option S} {m:Nat} {s:S} (Inv:Nat->S->Prop) (hm:m<=4611686018427387904) (h0:Inv 0 s)
  (h: ∀k s,k<m->Inv k s->∃s',body k s=some s'/\Inv (k+1) s'): ∃s',nn m body s=some s'/\Inv m s':=by
 unfold nn
 rw [aC hm]
 exact Dq Inv m h m 0 s (by omega) h0
end
section
variable {α β:Type}
theorem aB (x:α) (f:α->Option β): (some x).bind f=f x:=rfl
theorem kY (l:List α) (k:Nat) (h:k<l.length):idx l ((k:Nat):Int)=some l[k]:=by
 unfold idx;rw [aC (by omega),cF,aO h]
theorem dM {l:List α} {k:Nat} {x:α} (h:l[k]? =some x):idx l ((k:Nat):Int)=some x:=by
 unfold idx;rw [aC (by omega),cF,h]
theorem Dr (s:eJ) (k:Nat) (h:k<s.cX.length):Eh s ((k:Nat):Int)=some s.cX[k]:=by
 unfold Eh;rw [aC (by omega),cF,aO h]
theorem jm {k:Nat} (h:0<k) (hk:k<=4611686018427387904):IntKind.wrap .i64 (((k:Nat):Int) - 1)= ((k - 1:Nat):Int):=by
 rw [fz (by omega) (by omega)];omega
theorem qy (l:List α) (k:Nat) (h:k<=l.length):sO l 0 ((k:Nat):Int)=some (l.take k):=by
 unfold sO;rw [aC ⟨by omega,by omega,by omega⟩]
 simp only [Int.toNat_zero,List.drop_zero,Int.sub_zero,cF]
theorem o9 (l:List α) (k:Nat) (h:k<=l.length):sO l ((k:Nat):Int) ((l.length:Nat):Int)=some (l.drop k):=by
 unfold sO;rw [aC ⟨by omega,by omega,by omega⟩]
 simp only [cF,Option.some.injEq]
 rw [kV];rw [iI];omega
theorem kJ {b:Nat} {l ys:List α} (h: (l.length+ys.length)*b<=140737488355328):app b l ys=some (l++ys):=by unfold app;rw [aC h]
theorem ri {b:Nat} (z:α) {n:Nat} (h:n*b<=140737488355328):mk b z ((n:Nat):Int)=some (List.replicate n z):=by
 unfold mk
 have e: ((n:Nat):Int)* ((b:Nat):Int)= ((n*b:Nat):Int):=(Int.natCast_mul n b).symm
 rw [e]
 generalize n*b=q at h ⊢
 rw [aC ⟨by omega,by omega⟩,cF]
end
theorem eJ.ext' {a b:eJ} (h:a.cX=b.cX):a=b:=by cases a;cases b;simp at h;rw [h]
theorem Cb {a b:eJ}:a.sM b=true↔a=b:=by
 unfold eJ.sM;rw [beq_iff_eq];exact⟨eJ.ext',fun h=>by rw [h]⟩
theorem yJ: ∀(a:List UInt8),Op.bytesLess a a=false
 | []=>rfl
 | a::l=>by
  unfold Op.bytesLess
  rw [yJ l];simp
theorem zR: ∀{a b c:List UInt8},Op.bytesLess a b=true->Op.bytesLess b c=true->Op.bytesLess a c=true
 | [],[],_,h,_=>by simp [Op.bytesLess] at h
 | [],_::_,[],_,h=>by simp [Op.bytesLess] at h
 | [],_::_,_::_,_,_=>rfl
 | _::_,[],_,h,_=>by simp [Op.bytesLess] at h
 | _::_,_::_,[],_,h=>by simp [Op.bytesLess] at h
 | a::l,b::m,c::n,h1,h2=>by
  unfold Op.bytesLess at h1 h2 ⊢
  simp only [dK,bW,bR,beq_iff_eq] at h1 h2 ⊢
  rcases h1 with h1 | ⟨rfl,h1⟩
  ·rcases h2 with h2 | ⟨rfl,h2⟩
   ·exact .inl (UInt8.lt_trans h1 h2)
   ·exact .inl h1
  ·rcases h2 with h2 | ⟨rfl,h2⟩
   ·exact .inl h2
   ·exact .inr ⟨rfl,zR h1 h2⟩
theorem zS: ∀(a b:List UInt8),Op.bytesLess a b=true\/a=b\/Op.bytesLess b a=true
 | [],[]=> .inr (.inl rfl)
 | [],_::_=> .inl rfl
 | _::_,[]=> .inr (.inr rfl)
 | a::l,b::m=>by
  unfold Op.bytesLess
  simp only [dK,bW,bR,beq_iff_eq]
  by_cases h1:a<b
  ·exact .inl (.inl h1)
  ·by_cases h2:b<a
   ·exact .inr (.inr (.inl h2))
   ·have e:a=b:=by
     simp only [UInt8.lt_iff_toNat_lt] at h1 h2
     exact UInt8.toNat_inj.1 (by omega)
    subst e
    rcases zS l m with h | h | h
    ·exact .inl (.inr ⟨rfl,h⟩)
    ·exact .inr (.inl (by rw [h]))
    ·exact .inr (.inr (.inr ⟨rfl,h⟩))
theorem wg: ∀(a b:List UInt8),Lib.compareBytes a b<0↔Op.bytesLess a b=true
 | [],[]=>by simp [Lib.compareBytes,Op.bytesLess]
 | [],_::_=>by simp [Lib.compareBytes,Op.bytesLess]
 | _::_,[]=>by simp [Lib.compareBytes,Op.bytesLess]
 | a::l,b::m=>by
  unfold Lib.compareBytes Op.bytesLess
  simp only [dK,bW,bR,beq_iff_eq]
  split
  ·simp_all
  ·rename_i h1
   split
   ·rename_i h2
    have h3:a≠b:=fun e=>by subst e;exact h1 h2
    simp [h1,h3]
   ·rename_i h2
    have e:a=b:=by
     simp only [UInt8.lt_iff_toNat_lt] at h1 h2
     exact UInt8.toNat_inj.1 (by omega)
    subst e
    rw [wg l m];simp [h1]
theorem wh: ∀(a b:List UInt8),Lib.compareBytes a b=0↔a=b
 | [],[]=>by simp [Lib.compareBytes]
 | [],_::_=>by simp [Lib.compareBytes]
 | _::_,[]=>by simp [Lib.compareBytes]
 | a::l,b::m=>by
  unfold Lib.compareBytes
  split
  ·rename_i h1
   have h3:a≠b:=fun e=>by subst e;exact absurd h1 (by simp)
   simp [h3]
  ·rename_i h1
   split
   ·rename_i h2
    have h3:a≠b:=fun e=>by subst e;exact h1 h2
    simp [h3]
   ·rename_i h2
    have e:a=b:=by
     simp only [UInt8.lt_iff_toNat_lt] at h1 h2
     exact UInt8.toNat_inj.1 (by omega)
    subst e
    rw [wh l m];simp
def eJ.lt (a b:eJ):Prop:=a.sN b=true
theorem eJ.lt_irrefl (a:eJ): ¬eJ.lt a a:=by unfold eJ.lt eJ.sN;rw [yJ];decide
theorem eJ.lt_trans {a b c:eJ} (h1:eJ.lt a b) (h2:eJ.lt b c):eJ.lt a c:=zR h1 h2
theorem eJ.Ds (a b:eJ):eJ.lt a b\/a=b\/eJ.lt b a:=by
 rcases zS a.cX b.cX with h | h | h
 ·exact .inl h
 ·exact .inr (.inl (eJ.ext' h))
 ·exact .inr (.inr h)
theorem eJ.Ja {a b:eJ} (h:eJ.lt a b):a≠b:=fun e=>by subst e;exact eJ.lt_irrefl a h
end Go.Gk
namespace Go.Gk
open Go
class Bk (α:Type) where
 bk:α->Nat
 pos: ∀x,1<=bk x
def bk {α:Type} [Bk α] (x:α):Nat:=Bk.bk x
theorem Hc {α:Type} [Bk α] (x:α):1<=bk x:=Bk.pos x
instance:Bk eJ:=⟨fun s=>s.cX.length+1,fun _=>by omega⟩
instance:Bk Int:=⟨fun _=>1,fun _=>by omega⟩
instance:Bk Bool:=⟨fun _=>1,fun _=>by omega⟩
instance {α:Type} [Bk α]:Bk (List α):=⟨fun l=>(l.map bk).sum+1,fun _=>by omega⟩
theorem Hd {α:Type} [Bk α]:bk ([]:List α)=1:=rfl
theorem Cc {α:Type} [Bk α] (x:α) (l:List α):bk (x::l)=bk x+bk l:=by
 show (List.map bk (x::l)).sum+1=bk x+ ((List.map bk l).sum+1)
 simp;omega
theorem Ew {α:Type} [Bk α]: ∀{l:List α} {x:α},x∈l->bk x+1<=bk l
 | y::l,x,h=>by
  rw [Cc]
  rcases dC.1 h with h | h
  ·subst h;have:=Hc l;omega
  ·have:=Ew h;omega
theorem yg {α:Type} [Bk α]: ∀(l:List α),l.length+1<=bk l
 | []=>by rw [Hd];simp
 | x::l=>by rw [Cc,dN];have:=yg l;have:=Hc x;omega
theorem He (s:eJ):bk s=s.cX.length+1:=rfl
section
variable {α R:Type}
theorem FX {l:List α} {e:Nat->Option R} (f:α->Option R) (h: ∀k x,l[k]? =some x->e k=f x):vu l.length e=l.findSome? f:=by
 cases hx:vu l.length e with
 | none=>
  refine(List.findSome?_eq_none_iff.2 fun x hm=>?_).symm
  obtain⟨k,hk⟩:=dV hm
  rw [<-h k x hk];exact nZ.1 hx k (bB.1 hk).1
 | some r=>
  obtain⟨k,hk,he,hn⟩:=oS.1 hx
  refine(List.findSome?_eq_some_iff.2 ⟨l.take k,l[k],l.drop (k+1),?_,?_,fun y hy=>?_⟩).symm
  ·rw [<-sP hk,List.take_append_drop]
  ·rw [<-h k l[k] (aO hk)];exact he
  ·obtain⟨j,hj⟩:=dV hy
   have hjk:j<k:=by have:=(bB.1 hj).1;rw [cL] at this;omega
   rw [List.getElem?_take_of_lt hjk] at hj
   rw [<-h j y hj];exact hn j hjk
theorem Cd (l:List α) (p:α->Bool) (r:R):l.findSome? (fun x=>if p x=true then some r else none)=if l.any p=true then some r else none:=by
 induction l with
 | nil=>simp
 | cons x l ih=>
  rw [List.findSome?_cons,List.any_cons]
  cases h:p x <;> simp [ih]
theorem zT {l:List α} {body:Nat->Unit->Option (Fl Unit R)} (f:α->Option R) (hl:l.length<=4611686018427387904)
  (h: ∀k x,l[k]? =some x->body k ()=some (FW (f x) ())):vn l.length body ()=some (Ev (l.findSome? f) ()):=by
 have h2:=rU (body:=body) (m:=l.length) (fun k=>(l[k]?).bind f) hl (fun k hk _=>by
  rw [h k l[k] (aO hk),aO hk];rfl)
 rw [h2,FX f (fun k x hx=>by rw [hx];rfl)]
theorem Ip {l:List α} {body:Nat->Unit->Option (Fl Unit R)} (p:α->Bool) (r:R) (hl:l.length<=4611686018427387904)
  (h: ∀k x,l[k]? =some x->body k ()=some (if p x=true then .rt r else .nx ())):vn l.length body ()=some (if l.any p=true then .rt r else .go ()):=by
 rw [zT (fun x=>if p x=true then some r else none) hl (fun k x hx=>by rw [h k x hx];cases p x <;> rfl),Cd]
 cases l.any p <;> rfl
end
theorem Iq {β:Type} (b:Bool) (x y:β): (bif b then some x else some y)=some (bif b then x else y):=by cases b <;> rfl
section
variable {α β:Type}
def Lm (l:List α) (p:α->Bool):Int:=match l.findIdx? p with | some k=>((k:Nat):Int) | none=> -1
theorem yh (l:List α) (p:α->Bool): (Lm l p = -1/\∀x∈l,p x=false)\/∃k x,Lm l p= ((k:Nat):Int)/\l[k]? =some x/\p x=true/\∀j y,j<k->l[j]? =some y->p y=false:=by
 unfold Lm
 cases h:l.findIdx? p with
 | none=>exact .inl ⟨rfl,fun x hx=>by have:=List.findIdx?_eq_none_iff.1 h x hx;simpa using this⟩
 | some k=>
  obtain⟨hk,hp,hn⟩:=List.findIdx?_eq_some_iff_getElem.1 h
  refine .inr ⟨k,l[k],rfl,aO hk,hp,fun j y hj hy=>?_⟩
  have:=hn j hj
  rw [aO (by omega)] at hy
  injection hy with hy
  subst hy;simpa using this
theorem JQ (l:List α) (p:α->Bool):decide (Lm l p>=0)=l.any p:=by
 rcases yh l p with ⟨h,hn⟩ | ⟨k,x,h,hx,hp,_⟩
 ·rw [h,List.any_eq_false.2 (fun x hx=>by rw [hn x hx];decide)];decide
 ·rw [h,kW.2 ⟨x,eV hx,hp⟩];simp
def s8 (p0:List α) (p1:α->Option Bool):Option Int:=
 (vn p0.length (fun(k1:Nat) (_:Unit)=>((idx p0 ((k1:Nat):Int)).bind fun x7=>(p1 x7).bind fun x10=>bif x10 then (some (.rt ((k1:Nat):Int))) else (some (.nx ())):Option (Fl (Unit) Int))) ()).bind fun o11=>o11.cs (fun(_:Unit)=>some (-1)) (fun r=>some r)
theorem vN {l:List α} {φ:α->Option Bool} (p:α->Bool) (hl:l.length<=4611686018427387904) (h: ∀x∈l,φ x=some (p x)):s8 l φ=some (Lm l p):=by
 unfold s8
 rw [rU (fun k=>(l[k]?).bind fun x=>if p x=true then some ((k:Nat):Int) else none) hl (fun k hk _=>by
  rw [kY l k hk,aB,h _ (cN hk),aB,aO hk]
  cases hp:p l[k] <;> simp [FW,hp]),aB]
 rcases yh l p with ⟨h1,h2⟩ | ⟨k,x,h1,h2,h3,h4⟩
 ·rw [nZ.2 (fun k hk=>by rw [aO hk];simp [h2 _ (cN hk)])]
  simp [Ev,Fo.cs,h1]
 ·rw [(oS (r:=((k:Nat):Int))).2 ⟨k,(bB.1 h2).1,by rw [h2];simp [h3],fun j hj=>by
   cases hy:l[j]? with
   | none=>rfl
   | some y=>simp [h4 j y hj hy]⟩]
  simp [Ev,Fo.cs,h1]
def rE (p0:List α) (p1:α->Option Bool):Option Bool:=
 (s8 p0 p1).bind fun x1=>some (decide (x1>=0))
theorem rV {l:List α} {φ:α->Option Bool} (p:α->Bool) (hl:l.length<=4611686018427387904) (h: ∀x∈l,φ x=some (p x)):rE l φ=some (l.any p):=by
 unfold rE
 rw [vN p hl h,aB,JQ]
def Ex [DecidableEq α] (p0 p1:List α):Option Bool:=
 bif (((p0.length:Nat):Int) != ((p1.length:Nat):Int)) then (some false) else ((vn p0.length (fun(k1:Nat) (_:Unit)=>((idx p0 ((k1:Nat):Int)).bind fun x13=>(idx p1 ((k1:Nat):Int)).bind fun x16=>bif (!(decide (x13=x16))) then (some (.rt false)) else (some (.nx ())):Option (Fl (Unit) Bool))) ()).bind fun o23=>o23.cs (fun(_:Unit)=>some true) (fun r=>some r))
theorem Bu [DecidableEq α] {l m:List α} (hl:l.length<=4611686018427387904):Ex l m=some (decide (l=m)):=by
 unfold Ex
 by_cases h:l.length=m.length
 ·have e: (((l.length:Nat):Int) != ((m.length:Nat):Int))=false:=by rw [h];simp
  rw [e,aR]
  rw [rU (fun k=>if l[k]? =m[k]? then none else some false) hl (fun k hk _=>by
   rw [kY l k hk,aB,kY m k (by omega),aB,aO hk,aO (by omega:k<m.length)]
   by_cases hx:l[k]=m[k] <;> simp [FW,hx]),aB]
  by_cases hx:l=m
  ·subst hx;rw [nZ.2 (fun k _=>aC rfl)];simp [Ev,Fo.cs]
  ·have: ∃r,vu l.length (fun k=>if l[k]? =m[k]? then none else some false)=some r:=by
    cases hf:vu l.length (fun k=>if l[k]? =m[k]? then none else some false) with
    | some r=>exact⟨r,rfl⟩
    | none=>
     exfalso;refine hx (List.ext_getElem? fun i=>?_)
     by_cases hi:i<l.length
     ·have:=nZ.1 hf i hi
      by_cases h6:l[i]? =m[i]?
      ·exact h6
      ·rw [aG h6] at this;cases this
     ·rw [List.getElem?_eq_none (by omega),List.getElem?_eq_none (by omega)]
   obtain⟨r,hr⟩:=this
   have hr2:r=false:=by
    obtain⟨k,_,hk,_⟩:=oS.1 hr
    split at hk
    ·cases hk
    ·injection hk with hk;exact hk.symm
   rw [hr,hr2];simp [Ev,Fo.cs,hx]
 ·have e: (((l.length:Nat):Int) != ((m.length:Nat):Int))=true:=by simp;omega
  rw [e,aP,cD (fun h'=>h (by rw [h']))]
def Hf (key:α->eJ) (l:List α):Prop:=∀(i j:Nat) (x y:α),i<j->l[i]? =some x->l[j]? =some y->eJ.lt (key x) (key y)
theorem Hf.inj {key:α->eJ} {l:List α} (h:Hf key l) {i j:Nat} {x y:α} (hx:l[i]? =some x) (hy:l[j]? =some y) (e:key x=key y):i=j:=by
 rcases Nat.lt_trichotomy i j with h1 | h1 | h1
 ·exact absurd e (eJ.Ja (h i j x y h1 hx hy))
 ·exact h1
 ·exact absurd e.symm (eJ.Ja (h j i y x h1 hy hx))
end
end Go.Gk
namespace Go.Gk
open Go Go.ChangeShapes Go.WideShapes Go.RowKit
structure UB (ub: (H:Type)->DataW H->Nat) (ua: (H:Type)->List (DataW H)->Nat):Prop where
 str: ∀(H:Type) (b:List UInt8),ub H (.lit (.string b))=b.length+1
 pos: ∀(H:Type) (d:DataW H),1<=ub H d
 sl: ∀(H:Type) (e s:List (DataW H)),ub H (.slice e s)=ua H e+ua H s+1
 ag: ∀(H:Type) (l:List (DataW H)),ub H (.agg l)=ua H l+1
 nil: ∀(H:Type),ua H []=0
 cons: ∀(H:Type) (x:DataW H) (l:List (DataW H)),ua H (x::l)=ub H x+ua H l
def Hw (w:World):eN:=fun b=>w.heap[b]?
structure mb (ub: (H:Type)->DataW H->Nat) (P:Program) (T:TypeId) (α:Type) [GT α] [Bk α]:Prop where
 trod: ∀{H:Type} {enc:TypeId×Value->H} {w:World} {base:Nat} {spare:Nat->Bool} {held:Bool} {fuel:Nat} {cs:List Value} {d:DataW H×List MemPlace},
  DataW.trod enc P w base spare held fuel T cs=some d->∃x:α,GT.ok (Hw w) cs x/\bk x<=ub H d.1
 Ln: ∀{w:World} {r:Reach} {base:Nat} {v:Value},Value.okWide P w r base T v->v=vU α v.cells.toList
section
variable {ub: (H:Type)->DataW H->Nat} {ua: (H:Type)->List (DataW H)->Nat} {P:Program} {T e:TypeId}
theorem FY (u:UB ub ua) (ht:P.underlying T=some (.int .i64)):mb ub P T Int where
 trod:=fun h=>by
  obtain⟨n,rfl,rfl,_⟩:=DataW.trod_int ht h
  exact⟨n,rfl,u.pos _ _⟩
 Ln:=fun h=>by obtain⟨n,rfl⟩:=okWide_int ht h;rfl
theorem Ey (u:UB ub ua) (ht:P.underlying T=some .bool):mb ub P T Bool where
 trod:=fun h=>by
  obtain⟨n,rfl,rfl⟩:=DataW.trod_bool ht h
  exact⟨n,rfl,u.pos _ _⟩
 Ln:=fun h=>by obtain⟨n,rfl⟩:=okWide_bool ht h;rfl
theorem FZ (u:UB ub ua) (ht:P.underlying T=some .string):mb ub P T eJ where
 trod:=fun h=>by
  obtain⟨s,rfl,rfl,_⟩:=DataW.trod_string ht h
  refine⟨⟨s.data.toList⟩,?_,?_⟩
  ·show [Value.string s]= [Gk.str ⟨s.data.toList⟩]
   cases s;rfl
  ·rw [u.str];exact bU _
 Ln:=fun h=>by obtain⟨n,rfl⟩:=okWide_string ht h;rfl
theorem yK {α:Type} {R:Nat->α->Prop}: ∀(n:Nat),(∀i,i<n->∃x,R i x)->∃l:List α,l.length=n/\∀i x,l[i]? =some x->R i x
 | 0,_=>⟨[],rfl,fun i x h=>by simp at h⟩
 | n+1,h=>by
  obtain⟨l,h1,h2⟩:=yK n (fun i hi=>h i (by omega))
  obtain⟨x,hx⟩:=h n (by omega)
  refine⟨l++[x],by simp [h1],fun i y hy=>?_⟩
  by_cases hi:i<n
  ·rw [gF (by omega)] at hy;exact h2 i y hy
  ·have:=(bB.1 hy).1
   rw [cZ] at this
   have:i=n:=by simp at this;omega
   subst this
   rw [gQ (by omega),h1] at hy
   simp at hy;subst hy;exact hx
theorem Bv {H α:Type} [Bk α] (u:UB ub ua): ∀{l:List α} {es:List (DataW H×List MemPlace)},l.length=es.length->
  (∀(i:Nat) (x:α) (y:DataW H×List MemPlace),l[i]? =some x->es[i]? =some y->bk x<=ub H y.1)->bk l<=ua H (es.map (·.1))+1
 | [],[],_,_=>by rw [Hd];omega
 | x::l,y::es,hl,h=>by
  have h1:=h 0 x y rfl rfl
  have h2:=Bv (H:=H) u (l:=l) (es:=es) (by simpa using hl) (fun i x y hx hy=>h (i+1) x y (by simpa using hx) (by simpa using hy))
  rw [Cc,dZ,u.cons];omega
theorem Dt {w:World} {base:Nat} {a:Addr} {n:Nat} {cs:List Value} (h:w.cells? base a n=some cs):At (Hw w) a cs:=by
 intro j v hv
 obtain⟨_,hlen,hc⟩:=World.cells?_some h
 have hj:=(bB.1 hv).1
 have h2:=hc j (by omega)
 rw [hv] at h2
 unfold wG Hw
 unfold World.cell? at h2
 exact h2
theorem s9 {α:Type} [GT α] [Bk α] (u:UB ub ua) (he:mb ub P e α) (ht:P.underlying T=some (.slice e):=by kernel_rfl) (hc:P.cellsOf e=GT.sz α:=by kernel_rfl):mb ub P T (List α) where
 trod:=fun{H enc w base spare held fuel cs d} h=>by
  rcases DataW.trod_slice ht h with ⟨rfl,rfl⟩ | ⟨a,len,cap,elems,rest,n,_,rfl,rfl,_,hlc,hcm,hlen,hel,_⟩
  ·exact⟨[],⟨_,rfl,none,0,0,rfl,rfl,bU _,by simp [maxLen],fun i x hx=>by simp at hx⟩,u.pos _ _⟩
  ·have each: ∀i,i<len->∃x:α,(∃c y,GT.ok (Hw w) c x/\At (Hw w) (a.add (i*GT.sz α)) c/\elems[i]? =some y/\bk x<=ub H y.1):=by
    intro i hi
    have h1:=hel i hi
    rw [aO (by omega:i<elems.length),Option.bind_eq_some_iff] at h1
    obtain⟨c,h2,h3⟩:=h1
    obtain⟨x,h4,h5⟩:=he.trod h3
    refine⟨x,c,_,h4,?_,aO (by omega),h5⟩
    rw [hc] at h2
    exact Dt h2
   obtain⟨l,hl,hr⟩:=yK len each
   refine⟨l,⟨_,rfl,some a,len,cap,rfl,hl.symm,hlc,hcm,fun i x hx=>?_⟩,?_⟩
   ·obtain⟨c,y,h1,h2,_⟩:=hr i x hx
    exact⟨a,c,rfl,h1,h2⟩
   ·have:=Bv (H:=H) u (l:=l) (es:=elems) (by omega) (fun i x y hx hy=>by
     obtain⟨c,y',_,_,h3,h4⟩:=hr i x hx
     rw [hy] at h3;injection h3 with h3;subst h3;exact h4)
    rw [u.sl];omega
 Ln:=fun h=>by obtain⟨a,n,c,rfl⟩:=okWide_slice ht h;rfl
def Fc (ub: (H:Type)->DataW H->Nat) (ua: (H:Type)->List (DataW H)->Nat) (P:Program) (off:Nat) (fs:List Field) (β:Type) [GT β] (m:β->Nat):Prop:=
 ∀{H:Type} {enc:TypeId×Value->H} {w:World} {base:Nat} {spare:Nat->Bool} {held:Bool} {n:Nat} {cs:List Value} {ys:List (DataW H×List MemPlace)},
  (∀(i:Nat) (f:Field),fs[i]? =some f->DataW.trod enc P w base spare held n f.type ((cs.drop f.offset).take (P.cellsOf f.type))=ys[i]?)->ys.length=fs.length->
  cs.length=off+GT.sz β->∃x:β,GT.ok (Hw w) (cs.drop off) x/\m x<=ua H (ys.map (·.1))
theorem rW {β:Type} [GT β] [Bk β] {off:Nat} {f:Field} (u:UB ub ua) (h:mb ub P f.type β) (ho:f.offset=off) (hc:P.cellsOf f.type=GT.sz β:=by kernel_rfl):Fc ub ua P off [f] β bk:=by
 intro H enc w base spare held n cs ys hf hl hcs
 match ys,hl with
 | [y],_=>
  have h1:=hf 0 f rfl
  rw [ho,hc,kV (by rw [iI];omega)] at h1
  obtain⟨x,h2,h3⟩:=h.trod (d:=y) h1
  exact⟨x,h2,by rw [dZ,u.cons];omega⟩
theorem iS {α β:Type} [GT α] [GT β] [Bk α] {off off':Nat} {f:Field} {fs:List Field} {m:β->Nat} (u:UB ub ua) (h:mb ub P f.type α) (hr:Fc ub ua P off' fs β m) (ho:f.offset=off:=by exact rfl) (hc:P.cellsOf f.type=GT.sz α:=by kernel_rfl) (hoff:off'=off+GT.sz α:=by exact rfl):Fc ub ua P off (f::fs) (α×β) (fun x=>bk x.1+m x.2):=by
 intro H enc w base spare held n cs ys hf hl hcs
 have hsz:GT.sz (α×β)=GT.sz α+GT.sz β:=rfl
 match ys,hl with
 | y::ys,hl=>
  have h1:=hf 0 f rfl
  rw [ho,hc] at h1
  obtain⟨x,h2,h3⟩:=h.trod (d:=y) h1
  obtain⟨x',h4,h5⟩:=hr (n:=n) (cs:=cs) (ys:=ys) (fun i g hg=>hf (i+1) g hg) (by simpa using hl) (by omega)
  refine⟨(x,x'),⟨_,_,?_,h2,h4⟩,?_⟩
  ·rw [hoff,<-List.drop_drop,List.take_append_drop]
  ·rw [dZ,u.cons];show bk x+m x'<=_;omega
theorem oF {γ β:Type} [GT β] [Bk γ] {fs:Array Field} {m:β->Nat} (u:UB ub ua) (f:γ->β) (g:β->γ) (hfg: ∀b,f (g b)=b) (ht:P.underlying T=some (.struct fs)) (h:Fc ub ua P 0 fs.toList β m) (hm: ∀b,bk (g b)<=m b+1) (hc:P.cellsOf T=GT.sz β:=by kernel_rfl): @mb ub P T γ (GT.via f) _:=
 @mb.mk ub P T γ (GT.via f) _
  (fun{H enc w base spare held fuel cs d} hd=>by
   obtain⟨xs,n,_,rfl,hl,hlen,hf⟩:=DataW.trod_struct ht hd
   obtain⟨b,h1,h2⟩:=h (n:=n) (cs:=cs) (ys:=xs) (fun i g hg=>hf i g (by rw [<-Array.getElem?_toList];exact hg)) (by rw [hlen];simp) (by omega)
   refine⟨g b,?_,?_⟩
   ·show GT.ok (Hw w) cs (f (g b))
    rw [hfg];exact h1
   ·rw [u.ag];have:=hm b;omega)
  (fun hv=>by
   obtain⟨cs,rfl,_⟩:=okWide_struct ht hv
   cases cs;rfl)
theorem mb.arg {H:Type} {enc:TypeId×Value->H} {w:World} {base:Nat} {spare:Nat->Bool} {held:Bool} {r:Reach} {b0:Nat} {v:Value} {d:DataW H} {ps:List MemPlace} {α:Type} [GT α] [Bk α] (o:mb ub P T α)
  (hv:Value.okWide P w r b0 T v) (hd:DataW.Trod enc P w base spare held T v d ps): ∃x:α,vV (Hw w) v x/\bk x<=ub H d:=by
 obtain⟨fuel,hf⟩:=hd
 obtain⟨x,h1,h2⟩:=o.trod hf
 exact⟨x,⟨_,o.Ln hv,h1⟩,h2⟩
end
theorem Calls.fin {P:Program} {f:FuncId} {args:Array Value} {w:World} {R Q:Value->World->Prop} (h:Calls P f args w (gW R)) (k: ∀v w',R v w'->Q v w'):
  Calls P f args w (fun e W'=>∃v,e = .returned v/\Q v W'):=Calls.mono h fun _ w' ⟨v,e,hr⟩=>⟨v,e,k v w' hr⟩
def gO (W:World):HP:=⟨fun M h=>hle (Hw W) M/\h=qU,fun k ⟨a,b⟩=>⟨FE a k,b⟩⟩
theorem Holds.begin (W:World):Holds W W [gO W]:=by
 refine⟨Hw W,fun _=>qU,⟨rfl,rfl,rfl,bU _,fun b o h=>h,fun i Pr hq=>?_,fun _ _ _ _ h=>(by cases h),fun _ _ _ _ h=>(by cases h),fun _ _ _ _ _ _ _ h=>(by cases h)⟩⟩
 match i,hq with
 | 0,hq=>simp at hq;subst hq;exact⟨Gv _,rfl⟩
theorem Holds.Lo {α:Type} [GT α] {W:World} {V:List HP} {v:Value} {x:α} (h:Holds W W (V++[gO W])) (hv:Gk.vV (Hw W) v x):Holds W W (rd v x::(V++[gO W])):=
 h.AV fun M hs g=>by
  have h1:=(g.sat V.length (gO W) (by simp)).1
  exact⟨hv.mono h1,rfl⟩
theorem Holds.kept {E W w:World} {V:List HP} (h:Holds E w (V++[gO W])) (he:E=W):Below W.heap.size W w:=by
 subst he
 obtain⟨M,hs,g⟩:=h
 have h1:=(g.sat V.length (gO E) (by simp)).1
 have h2: ∀k o,E.heap[k]? =some o->w.heap[k]? =some o:=fun k o ho=>g.im k o (h1 k o ho)
 refine⟨g.os,g.tape,g.out,?_,fun k hk=>?_⟩
 ·by_cases h0:E.heap.size=0
  ·omega
  ·have h3:=h2 (E.heap.size - 1) _ (hU (by omega))
   have:=(Array.getElem?_eq_some_iff.1 h3).1
   omega
 ·rw [hU hk];exact h2 k _ (hU hk)
section
variable {H:Type} {enc:TypeId×Value->H} {P:Program}
theorem F0 {f:Func} {s:ChangeSpec} {apart fresh handsOn again:Bool} {W W':World} {args:Array Value} {v:Value} {ds gs:List (DataW H)} {before pa pv:List MemPlace}
  (hW:DataW.Whole enc P f.params.toList s.vars apart W args.toList ds gs before)
  (hres: ∀(b:Nat) (sp:Nat->Bool) (hd:Bool),DataW.TrodAll enc P W' b sp hd f.resultTypes.toList (v.resultList f.resultTypes.size) (s.fn H (ds++gs)).results [])
  (hargs: ∀sp:Nat->Bool,(∀p∈before,sp p.block=true)->DataW.TrodAll enc P W' 0 sp true f.params.toList args.toList (s.fn H (ds++gs)).args pa)
  (hvars: ∀sp:Nat->Bool,(∀p∈before,sp p.block=true)->DataW.TrodVars enc P W' sp s.vars (s.fn H (ds++gs)).vars pv)
  (hps:before=pa++pv) (hb:Below W.heap.size W W')
  (hok: ∀(j:Nat) (t:TypeId) (r:Value),f.resultTypes[j]? =some t->(v.resultList f.resultTypes.size)[j]? =some r->Value.okWide P W' .any 0 t r):
  s.post enc P f apart fresh handsOn again W args v W':=by
 have hlt: ∀p∈before,p.block<W.heap.size:=fun p hp=>hW.lt p hp
 have hold: ∀p∈before,(fun b=>decide (b<W.heap.size)) p.block=true:=fun p hp=>by simpa using hlt p hp
 refine⟨ds,gs,before,[],pa,pv,hW,hres _ _ _,hargs _ hold,hvars _ hold,World.keptBut_mono (fun p hp=>⟨hp,?_⟩) (hb.frame (· ∈before)),fun _=>?_⟩
 ·rw [hps,cY] at hp
  exact Or.inr hp
 ·obtain⟨_,_,_,_,_,hz,hn⟩:=hW
  refine⟨hok,_,_,([]++pa)++pv,⟨[]++pa,pv,trodAll_append (hargs _ (fun _ _=>rfl)) (hres _ _ _),hvars _ (fun _ _=>rfl),rfl,?_,?_⟩,?_⟩
  ·intro b off hp
   have hin:MemPlace.cell b off∈before:=by rw [hps];simpa using hp
   rw [hb.frozen (hlt _ hin)]
   exact hz b off hin
  ·intro ha
   have:=hn ha
   rw [hps] at this
   simpa using this
  ·intro p hp _
   rw [hps]
   simpa using hp
theorem vO {W W':World} (hl:laidOutB P=true) (hb:Below W.heap.size W W') {sp:Nat->Bool}: ∀{ts:List TypeId} {vs:List Value} {ds:List (DataW H)} {ps:List MemPlace},
  (∀t∈ts,P.readableRec t=true/\t<P.types.size)->DataW.TrodAll enc P W 0 (fun _=>true) true ts vs ds ps->(∀p∈ps,p.block<W.heap.size)->(∀p∈ps,sp p.block=true)->DataW.TrodAll enc P W' 0 sp true ts vs ds ps
 | [],_,_,_,_,h,_,_=>by
  obtain⟨rfl,rfl,rfl⟩:=trodAll_nil h
  rfl
 | t::ts,_,_,_,ht,h,hlt,hsp=>by
  obtain⟨v,vs,d,ds,p,q,rfl,rfl,rfl,h1,h2⟩:=trodAll_cons h
  refine⟨p,q,?_,vO hl hb (fun t h=>ht t (by simp [h])) h2 (fun x hx=>hlt x (by simp [hx])) (fun x hx=>hsp x (by simp [hx])),rfl⟩
  exact WideElems.Trod_stays hl (ht t (by simp)).1 (ht t (by simp)).2 h1 (fun x hx=>hb.same (hlt x (by simp [hx]))) (fun x hx=>hsp x (by simp [hx]))
end
end Go.Gk
namespace Go.Gk
open Go
instance:Bk aI:=⟨fun x=>bk x.X0+bk x.Y0+bk x.X1+bk x.Y1+1,fun _=>by omega⟩
theorem Ir (x:aI):bk x=bk x.X0+bk x.Y0+bk x.X1+bk x.Y1+1:=rfl
instance:Bk jt:=⟨fun x=>bk x.X+bk x.Y+1,fun _=>by omega⟩
theorem Hg (x:jt):bk x=bk x.X+bk x.Y+1:=rfl
instance:Bk cE:=⟨fun x=>bk x.At+bk x.dE+bk x.cM+bk x.To+bk x.eH+1,fun _=>by omega⟩
theorem Is (x:cE):bk x=bk x.At+bk x.dE+bk x.cM+bk x.To+bk x.eH+1:=rfl
instance:Bk fW:=⟨fun x=>bk x.Part+bk x.fD+bk x.cU+bk x.At+1,fun _=>by omega⟩
theorem Fe (x:fW):bk x=bk x.Part+bk x.fD+bk x.cU+bk x.At+1:=rfl
instance:Bk k7:=⟨fun x=>bk x.aJ+bk x.cG+bk x.aM+bk x.bV+1,fun _=>by omega⟩
theorem Hh (x:k7):bk x=bk x.aJ+bk x.cG+bk x.aM+bk x.bV+1:=rfl
instance:Bk aA:=⟨fun x=>bk x.Y0+bk x.Y1+bk x.Xs+1,fun _=>by omega⟩
instance:Bk fD:=⟨fun x=>bk x.Part+bk x.fD+1,fun _=>by omega⟩
instance:Bk aK:=⟨fun x=>bk x.cU+bk x.Set+bk x.iN+1,fun _=>by omega⟩
instance:Bk cC:=⟨fun x=>bk x.eI+bk x.aM+bk x.eL+1,fun _=>by omega⟩
instance:Bk km:=⟨fun x=>bk x.cE+bk x.Number+1,fun _=>by omega⟩
instance:Bk aF:=⟨fun x=>bk x.from_+bk x.to+1,fun _=>by omega⟩
instance:Bk aL:=⟨fun x=>bk x.from_+bk x.to+bk x.iZ+1,fun _=>by omega⟩
end Go.Gk
namespace Go.Gk
open Go Go.Proofs Go.Sort
section
variable {α:Type}
theorem yL {β:Type} (a:Array β) {n:Nat} (h:a.size=n):a.extract 0 n=a:=by subst h;exact Array.extract_size
theorem JR {φ:α->α->Option Int} {l:List α} (cf:α->α->Int) (hφ: ∀x∈l,∀y∈l,φ x y=some (cf x y)) (h1: ∀x∈l,¬cf x x<0)
  (h2: ∀x∈l,∀y∈l,∀z∈l,cf x y<0->cf y z<0->cf x z<0) (h3: ∀x∈l,∀y∈l,∀z∈l,¬cf x y<0->¬cf y z<0->¬cf x z<0):SWO (ltOf (D7 φ l)):=by
 have hm: ∀i:Fin l.length,l[i]∈l:=fun i=>cN i.isLt
 have e: ∀i j:Fin l.length,D7 φ l i j=cf l[i] l[j]:=fun i j=>by unfold D7;rw [hφ _ (hm i) _ (hm j)];rfl
 refine⟨fun x=>?_,fun x y z=>?_,fun x y z=>?_⟩
 ·simp only [ltOf,e,decide_eq_false_iff_not];exact h1 _ (hm _)
 ·simp only [ltOf,e,decide_eq_true_iff];exact h2 _ (hm _) _ (hm _) _ (hm _)
 ·simp only [ltOf,e,decide_eq_false_iff_not];exact h3 _ (hm _) _ (hm _) _ (hm _)
theorem zW {φ:α->α->Option Int} {l:List α} (cf:α->α->Int) (hφ: ∀x∈l,∀y∈l,φ x y=some (cf x y)) (h1: ∀x∈l,¬cf x x<0)
  (h2: ∀x∈l,∀y∈l,∀z∈l,cf x y<0->cf y z<0->cf x z<0) (h3: ∀x∈l,∀y∈l,∀z∈l,¬cf x y<0->¬cf y z<0->¬cf x z<0) (hl:l.length<4611686018427387904):
  ∃m,wP φ l=some m/\m.Perm l/\m.Pairwise (fun x y=>¬cf y x<0):=by
 have hO:=JR cf hφ h1 h2 h3
 have hm: ∀i:Fin l.length,l[i]∈l:=fun i=>cN i.isLt
 have hc: (∀i j:Fin l.length,∃c,φ l[i] l[j]=some c):=fun i j=>⟨_,hφ _ (hm i) _ (hm j)⟩
 refine⟨E3 φ l,by unfold wP;rw [aC ⟨⟨hc,hO⟩,hl⟩],?_⟩
 unfold E3
 by_cases hn:0<l.length
 ·rw [dif_pos hn]
  letI inh:Inhabited (Fin l.length):=⟨⟨0,hn⟩⟩
  have hds: (Array.ofFn fun i:Fin l.length=>i).size=l.length:=by simp
  obtain⟨hp,hs⟩:=pdq_sorts (ltOf (D7 φ l)) hO (Array.ofFn fun i:Fin l.length=>i) 0 l.length (Lib.bitLen l.length) true true (dH _) (by rw [hds];exact bU _) (Or.inl rfl)
  show (List.map (fun i=>l[i]) (pdq (ltOf (D7 φ l)) (Array.ofFn fun i:Fin l.length=>i) 0 l.length (Lib.bitLen l.length) true true).toList).Perm l/\_
  generalize pdq (ltOf (D7 φ l)) (Array.ofFn fun i:Fin l.length=>i) 0 l.length (Lib.bitLen l.length) true true=d' at hp hs
  obtain⟨hz,_,hpm⟩:=hp
  have hz':d'.size=l.length:=hz.trans hds
  rw [yL d' hz',yL _ hds] at hpm
  have hof: (Array.ofFn fun i:Fin l.length=>i).toList.map (fun i=>l[i])=l:=by
   rw [Array.toList_ofFn,List.map_ofFn]
   exact List.ofFn_getElem
  refine⟨(hpm.map (fun i=>l[i])).trans (List.Perm.of_eq hof),?_⟩
  rw [List.pairwise_map,mR]
  intro i j hi hj hij
  rw [Array.length_toList] at hi hj
  have:=hs i j (dH _) hij (by rw [<-hz'];exact hj)
  rw [getElem!_pos d' i hi,getElem!_pos d' j hj] at this
  have hij2:=hφ _ (hm (d'[j])) _ (hm (d'[i]))
  have hij3:D7 φ l d'[j] d'[i]=cf l[d'[j]] l[d'[i]]:=by unfold D7;rw [hij2];rfl
  unfold ltOf at this
  rw [decide_eq_false_iff_not,hij3] at this
  exact this
 ·rw [dif_neg hn]
  have:l= []:=List.length_eq_zero_iff.1 (by omega)
  subst this
  exact⟨List.Perm.refl _,jG⟩
theorem Bw {φ:α->α->Option Int} {x:α} (h:φ x x=some 0):wP φ [x]=some [x]:=by
 obtain⟨m,h1,h2,_⟩:=zW (φ:=φ) (l:=[x]) (fun _ _=>0) (fun a ha b hb=>by simp at ha hb;rw [ha,hb];exact h) (fun _ _=>by decide) (fun _ _ _ _ _ _ h=>by simp at h) (fun _ _ _ _ _ _ _ _=>by decide) (by simp)
 rw [h1,List.perm_singleton.1 h2]
theorem A6 {l:List Int} (h:l.Pairwise (fun x y=>x<=y)) (hl:l.length<4611686018427387904):ue l=some l:=by
 unfold ue
 rw [aC hl,List.mergeSort_of_pairwise (by simpa using h)]
end
end Go.Gk
namespace Go.Gk
open Go
def pr (l:List Int) (x:Int):Nat:=l.countP (fun a=>decide (a<=x))
def oN (l:List Int) (x:Int):Bool:=pr l x % 2==1
def jd (l:List Int):Prop:=l.Pairwise (· < ·)
theorem Ff (x:Int):pr [] x=0:=rfl
theorem pw (a:Int) (l:List Int) (x:Int):pr (a::l) x= (if a<=x then 1 else 0)+pr l x:=by
 unfold pr
 rw [List.countP_cons]
 by_cases h:a<=x <;> simp [h];omega
theorem zX (l m:List Int) (x:Int):pr (l++m) x=pr l x+pr m x:=List.countP_append
theorem Fg {l:List Int} {x:Int} (h: ∀a∈l,a<=x):pr l x=l.length:=by
 unfold pr;rw [List.countP_eq_length];intro a ha;simpa using h a ha
theorem zY {l:List Int} {x:Int} (h: ∀a∈l,x<a):pr l x=0:=by
 unfold pr;rw [List.countP_eq_zero];intro a ha;have:=h a ha;simp;omega
theorem xt {l:List Int} {x:Int}:oN l x=true↔pr l x % 2=1:=by unfold oN;simp
theorem xu {l:List Int} {x:Int} (h: ∀a∈l,x<a):oN l x=false:=by unfold oN;rw [zY h];rfl
theorem jd.head {a:Int} {l:List Int} (h:jd (a::l)): ∀b∈l,a<b:=(oj.1 h).1
theorem jd.tail {a:Int} {l:List Int} (h:jd (a::l)):jd l:=(oj.1 h).2
theorem xv {a:Int} {l:List Int} (h:jd (a::l)):oN (a::l) a=true:=by
 rw [xt,pw,aC (Int.le_refl _),zY h.head]
theorem zZ: ∀{l m:List Int},jd l->jd m->(∀x,oN l x=oN m x)->l=m
 | [],[],_,_,_=>rfl
 | [],b::m,_,hm,h=>by have:=h b;rw [xv hm] at this;cases this
 | a::l,[],hl,_,h=>by have:=h a;rw [xv hl] at this;cases this
 | a::l,b::m,hl,hm,h=>by
  have hab:a=b:=by
   rcases Int.lt_trichotomy a b with h1 | h1 | h1
   ·have h2:=h a
    rw [xv hl,xu (l:=b::m) (fun c hc=>by
     rcases dC.1 hc with rfl | hc
     ·exact h1
     ·have:=hm.head c hc;omega)] at h2
    cases h2
   ·exact h1
   ·have h2:=h b
    rw [xv hm,xu (l:=a::l) (fun c hc=>by
     rcases dC.1 hc with rfl | hc
     ·exact h1
     ·have:=hl.head c hc;omega)] at h2
    cases h2
  subst hab
  rw [zZ hl.tail hm.tail (fun x=>?_)]
  by_cases hx:a<=x
  ·have h2:=h x
   unfold oN at h2 ⊢
   rw [pw,pw,aC hx] at h2
   rw [fu] at h2 ⊢
   simp only [beq_iff_eq] at h2 ⊢
   omega
  ·rw [xu (fun c hc=>by have:=hl.head c hc;omega),xu (fun c hc=>by have:=hm.head c hc;omega)]
theorem xw {l:List Int} {a b:Int} (hl: ∀c∈l,c<a) (he:l.length % 2=0) (hab:a<b) (x:Int):oN (l++[a,b]) x= (oN l x||(decide (a<=x)&&decide (x<b))):=by
 rw [fu,dK,bW,bR,bR,xt,xt,zX,pw,pw,Ff]
 by_cases h1:a<=x
 ·have h2:pr l x=l.length:=Fg fun c hc=>by have:=hl c hc;omega
  rw [h2,aC h1]
  by_cases h3:b<=x
  ·rw [aC h3];omega
  ·rw [aG h3];omega
 ·rw [aG h1,aG (by omega)];omega
theorem Hi {l:List Int} {s e a b:Int} (hl: ∀c∈l,c<s) (he:l.length % 2=0) (hs:s<e) (h1:s<=a) (h2:a<=e) (hab:a<b) (x:Int):oN (l++[s,max e b]) x= (oN (l++[s,e]) x||(decide (a<=x)&&decide (x<b))):=by
 rw [xw hl he (by omega),xw hl he hs]
 rw [fu]
 simp only [dK,bW,bR]
 constructor
 ·rintro(h | h)
  ·exact .inl (.inl h)
  ·by_cases hx:x<e
   ·exact .inl (.inr ⟨h.1,hx⟩)
   ·exact .inr ⟨by omega,by omega⟩
 ·rintro((h | h) | h)
  ·exact .inl h
  ·exact .inr ⟨h.1,by omega⟩
  ·exact .inr ⟨by omega,by omega⟩
theorem jd.snoc {l:List Int} {a b:Int} (h:jd l) (hl: ∀c∈l,c<a) (hab:a<b):jd (l++[a,b]):=by
 unfold jd
 rw [mQ]
 refine⟨h,by simp [hab],fun c hc d hd=>?_⟩
 have:=hl c hc
 simp at hd
 rcases hd with rfl | rfl <;> omega
structure Bd where
 y0:Int
 y1:Int
 xs:List Int
def rowAt:List Bd->Int->List Int
 | [],_=>[]
 | b::s,y=>if b.y0<=y/\y<b.y1 then b.xs else rowAt s y
theorem mE (b:Bd) (s:List Bd) (y:Int):rowAt (b::s) y=if b.y0<=y/\y<b.y1 then b.xs else rowAt s y:=rfl
structure eT (s:List Bd):Prop where
 each: ∀b∈s,b.y0<b.y1/\b.xs≠[]/\jd b.xs/\b.xs.length % 2=0
 ord:s.Pairwise (fun b c=>b.y1<=c.y0/\(b.y1=c.y0->b.xs≠c.xs))
theorem eT.nil:eT []:=⟨fun b h=>by simp at h,jG⟩
theorem eT.tail {b:Bd} {s:List Bd} (h:eT (b::s)):eT s:=⟨fun c hc=>h.each c (hZ _ hc),(oj.1 h.ord).2⟩
theorem lG {s:List Bd} {y:Int} (h: ∀b∈s,y<b.y0\/b.y1<=y):rowAt s y= []:=by
 induction s with
 | nil=>rfl
 | cons b s ih=>
  unfold rowAt
  have:=h b (by simp)
  rw [aG (by omega)]
  exact ih fun c hc=>h c (hZ _ hc)
theorem p7 (s t:List Bd) (y:Int):rowAt (s++t) y=if (∃b∈s,b.y0<=y/\y<b.y1) then rowAt s y else rowAt t y:=by
 induction s with
 | nil=>simp
 | cons b s ih=>
  rw [List.cons_append,mE,mE]
  by_cases h:b.y0<=y/\y<b.y1
  ·rw [aC h,aC ⟨b,by simp,h⟩,aC h]
  ·rw [aG h,ih]
   by_cases h2: ∃c∈s,c.y0<=y/\y<c.y1
   ·obtain⟨c,hc,hc2⟩:=h2
    rw [aC ⟨c,hc,hc2⟩,aC ⟨c,hZ _ hc,hc2⟩,aG h]
   ·rw [aG h2,aG (show ¬∃c∈b::s,c.y0<=y/\y<c.y1 from ?_)]
    rintro⟨c,hc,hc2⟩
    rcases dC.1 hc with rfl | hc
    ·exact h hc2
    ·exact h2 ⟨c,hc,hc2⟩
theorem eT.mF {b:Bd} {s:List Bd} {y:Int} (h0:b.y0<=y) (h1:y<b.y1):rowAt (b::s) y=b.xs:=by unfold rowAt;rw [aC ⟨h0,h1⟩]
theorem eT.z5 {b:Bd} {s:List Bd} (h:eT (b::s)): ∀c∈s,b.y1<=c.y0:=fun c hc=>((oj.1 h.ord).1 c hc).1
theorem eT.u6 {b:Bd} {s:List Bd} (h:eT (b::s)) {y:Int} (hy:y<b.y0):rowAt (b::s) y= []:=lG fun c hc=>by
 rcases dC.1 hc with rfl | hc
 ·exact .inl hy
 ·have:=h.z5 c hc;have:=(h.each b (by simp)).1;exact .inl (by omega)
theorem eT.Fh {b:Bd} {s:List Bd} (h:eT (b::s)):rowAt (b::s) b.y1≠b.xs:=by
 rw [mE,aG (by omega)]
 cases s with
 | nil=>exact fun e=>(h.each b (by simp)).2.1 e.symm
 | cons c s=>
  have h1:=(oj.1 h.ord).1 c (by simp)
  by_cases e:b.y1=c.y0
  ·rw [eT.mF (by omega) (by have:=(h.tail.each c (by simp)).1;omega)]
   exact fun h=>h1.2 e h.symm
  ·rw [h.tail.u6 (by have:=h1.1;omega)]
   exact fun e=>(h.each b (by simp)).2.1 e.symm
theorem z6: ∀{s t:List Bd},eT s->eT t->(∀y,rowAt s y=rowAt t y)->s=t
 | [],[],_,_,_=>rfl
 | [],c::t,_,ht,h=>by
  have hc:=ht.each c (by simp)
  have:=h c.y0
  rw [eT.mF (Int.le_refl _) hc.1] at this
  exact absurd this.symm hc.2.1
 | b::s,[],hs,_,h=>by
  have hb:=hs.each b (by simp)
  have:=h b.y0
  rw [eT.mF (Int.le_refl _) hb.1] at this
  exact absurd this hb.2.1
 | b::s,c::t,hs,ht,h=>by
  have hb:=hs.each b (by simp)
  have hc:=ht.each c (by simp)
  have e0:b.y0=c.y0:=by
   rcases Int.lt_trichotomy b.y0 c.y0 with h1 | h1 | h1
   ·have h2:=h b.y0
    rw [eT.mF (Int.le_refl _) hb.1,ht.u6 h1] at h2
    exact absurd h2 hb.2.1
   ·exact h1
   ·have h2:=h c.y0
    rw [eT.mF (Int.le_refl _) hc.1,hs.u6 h1] at h2
    exact absurd h2.symm hc.2.1
  have ex:b.xs=c.xs:=by
   have h2:=h b.y0
   rw [eT.mF (Int.le_refl _) hb.1,eT.mF (by omega) (by omega)] at h2
   exact h2
  have e1:b.y1=c.y1:=by
   rcases Int.lt_trichotomy b.y1 c.y1 with h1 | h1 | h1
   ·have h2:=h b.y1
    rw [eT.mF (b:=c) (by omega) h1] at h2
    exact absurd (h2.trans ex.symm) hs.Fh
   ·exact h1
   ·have h2:=h c.y1
    rw [eT.mF (b:=b) (by omega) h1] at h2
    exact absurd (h2.symm.trans ex) ht.Fh
  have ebc:b=c:=by cases b;cases c;simp_all
  subst ebc
  rw [z6 hs.tail ht.tail (fun y=>?_)]
  by_cases hy:b.y1<=y
  ·have h2:=h y
   unfold rowAt at h2
   rw [aG (by omega),aG (by omega)] at h2
   exact h2
  ·rw [lG (fun d hd=>by have:=hs.z5 d hd;exact .inl (by omega)),lG (fun d hd=>by have:=ht.z5 d hd;exact .inl (by omega))]
def t5 (s:List Bd) (x y:Int):Bool:=oN (rowAt s y) x
theorem Bx {s:List Bd} (h: ∀b∈s,jd b.xs) (y:Int):jd (rowAt s y):=by
 induction s with
 | nil=>exact jG
 | cons b s ih=>
  unfold rowAt
  split
  ·exact h b (by simp)
  ·exact ih fun c hc=>h c (hZ _ hc)
theorem tk {s t:List Bd} (hs:eT s) (ht:eT t) (h: ∀x y,t5 s x y=t5 t x y):s=t:=
 z6 hs ht fun y=>zZ (Bx (fun b hb=>(hs.each b hb).2.2.1) y) (Bx (fun b hb=>(ht.each b hb).2.2.1) y) fun x=>h x y
def jL (s:List Bd) (b:Bd):List Bd:=
 if b.xs= []\/b.y1<=b.y0 then s else
  match s.getLast? with
  | some c=>if c.y1=b.y0/\c.xs=b.xs then s.dropLast++[⟨c.y0,b.y1,c.xs⟩] else s++[b]
  | none=>[b]
theorem qI {α:Type} {s:List α} {c:α} (h:s.getLast? =some c):s=s.dropLast++[c]:=by
 have hne:s≠[]:=fun e=>by rw [e] at h;cases h
 rw [List.getLast?_eq_some_getLast hne] at h
 injection h with h
 rw [<-h];exact(List.dropLast_concat_getLast hne).symm
theorem u7 {s:List Bd} {b:Bd} (hs: ∀c∈s,c.y1<=b.y0) (hg: ∀c∈s,c.y0<c.y1) (hb:b.y1<=b.y0->b.y1=b.y0) (y:Int):rowAt (jL s b) y=if b.y0<=y/\y<b.y1 then b.xs else rowAt s y:=by
 have key: ∀(s:List Bd) (c:Bd),(∀d∈s,d.y1<=c.y0)->rowAt (s++[c]) y=if c.y0<=y/\y<c.y1 then c.xs else rowAt s y:=by
  intro s c h
  rw [p7]
  by_cases h1:c.y0<=y/\y<c.y1
  ·rw [aC h1,aG (by rintro⟨d,hd,hd2⟩;have:=h d hd;omega),eT.mF h1.1 h1.2]
  ·rw [aG h1]
   by_cases h2: ∃d∈s,d.y0<=y/\y<d.y1
   ·rw [aC h2]
   ·rw [aG h2,mE,aG h1]
    refine(show rowAt [] y=_ from (lG (s:=s) fun d hd=>?_).symm)
    by_cases h3:d.y0<=y
    ·exact .inr (by have: ¬(d.y0<=y/\y<d.y1):=fun h4=>h2 ⟨d,hd,h4⟩;omega)
    ·exact .inl (by omega)
 unfold jL
 by_cases h0:b.xs= []\/b.y1<=b.y0
 ·rw [aC h0]
  by_cases h1:b.y0<=y/\y<b.y1
  ·rw [aC h1]
   rcases h0 with h0 | h0
   ·rw [h0];exact lG fun c hc=> .inr (by have:=hs c hc;omega)
   ·omega
  ·rw [aG h1]
 ·rw [aG h0]
  cases hl:s.getLast? with
  | none=>
   have:s= []:=by simpa using hl
   subst this
   rfl
  | some c=>
   dsimp only
   have hsp:=qI hl
   have hcm:c∈s:=by rw [hsp];simp
   by_cases h1:c.y1=b.y0/\c.xs=b.xs
   ·rw [aC h1]
    have hd: ∀d∈s.dropLast,d.y1<=c.y0\/True:=fun _ _=> .inr trivial
    rw [p7]
    have hrow:rowAt s y=if (∃d∈s.dropLast,d.y0<=y/\y<d.y1) then rowAt s.dropLast y else (if c.y0<=y/\y<c.y1 then c.xs else []):=by
     conv=>lhs;rw [hsp]
     rw [p7];rfl
    rw [hrow]
    have hcg:=hg c hcm
    by_cases h2: ∃d∈s.dropLast,d.y0<=y/\y<d.y1
    ·obtain⟨d,hd,hd2⟩:=h2
     have:=hs d (List.dropLast_subset _ hd)
     have he: ∃d∈s.dropLast,d.y0<=y/\y<d.y1:=⟨d,hd,hd2⟩
     rw [aC he,aC he,aG (by omega)]
    ·rw [aG h2,aG h2]
     show (if c.y0<=y/\y<b.y1 then c.xs else [])=_
     by_cases h3:b.y0<=y/\y<b.y1
     ·rw [aC h3,aC ⟨by omega,h3.2⟩,h1.2]
     ·rw [aG h3]
      by_cases h4:c.y0<=y/\y<c.y1
      ·rw [aC h4,aC ⟨h4.1,by omega⟩]
      ·rw [aG h4,aG (by omega)]
   ·rw [aG h1]
    exact key s b hs
theorem u9 {s:List Bd} {b:Bd} (h:eT s) (hs: ∀c∈s,c.y1<=b.y0) (hb:jd b.xs) (he:b.xs.length % 2=0):eT (jL s b):=by
 unfold jL
 by_cases h0:b.xs= []\/b.y1<=b.y0
 ·rw [aC h0];exact h
 ·rw [aG h0]
  have hbg:b.y0<b.y1/\b.xs≠[]/\jd b.xs/\b.xs.length % 2=0:=⟨by omega,fun e=>h0 (.inl e),hb,he⟩
  cases hl:s.getLast? with
  | none=>exact⟨fun c hc=>by simp at hc;subst hc;exact hbg,List.pairwise_singleton _ _⟩
  | some c=>
   dsimp only
   have hsp:=qI hl
   have hcm:c∈s:=by rw [hsp];simp
   have hc:=h.each c hcm
   have hord:=h.ord
   rw [hsp,mQ] at hord
   by_cases h1:c.y1=b.y0/\c.xs=b.xs
   ·rw [aC h1]
    refine⟨fun d hd=>?_,?_⟩
    ·rcases cY.1 hd with hd | hd
     ·exact h.each d (List.dropLast_subset _ hd)
     ·simp at hd;subst hd;exact⟨by show c.y0<b.y1;omega,hc.2⟩
    ·rw [mQ]
     refine⟨hord.1,List.pairwise_singleton _ _,fun d hd e he=>?_⟩
     simp at he;subst he
     exact hord.2.2 d hd c (by simp)
   ·rw [aG h1]
    refine⟨fun d hd=>?_,?_⟩
    ·rcases cY.1 hd with hd | hd
     ·exact h.each d hd
     ·simp at hd;subst hd;exact hbg
    ·rw [mQ]
     refine⟨h.ord,List.pairwise_singleton _ _,fun d hd e he=>?_⟩
     simp at he;subst he
     refine⟨hs d hd,fun e1 e2=>?_⟩
     rw [hsp] at hd
     rcases cY.1 hd with hd | hd
     ·have h2:=(hord.2.2 d hd c (by simp)).1
      have:=hs c hcm
      omega
     ·simp at hd;subst hd;exact h1 ⟨e1,e2⟩
theorem va {s:List Bd} {b:Bd} (hs: ∀c∈s,c.y1<=b.y0) (hb:b.y0<=b.y1): ∀c∈jL s b,c.y1<=b.y1:=by
 intro c hc
 unfold jL at hc
 split at hc
 ·have:=hs c hc;omega
 ·split at hc
  ·split at hc
   ·rcases cY.1 hc with hc | hc
    ·have:=hs c (List.dropLast_subset _ hc);omega
    ·simp at hc;subst hc;exact Int.le_refl _
   ·rcases cY.1 hc with hc | hc
    ·have:=hs c hc;omega
    ·simp at hc;subst hc;exact Int.le_refl _
  ·simp at hc;subst hc;exact Int.le_refl _
end Go.Gk
namespace Go.Gk
open Go
section
variable {N:Nat}
def bY (b:aA):Bd:=⟨b.Y0,b.Y1,b.Xs⟩
def small (a:Int):Prop:= -1099511627776<=a/\a<=1099511627776
structure AU (r:aI):Prop where
 x:r.X0<r.X1
 y:r.Y0<r.Y1
 s1:small r.X0
 s2:small r.X1
 s3:small r.Y0
 s4:small r.Y1
def Ez (l:List aI) (x:Int):Bool:=l.any (fun r=>decide (r.X0<=x)&&decide (x<r.X1))
def sj (l:List aI) (x y:Int):Bool:=l.any (fun r=>(decide (r.X0<=x)&&decide (x<r.X1))&&(decide (r.Y0<=y)&&decide (y<r.Y1)))
theorem z7 {l:List aI} {x:Int}:Ez l x=true↔∃r∈l,r.X0<=x/\x<r.X1:=by unfold Ez;simp [kW]
theorem iU {l:List aI} {x y:Int}:sj l x y=true↔∃r∈l,(r.X0<=x/\x<r.X1)/\r.Y0<=y/\y<r.Y1:=by unfold sj;simp [kW]
theorem wrap_small {a b:Int} (ha:small a) (hb:small b):IntKind.wrap .i64 (a - b)=a - b:=by unfold small at *;exact fz (by omega) (by omega)
theorem z8 {n:Nat} (h:0<n) (hn:n<=4611686018427387904):IntKind.wrap .i64 (((n:Nat):Int) - 1)= ((n - 1:Nat):Int):=jm h hn
structure M1 (out:List Int) (m:List aI) (k:Nat):Prop where
 row: (k=0/\out= [])\/∃A s e,out=A++[s,e]/\jd A/\(∀c∈A,c<s)/\A.length % 2=0/\s<e/\∃j r,j<k/\m[j]? =some r/\s=r.X0
 oN: ∀x,oN out x=Ez (m.take k) x
 len:out.length<=2*k
 mem: ∀c∈out,∃r∈m,c=r.X0\/c=r.X1
theorem yl (l:List aI) (r:aI) (x:Int):Ez (l++[r]) x= (Ez l x||(decide (r.X0<=x)&&decide (x<r.X1))):=by unfold Ez;rw [List.any_append];simp
theorem Cg {l:List aI} (hl:l.length<=268435456) (hok: ∀r∈l,AU r): ∃row l',jN N l=some (row,l')/\l'.Perm l/\jd row/\row.length % 2=0/\(∀x,oN row x=Ez l x)/\row.length<=2*l.length/\∀c∈row,∃r∈l,c=r.X0\/c=r.X1:=by
 unfold jN
 obtain⟨m,h1,h2,h3⟩:=zW (φ:=ik N) (l:=l) (fun a b=>a.X0 - b.X0) (fun a ha b hb=>by
  unfold ik;rw [wrap_small (hok a ha).s1 (hok b hb).s1]) (fun a _=>by omega) (fun a _ b _ c _ h1 h2=>by omega) (fun a _ b _ c _ h1 h2=>by omega) (by omega)
 have hml:m.length=l.length:=h2.length_eq
 have hmok: ∀r∈m,AU r:=fun r hr=>hok r (h2.subset hr)
 rw [h1,aB]
 obtain⟨out,a1,a2⟩:=zw (m:=m.length) (s:=([]:List Int)) (body:=fun(k32:Nat) (s33: (List Int))=>((idx m (k32:Int)).bind fun x79=>(bif (decide ((IntKind.wrap .i64 ((s33.length:Int) - 1))>=0)) then ((idx s33 (IntKind.wrap .i64 ((s33.length:Int) - 1))).bind fun x86=>some (decide (x79.X0<=x86))) else (some false)).bind fun s84=>(bif s84 then ((idx s33 (IntKind.wrap .i64 ((s33.length:Int) - 1))).bind fun x94=>(idx s33 (IntKind.wrap .i64 ((s33.length:Int) - 1))).bind fun x95=>some (s33.set (Int.toNat (IntKind.wrap .i64 ((s33.length:Int) - 1))) (if x94<x79.X1 then x79.X1 else x94))) else ((app 8 s33 ([x79.X0,x79.X1]: (List Int))).bind fun x97=>some x97)).bind fun s92=>some s92:Option ((List Int))))
  (fun k out=>M1 out m k) (by omega) ⟨.inl ⟨rfl,rfl⟩,fun x=>rfl,by simp,fun c hc=>by cases hc⟩ (fun k out hk ⟨i1,i2,i3,i4⟩=>by
   have hx:m[k]? =some m[k]:=aO hk
   have hr:=hmok _ (cN hk)
   rw [dM hx,aB]
   have hts:m.take (k+1)=m.take k++[m[k]]:=eC hk
   rcases i1 with ⟨rfl,rfl⟩ | ⟨A,s,e,rfl,hA,hAs,hAe,hse,j,r,hj,hjr,hsr⟩
   ·rw [show decide (IntKind.wrap .i64 (((([]:List Int).length:Nat):Int) - 1)>=0)=false by decide,aR,aB,aR,kJ (by simp),aB,aB]
    refine⟨_,rfl, .inr ⟨[],_,_,rfl,jG,fun c hc=>by simp at hc,rfl,hr.x,0,m[0],by omega,hx,rfl⟩,fun x=>?_,by simp,fun c hc=>⟨m[0],cN hk,by simpa using hc⟩⟩
    rw [hts,yl,<-i2 x]
    exact xw (l:=[]) (fun c hc=>by simp at hc) rfl hr.x x
   ·have hlen: (A++[s,e]).length=A.length+2:=by simp
    have hwp:IntKind.wrap .i64 ((((A++[s,e]).length:Nat):Int) - 1)= ((A.length+1:Nat):Int):=by rw [z8 (by omega) (by omega),hlen];rfl
    have hlast: (A++[s,e])[A.length+1]? =some e:=by rw [gQ (by omega)];simp
    have hs:s<=m[k].X0:=by
     have:=mR.1 h3 j k (by have:=(bB.1 hjr).1;omega) hk hj
     rw [hsr,<-(bB.1 hjr).2];omega
    rw [hwp,bS (by omega),aP,dM hlast,aB,aB]
    by_cases hc:m[k].X0<=e
    ·rw [bS hc,aP,aB,aB,aB,cF]
     have mS: (A++[s,e]).set (A.length+1) (if e<m[k].X1 then m[k].X1 else e)=A++[s,max e m[k].X1]:=by
      rw [List.set_append_right _ _ (by omega)]
      have:A.length+1 - A.length=1:=by omega
      rw [this,Int.max_def]
      simp only [List.set_cons_succ,List.set_cons_zero]
      congr 2
      split <;> split <;> simp <;> omega
     rw [mS]
     refine⟨_,rfl, .inr ⟨A,s,_,rfl,hA,hAs,hAe,by omega,j,r,by omega,hjr,hsr⟩,fun x=>?_,by simp at i3 ⊢;omega,fun c hc=>by
      rcases cY.1 hc with h | h
      ·exact i4 c (List.mem_append_left _ h)
      ·simp at h
       rcases h with h | h
       ·exact i4 c (by simp [h])
       ·rw [Int.max_def] at h
        split at h
        ·exact⟨_,cN hk, .inr h⟩
        ·exact i4 c (by simp [h])⟩
     rw [hts,yl,<-i2 x]
     exact Hi hAs hAe hse hs hc hr.x x
    ·rw [cD hc,aR,kJ (by rw [hlen];simp;omega),aB,aB]
     have hall: ∀c∈A++[s,e],c<m[k].X0:=fun c hc'=>by
      rcases cY.1 hc' with h | h
      ·have:=hAs c h;omega
      ·simp at h;omega
     refine⟨_,rfl, .inr ⟨A++[s,e],_,_,rfl,hA.snoc hAs hse,hall,by rw [hlen];omega,hr.x,k,m[k],by omega,hx,rfl⟩,fun x=>?_,by simp at i3 ⊢;omega,fun c hc=>by
      rcases cY.1 hc with h | h
      ·exact i4 c h
      ·exact⟨m[k],cN hk,by simpa using h⟩⟩
     rw [hts,yl,<-i2 x]
     exact xw hall (by rw [hlen];omega) hr.x x)
 rw [a1,aB]
 refine⟨out,m,rfl,h2,?_,?_,fun x=>?_,by rw [<-hml];exact a2.len,fun c hc=>by obtain⟨r,hr,h⟩:=a2.mem c hc;exact⟨r,h2.subset hr,h⟩⟩
 ·rcases a2.row with ⟨_,h⟩ | ⟨A,s,e,rfl,hA,hAs,hAe,hse,_⟩
  ·rw [h];exact jG
  ·exact hA.snoc hAs hse
 ·rcases a2.row with ⟨_,h⟩ | ⟨A,s,e,rfl,hA,hAs,hAe,hse,_⟩
  ·rw [h];rfl
  ·simp;omega
 ·rw [a2.oN x,eQ,fu,z7,z7]
  constructor
  ·rintro⟨r,hr,h⟩;exact⟨r,h2.subset hr,h⟩
  ·rintro⟨r,hr,h⟩;exact⟨r,h2.symm.subset hr,h⟩
theorem ym {l m:List Int} (hl:l.length<=4611686018427387904):jZ N l m=some (decide (l=m)):=Bu hl
theorem Fi {s:List aA} {b:aA} (hs:s.length<=1048576000) (hx: ∀c∈s,c.Xs.length<=1048576000): ∃s',jz N s b=some s'/\s'.map bY=jL (s.map bY) (bY b):=by
 unfold jz jL
 by_cases h0:b.Xs= []\/b.Y1<=b.Y0
 ·have e: ((((b.Xs.length:Nat):Int)==0)||(decide (b.Y1<=b.Y0)))=true:=by
   rw [dK]
   rcases h0 with h | h
   ·left;rw [h];rfl
   ·right;exact bS h
  rw [e,aP,aC (show (bY b).xs= []\/(bY b).y1<=(bY b).y0 from h0)]
  exact⟨s,rfl,rfl⟩
 ·have e: ((((b.Xs.length:Nat):Int)==0)||(decide (b.Y1<=b.Y0)))=false:=by
   rw [Bool.or_eq_false_iff]
   constructor
   ·rw [beq_eq_false_iff_ne];intro h;exact h0 (.inl (List.eq_nil_of_length_eq_zero (by omega)))
   ·exact cD fun h=>h0 (.inr h)
  rw [e,aR,aG (show ¬((bY b).xs= []\/(bY b).y1<=(bY b).y0) from h0)]
  rcases List.eq_nil_or_concat s with rfl | ⟨A,c,hA⟩
  ·rw [show decide (IntKind.wrap .i64 (((([]:List aA).length:Nat):Int) - 1)>=0)=false by decide,aR,aB,aR,kJ (by simp),aB]
   exact⟨_,rfl,rfl⟩
  ·rw [List.concat_eq_append] at hA
   subst hA
   have hlen: (A++[c]).length=A.length+1:=by simp
   have hwp:IntKind.wrap .i64 ((((A++[c]).length:Nat):Int) - 1)= ((A.length:Nat):Int):=by rw [z8 (by omega) (by omega),hlen];rfl
   have hlast: (A++[c])[A.length]? =some c:=by simp
   rw [hwp,bS (by omega),aP,dM hlast,aB,aB,ym (by have:=hx c (by simp);omega),aB,aB,cF,kJ (by rw [hlen];simp;omega),aB]
   have hl2: ((A++[c]).map bY).getLast? =some (bY c):=by simp
   have hd2: ((A++[c]).map bY).dropLast=A.map bY:=by simp
   rw [hl2,hd2]
   dsimp only
   by_cases h1:c.Y1=b.Y0/\c.Xs=b.Xs
   ·rw [aC (show (bY c).y1= (bY b).y0/\(bY c).xs= (bY b).xs from h1),show (c.Y1==b.Y0)=true by rw [h1.1];simp,aP,bS h1.2,aB,aP]
    refine⟨_,rfl,?_⟩
    rw [List.set_append_right _ _ (bU _),Nat.sub_self]
    simp [bY]
   ·rw [aG (show ¬((bY c).y1= (bY b).y0/\(bY c).xs= (bY b).xs) from h1)]
    have e2: (bif (c.Y1==b.Y0) then (some (decide (c.Xs=b.Xs))) else (some false))=some false:=by
     by_cases h2:c.Y1=b.Y0
     ·rw [show (c.Y1==b.Y0)=true by rw [h2];simp,aP,cD (fun h=>h1 ⟨h2,h⟩)]
     ·rw [show (c.Y1==b.Y0)=false by simpa using h2,aR]
    rw [e2,aB,aR]
    exact⟨_,rfl,by simp⟩
end
end Go.Gk
namespace Go.Gk
open Go
def dD (l:List (Int×Int)):List Int:=l.flatMap fun s=>[s.1,s.2]
def jq (l:List (Int×Int)) (x:Int):Bool:=l.any fun s=>decide (s.1<=x)&&decide (x<s.2)
theorem jr (s:Int×Int) (l:List (Int×Int)):dD (s::l)=s.1::s.2::dD l:=rfl
theorem tm (l m:List (Int×Int)):dD (l++m)=dD l++dD m:=List.flatMap_append
theorem j4 (l:List (Int×Int)): (dD l).length=2*l.length:=by
 induction l with
 | nil=>rfl
 | cons s l ih=>rw [jr,dN,dN,dN,ih];omega
theorem Bz (s:Int×Int) (l:List (Int×Int)) (x:Int):jq (s::l) x= ((decide (s.1<=x)&&decide (x<s.2))||jq l x):=rfl
theorem yM (l m:List (Int×Int)) (x:Int):jq (l++m) x= (jq l x||jq m x):=List.any_append
theorem sm {l:List (Int×Int)} {x:Int}:jq l x=true↔∃s∈l,s.1<=x/\x<s.2:=by
 unfold jq;simp
theorem F1 {a b:Int} {m:List Int} (h:jd (a::b::m)) (x:Int):oN (a::b::m) x= ((decide (a<=x)&&decide (x<b))||oN m x):=by
 have hab:a<b:=h.head b (by simp)
 have hm:=h.tail.head
 rw [fu,dK,bW,bR,bR,xt,xt,pw,pw]
 by_cases h1:a<=x
 ·rw [aC h1]
  by_cases h2:b<=x
  ·rw [aC h2];omega
  ·rw [aG h2,zY (fun c hc=>by have:=hm c hc;omega)];omega
 ·rw [aG h1,aG (by omega)];omega
theorem sq: ∀{l:List (Int×Int)},jd (dD l)->∀x,oN (dD l) x=jq l x
 | [],_,x=>rfl
 | s::l,h,x=>by
  rw [jr] at h ⊢
  rw [F1 h,Bz,sq h.tail.tail]
theorem BA: ∀{l m:List (Int×Int)},dD l=dD m->l=m
 | [],[],_=>rfl
 | [],s::m,h=>by cases h
 | s::l,[],h=>by cases h
 | (a,b)::l,(c,d)::m,h=>by
  rw [jr,jr] at h
  injection h with h1 h2
  injection h2 with h2 h3
  simp only at h1 h2
  rw [h1,h2,BA h3]
theorem yn {l:List (Int×Int)} {c:Int} (h:c∈dD l): ∃s∈l,c=s.1\/c=s.2:=by
 obtain⟨s,hs,hc⟩:=List.mem_flatMap.1 h
 exact⟨s,hs,by simpa using hc⟩
theorem uM {l:List (Int×Int)} (h:jd (dD l)): ∀s∈l,s.1<s.2:=by
 induction l with
 | nil=>intro s hs;cases hs
 | cons a l ih=>
  rw [jr] at h
  intro s hs
  rcases dC.1 hs with rfl | hs
  ·exact h.head _ (by simp)
  ·exact ih h.tail.tail s hs
theorem su {l m:List (Int×Int)}:jd (dD (l++m))↔jd (dD l)/\jd (dD m)/\∀s∈l,∀t∈m,s.2<t.1:=by
 rw [tm]
 unfold jd
 rw [mQ]
 constructor
 ·rintro⟨h1,h2,h3⟩
  exact⟨h1,h2,fun s hs t ht=>h3 s.2 (List.mem_flatMap.2 ⟨s,hs,by simp⟩) t.1 (List.mem_flatMap.2 ⟨t,ht,by simp⟩)⟩
 ·rintro⟨h1,h2,h3⟩
  refine⟨h1,h2,fun a ha b hb=>?_⟩
  obtain⟨s,hs,ha⟩:=yn ha
  obtain⟨t,ht,hb⟩:=yn hb
  have h4:=h3 s hs t ht
  have h5:=uM (l:=l) h1 s hs
  have h6:=uM (l:=m) h2 t ht
  rcases ha with rfl | rfl <;> rcases hb with rfl | rfl <;> omega
def kr (s:Int×Int):List (Int×Int)->(Int×Int)×List (Int×Int)
 | []=>(s,[])
 | a::l=>if a.1<=s.2 then kr (min s.1 a.1,max s.2 a.2) l else (s,a::l)
def lH (l:List (Int×Int)) (s:Int×Int):List (Int×Int):=
 l.takeWhile (fun a=>decide (a.2<s.1))++(kr s (l.dropWhile fun a=>decide (a.2<s.1))).1::(kr s (l.dropWhile fun a=>decide (a.2<s.1))).2
theorem yN: ∀(l:List (Int×Int)) (s:Int×Int),s.1<s.2->jd (dD l)->(∀a∈l,s.1<=a.2)->
  (kr s l).1.1< (kr s l).1.2/\((kr s l).1.1=s.1\/∃a∈l,(kr s l).1.1=a.1)/\jd (dD (kr s l).2)/\(∀t∈(kr s l).2,(kr s l).1.2<t.1)/\
  ∀x,jq ((kr s l).1::(kr s l).2) x= ((decide (s.1<=x)&&decide (x<s.2))||jq l x)
 | [],s,h,_,_=>⟨h, .inl rfl,jG,fun t (ht:t∈([]:List (Int×Int)))=>(by cases ht),fun x=>rfl⟩
 | a::l,s,h,hi,hs=>by
  have hsp:=uM hi
  have ha:=hsp a (by simp)
  have hi':=hi
  rw [jr] at hi'
  have hsa:=hs a (by simp)
  unfold kr
  by_cases hc:a.1<=s.2
  ·rw [aC hc]
   have hlt: (min s.1 a.1,max s.2 a.2).1< (min s.1 a.1,max s.2 a.2).2:=by dsimp only;omega
   obtain⟨h1,h2,h3,h4,h5⟩:=yN l (min s.1 a.1,max s.2 a.2) hlt hi'.tail.tail (fun b hb=>by
    have:=(su (l:=[a]) (m:=l)).1 hi
    have h6:=this.2.2 a (by simp) b hb
    have h7:=hsp b (hZ _ hb)
    dsimp only;omega)
   refine⟨h1,?_,h3,h4,fun x=>?_⟩
   ·rcases h2 with h2 | ⟨b,hb,h2⟩
    ·rw [h2]
     rcases Int.le_total s.1 a.1 with h6 | h6
     ·exact .inl (by simp only;omega)
     ·exact .inr ⟨a,by simp,by simp only;omega⟩
    ·exact .inr ⟨b,hZ _ hb,h2⟩
   ·rw [h5,Bz,<-Bool.or_assoc]
    congr 1
    clear h1 h2 h3 h4 h5
    rw [fu]
    simp only [dK,bW,bR]
    constructor
    ·intro h6
     by_cases h7:s.1<=x/\x<s.2
     ·exact .inl h7
     ·exact .inr (by omega)
    ·rintro(h6 | h6) <;> omega
  ·rw [aG hc]
   refine⟨h, .inl rfl,hi,fun t ht=>?_,fun x=>rfl⟩
   show s.2<t.1
   rcases dC.1 ht with rfl | ht
   ·omega
   ·have:=((su (l:=[a]) (m:=l)).1 hi).2.2 a (by simp) t ht
    omega
theorem Ch {l:List (Int×Int)} {c:Int} (h:jd (dD l)): ∀a∈l.dropWhile (fun a=>decide (a.2<c)),c<=a.2:=by
 induction l with
 | nil=>intro a ha;cases ha
 | cons b l ih=>
  have h':=h
  rw [jr] at h'
  rw [List.dropWhile_cons]
  by_cases hb:b.2<c
  ·rw [aC (by simpa using hb)];exact ih h'.tail.tail
  ·rw [aG (by simpa using hb)]
   intro a ha
   rcases dC.1 ha with rfl | ha
   ·omega
   ·have h1:=((su (l:=[b]) (m:=l)).1 h).2.2 b (by simp) a ha
    have h2:=uM h a (hZ _ ha)
    omega
theorem Ci (l:List (Int×Int)) (c:Int): ∀a∈l.takeWhile (fun a=>decide (a.2<c)),a.2<c:=by
 induction l with
 | nil=>intro a ha;cases ha
 | cons b l ih=>
  rw [List.takeWhile_cons]
  by_cases hb:b.2<c
  ·rw [aC (by simpa using hb)]
   intro a ha
   rcases dC.1 ha with rfl | ha
   ·exact hb
   ·exact ih a ha
  ·rw [aG (by simpa using hb)]
   intro a ha;cases ha
theorem xx {l:List (Int×Int)} {s:Int×Int} (h:jd (dD l)) (hs:s.1<s.2):
  jd (dD (lH l s))/\∀x,jq (lH l s) x= ((decide (s.1<=x)&&decide (x<s.2))||jq l x):=by
 have hsplit:=h
 rw [<-List.takeWhile_append_dropWhile (p:=fun a:Int×Int=>decide (a.2<s.1)) (l:=l),su] at hsplit
 obtain⟨h1,h2,h3⟩:=hsplit
 obtain⟨m1,m2,m3,m4,m5⟩:=yN (l.dropWhile fun a=>decide (a.2<s.1)) s hs h2 (Ch h)
 unfold lH
 refine⟨su.2 ⟨h1,?_,fun a ha t ht=>?_⟩,fun x=>?_⟩
 ·rw [jr]
  have h4: ∀c∈dD (kr s (l.dropWhile fun a=>decide (a.2<s.1))).2,(kr s (l.dropWhile fun a=>decide (a.2<s.1))).1.2<c:=fun c hc=>by
   obtain⟨t,ht,hc⟩:=yn hc
   have:=m4 t ht
   have:=uM m3 t ht
   rcases hc with rfl | rfl <;> omega
  exact oj.2 ⟨fun c hc=>by
   rcases dC.1 hc with rfl | hc
   ·exact m1
   ·have:=h4 c hc;omega,oj.2 ⟨h4,m3⟩⟩
 ·have ha1:=Ci l s.1 a ha
  rcases dC.1 ht with rfl | ht
  ·rcases m2 with m2 | ⟨b,hb,m2⟩
   ·rw [m2];exact ha1
   ·rw [m2];exact h3 a ha b hb
  ·have h5:=m4 t ht
   rcases m2 with m2 | ⟨b,hb,m2⟩
   ·rw [m2] at m1;omega
   ·have:=h3 a ha b hb;rw [m2] at m1;omega
 ·rw [yM,m5]
  conv=>rhs;rw [<-List.takeWhile_append_dropWhile (p:=fun a:Int×Int=>decide (a.2<s.1)) (l:=l),yM]
  rw [Bool.or_left_comm]
end Go.Gk
namespace Go.Gk
open Go
def kg:List Int->List (Int×Int)
 | a::b::l=>(a,b)::kg (b::l)
 | _=>[]
theorem qo: ∀{xs:List Int},jd xs->∀s∈kg xs,s.1∈xs/\s.2∈xs/\s.1<s.2/\∀c∈xs,c<=s.1\/s.2<=c
 | [],_,s,hs=>by cases hs
 | [a],_,s,hs=>by cases hs
 | a::b::l,h,s,hs=>by
  have hab:=h.head b (by simp)
  rcases dC.1 hs with rfl | hs
  ·refine⟨by simp,by simp,hab,fun c hc=>?_⟩
   rcases dC.1 hc with rfl | hc
   ·exact .inl (Int.le_refl _)
   ·rcases dC.1 hc with rfl | hc
    ·exact .inr (Int.le_refl _)
    ·exact .inr (by have:=h.tail.head c hc;show b<=c;omega)
  ·obtain⟨h1,h2,h3,h4⟩:=qo h.tail s hs
   refine⟨hZ _ h1,hZ _ h2,h3,fun c hc=>?_⟩
   rcases dC.1 hc with rfl | hc
   ·exact .inl (by have:=h.head s.1 h1;omega)
   ·exact h4 c hc
theorem wq: ∀{xs:List Int},jd xs->∀x,(∃s∈kg xs,s.1<=x/\x<s.2)\/(∀c∈xs,x<c)\/(∀c∈xs,c<=x)
 | [],_,x=> .inr (.inl fun c hc=>by cases hc)
 | [a],_,x=>by
  by_cases h:x<a
  ·exact .inr (.inl fun c hc=>by simp at hc;omega)
  ·exact .inr (.inr fun c hc=>by simp at hc;omega)
 | a::b::l,h,x=>by
  have hab:=h.head b (by simp)
  rcases wq h.tail x with ⟨s,hs,h1⟩ | h1 | h1
  ·exact .inl ⟨s,hZ _ hs,h1⟩
  ·by_cases h2:x<a
   ·exact .inr (.inl fun c hc=>by
     rcases dC.1 hc with rfl | hc
     ·exact h2
     ·exact h1 c hc)
   ·exact .inl ⟨(a,b),by simp [kg],by show a<=x;omega,h1 b (by simp)⟩
  ·exact .inr (.inr fun c hc=>by
    rcases dC.1 hc with rfl | hc
    ·have:=h1 b (by simp);omega
    ·exact h1 c hc)
def Ends (a:List (Int×Int)) (xs:List Int):Prop:=∀s∈a,s.1∈xs/\s.2∈xs
theorem zx {a:List (Int×Int)} {xs:List Int} (he:Ends a xs) (hx:jd xs) {s:Int×Int} (hs:s∈kg xs) {x:Int} (h1:s.1<=x) (h2:x<s.2):jq a x=jq a s.1:=by
 obtain⟨_,_,h3,h4⟩:=qo hx s hs
 rw [fu,sm,sm]
 constructor
 ·rintro⟨t,ht,h5,h6⟩
  have:=h4 _ (he t ht).1
  exact⟨t,ht,by omega,by omega⟩
 ·rintro⟨t,ht,h5,h6⟩
  have:=h4 _ (he t ht).2
  exact⟨t,ht,by omega,by omega⟩
theorem Fj {a:List (Int×Int)} {xs:List Int} (he:Ends a xs) {x:Int} (h: (∀c∈xs,x<c)\/(∀c∈xs,c<=x)):jq a x=false:=by
 rw [<-jU,sm]
 rintro⟨t,ht,h5,h6⟩
 obtain⟨e1,e2⟩:=he t ht
 rcases h with h | h
 ·have:=h _ e1;omega
 ·have:=h _ e2;omega
def l6 (gO:Bool->Bool->Bool) (a b:List (Int×Int)) (ss:List (Int×Int)) (out:List (Int×Int)):List (Int×Int):=
 ss.foldl (fun out s=>if gO (jq a s.1) (jq b s.1)=true then lH out s else out) out
theorem uN (gO:Bool->Bool->Bool) (a b:List (Int×Int)): ∀(ss out:List (Int×Int)),jd (dD out)->(∀s∈ss,s.1<s.2)->
  jd (dD (l6 gO a b ss out))/\∀x,jq (l6 gO a b ss out) x= (jq out x||ss.any fun s=>gO (jq a s.1) (jq b s.1)&&(decide (s.1<=x)&&decide (x<s.2)))
 | [],out,h,_=>⟨h,fun x=>by simp [l6]⟩
 | s::ss,out,h,hs=>by
  have h0:=hs s (by simp)
  unfold l6
  rw [List.foldl_cons]
  by_cases hk:gO (jq a s.1) (jq b s.1)=true
  ·rw [aC hk]
   obtain⟨j1,j2⟩:=xx h h0
   obtain⟨m1,m2⟩:=uN gO a b ss (lH out s) j1 (fun t ht=>hs t (hZ _ ht))
   refine⟨m1,fun x=>?_⟩
   rw [show jq (List.foldl _ (lH out s) ss) x=_ from m2 x,j2,List.any_cons,hk,Bool.true_and]
   cases jq out x <;> simp
  ·rw [aG hk]
   obtain⟨m1,m2⟩:=uN gO a b ss out h (fun t ht=>hs t (hZ _ ht))
   refine⟨m1,fun x=>?_⟩
   rw [show jq (List.foldl _ out ss) x=_ from m2 x,List.any_cons,eq_false_of_ne_true hk,Bool.false_and,Bool.false_or]
theorem Du {gO:Bool->Bool->Bool} (hk:gO false false=false) {a b:List (Int×Int)} {xs:List Int} (hx:jd xs) (ha:Ends a xs) (hb:Ends b xs):
  jd (dD (l6 gO a b (kg xs) []))/\∀x,jq (l6 gO a b (kg xs) []) x=gO (jq a x) (jq b x):=by
 obtain⟨m1,m2⟩:=uN gO a b (kg xs) [] jG (fun s hs=>(qo hx s hs).2.2.1)
 refine⟨m1,fun x=>?_⟩
 rw [m2,show jq [] x=false from rfl,Bool.false_or]
 rcases wq hx x with ⟨s,hs,h1,h2⟩ | h
 ·rw [fu,kW]
  constructor
  ·rintro⟨t,ht,h3⟩
   rw [bW,bW,bR,bR] at h3
   rw [zx ha hx ht h3.2.1 h3.2.2,zx hb hx ht h3.2.1 h3.2.2];exact h3.1
  ·intro h3
   rw [zx ha hx hs h1 h2,zx hb hx hs h1 h2] at h3
   exact⟨s,hs,by rw [h3,bS h1,bS h2];rfl⟩
 ·rw [Fj ha h,Fj hb h,hk,<-jU,kW]
  rintro⟨t,ht,h3⟩
  rw [bW,bW,bR,bR] at h3
  obtain⟨e1,e2,_⟩:=qo hx t ht
  rcases h with h | h
  ·have:=h _ e1;omega
  ·have:=h _ e2;omega
def l7 (f:Int->List Int) (ss:List (Int×Int)) (out:List Bd):List Bd:=ss.foldl (fun out s=>jL out ⟨s.1,s.2,f s.1⟩) out
theorem yO (f:Int->List Int) (hf: ∀y,jd (f y)/\(f y).length % 2=0): ∀(ys:List Int) (out:List Bd),jd ys->eT out->(∀c∈out,∀y∈ys,c.y1<=y)->
  eT (l7 f (kg ys) out)/\∀y,rowAt (l7 f (kg ys) out) y=match (kg ys).find? (fun s=>decide (s.1<=y)&&decide (y<s.2)) with | some s=>f s.1 | none=>rowAt out y
 | [],out,_,h,_=>⟨h,fun y=>rfl⟩
 | [a],out,_,h,_=>⟨h,fun y=>rfl⟩
 | a::b::l,out,hi,h,ho=>by
  have hab:=hi.head b (by simp)
  have ho1: ∀c∈out,c.y1<=(⟨a,b,f a⟩:Bd).y0:=fun c hc=>ho c hc a (by simp)
  have hc:=u9 (b:=⟨a,b,f a⟩) h ho1 (hf a).1 (hf a).2
  have htop:=va (b:=⟨a,b,f a⟩) ho1 (by show a<=b;omega)
  obtain⟨m1,m2⟩:=yO f hf (b::l) (jL out ⟨a,b,f a⟩) hi.tail hc (fun c hc' y hy=>by
   have h1:=htop c hc'
   have h2:b<=y:=by
    rcases dC.1 hy with rfl | hy
    ·exact Int.le_refl _
    ·have:=hi.tail.head y hy;omega
   have h3:c.y1<=b:=h1
   omega)
  refine⟨m1,fun y=>?_⟩
  show rowAt (l7 f (kg (b::l)) (jL out ⟨a,b,f a⟩)) y=_
  rw [m2 y,show kg (a::b::l)= (a,b)::kg (b::l) from rfl,List.find?_cons]
  have hrow:=u7 (s:=out) (b:=⟨a,b,f a⟩) ho1 (fun c hc=>(h.each c hc).1) (fun h=>absurd h (by show ¬b<=a;omega)) y
  by_cases hy:a<=y/\y<b
  ·have e: (decide (a<=y)&&decide (y<b))=true:=by rw [bS hy.1,bS hy.2];rfl
   have hn: (kg (b::l)).find? (fun s=>decide (s.1<=y)&&decide (y<s.2))=none:=by
    rw [List.find?_eq_none]
    intro s hs
    have:=(qo hi.tail s hs).1
    have h5:b<=s.1:=by
     rcases dC.1 this with h6 | h6
     ·omega
     ·have:=hi.tail.head _ h6;omega
    simp;omega
   rw [hn]
   show rowAt (jL out ⟨a,b,f a⟩) y=_
   rw [hrow,aC hy,e]
  ·have e: (decide (a<=y)&&decide (y<b))=false:=by
    rw [Bool.and_eq_false_iff,decide_eq_false_iff_not,decide_eq_false_iff_not];omega
   rw [e]
   cases (kg (b::l)).find? (fun s=>decide (s.1<=y)&&decide (y<s.2)) with
   | some s=>rfl
   | none=>
    show rowAt (jL out ⟨a,b,f a⟩) y=rowAt out y
    rw [hrow,aG hy]
theorem yP {f:Int->List Int} (hf: ∀y,jd (f y)/\(f y).length % 2=0) {ys:List Int} (hy:jd ys) (h1: ∀s∈kg ys,∀y,s.1<=y->y<s.2->f y=f s.1) (h2: ∀y,((∀c∈ys,y<c)\/(∀c∈ys,c<=y))->f y= []):
  eT (l7 f (kg ys) [])/\∀y,rowAt (l7 f (kg ys) []) y=f y:=by
 obtain⟨m1,m2⟩:=yO f hf ys [] hy eT.nil (fun c hc=>by cases hc)
 refine⟨m1,fun y=>?_⟩
 rw [m2 y]
 cases Jr: (kg ys).find? (fun s=>decide (s.1<=y)&&decide (y<s.2)) with
 | some s=>
  have h3:=List.find?_some Jr
  rw [bW,bR,bR] at h3
  exact(h1 s (List.mem_of_find?_eq_some Jr) y h3.1 h3.2).symm
 | none=>
  show rowAt [] y=f y
  rcases wq hy y with ⟨s,hs,h3,h4⟩ | h3
  ·have:=List.find?_eq_none.1 Jr s hs
   rw [bS h3,bS h4] at this
   exact absurd rfl this
  ·rw [h2 y h3];rfl
end Go.Gk
namespace Go.Gk
open Go
def Ok {β:Type} (o:Option β) (P:β->Prop):Prop:=∃r,o=some r/\P r
section
variable {α β S R:Type} {P:α->Prop} {Q:β->Prop}
theorem Ok.ret {x:β} (h:Q x):Ok (some x) Q:=⟨x,rfl,h⟩
theorem Ok.of {o:Option β} {x:β} (h:o=some x) (hq:Q x):Ok o Q:=⟨x,h,hq⟩
theorem Ok.mono {o:Option α} {P':α->Prop} (h:Ok o P) (k: ∀x,P x->P' x):Ok o P':=by obtain⟨x,h1,h2⟩:=h;exact⟨x,h1,k x h2⟩
theorem Ok.bind {o:Option α} {f:α->Option β} (h:Ok o P) (k: ∀x,P x->Ok (f x) Q):Ok (o.bind f) Q:=by
 obtain⟨x,h1,h2⟩:=h;rw [h1];exact k x h2
theorem Ok.eq {o:Option α} {f:α->Option β} {x:α} (h:o=some x) (k:Ok (f x) Q):Ok (o.bind f) Q:=by rw [h];exact k
theorem Ok.bif {b:Bool} {x y:Option β} (ht:b=true->Ok x Q) (hf:b=false->Ok y Q):Ok (bif b then x else y) Q:=by
 cases b with
 | true=>exact ht rfl
 | false=>exact hf rfl
theorem Ok.get {o:Option β} {x:β} (h:Ok o (fun r=>r=x)):o=some x:=by obtain⟨r,h1,h2⟩:=h;rw [h1,h2]
def Ls (Go:S->Prop) (Rt:R->Prop):Fo S R->Prop | .go s=>Go s | .rt r=>Rt r
def HV (Nx Br:S->Prop) (Rt:R->Prop):Fl S R->Prop | .nx s=>Nx s | .br s=>Br s | .rt r=>Rt r
theorem Ok.nx {Nx Br:S->Prop} {Rt:R->Prop} {s:S} (h:Nx s):Ok (some (Fl.nx s)) (HV Nx Br Rt):=⟨_,rfl,h⟩
theorem Ok.br {Nx Br:S->Prop} {Rt:R->Prop} {s:S} (h:Br s):Ok (some (Fl.br s)) (HV Nx Br Rt):=⟨_,rfl,h⟩
theorem Ok.rt {Nx Br:S->Prop} {Rt:R->Prop} {r:R} (h:Rt r):Ok (some (Fl.rt r:Fl S R)) (HV Nx Br Rt):=⟨_,rfl,h⟩
theorem Ok.cs {Go:S->Prop} {Rt:R->Prop} {o:Fo S R} {f:S->Option β} {g:R->Option β} (h:Ls Go Rt o) (hf: ∀s,Go s->Ok (f s) Q) (hg: ∀r,Rt r->Ok (g r) Q):Ok (o.cs f g) Q:=by
 cases o with
 | go s=>exact hf s h
 | rt r=>exact hg r h
theorem Ok.nn {body:Nat->S->Option S} {m:Nat} {s:S} (Inv:Nat->S->Prop) (hm:m<=4611686018427387904) (h0:Inv 0 s) (h: ∀k s,k<m->Inv k s->Ok (body k s) (Inv (k+1))):Ok (nn m body s) (Inv m):=
 zw Inv hm h0 h
theorem Ok.vn {body:Nat->S->Option (Fl S R)} {m:Nat} {s:S} (Inv:Nat->S->Prop) {Go:S->Prop} {Rt:R->Prop} (hm:m<=4611686018427387904) (h0:Inv 0 s)
  (h: ∀k s,k<m->Inv k s->Ok (body k s) (HV (Inv (k+1)) Go Rt)) (hg: ∀s,Inv m s->Go s):Ok (vn m body s) (Ls Go Rt):=by
 obtain⟨o,h1,h2⟩:=Io (R:=R) Inv Go Rt hm h0 (fun k s hk hi=>by
  obtain⟨fl,a1,a2⟩:=h k s hk hi
  exact⟨fl,a1,by cases fl <;> exact a2⟩) hg
 exact⟨o,h1,by cases o <;> exact h2⟩
theorem Ok.jE {body:S->Option (Fl S R)} {N:Nat} {s:S} (Inv:S->Prop) (μ:S->Nat) {Go:S->Prop} {Rt:R->Prop}
  (h: ∀s,Inv s->Ok (body s) (HV (fun s'=>Inv s'/\μ s'<μ s) Go Rt)) (hi:Inv s) (hn:μ s<N):Ok (jE body N s) (Ls Go Rt):=by
 obtain⟨o,h1,h2⟩:=xe (R:=R) Inv μ Go Rt (fun s hi=>by
  obtain⟨fl,a1,a2⟩:=h s hi
  exact⟨fl,a1,by cases fl <;> exact a2⟩) N s hi hn
 exact⟨o,h1,by cases o <;> exact h2⟩
theorem Ok.app {b:Nat} {l ys:List α} {f:List α->Option β} (h: (l.length+ys.length)*b<=140737488355328) (k:Ok (f (l++ys)) Q):Ok ((Go.Gk.app b l ys).bind f) Q:=by rw [kJ h];exact k
theorem Ok.idx {l:List α} {i:Nat} {f:α->Option β} (h:i<l.length) (k:Ok (f l[i]) Q):Ok ((Go.Gk.idx l ((i:Nat):Int)).bind f) Q:=by rw [kY l i h];exact k
theorem Ok.ix {l:List α} {i:Nat} {x:α} {f:α->Option β} (h:l[i]? =some x) (k:Ok (f x) Q):Ok ((Go.Gk.idx l ((i:Nat):Int)).bind f) Q:=by rw [dM h];exact k
end
theorem Dv {n:Nat} (h:n<=4611686018427387904):IntKind.wrap .i64 ((n:Nat):Int)= ((n:Nat):Int):=fz (by omega) (by omega)
theorem wrap_add {n m:Nat} (h:n+m<=4611686018427387904):IntKind.wrap .i64 (((n:Nat):Int)+ ((m:Nat):Int))= ((n+m:Nat):Int):=by rw [fz (by omega) (by omega)];simp
theorem bN {n:Nat} (h:n+1<=4611686018427387904):IntKind.wrap .i64 (((n:Nat):Int)+1)= ((n+1:Nat):Int):=by rw [fz (by omega) (by omega)];simp
theorem BB {n:Nat} (h:n+2<=4611686018427387904):IntKind.wrap .i64 (((n:Nat):Int)+2)= ((n+2:Nat):Int):=by rw [fz (by omega) (by omega)];simp
theorem fR {α:Type} [DecidableEq α]: ∀{l m:List α},l.Nodup->(∀x∈l,x∈m)->l.length<=m.length
 | [],m,_,_=>dH _
 | a::l,m,hn,hs=>by
  have ha:a∈m:=hs a (by simp)
  have hn':=List.nodup_cons.1 hn
  have:=fR (l:=l) (m:=m.erase a) hn'.2 (fun x hx=>by
   rw [List.mem_erase_of_ne (fun e=>hn'.1 (by rw [<-e];exact hx))]
   exact hs x (hZ _ hx))
  rw [List.length_erase_of_mem ha] at this
  have:=List.length_pos_of_mem ha
  simp;omega
section
variable {α:Type} {N:Nat}
def Lt (z:α) (N:Nat) (p0:List α) (p1:α->Option Bool):Option (List α):=
 (s8 p0 p1).bind fun x31=>bif (x31==(-1)) then (some p0) else ((jE (fun(s33: (List α)×Int×Int)=>(bif (decide (s33.2.2< (s33.1.length:Int))) then ((idx s33.1 s33.2.2).bind fun x54=>(p1 x54).bind fun x58=>(bif (!x58) then ((idx s33.1 s33.2.1).bind fun x63=>some ((s33.1.set (Int.toNat s33.2.1) x54),(IntKind.wrap .i64 (s33.2.1+1)))) else (some (s33.1,s33.2.1))).bind fun s61=>some (.nx (s61.1,s61.2,(IntKind.wrap .i64 (s33.2.2+1))))) else (some (.br (s33.1,s33.2.1,s33.2.2))):Option (Fl ((List α)×Int×Int) Empty))) N (p0,x31,(IntKind.wrap .i64 (x31+1)))).bind fun o67=>o67.cs (fun(s33: (List α)×Int×Int)=>(sO s33.1 s33.2.1 (s33.1.length:Int)).bind fun x64=>(sO (s33.1.take (Int.toNat s33.2.1)++List.replicate (s33.1.length - Int.toNat s33.2.1) z) 0 s33.2.1).bind fun x65=>some x65) (fun r=>r.elim))
theorem Hj {z:α} {l:List α} {φ:α->Option Bool} (p:α->Bool) (hφ: ∀x∈l,φ x=some (p x)) (hl:l.length<=4611686018427387000) (hN:l.length<N):Lt z N l φ=some (l.filter (fun x=> !p x)):=by
 unfold Lt
 rw [vN p (by omega) hφ,aB]
 rcases yh l p with ⟨h1,h2⟩ | ⟨k,x,h1,h2,h3,h4⟩
 ·rw [h1]
  have:l.filter (fun x=> !p x)=l:=List.filter_eq_self.2 fun a ha=>by rw [h2 a ha];rfl
  rw [this];rfl
 ·rw [h1,show (((k:Nat):Int)== -1)=false by simp,aR]
  have hk:=(bB.1 h2).1
  have hpre: (l.take k).filter (fun x=> !p x)=l.take k:=List.filter_eq_self.2 fun a ha=>by
   obtain⟨j,hj⟩:=dV ha
   have hjk:j<k:=by have:=(bB.1 hj).1;rw [cL] at this;omega
   rw [List.getElem?_take_of_lt hjk] at hj
   rw [h4 j a hjk hj];rfl
  have hst:l.take (k+1)=l.take k++[x]:=by
   rw [eC hk];congr 1
   have:=(bB.1 h2).2;rw [this]
  have hk1:IntKind.wrap .i64 (((k:Nat):Int)+1)= ((k+1:Nat):Int):=by rw [fz (by omega) (by omega)];omega
  rw [hk1]
  obtain⟨o,a1,a2⟩:=xe (S:=(List α)×Int×Int) (R:=Empty) (body:=fun(s33: (List α)×Int×Int)=>(bif (decide (s33.2.2< (s33.1.length:Int))) then ((idx s33.1 s33.2.2).bind fun x54=>(φ x54).bind fun x58=>(bif (!x58) then ((idx s33.1 s33.2.1).bind fun x63=>some ((s33.1.set (Int.toNat s33.2.1) x54),(IntKind.wrap .i64 (s33.2.1+1)))) else (some (s33.1,s33.2.1))).bind fun s61=>some (.nx (s61.1,s61.2,(IntKind.wrap .i64 (s33.2.2+1))))) else (some (.br (s33.1,s33.2.1,s33.2.2))):Option (Fl ((List α)×Int×Int) Empty)))
   (fun s=>∃i j:Nat,s.2.1= ((i:Nat):Int)/\s.2.2= ((j:Nat):Int)/\i<j/\j<=l.length/\s.1.length=l.length/\s.1.take i= (l.take j).filter (fun x=> !p x)/\∀m,j<=m->s.1[m]? =l[m]?)
   (fun s=>l.length - s.2.2.toNat) (fun s=>∃i:Nat,s.2.1= ((i:Nat):Int)/\i<=l.length/\s.1.length=l.length/\s.1.take i=l.filter (fun x=> !p x)) (fun _=>True) (fun s ⟨i,j,e1,e2,hij,hj,hlen,ht,hd⟩=>by
    obtain⟨s,a,b⟩:=s
    dsimp only at e1 e2 hlen ht hd ⊢
    subst e1;subst e2
    by_cases hlt:j<l.length
    ·rw [bS (by rw [hlen];omega),aP]
     have hx:s[j]? =some l[j]:=by rw [hd j (bU _)];exact aO hlt
     have w1:IntKind.wrap .i64 (((j:Nat):Int)+1)= ((j+1:Nat):Int):=by rw [fz (by omega) (by omega)];omega
     have w2:IntKind.wrap .i64 (((i:Nat):Int)+1)= ((i+1:Nat):Int):=by rw [fz (by omega) (by omega)];omega
     have hs2:l.take (j+1)=l.take j++[l[j]]:=eC hlt
     rw [dM hx,aB,hφ _ (cN hlt),aB,w1]
     cases hp:p l[j] with
     | true=>
      refine⟨.nx (s,((i:Nat):Int),((j+1:Nat):Int)),by rw [nE,aR,aB],⟨i,j+1,rfl,rfl,by omega,by omega,hlen,?_,fun m hm=>hd m (by omega)⟩,?_⟩
      ·rw [hs2,kh,ht];simp [hp]
      ·simp only [cF];omega
     | false=>
      refine⟨.nx (s.set i l[j],((i+1:Nat):Int),((j+1:Nat):Int)),by rw [pT,aP,kY _ _ (by omega),aB,cF,w2,aB],⟨i+1,j+1,rfl,rfl,by omega,by omega,by simp [hlen],?_,fun m hm=>?_⟩,?_⟩
      ·rw [hs2,kh,<-ht]
       have: (s.set i l[j]).take (i+1)=s.take i++[l[j]]:=by
        rw [eC (by simp;omega),List.take_set_of_le (bU _)];simp
       rw [this];simp [hp]
      ·rw [fw,aG (by omega)];exact hd m (by omega)
      ·simp only [cF];omega
    ·rw [cD (by rw [hlen];omega),aR]
     have hje:j=l.length:=by omega
     subst hje
     rw [eQ] at ht
     exact⟨.br (s,((i:Nat):Int),((l.length:Nat):Int)),rfl,i,rfl,by omega,hlen,ht⟩)
   N (l,((k:Nat):Int),((k+1:Nat):Int)) ⟨k,k+1,rfl,rfl,by omega,by omega,rfl,by rw [hst,kh,hpre];simp [h3],fun _ _=>rfl⟩ (by simp only [cF];omega)
  rw [a1,aB]
  cases o with
  | rt r=>exact r.elim
  | go s=>
   obtain⟨i,e1,hi,hlen,ht⟩:=a2
   obtain⟨s,a,b⟩:=s
   dsimp only at e1 hlen ht
   subst e1
   simp only [Fo.cs]
   rw [o9 _ _ (by omega),aB,cF,qy _ _ (by simp;omega),aB,List.take_append_of_le_length (by simp;omega),List.take_take,Nat.min_self,ht]
end
section
variable {κ ν:Type} [DecidableEq κ]
theorem yo (m:List (κ×ν)) (k k':κ) (x z:ν):jy (vo m k x) k' z=if k'=k then x else jy m k' z:=by
 induction m with
 | nil=>unfold vo jy;by_cases h:k'=k <;> simp [h]
 | cons p m ih=>
  unfold vo
  by_cases h:k=p.1
  ·rw [aC h]
   by_cases h':k'=k
   ·subst h';simp [jy]
   ·simp only [jy,List.find?_cons,aG h',cD h']
    rw [cD (fun e=>h' (e.trans h.symm))]
  ·rw [aG h]
   by_cases h':k'=p.1
   ·have:k'≠k:=fun e=>h (e.symm.trans h')
    simp only [jy,List.find?_cons,bS h',aG this]
   ·unfold jy at ih ⊢
    simp only [List.find?_cons,cD h']
    exact ih
theorem F2 (m:List (κ×ν)) (k k':κ) (x:ν):tM (vo m k x) k'= (decide (k'=k)||tM m k'):=by
 induction m with
 | nil=>unfold vo tM;simp
 | cons p m ih=>
  unfold vo
  by_cases h:k=p.1
  ·rw [aC h]
   by_cases h':k'=k
   ·simp [tM,h']
   ·simp only [tM,List.any_cons,cD h',Bool.false_or]
    rw [cD (fun e=>h' (e.trans h.symm)),Bool.false_or]
  ·rw [aG h]
   unfold tM at ih ⊢
   simp only [List.any_cons]
   rw [ih]
   cases decide (k'=p.1) <;> cases decide (k'=k) <;> simp
end
end Go.Gk
namespace Go.Gk
open Go
section
variable {N:Nat}
theorem z9 (l:List Int) (a b:Nat) (h:a+b<l.length):Em l ((a:Nat):Int) ((b:Nat):Int)=some l[a+b]:=by
 unfold Em
 rw [aC (by omega),show ((a:Nat):Int)+ ((b:Nat):Int)= ((a+b:Nat):Int) by omega,kY _ _ h]
theorem jd.Hk {l:List Int} {a:Int} (h:jd l) (hl: ∀c∈l,c<a):jd (l++[a]):=by
 unfold jd
 rw [mQ]
 exact⟨h,List.pairwise_singleton _ _,fun c hc d hd=>by simp at hd;subst hd;exact hl c hc⟩
theorem jd.last {l:List Int} {a:Int} (h:jd l) (hl:l.getLast? =some a): ∀c∈l,c<=a:=by
 intro c hc
 have hs:=qI hl
 rw [hs] at h hc
 rcases cY.1 hc with h1 | h1
 ·have:=(mQ.1 h).2.2 c h1 a (by simp);omega
 ·simp at h1;omega
theorem Cj {l:List Int} (hs:l.Pairwise (fun x y=>x<=y)) (hl:l.length<=4611686018427387000) (hN:l.length<N):
  Ok (ij N l) (fun m=>jd m/\∀c,c∈m↔c∈l):=by
 unfold ij
 refine Ok.bif (fun h2=>Ok.ret ⟨?_,fun c=>Iff.rfl⟩) (fun h2=>?_)
 ·have h2:=of_decide_eq_true h2
  match l,h2 with
  | [],_=>exact jG
  | [a],_=>exact List.pairwise_singleton _ _
  | a::b::l,h2=>simp at h2;omega
 ·have h2:=of_decide_eq_false h2
  have le: ∀(i j:Nat) (x y:Int),i<j->l[i]? =some x->l[j]? =some y->x<=y:=fun i j x y hij hx hy=>by
   have:=mR.1 hs i j (bB.1 hx).1 (bB.1 hy).1 hij
   rw [(bB.1 hx).2,(bB.1 hy).2] at this;exact this
  refine Ok.bind (Ok.jE (Go:=fun _=>jd l) (Rt:=fun m=>jd m/\∀c,c∈m↔c∈l) (fun s=>∃k:Nat,s= ((k:Nat):Int)/\1<=k/\k<=l.length/\jd (l.take k)) (fun s=>l.length - s.toNat) ?_ ⟨1,rfl,bU _,by omega,?_⟩ (by simp;omega)) ?_
  ·rintro s ⟨k,rfl,hk1,hkl,hinc⟩
   refine Ok.bif (fun h=>?_) (fun h=>Ok.br ?_)
   ·have hk:k<l.length:=by have:=of_decide_eq_true h;omega
    refine Ok.idx hk ?_
    rw [jm hk1 (by omega)]
    refine Ok.idx (by omega) ?_
    refine Ok.bif (fun he=>?_) (fun he=>?_)
    ·have he:l[k]=l[k - 1]:=by simpa using he
     refine Ok.eq (o9 l k hkl) ?_
     refine Ok.bind (Ok.jE (Go:=fun s=>∃i:Nat,s.2.1= ((i:Nat):Int)/\i<=l.length/\s.1.length=l.length/\jd (s.1.take i)/\∀c,c∈s.1.take i↔c∈l) (Rt:=fun _=>True)
      (fun s=>∃i j:Nat,s.2.1= ((i:Nat):Int)/\s.2.2= ((j:Nat):Int)/\1<=j/\k+j<=l.length/\i<=k+j - 1/\s.1.length=l.length/\jd (s.1.take i)/\(s.1.take i).getLast? =l[k+j - 1]? /\
       (∀c,c∈s.1.take i↔c∈l.take (k+j))/\∀m,k+j - 1<=m->s.1[m]? =l[m]?) (fun s=>l.length - s.2.2.toNat) ?_ ?_ (by simp;omega)) ?_
     ·rintro⟨u,a,b⟩ ⟨i,j,e1,e2,hj,hjl,hij,hlen,hi,hlast,hmem,hrest⟩
      dsimp only at e1 e2 hlen hi hlast hmem hrest ⊢
      subst e1;subst e2
      rw [cF]
      refine Ok.bif (fun h=>?_) (fun h=>Ok.br ?_)
      ·have hlt:k+j<l.length:=by have:=of_decide_eq_true h;omega
       have hx:u[k+j]'(by omega)=l[k+j]:=by have:=hrest (k+j) (by omega);rw [aO (by omega),aO hlt] at this;injection this
       have hy:u[k+ (j - 1)]'(by omega)=l[k+ (j - 1)]:=by have:=hrest (k+ (j - 1)) (by omega);rw [aO (by omega),aO (by omega)] at this;injection this
       refine Ok.eq (z9 u k j (by omega)) ?_
       rw [jm hj (by omega)]
       refine Ok.eq (z9 u k (j - 1) (by omega)) ?_
       rw [hx,hy]
       have hts:l.take (k+j+1)=l.take (k+j)++[l[k+j]]:=eC hlt
       have hlast': (u.take i).getLast? =some l[k+ (j - 1)]:=by rw [hlast,show k+j - 1=k+ (j - 1) by omega,aO (by omega)]
       have hxy:l[k+ (j - 1)]<=l[k+j]:=le (k+ (j - 1)) (k+j) _ _ (by omega) (aO _) (aO _)
       refine Ok.bind (P:=fun s'=>s'.1.length=l.length/\∃i':Nat,s'.2= ((i':Nat):Int)/\i'<=k+j/\jd (s'.1.take i')/\(s'.1.take i').getLast? =l[k+j]? /\(∀c,c∈s'.1.take i'↔c∈l.take (k+j+1))/\∀m,k+j<=m->s'.1[m]? =l[m]?) ?_ ?_
       ·refine Ok.bif (fun hne=>?_) (fun hne=>Ok.ret ?_)
        ·have hne:l[k+j]≠l[k+ (j - 1)]:=by simpa using hne
         refine Ok.eq (z9 u k j (by omega)) ?_
         rw [hx]
         refine Ok.idx (by omega) (Ok.ret ⟨by simp [hlen],i+1,?_,by omega,?_⟩)
         ·rw [bN (by omega)]
         ·dsimp only
          rw [cF]
          have ht: (u.set i l[k+j]).take (i+1)=u.take i++[l[k+j]]:=by
           rw [eC (by simp;omega),List.take_set_of_le (bU _)];simp
          rw [ht]
          refine⟨hi.Hk fun c hc=>?_,by simp [aO hlt],fun c=>?_,fun m hm=>?_⟩
          ·have:=hi.last hlast' c hc;omega
          ·rw [hts,cY,cY,hmem]
          ·rw [fw,aG (by omega)];exact hrest m (by omega)
        ·have he:l[k+j]=l[k+ (j - 1)]:=by simpa using hne
         refine⟨hlen,i,rfl,by omega,hi,?_,fun c=>?_,fun m hm=>hrest m (by omega)⟩
         ·dsimp only;rw [hlast',aO hlt,he]
         ·rw [hts,cY,<-hmem]
          constructor
          ·exact .inl
          ·rintro(h | h)
           ·exact h
           ·simp at h;subst h
            rw [he];exact List.mem_of_getLast? hlast'
       ·rintro⟨v,a⟩ ⟨g1,i',g2,g3,g4,g5,g6,g7⟩
        dsimp only at g1 g2 g4 g5 g6 g7 ⊢
        refine Ok.nx ⟨⟨i',j+1,g2,?_,by omega,by omega,by omega,g1,g4,?_,g6,fun m hm=>g7 m (by omega)⟩,?_⟩
        ·rw [bN (by omega)]
        ·rw [show k+ (j+1) - 1=k+j by omega];exact g5
        ·rw [bN (by omega)];simp only [cF];omega
      ·have hge:k+j=l.length:=by have:=of_decide_eq_false h;omega
       refine⟨i,rfl,by omega,hlen,hi,fun c=>?_⟩
       rw [hmem,hge,eQ]
     ·refine⟨k,1,rfl,rfl,bU _,by omega,by omega,rfl,hinc,?_,fun c=>?_,fun m _=>rfl⟩
      ·dsimp only
       rw [show k+1 - 1=k by omega,aO hk,he,List.getLast?_eq_getElem?,cL,Nat.min_eq_left hkl,List.getElem?_take_of_lt (by omega),aO (by omega)]
      ·dsimp only
       rw [eC hk,cY]
       constructor
       ·exact .inl
       ·rintro(h | h)
        ·exact h
        ·simp at h;subst h;rw [he]
         refine eV (i:=k - 1) ?_
         rw [List.getElem?_take_of_lt (by omega),aO (by omega)]
     ·rintro o ho
      refine Ok.cs ho ?_ (fun r=>r.elim)
      rintro⟨u,a,b⟩ ⟨i,e1,hi,hlen,hinc',hmem⟩
      dsimp only at e1 hlen hinc' hmem ⊢
      subst e1
      refine Ok.eq (o9 u i (by omega)) ?_
      rw [cF]
      refine Ok.eq (qy _ i (by simp;omega)) (Ok.rt ?_)
      rw [List.take_append_of_le_length (by simp;omega),List.take_take,Nat.min_self]
      exact⟨hinc',hmem⟩
    ·have he:l[k]≠l[k - 1]:=by simpa using he
     refine Ok.nx ⟨⟨k+1,by rw [bN (by omega)],by omega,by omega,?_⟩,by rw [bN (by omega)];simp only [cF];omega⟩
     rw [eC hk]
     refine hinc.Hk fun c hc=>?_
     have hlast: (l.take k).getLast? =some l[k - 1]:=by
      rw [List.getLast?_eq_getElem?,cL,Nat.min_eq_left hkl,List.getElem?_take_of_lt (by omega),aO (by omega)]
     have h3:=hinc.last hlast c hc
     have h4:=le (k - 1) k _ _ (by omega) (aO (by omega:k - 1<l.length)) (aO hk)
     omega
   ·have hge:k=l.length:=by have:=of_decide_eq_false h;omega
    subst hge;rw [eQ] at hinc;exact hinc
  ·match l,h2 with
   | [],h2=>simp at h2
   | a::l,_=>exact List.pairwise_singleton _ _
  ·rintro o ho
   exact Ok.cs ho (fun s h=>Ok.ret ⟨h,fun c=>Iff.rfl⟩) (fun r h=>Ok.ret h)
def sw (l:List aI):List Int:=l.flatMap fun r=>[r.X0,r.X1]
def jw (l:List aI):List Int:=l.flatMap fun r=>[r.Y0,r.Y1]
theorem sA {l:List aI} {c:Int}:c∈sw l↔∃r∈l,c=r.X0\/c=r.X1:=by unfold sw;simp [List.mem_flatMap]
theorem lu {l:List aI} {c:Int}:c∈jw l↔∃r∈l,c=r.Y0\/c=r.Y1:=by unfold jw;simp [List.mem_flatMap]
theorem lM (l:List aI): (sw l).length=2*l.length:=by
 induction l with
 | nil=>rfl
 | cons r l ih=>unfold sw at *;simp [List.flatMap_cons,ih];omega
theorem jD (l:List aI): (jw l).length=2*l.length:=by
 induction l with
 | nil=>rfl
 | cons r l ih=>unfold jw at *;simp [List.flatMap_cons,ih];omega
def wF (X Y:List Int) (s:List Bd):Prop:=∀b∈s,b.y0∈Y/\b.y1∈Y/\∀c∈b.xs,c∈X
theorem wF.push {X Y:List Int} {s:List Bd} {b:Bd} (h:wF X Y s) (h0:b.y0∈Y) (h1:b.y1∈Y) (h2: ∀c∈b.xs,c∈X):wF X Y (jL s b):=by
 intro c hc
 unfold jL at hc
 split at hc
 ·exact h c hc
 ·split at hc
  ·rename_i d hd
   have hdm:d∈s:=List.mem_of_getLast? hd
   split at hc
   ·rcases cY.1 hc with hc | hc
    ·exact h c (List.dropLast_subset _ hc)
    ·simp at hc;subst hc;exact⟨(h d hdm).1,h1,(h d hdm).2.2⟩
   ·rcases cY.1 hc with hc | hc
    ·exact h c hc
    ·simp at hc;subst hc;exact⟨h0,h1,h2⟩
  ·simp at hc;subst hc;exact⟨h0,h1,h2⟩
theorem jd.nodup {l:List Int} (h:jd l):l.Nodup:=List.Pairwise.imp (fun h=>by omega) h
theorem wF.row {X Y:List Int} {s:List Bd} (h:wF X Y s) (hc:eT s) {b:Bd} (hb:b∈s):b.xs.length<=X.length:=fR (hc.each b hb).2.2.1.nodup (h b hb).2.2
theorem wF.len {X Y:List Int} {s:List Bd} (h:wF X Y s) (hc:eT s):s.length<=Y.length:=by
 have hn: (s.map Bd.y0).Nodup:=by
  unfold List.Nodup
  rw [List.pairwise_map]
  refine List.Pairwise.imp_of_mem (fun{a b} ha hb hab=>?_) hc.ord
  have:=(hc.each a ha).1
  have:=hab.1
  omega
 have:=fR hn (m:=Y) (fun x hx=>by
  obtain⟨b,hb,rfl⟩:=dG.1 hx
  exact(h b hb).1)
 rwa [cV] at this
theorem wF.mono {X Y X' Y':List Int} {s:List Bd} (h:wF X Y s) (hx: ∀c∈X,c∈X') (hy: ∀c∈Y,c∈Y'):wF X' Y' s:=fun b hb=>⟨hy _ (h b hb).1,hy _ (h b hb).2.1,fun c hc=>hx c ((h b hb).2.2 c hc)⟩
theorem F3 (s:List Bd) (b:Bd): (jL s b).length<=s.length+1:=by
 unfold jL
 split
 ·omega
 ·split
  ·rename_i d hd
   have hsp:=qI hd
   have:s.length=s.dropLast.length+1:=by
    conv=>lhs;rw [hsp]
    simp
   split <;> simp <;> omega
  ·simp
theorem jd.lt {l:List Int} (h:jd l) {i j:Nat} {x y:Int} (hij:i<j) (hx:l[i]? =some x) (hy:l[j]? =some y):x<y:=by
 have:=mR.1 h i j (bB.1 hx).1 (bB.1 hy).1 hij
 rw [(bB.1 hx).2,(bB.1 hy).2] at this;exact this
theorem jd.next {l:List Int} (h:jd l) {k:Nat} {x y c:Int} (hx:l[k]? =some x) (hy:l[k+1]? =some y) (hc:c∈l) (hxc:x<c):y<=c:=by
 obtain⟨j,hj⟩:=dV hc
 rcases Nat.lt_trichotomy j (k+1) with h1 | h1 | h1
 ·exfalso
  by_cases e:j=k
  ·subst e;rw [hx] at hj;injection hj with hj;omega
  ·have:=h.lt (show j<k by omega) hj hx;omega
 ·subst h1;rw [hy] at hj;injection hj with hj;omega
 ·have:=h.lt h1 hy hj;omega
theorem wu {l:List aI} {φ:aI->Option Bool} (p:aI->Bool) (hφ: ∀x∈l,φ x=some (p x)) (hl:l.length<=4611686018427387000) (hN:l.length<N):iO N l φ=some (l.filter (fun x=> !p x)):=
 Hj (z:=(⟨0,0,0,0⟩:aI)) p hφ hl hN
theorem A7 {l:List aI} (hl:l.length<=268435456):jH N l=some l:=by
 unfold jH;rw [kJ (by simp;omega),aB,List.nil_append]
structure Lu (l m:List aI) (ys:List Int) (k:Nat) (out:List aA) (now:List aI) (nx:Nat):Prop where
 can:eT (out.map bY)
 top: ∀c∈out,∀y,ys[k]? =some y->c.Y1<=y
 cover: ∀x y,t5 (out.map bY) x y= (sj l x y&&decide (∀a,ys[k]? =some a->y<a))
 lim:wF (sw l) (jw l) (out.map bY)
 Nq: ∀r∈now,r∈m.take nx
 Nr: ∀r∈m.take nx,∀y,ys[k]? =some y->y<r.Y1->r∈now
 len:now.length<=nx
 M3:nx<=m.length
 rest: ∀(j:Nat) r y,nx<=j->m[j]? =some r->ys[k]? =some y->y<=r.Y0
 low: ∀r∈now,∀y,ys[k]? =some y->r.Y0<=y
theorem It {l m:List aI} (h: ∀r,r∈l↔r∈m) (x y:Int):sj l x y=sj m x y:=by
 rw [fu,iU,iU]
 constructor
 ·rintro⟨r,hr,h1⟩;exact⟨r,(h r).1 hr,h1⟩
 ·rintro⟨r,hr,h1⟩;exact⟨r,(h r).2 hr,h1⟩
structure sB (l:List aI) (s:List aA):Prop where
 can:eT (s.map bY)
 cover: ∀x y,t5 (s.map bY) x y=sj l x y
 lim:wF (sw l) (jw l) (s.map bY)
theorem oT {l:List aI} (hl:l.length<=134217728) (hok: ∀r∈l,AU r) (hN:4294967296<=N):Ok (iz N l) (sB l):=by
 unfold iz
 refine Ok.eq (A7 (by omega)) ?_
 obtain⟨m,h1,h2,h3⟩:=zW (φ:=j5 N) (l:=l) (fun a b=>a.Y0 - b.Y0) (fun a ha b hb=>by
  unfold j5;rw [wrap_small (hok a ha).s3 (hok b hb).s3]) (fun a _=>by omega) (fun a _ b _ c _ h1 h2=>by omega) (fun a _ b _ c _ h1 h2=>by omega) (by omega)
 refine Ok.eq h1 ?_
 have hml:m.length=l.length:=h2.length_eq
 have hmem: ∀r,r∈m↔r∈l:=fun r=>h2.mem_iff
 refine Ok.bind (Ok.nn (fun k s=>s=jw (m.take k)) (by omega) rfl (fun k s hk e=>?_)) ?_
 ·subst e
  refine Ok.idx hk (Ok.app ?_ (Ok.ret ?_))
  ·rw [jD];simp;omega
  ·rw [eC hk]
   unfold jw;rw [List.flatMap_append];rfl
 rintro s rfl
 rw [eQ]
 have hgs:ue (jw m)=some ((jw m).mergeSort (fun x y=>decide (x<=y))):=by unfold ue;rw [aC (by rw [jD];omega)]
 refine Ok.eq hgs ?_
 have hsp: ((jw m).mergeSort (fun x y=>decide (x<=y))).Pairwise (fun x y=>x<=y):=by
  have:=List.pairwise_mergeSort (le:=fun(x y:Int)=>decide (x<=y)) (fun a b c h1 h2=>by simp at *;omega) (fun a b=>by simp;omega) (jw m)
  exact List.Pairwise.imp (fun h=>by simpa using h) this
 have hsm: ∀c,c∈(jw m).mergeSort (fun x y=>decide (x<=y))↔c∈jw m:=fun c=>List.mem_mergeSort
 have hsl: ((jw m).mergeSort (fun x y=>decide (x<=y))).length=2*m.length:=by rw [List.length_mergeSort,jD]
 generalize (jw m).mergeSort (fun x y=>decide (x<=y))=sy at hsp hsm hsl
 refine Ok.bind (Cj (N:=N) hsp (by omega) (by omega)) ?_
 rintro ys ⟨hy,hym⟩
 have hyl:ys.length<=2*m.length:=by
  have:=fR hy.nodup (m:=sy) (fun c hc=>(hym c).1 hc)
  omega
 have y0m: ∀r∈m,r.Y0∈ys:=fun r hr=>(hym _).2 ((hsm _).2 (lu.2 ⟨r,hr, .inl rfl⟩))
 have y1m: ∀r∈m,r.Y1∈ys:=fun r hr=>(hym _).2 ((hsm _).2 (lu.2 ⟨r,hr, .inr rfl⟩))
 have yml: ∀c∈ys,c∈jw l:=fun c hc=>by
  obtain⟨r,hr,h⟩:=lu.1 ((hsm _).1 ((hym _).1 hc))
  exact lu.2 ⟨r,(hmem r).1 hr,h⟩
 refine Ok.bind (Ok.jE (Go:=fun s=>sB l s.1) (Rt:=fun _=>True) (fun s=>∃k nx:Nat,s.2.2.2= ((k:Nat):Int)/\s.2.2.1= ((nx:Nat):Int)/\(k<ys.length\/k=0)/\Lu l m ys k s.1 s.2.1 nx) (fun s=>ys.length - s.2.2.2.toNat) ?_ ?_ (by simp;omega)) ?_
 ·rintro⟨out,now,a,b⟩ ⟨k,nx,e1,e2,hk,I⟩
  dsimp only at e1 e2 I ⊢
  subst e1;subst e2
  rw [bN (by omega)]
  refine Ok.bif (fun h=>?_) (fun h=>Ok.br ?_)
  ·have hk1:k+1<ys.length:=by have:=of_decide_eq_true h;omega
   have hyk:ys[k]? =some ys[k]:=aO _
   have hyk1:ys[k+1]? =some ys[k+1]:=aO hk1
   have hlt:=hy.lt (Nat.lt_succ_self k) hyk hyk1
   have hcov:=I.cover
   simp only [hyk,Option.some.injEq,forall_eq'] at hcov
   refine Ok.eq (wu (fun r=>decide (r.Y1<=ys[k])) (fun r _=>by unfold ou;rw [kY ys k (by omega),aB]) (by have:=I.len;have:=I.M3;omega) (by have:=I.len;have:=I.M3;omega)) ?_
   have hfl:=l9 (fun r:aI=> !decide (r.Y1<=ys[k])) now
   have hIl:=I.len
   have hIn:=I.M3
   refine Ok.bind (Ok.jE (Go:=fun s=>∃nx':Nat,s.2= ((nx':Nat):Int)/\nx'<=m.length/\s.1.length<=nx'/\(∀r∈s.1,r∈m.take nx')/\(∀r∈m.take nx',ys[k]<r.Y1->r∈s.1)/\(∀r∈s.1,r.Y0<=ys[k]/\ys[k]<r.Y1)/\(∀(j:Nat) r,nx'<=j->m[j]? =some r->ys[k]<r.Y0)) (Rt:=fun _=>True)
    (fun s=>∃nx':Nat,s.2= ((nx':Nat):Int)/\nx<=nx'/\nx'<=m.length/\s.1.length<=nx'/\(∀r∈s.1,r∈m.take nx')/\(∀r∈m.take nx',ys[k]<r.Y1->r∈s.1)/\(∀r∈s.1,r.Y0<=ys[k]/\ys[k]<r.Y1)) (fun s=>m.length - s.2.toNat) ?_ ?_ (by simp;omega)) ?_
   ·rintro⟨nw,b⟩ ⟨nx',e1,g0,g1,g2,g3,g4,g5⟩
    dsimp only at e1 g2 g3 g4 g5 ⊢
    subst e1
    refine Ok.bind (P:=fun b=>b=true↔∃h:nx'<m.length,m[nx'].Y0<=ys[k]) ?_ ?_
    ·refine Ok.bif (fun h=>?_) (fun h=>Ok.ret ?_)
     ·have hlt:nx'<m.length:=by have:=of_decide_eq_true h;omega
      refine Ok.idx hlt (Ok.idx (by omega) (Ok.ret ?_))
      rw [bR];exact⟨fun h=>⟨hlt,h⟩,fun⟨_,h⟩=>h⟩
     ·have:=of_decide_eq_false h
      constructor
      ·intro h;cases h
      ·rintro⟨h,_⟩;omega
    ·intro bb hbb
     refine Ok.bif (fun h=>?_) (fun h=>Ok.br ?_)
     ·obtain⟨hlt,h0⟩:=hbb.1 h
      have hts:m.take (nx'+1)=m.take nx'++[m[nx']]:=eC hlt
      refine Ok.idx hlt (Ok.app (by simp;omega) (Ok.nx ⟨⟨nx'+1,by rw [bN (by omega)],by omega,by omega,by simp;omega,fun r hr=>?_,fun r hr hr2=>?_,fun r hr=>?_⟩,by rw [bN (by omega)];simp only [cF];omega⟩))
      ·rw [hts]
       rcases cY.1 hr with h | h
       ·exact List.mem_append_left _ (g3 r h)
       ·exact List.mem_append_right _ h
      ·rw [hts] at hr
       rcases cY.1 hr with h | h
       ·exact List.mem_append_left _ (g4 r h hr2)
       ·exact List.mem_append_right _ h
      ·rcases cY.1 hr with h | h
       ·exact g5 r h
       ·simp at h;subst h
        refine⟨h0,?_⟩
        have:=(hok m[nx'] ((hmem _).1 (cN hlt))).y
        have:=I.rest nx' _ ys[k] g0 (aO hlt) hyk
        omega
     ·refine⟨nx',rfl,g1,g2,g3,g4,g5,fun j r hj hr=>?_⟩
      have hjl:=(bB.1 hr).1
      have hlt:nx'<m.length:=by omega
      have h0: ¬m[nx'].Y0<=ys[k]:=fun h0=>by rw [hbb.2 ⟨hlt,h0⟩] at h;cases h
      by_cases e:nx'=j
      ·subst e;rw [aO hlt] at hr;injection hr with hr;subst hr;omega
      ·have:=mR.1 h3 nx' j hlt hjl (by omega)
       have hr':=(bB.1 hr).2
       rw [hr'] at this;omega
   ·refine⟨nx,rfl,bU _,hIn,by dsimp only;omega,fun r hr=>I.Nq r (i7.1 hr).1,fun r hr h=>i7.2 ⟨I.Nr r hr ys[k] hyk h,by simpa using h⟩,fun r hr=>?_⟩
    have hr:=i7.1 hr
    have hr2:ys[k]<r.Y1:=by simpa using hr.2
    exact⟨I.low r hr.1 ys[k] hyk,hr2⟩
   ·rintro o ho
    refine Ok.cs ho ?_ (fun r=>r.elim)
    rintro⟨nw,b⟩ ⟨nx',e1,g1,g2,g3,g4,g5,g6⟩
    dsimp only at e1 g2 g3 g4 g5 ⊢
    subst e1
    refine Ok.idx (by omega) (Ok.idx hk1 ?_)
    have hnm: ∀r∈nw,r∈l:=fun r hr=>(hmem r).1 (List.take_subset _ _ (g3 r hr))
    obtain⟨row,nw',s1,s2,s3,s4,s5,s6,s7⟩:=Cg (N:=N) (l:=nw) (by omega) (fun r hr=>hok r (hnm r hr))
    refine Ok.eq s1 ?_
    have hlimx: ∀c∈row,c∈sw l:=fun c hc=>by
     obtain⟨r,hr,h⟩:=s7 c hc
     exact sA.2 ⟨r,hnm r hr,h⟩
    have hol:out.length<=2*l.length:=by have:=I.lim.len I.can;rw [jD,cV] at this;exact this
    have hox: ∀c∈out,c.Xs.length<=2*l.length:=fun c hc=>by
     have:=I.lim.row I.can (b:=bY c) (dG.2 ⟨c,hc,rfl⟩)
     rw [lM] at this;exact this
    obtain⟨out',p1,p2⟩:=Fi (N:=N) (s:=out) (b:=⟨ys[k],ys[k+1],row⟩) (by omega) (fun c hc=>by have:=hox c hc;omega)
    refine Ok.eq p1 ?_
    have htop: ∀c∈out.map bY,c.y1<=(bY ⟨ys[k],ys[k+1],row⟩).y0:=fun c hc=>by
     obtain⟨d,hd,rfl⟩:=dG.1 hc
     exact I.top d hd ys[k] hyk
    have hcan:=u9 I.can htop s3 s4
    refine Ok.nx ⟨⟨k+1,nx',rfl,rfl, .inl hk1,⟨by dsimp only;rw [p2];exact hcan,fun c hc y hy1=>?_,fun x y=>?_,?_,fun r hr=>g3 r (s2.subset hr),fun r hr y hy1 h=>?_,by rw [s2.length_eq];exact g2,g1,fun j r y hj hr hy1=>?_,fun r hr y hy1=>?_⟩⟩,by simp only [cF];omega⟩
    ·rw [hyk1] at hy1;injection hy1 with hy1;subst hy1
     have hm':bY c∈jL (out.map bY) (bY ⟨ys[k],ys[k+1],row⟩):=by rw [<-p2];exact dG.2 ⟨c,hc,rfl⟩
     exact va htop (by show ys[k]<=ys[k+1];omega) _ hm'
    ·simp only [hyk1,Option.some.injEq,forall_eq']
     unfold t5
     rw [p2,u7 htop (fun c hc=>(I.can.each c hc).1) (fun h=>absurd h (by show ¬ys[k+1]<=ys[k];omega))]
     by_cases hyy:ys[k]<=y/\y<ys[k+1]
     ·rw [aC (show (bY ⟨ys[k],ys[k+1],row⟩).y0<=y/\y< (bY ⟨ys[k],ys[k+1],row⟩).y1 from hyy),bS hyy.2,Bool.and_true]
      show oN row x=_
      rw [s5,fu,z7,iU]
      constructor
      ·rintro⟨r,hr,h⟩
       have hrm:=List.take_subset _ _ (g3 r hr)
       have h5:=g5 r hr
       have:=hy.next hyk hyk1 (y1m r hrm) h5.2
       exact⟨r,hnm r hr,h,by omega,by omega⟩
      ·rintro⟨r,hr,h,h7,h8⟩
       have hrm:=(hmem r).2 hr
       have h9:r.Y0<=ys[k]:=by
        by_cases h10:r.Y0<=ys[k]
        ·exact h10
        ·have:=hy.next hyk hyk1 (y0m r hrm) (by omega);omega
       have h11:r∈m.take nx':=by
        obtain⟨j,hj⟩:=dV hrm
        by_cases h12:j<nx'
        ·exact eV (i:=j) (by rw [List.getElem?_take_of_lt h12];exact hj)
        ·have:=g6 j r (by omega) hj;omega
       exact⟨r,g4 r h11 (by omega),h⟩
     ·rw [aG (show ¬((bY ⟨ys[k],ys[k+1],row⟩).y0<=y/\y< (bY ⟨ys[k],ys[k+1],row⟩).y1) from hyy)]
      show t5 (out.map bY) x y=_
      rw [hcov]
      by_cases h1:y<ys[k]
      ·rw [bS h1,bS (show y<ys[k+1] by omega)]
      ·rw [cD h1,cD (show ¬y<ys[k+1] by omega)]
    ·show wF (sw l) (jw l) (out'.map bY)
     rw [p2]
     exact I.lim.push (yml _ (cN _)) (yml _ (cN _)) hlimx
    ·rw [hyk1] at hy1;injection hy1 with hy1;subst hy1
     exact s2.symm.subset (g4 r hr (by omega))
    ·rw [hyk1] at hy1;injection hy1 with hy1;subst hy1
     exact hy.next hyk hyk1 (y0m r (eV hr)) (g6 j r hj hr)
    ·rw [hyk1] at hy1;injection hy1 with hy1;subst hy1
     have:=(g5 r (s2.subset hr)).1;omega
  ·have hge: ¬k+1<ys.length:=by have:=of_decide_eq_false h;omega
   refine⟨I.can,fun x y=>?_,I.lim⟩
   rw [I.cover]
   by_cases hyn:ys= []
   ·have:sj l x y=false:=by
     rw [<-jU,iU]
     rintro⟨r,hr,_⟩
     have:=y0m r ((hmem r).2 hr)
     rw [hyn] at this;cases this
    rw [this];rfl
   ·have hkl:k<ys.length:=by
     rcases hk with h | h
     ·exact h
     ·subst h;exact List.length_pos_iff.2 hyn
    rw [aO hkl]
    simp only [Option.some.injEq,forall_eq']
    cases hc:sj l x y with
    | false=>rfl
    | true=>
     obtain⟨r,hr,_,h7,h8⟩:=iU.1 hc
     have:=y1m r ((hmem r).2 hr)
     obtain⟨j,hj⟩:=dV this
     have hjl:=(bB.1 hj).1
     have:r.Y1<=ys[k]:=by
      by_cases e:j=k
      ·subst e;rw [aO hkl] at hj;injection hj with hj;omega
      ·have:=hy.lt (show j<k by omega) hj (aO hkl);omega
     rw [bS (show y<ys[k] by omega)];rfl
 ·refine⟨0,0,rfl,rfl, .inr rfl,?_⟩
  show Lu l m ys 0 [] [] 0
  refine⟨eT.nil,fun c hc=>(by cases hc),fun x y=>?_,fun b hb=>(by cases hb),fun r hr=>(by cases hr),fun r hr=>(by rw [List.take_zero] at hr;cases hr),bU _,dH _,fun j r y _ hr hy0=>?_,fun r hr=>(by cases hr)⟩
  ·show false=_
   symm
   rw [Bool.and_eq_false_iff]
   cases hc:sj l x y with
   | false=>exact .inl rfl
   | true=>
    right
    obtain⟨r,hr,_,h7,h8⟩:=iU.1 hc
    have hr0:=y0m r ((hmem r).2 hr)
    have hpos:0<ys.length:=List.length_pos_of_mem hr0
    rw [decide_eq_false_iff_not]
    intro h
    have h:=h ys[0] (aO hpos)
    obtain⟨j,hj⟩:=dV hr0
    by_cases e:j=0
    ·subst e;rw [aO hpos] at hj;injection hj with hj;omega
    ·have:=hy.lt (show 0<j by omega) (aO hpos) hj;omega
  ·obtain⟨j',hj'⟩:=dV (y0m r (eV hr))
   by_cases e:j'=0
   ·subst e;rw [hy0] at hj';injection hj' with hj';omega
   ·have:=hy.lt (show 0<j' by omega) hy0 hj';omega
 ·rintro o ho
  refine Ok.cs ho (fun s h=>Ok.ret h) (fun r=>r.elim)
end
end Go.Gk
namespace Go.Gk
open Go
section
variable {N:Nat}
def Aa:List Int->List (Int×Int)
 | a::b::l=>(a,b)::Aa l
 | _=>[]
theorem zy: ∀(xs:List Int),(Aa xs).length=xs.length / 2
 | []=>rfl
 | [a]=>by simp [Aa]
 | a::b::l=>by unfold Aa;rw [dN,zy l];simp only [dN];omega
theorem xy: ∀(xs:List Int) (j:Nat) (h:2*j+1<xs.length),(Aa xs)[j]? =some (xs[2*j],xs[2*j+1])
 | [],j,h=>by simp at h
 | [a],j,h=>by simp at h
 | a::b::l,0,h=>rfl
 | a::b::l,j+1,h=>by
  have:=xy l j (by simp at h;omega)
  unfold Aa
  rw [List.getElem?_cons_succ,this]
  have e1: (a::b::l)[2* (j+1)]=l[2*j]'(by simp at h;omega):=by simp [show 2* (j+1)=2*j+1+1 by omega]
  have e2: (a::b::l)[2* (j+1)+1]=l[2*j+1]'(by simp at h;omega):=by simp [show 2* (j+1)+1=2*j+1+1+1 by omega]
  rw [e1,e2]
theorem xz: ∀{xs:List Int},xs.length % 2=0->dD (Aa xs)=xs
 | [],_=>rfl
 | [a],h=>by simp at h
 | a::b::l,h=>by unfold Aa;rw [jr,xz (by simp at h;omega)]
theorem Iu {xs:List Int} (h:jd xs) (he:xs.length % 2=0) (x:Int):oN xs x=jq (Aa xs) x:=by
 have:=sq (l:=Aa xs) (by rw [xz he];exact h) x
 rwa [xz he] at this
theorem Ck {xs:List Int}: ∀p∈Aa xs,p.1∈xs/\p.2∈xs:=by
 intro p hp
 obtain⟨j,hj⟩:=dV hp
 have hjl:=(bB.1 hj).1
 rw [zy] at hjl
 rw [xy xs j (by omega)] at hj
 injection hj with hj;subst hj
 exact⟨cN _,cN _⟩
theorem EA {xs:List Int} (h:jd xs): ∀p∈Aa xs,p.1<p.2:=by
 intro p hp
 obtain⟨j,hj⟩:=dV hp
 have hjl:=(bB.1 hj).1
 rw [zy] at hjl
 rw [xy xs j (by omega)] at hj
 injection hj with hj;subst hj
 exact h.lt (show 2*j<2*j+1 by omega) (aO _) (aO _)
def mG (b:aA):List aI:=(Aa b.Xs).map fun p=>⟨p.1,b.Y0,p.2,b.Y1⟩
def aS (s:List aA):List aI:=s.flatMap mG
theorem mH (b:aA) (s:List aA):aS (b::s)=mG b++aS s:=rfl
theorem m7 (b:aA): (mG b).length=b.Xs.length / 2:=by unfold mG;rw [cV,zy]
theorem nB (s t:List aA):aS (s++t)=aS s++aS t:=List.flatMap_append
theorem yp (s:List aA) (k:Nat): (aS (s.take k)).length<=(aS s).length:=by
 conv=>rhs;rw [<-List.take_append_drop k s,nB,cZ]
 omega
theorem Ab {s:List aA} {A B:Nat} (h1:s.length<=A) (h2: ∀b∈s,b.Xs.length<=B): (aS s).length<=A*B:=by
 induction s generalizing A with
 | nil=>simp [aS]
 | cons b s ih=>
  rw [mH,cZ,m7]
  simp at h1
  obtain⟨A',rfl⟩: ∃A',A=A'+1:=⟨A - 1,by omega⟩
  have:=ih (A:=A') (by omega) (fun c hc=>h2 c (hZ _ hc))
  have:=h2 b (by simp)
  rw [Nat.add_mul];omega
theorem Ac {s:List aA} (he: ∀b∈s,b.Xs.length % 2=0) (h1:s.length<=1099511627776) (h2: ∀b∈s,b.Xs.length<=1099511627776/\b.Xs.length<N) (h3: (aS s).length<=1099511627776):jO N s=some (aS s):=by
 refine Ok.get ?_
 unfold jO
 refine Ok.bind (Ok.nn (fun k t=>t=aS (s.take k)) (by omega) rfl (fun k t hk e=>?_)) (fun t e=>Ok.ret (by rw [e,eQ]))
 subst e
 refine Ok.idx hk ?_
 have hm:=cN hk
 generalize hb:s[k]=b at hm ⊢
 have heb:=he b hm
 have hbl:=h2 b hm
 have hts:aS (s.take (k+1))=aS (s.take k)++mG b:=by
  rw [eC hk,nB,hb];simp [aS]
 have hle:=yp s (k+1)
 rw [hts,cZ,m7] at hle
 refine Ok.bind (Ok.jE (Go:=fun s'=>s'.1=aS (s.take (k+1))) (Rt:=fun _=>True) (fun s'=>∃j:Nat,s'.2= ((2*j:Nat):Int)/\2*j<=b.Xs.length/\s'.1=aS (s.take k)++(mG b).take j) (fun s'=>b.Xs.length - s'.2.toNat) ?_ ⟨0,rfl,by omega,by simp⟩ (by simp;omega)) ?_
 ·rintro⟨acc,i⟩ ⟨j,e1,hj,e2⟩
  dsimp only at e1 e2 ⊢
  subst e1;subst e2
  refine Ok.bif (fun h=>?_) (fun h=>Ok.br ?_)
  ·have hlt:2*j+1<b.Xs.length:=by have:=of_decide_eq_true h;omega
   refine Ok.idx (by omega) ?_
   rw [bN (by omega)]
   refine Ok.idx hlt (Ok.app ?_ (Ok.nx ⟨⟨j+1,?_,by omega,?_⟩,?_⟩))
   ·simp;rw [m7];omega
   ·rw [BB (by omega)];congr 1
   ·rw [kC]
    congr 1
    have hg: (mG b)[j]? =some ⟨b.Xs[2*j],b.Y0,b.Xs[2*j+1],b.Y1⟩:=by
     unfold mG;rw [gG,xy _ _ hlt];rfl
    have hjl:=(bB.1 hg).1
    rw [eC hjl,(bB.1 hg).2]
   ·rw [BB (by omega)];simp only [cF];omega
  ·have hge:2*j=b.Xs.length:=by have:=of_decide_eq_false h;omega
   show aS (s.take k)++(mG b).take j=_
   rw [hts,kV (l:=mG b) (by rw [m7];omega)]
 ·rintro o ho
  exact Ok.cs ho (fun s' h=>Ok.ret h) (fun r=>r.elim)
theorem Iv {s:List aA} (h1:s.length<=1099511627776) (h2: ∀b∈s,b.Xs.length<=1099511627776) (h3: (aS s).length<=1099511627776):mu N s=some (((aS s).length:Nat):Int):=by
 refine Ok.get ?_
 unfold mu
 refine Ok.bind (Ok.nn (fun k t=>t= (((aS (s.take k)).length:Nat):Int)) (by omega) rfl (fun k t hk e=>?_)) (fun t e=>Ok.ret (by rw [e,eQ]))
 subst e
 refine Ok.idx hk (Ok.ret ?_)
 have hm:=cN hk
 have hbl:=h2 _ hm
 have hts:aS (s.take (k+1))=aS (s.take k)++mG s[k]:=by
  rw [eC hk,nB];simp [aS]
 have hle:=yp s (k+1)
 rw [hts,cZ,m7] at hle
 have e:Int.tdiv ((s[k].Xs.length:Nat):Int) 2= ((s[k].Xs.length / 2:Nat):Int):=by
  rw [show (2:Int)= ((2:Nat):Int) by rfl,<-Int.ofNat_tdiv]
 rw [e,Dv (by omega),wrap_add (by omega),hts,cZ,m7]
theorem EB (l m:List aI) (x y:Int):sj (l++m) x y= (sj l x y||sj m x y):=List.any_append
theorem Hl {b:aA} (h:jd b.Xs) (he:b.Xs.length % 2=0) (x y:Int):sj (mG b) x y= (oN b.Xs x&&(decide (b.Y0<=y)&&decide (y<b.Y1))):=by
 rw [Iu h he,fu,iU,bW,sm,bW,bR,bR]
 unfold mG
 constructor
 ·rintro⟨r,hr,h1,h2⟩
  obtain⟨p,hp,rfl⟩:=dG.1 hr
  exact⟨⟨p,hp,h1⟩,h2⟩
 ·rintro⟨⟨p,hp,h1⟩,h2⟩
  exact⟨_,dG.2 ⟨p,hp,rfl⟩,h1,h2⟩
theorem oU: ∀{s:List aA},eT (s.map bY)->∀x y,sj (aS s) x y=t5 (s.map bY) x y
 | [],_,x,y=>rfl
 | b::s,h,x,y=>by
  rw [mH,EB,oU h.tail x y]
  have hb:=h.each (bY b) (by simp)
  rw [Hl hb.2.2.1 hb.2.2.2]
  unfold t5
  rw [dZ,mE]
  by_cases hy:b.Y0<=y/\y<b.Y1
  ·rw [aC (show (bY b).y0<=y/\y< (bY b).y1 from hy),lG (fun c hc=> .inl (by have:=h.z5 c hc;have e: (bY b).y1=b.Y1:=rfl;omega)),bS hy.1,bS hy.2]
   show (oN b.Xs x&&true||false)=oN b.Xs x
   simp
  ·rw [aG (show ¬((bY b).y0<=y/\y< (bY b).y1) from hy)]
   have: (decide (b.Y0<=y)&&decide (y<b.Y1))=false:=by rw [Bool.and_eq_false_iff,decide_eq_false_iff_not,decide_eq_false_iff_not];omega
   rw [this];simp
theorem qp {s:List aA} {r:aI} (h:r∈aS s): ∃b∈s,∃p∈Aa b.Xs,r= ⟨p.1,b.Y0,p.2,b.Y1⟩:=by
 unfold aS mG at h
 obtain⟨b,hb,h⟩:=List.mem_flatMap.1 h
 obtain⟨p,hp,rfl⟩:=dG.1 h
 exact⟨b,hb,p,hp,rfl⟩
theorem Ad {s:List aA} {X Y:List Int} (h:eT (s.map bY)) (hl:wF X Y (s.map bY)) (hx: ∀c∈X,small c) (hy: ∀c∈Y,small c): ∀r∈aS s,AU r/\(r.X0∈X/\r.X1∈X)/\r.Y0∈Y/\r.Y1∈Y:=by
 intro r hr
 obtain⟨b,hb,p,hp,rfl⟩:=qp hr
 have hm:bY b∈s.map bY:=dG.2 ⟨b,hb,rfl⟩
 have hc:=h.each _ hm
 have hll:=hl _ hm
 have h1:=Ck p hp
 have h2:=hll.2.2 p.1 h1.1
 have h3:=hll.2.2 p.2 h1.2
 exact⟨⟨EA hc.2.2.1 p hp,hc.1,hx _ h2,hx _ h3,hy _ hll.1,hy _ hll.2.1⟩,⟨h2,h3⟩,hll.1,hll.2.1⟩
theorem wv {l:List Int} {x:Int} (h: ∀c∈l,c<=x):oN l x= (l.length % 2==1):=by unfold oN;rw [Fg h]
theorem yq {l:List Int} {a x:Int} (h:x<a):oN (l++[a]) x=oN l x:=by unfold oN;rw [zX,pw,aG (by omega),Ff];rfl
def F4 (l:List Int):Bool:=l.length % 2==1
theorem Ae (l:List Int) (a:Int):F4 (l++[a]) = !F4 l:=by
 unfold F4
 rw [cZ,fu,Bool.not_eq_true',beq_iff_eq,beq_eq_false_iff_ne]
 simp;omega
structure Dw (gO:Bool->Bool->Bool) (a b a' b' out:List Int) (inA inB is:Bool) (pa pb:List Int):Prop where
 ea:a=pa++a'
 eb:b=pb++b'
 oa:inA=F4 pa
 ob:inB=F4 pb
 oo:is=F4 out
 ok:is=gO inA inB
 low: ∀c,(c∈pa\/c∈pb\/c∈out)->∀d,(d∈a'\/d∈b')->c<d
 inc:jd out
 Lv: ∀x,(∀d,(d∈a'\/d∈b')->x<d)->oN out x=gO (oN pa x) (oN pb x)
 mem: ∀c∈out,c∈pa\/c∈pb
 len:out.length<=pa.length+pb.length
theorem Dw.step {gO:Bool->Bool->Bool} {a b a' b' out:List Int} {inA inB is:Bool} {pa pb:List Int} (I:Dw gO a b a' b' out inA inB is pa pb) (ha:jd a) (hb:jd b) (x:Int) (ta tb:List Int) (wa wb:Bool)
  (h1:a'= (if wa then x::ta else ta)) (h2:b'= (if wb then x::tb else tb)) (hw:wa=true\/wb=true) (hx: ∀d,(d∈ta\/d∈tb)->x<d):
  Dw gO a b ta tb (if gO (inA ^^ wa) (inB ^^ wb)=is then out else out++[x]) (inA ^^ wa) (inB ^^ wb) (gO (inA ^^ wa) (inB ^^ wb)) (if wa then pa++[x] else pa) (if wb then pb++[x] else pb):=by
 have hxm:x∈a'\/x∈b':=by
  rcases hw with h | h
  ·left;rw [h1,aC h];simp
  ·right;rw [h2,aC h];simp
 have hsub: ∀d,(d∈ta\/d∈tb)->d∈a'\/d∈b':=fun d hd=>by
  rcases hd with h | h
  ·left;rw [h1];split
   ·exact hZ _ h
   ·exact h
  ·right;rw [h2];split
   ·exact hZ _ h
   ·exact h
 have hlow: ∀c,(c∈pa\/c∈pb\/c∈out)->c<x:=fun c hc=>I.low c hc x hxm
 have hpa: ∀c∈(if wa then pa++[x] else pa),c∈pa\/(wa=true/\c=x):=fun c hc=>by
  split at hc
  ·rename_i h
   rcases cY.1 hc with h' | h'
   ·exact .inl h'
   ·simp at h';exact .inr ⟨h,h'⟩
  ·exact .inl hc
 have hpb: ∀c∈(if wb then pb++[x] else pb),c∈pb\/(wb=true/\c=x):=fun c hc=>by
  split at hc
  ·rename_i h
   rcases cY.1 hc with h' | h'
   ·exact .inl h'
   ·simp at h';exact .inr ⟨h,h'⟩
  ·exact .inl hc
 have hout: ∀c∈(if gO (inA ^^ wa) (inB ^^ wb)=is then out else out++[x]),c∈out\/c=x:=fun c hc=>by
  split at hc
  ·exact .inl hc
  ·rcases cY.1 hc with h' | h'
   ·exact .inl h'
   ·simp at h';exact .inr h'
 have ooA: (inA ^^ wa)=F4 (if wa then pa++[x] else pa):=by
  rw [I.oa];cases wa <;> simp [Ae]
 have ooB: (inB ^^ wb)=F4 (if wb then pb++[x] else pb):=by
  rw [I.ob];cases wb <;> simp [Ae]
 have ooO:gO (inA ^^ wa) (inB ^^ wb)=F4 (if gO (inA ^^ wa) (inB ^^ wb)=is then out else out++[x]):=by
  split
  ·rename_i h;rw [h];exact I.oo
  ·rename_i h
   rw [Ae,<-I.oo]
   cases hk:gO (inA ^^ wa) (inB ^^ wb) <;> cases his:is <;> simp_all
 refine⟨?_,?_,ooA,ooB,ooO,rfl,?_,?_,?_,?_,?_⟩
 ·rw [I.ea,h1];split <;> simp
 ·rw [I.eb,h2];split <;> simp
 ·intro c hc d hd
  have hd':=hx d hd
  have hdd:=hsub d hd
  rcases hc with h | h | h
  ·rcases hpa c h with h' | ⟨_,rfl⟩
   ·exact I.low c (.inl h') d hdd
   ·exact hd'
  ·rcases hpb c h with h' | ⟨_,rfl⟩
   ·exact I.low c (.inr (.inl h')) d hdd
   ·exact hd'
  ·rcases hout c h with h' | rfl
   ·exact I.low c (.inr (.inr h')) d hdd
   ·exact hd'
 ·split
  ·exact I.inc
  ·exact I.inc.Hk fun c hc=>hlow c (.inr (.inr hc))
 ·intro y hy
  by_cases hxy:y<x
  ·have e1:oN (if wa then pa++[x] else pa) y=oN pa y:=by split;exact yq hxy;rfl
   have e2:oN (if wb then pb++[x] else pb) y=oN pb y:=by split;exact yq hxy;rfl
   have e3:oN (if gO (inA ^^ wa) (inB ^^ wb)=is then out else out++[x]) y=oN out y:=by split;rfl;exact yq hxy
   rw [e1,e2,e3]
   refine I.Lv y fun d hd=>?_
   have:x<=d:=by
    rcases hd with h | h
    ·rw [h1] at h
     split at h
     ·rcases dC.1 h with rfl | h
      ·exact Int.le_refl _
      ·have:=hx d (.inl h);omega
     ·have:=hx d (.inl h);omega
    ·rw [h2] at h
     split at h
     ·rcases dC.1 h with rfl | h
      ·exact Int.le_refl _
      ·have:=hx d (.inr h);omega
     ·have:=hx d (.inr h);omega
   omega
  ·rw [wv (l:=if wa then pa++[x] else pa),wv (l:=if wb then pb++[x] else pb),wv]
   ·have e1:=ooA;have e2:=ooB;have e3:=ooO
    unfold F4 at e1 e2 e3
    rw [<-e1,<-e2,<-e3]
   ·intro c hc
    rcases hout c hc with h | rfl
    ·have:=hlow c (.inr (.inr h));omega
    ·omega
   ·intro c hc
    rcases hpb c hc with h | ⟨_,rfl⟩
    ·have:=hlow c (.inr (.inl h));omega
    ·omega
   ·intro c hc
    rcases hpa c hc with h | ⟨_,rfl⟩
    ·have:=hlow c (.inl h);omega
    ·omega
 ·intro c hc
  have m1: ∀c,c∈pa->c∈(if wa then pa++[x] else pa):=fun c h=>by split;exact List.mem_append_left _ h;exact h
  have m2: ∀c,c∈pb->c∈(if wb then pb++[x] else pb):=fun c h=>by split;exact List.mem_append_left _ h;exact h
  rcases hout c hc with h | rfl
  ·rcases I.mem c h with h | h
   ·exact .inl (m1 c h)
   ·exact .inr (m2 c h)
  ·rcases hw with h | h
   ·left;rw [aC h];simp
   ·right;rw [aC h];simp
 ·have:=I.len
  have h3: (if wa then pa++[x] else pa).length+ (if wb then pb++[x] else pb).length>=pa.length+pb.length+1:=by
   rcases hw with h | h
   ·subst h;cases wb <;> simp <;> omega
   ·subst h;cases wa <;> simp <;> omega
  split
  ·omega
  ·simp at h3 ⊢;omega
end
end Go.Gk
namespace Go.Gk
open Go
section
variable {N:Nat}
theorem jR (x:Int) (l:List Int):idx (x::l) 0=some x:=rfl
theorem sC {α:Type} (x:α) (l:List α):sO (x::l) 1 (((x::l).length:Nat):Int)=some l:=o9 (x::l) 1 (by simp)
theorem kL {α:Type} (x:α) (l:List α):decide ((((x::l).length:Nat):Int)>0)=true:=bS (by simp)
theorem vc {α:Type} (x:α) (l:List α): ((((x::l).length:Nat):Int)==0)=false:=by rw [beq_eq_false_iff_ne];simp;omega
theorem EC {a b:List Int} (ha:jd a) (hb:jd b) (h:a≠[]\/b≠[]): ∃x ta tb wa wb,a= (if wa then x::ta else ta)/\b= (if wb then x::tb else tb)/\(wa=true\/wb=true)/\(∀d,(d∈ta\/d∈tb)->x<d):=by
 match a,b,ha,hb,h with
 | [],[],_,_,h=>rcases h with h | h <;> exact absurd rfl h
 | x::ta,[],ha,_,_=>exact⟨x,ta,[],true,false,rfl,rfl, .inl rfl,fun d hd=>by rcases hd with h | h;exact ha.head d h;cases h⟩
 | [],y::tb,_,hb,_=>exact⟨y,[],tb,false,true,rfl,rfl, .inr rfl,fun d hd=>by rcases hd with h | h;cases h;exact hb.head d h⟩
 | x::ta,y::tb,ha,hb,_=>
  rcases Int.lt_trichotomy x y with h | h | h
  ·refine⟨x,ta,y::tb,true,false,rfl,rfl, .inl rfl,fun d hd=>?_⟩
   rcases hd with h1 | h1
   ·exact ha.head d h1
   ·rcases dC.1 h1 with rfl | h1
    ·exact h
    ·have:=hb.head d h1;omega
  ·subst h
   exact⟨x,ta,tb,true,true,rfl,rfl, .inl rfl,fun d hd=>by rcases hd with h | h;exact ha.head d h;exact hb.head d h⟩
  ·refine⟨y,x::ta,tb,false,true,rfl,rfl, .inr rfl,fun d hd=>?_⟩
   rcases hd with h1 | h1
   ·rcases dC.1 h1 with rfl | h1
    ·exact h
    ·have:=ha.head d h1;omega
   ·exact hb.head d h1
theorem F5 {φ:Bool->Bool->Option Bool} {gO:Bool->Bool->Bool} (hφ: ∀p q,φ p q=some (gO p q)) (hk:gO false false=false) {a b:List Int} (ha:jd a) (hb:jd b) (hae:a.length % 2=0) (hbe:b.length % 2=0)
  (kQ:a.length<=1099511627776) (hbl:b.length<=1099511627776) (hN:a.length+b.length<N):
  Ok (qs N a b φ) (fun m=>jd m/\m.length % 2=0/\(∀x,oN m x=gO (oN a x) (oN b x))/\∀c∈m,c∈a\/c∈b):=by
 unfold qs
 refine Ok.bind (Ok.jE (Go:=fun s=>jd s.2.2.1/\s.2.2.1.length % 2=0/\(∀x,oN s.2.2.1 x=gO (oN a x) (oN b x))/\∀c∈s.2.2.1,c∈a\/c∈b) (Rt:=fun _=>True)
  (fun s=>∃pa pb,Dw gO a b s.1 s.2.1 s.2.2.1 s.2.2.2.1 s.2.2.2.2.1 s.2.2.2.2.2 pa pb) (fun s=>s.1.length+s.2.1.length) ?_ ?_ hN) ?_
 ·rintro⟨a',b',out,inA,inB,is⟩ ⟨pa,pb,I⟩
  dsimp only at I ⊢
  have ha':jd a':=by have:=ha;rw [I.ea] at this;exact(mQ.1 this).2.1
  have hb':jd b':=by have:=hb;rw [I.eb] at this;exact(mQ.1 this).2.1
  have hle:pa.length+a'.length=a.length:=by rw [I.ea];simp
  have hlb:pb.length+b'.length=b.length:=by rw [I.eb];simp
  have hlo:=I.len
  by_cases hne:a'≠[]\/b'≠[]
  ·obtain⟨x,ta,tb,wa,wb,h1,h2,hw,hx⟩:=EC ha' hb' hne
   have J:=I.step ha hb x ta tb wa wb h1 h2 hw hx
   have fin: ∀(sa sb:List Int×Bool),sa= (ta,inA ^^ wa)->sb= (tb,inB ^^ wb)->
     Ok ((φ sa.2 sb.2).bind fun x220=>(bif (x220 != is) then ((app 8 out ([x]: (List Int))).bind fun x227=>some (x227,x220)) else (some (out,is))).bind fun s224=>some (Fl.nx (sa.1,sb.1,s224.1,sa.2,sb.2,s224.2)))
      (HV (fun s':List Int×List Int×List Int×Bool×Bool×Bool=>(∃pa pb,Dw gO a b s'.1 s'.2.1 s'.2.2.1 s'.2.2.2.1 s'.2.2.2.2.1 s'.2.2.2.2.2 pa pb)/\s'.1.length+s'.2.1.length<a'.length+b'.length) (fun s=>jd s.2.2.1/\s.2.2.1.length % 2=0/\(∀x,oN s.2.2.1 x=gO (oN a x) (oN b x))/\∀c∈s.2.2.1,c∈a\/c∈b) (fun _:Empty=>True)):=by
    rintro _ _ rfl rfl
    refine Ok.eq (hφ _ _) ?_
    have hlt:ta.length+tb.length<a'.length+b'.length:=by
     rw [h1,h2]
     rcases hw with h | h
     ·subst h;cases wb <;> simp <;> omega
     ·subst h;cases wa <;> simp <;> omega
    by_cases he:gO (inA ^^ wa) (inB ^^ wb)=is
    ·rw [aC he] at J
     refine Ok.eq (x:=(out,is)) (by rw [he,show (is != is)=false by simp,aR]) ?_
     rw [he] at J
     exact Ok.nx ⟨⟨_,_,J⟩,hlt⟩
    ·rw [aG he] at J
     refine Ok.eq (x:=(out++[x],gO (inA ^^ wa) (inB ^^ wb))) (by rw [show (gO (inA ^^ wa) (inB ^^ wb) != is)=true by simp [he],aP,kJ (by simp;omega),aB]) (Ok.nx ⟨⟨_,_,J⟩,hlt⟩)
   rcases hw with rfl | rfl
   ·rw [aC rfl] at h1
    subst h1
    refine Ok.eq (x:=true) (by rw [kL,aP]) ?_
    rw [aP]
    have hle2: (bif (((b'.length:Nat):Int)==0) then (some true) else (bif (decide ((((x::ta).length:Nat):Int)>0)) then ((idx (x::ta) 0).bind fun x181=>(idx b' 0).bind fun x183=>some (decide (x181<=x183))) else (some false)))=some true:=by
     cases b' with
     | nil=>rfl
     | cons y b''=>
      rw [vc,aR,kL,aP,jR,aB,jR,aB]
      have:x<=y:=by
       cases wb with
       | true=>simp at h2;omega
       | false=>have:=hx y (.inr (by simp at h2;rw [<-h2];simp));omega
      rw [bS this]
    refine Ok.eq hle2 ?_
    rw [aP]
    refine Ok.eq (x:=x) (by rw [jR,aB]) ?_
    refine Ok.eq (x:=true) (by rw [kL,aP,jR,aB];simp) ?_
    refine Ok.eq (x:=(ta,!inA)) (by rw [aP,sC,aB]) ?_
    cases wb with
    | true=>
     rw [aC rfl] at h2
     subst h2
     refine Ok.eq (x:=true) (by rw [kL,aP,jR,aB];simp) ?_
     refine Ok.eq (x:=(tb,!inB)) (by rw [aP,sC,aB]) ?_
     exact fin _ _ (by simp) (by simp)
    | false=>
     have h2:b'=tb:=h2
     subst h2
     refine Ok.eq (x:=false) ?_ ?_
     ·cases b' with
      | nil=>rfl
      | cons y b''=>
       have:=hx y (.inr (by simp))
       rw [kL,aP,jR,aB,show (y==x)=false by rw [beq_eq_false_iff_ne];omega]
     ·refine Ok.eq (x:=(b',inB)) (by rw [aR]) ?_
      exact fin _ _ (by simp) (by simp)
   ·cases wa with
    | true=>
     rw [aC rfl] at h1 h2
     subst h1;subst h2
     refine Ok.eq (x:=true) (by rw [kL,aP]) ?_
     rw [aP]
     refine Ok.eq (x:=true) (by rw [vc,aR,kL,aP,jR,aB,jR,aB];simp) ?_
     rw [aP]
     refine Ok.eq (x:=x) (by rw [jR,aB]) ?_
     refine Ok.eq (x:=true) (by rw [kL,aP,jR,aB];simp) ?_
     refine Ok.eq (x:=(ta,!inA)) (by rw [aP,sC,aB]) ?_
     refine Ok.eq (x:=true) (by rw [kL,aP,jR,aB];simp) ?_
     refine Ok.eq (x:=(tb,!inB)) (by rw [aP,sC,aB]) ?_
     exact fin _ _ (by simp) (by simp)
    | false=>
     have h1:a'=ta:=h1
     rw [aC rfl] at h2
     subst h1;subst h2
     refine Ok.eq (x:=true) (by rw [kL,Iq];simp) ?_
     rw [aP]
     refine Ok.eq (x:=false) ?_ ?_
     ·rw [vc,aR]
      cases a' with
      | nil=>rfl
      | cons y a''=>
       have:=hx y (.inl (by simp))
       rw [kL,aP,jR,aB,jR,aB,cD (by omega)]
     ·rw [aR]
      refine Ok.eq (x:=x) (by rw [jR,aB]) ?_
      refine Ok.eq (x:=false) ?_ ?_
      ·cases a' with
       | nil=>rfl
       | cons y a''=>
        have:=hx y (.inl (by simp))
        rw [kL,aP,jR,aB,show (y==x)=false by rw [beq_eq_false_iff_ne];omega]
      ·refine Ok.eq (x:=(a',inA)) (by rw [aR]) ?_
       refine Ok.eq (x:=true) (by rw [kL,aP,jR,aB];simp) ?_
       refine Ok.eq (x:=(tb,!inB)) (by rw [aP,sC,aB]) ?_
       exact fin _ _ (by simp) (by simp)
  ·have ea:a'= []:=Classical.byContradiction fun h=>hne (.inl h)
   have eb:b'= []:=Classical.byContradiction fun h=>hne (.inr h)
   subst ea;subst eb
   refine Ok.eq (x:=false) rfl ?_
   refine Ok.br ⟨I.inc,?_,fun x=>?_,fun c hc=>?_⟩
   ·have h1:=I.ea;have h2:=I.eb
    rw [nD] at h1 h2
    have h3:F4 out=false:=by
     rw [<-I.oo,I.ok,I.oa,I.ob,<-h1,<-h2]
     unfold F4;rw [hae,hbe];exact hk
    unfold F4 at h3
    rw [beq_eq_false_iff_ne] at h3
    dsimp only;omega
   ·have:=I.Lv x (fun d hd=>by rcases hd with h | h <;> cases h)
    have h1:=I.ea;have h2:=I.eb
    rw [nD] at h1 h2
    rw [h1,h2];exact this
   ·have h1:=I.ea;have h2:=I.eb
    rw [nD] at h1 h2
    rw [h1,h2];exact I.mem c hc
 ·exact⟨[],[],rfl,rfl,rfl,rfl,rfl,hk.symm,fun c hc=>(by rcases hc with h | h | h <;> cases h),jG,fun x _=>hk.symm,fun c hc=>(by cases hc),bU _⟩
 ·rintro o ho
  exact Ok.cs ho (fun s h=>Ok.ret h) (fun r=>r.elim)
theorem eT.app {s t:List Bd} (h:eT (s++t)):eT t:=⟨fun b hb=>h.each b (List.mem_append_right _ hb),(mQ.1 h.ord).2.1⟩
theorem eT.low {b:Bd} {s:List Bd} (h:eT (b::s)): ∀c∈b::s,b.y0<=c.y0:=fun c hc=>by
 rcases dC.1 hc with rfl | hc
 ·exact Int.le_refl _
 ·have:=h.z5 c hc;have:=(h.each b (by simp)).1;omega
theorem eT.high {s:List Bd} {b:Bd} (h:eT (s++[b])): ∀c∈s++[b],c.y1<=b.y1:=fun c hc=>by
 rcases cY.1 hc with hc | hc
 ·have:=((mQ.1 h.ord).2.2 c hc b (by simp)).1
  have:=(h.each b (by simp)).1;omega
 ·simp at hc;subst hc;exact Int.le_refl _
def Eb (s:List aA) (y e:Int):List Int×Int:=match s with
 | []=>([],e)
 | b::_=>if y<b.Y0 then ([],if b.Y0<e then b.Y0 else e) else (b.Xs,if b.Y1<e then b.Y1 else e)
theorem Hm {α:Type} (x:α) (l:List α):idx (x::l) 0=some x:=rfl
theorem Jb (s:List aA) (y e:Int):mY N s y e=some (Eb s y e):=by
 unfold mY Eb
 cases s with
 | nil=>rfl
 | cons b s=>
  dsimp only
  rw [vc,aR,Hm,aB,aB,aB,aB]
  by_cases h:y<b.Y0
  ·rw [bS h,aP,aC h]
  ·rw [cD h,aR,aG h]
theorem Fk {s:List aA} {y e:Int} {X Y:List Int} (hc:eT (s.map bY)) (hl:wF X Y (s.map bY)) (hh: ∀b t,s=b::t->y<b.Y1) (hy:y<e):
  y< (Eb s y e).2/\(Eb s y e).2<=e/\(∀y',y<=y'->y'< (Eb s y e).2->rowAt (s.map bY) y'= (Eb s y e).1)/\jd (Eb s y e).1/\(Eb s y e).1.length % 2=0/\((Eb s y e).2=e\/(Eb s y e).2∈Y)/\∀c∈(Eb s y e).1,c∈X:=by
 cases s with
 | nil=>exact⟨hy,Int.le_refl _,fun y' _ _=>rfl,jG,rfl, .inl rfl,fun c hc=>(by cases hc)⟩
 | cons b t=>
  have hb:=hc.each (bY b) (by simp)
  have hlb:=hl (bY b) (by simp)
  have h1:=hh b t rfl
  unfold Eb
  dsimp only
  by_cases h:y<b.Y0
  ·rw [aC h]
   dsimp only
   refine⟨by split <;> omega,by split <;> omega,fun y' h2 h3=>?_,jG,rfl,?_,fun c hc=>(by cases hc)⟩
   ·exact hc.u6 (by show y'<b.Y0;split at h3 <;> omega)
   ·split
    ·exact .inr hlb.1
    ·exact .inl rfl
  ·rw [aG h]
   dsimp only
   refine⟨by split <;> omega,by split <;> omega,fun y' h2 h3=>?_,hb.2.2.1,hb.2.2.2,?_,hlb.2.2⟩
   ·exact eT.mF (b:=bY b) (by show b.Y0<=y';omega) (by show y'<b.Y1;split at h3 <;> omega)
   ·split
    ·exact .inr hlb.2.1
    ·exact .inl rfl
theorem BC {y:Int} {a:List aA} (hN:a.length<N) {body:List aA->Option (Fl (List aA) Empty)}
  (hb:body=fun(s373: (List aA))=>((bif (decide ((s373.length:Int)>0)) then ((idx s373 0).bind fun x407=>some (decide (x407.Y1<=y))) else (some false)).bind fun s405=>bif s405 then ((sO s373 1 (s373.length:Int)).bind fun x410=>some (.nx x410)) else (some (.br s373)):Option (Fl ((List aA)) Empty))):
  Ok (jE body N a) (Ls (fun a'=>∃p,a=p++a'/\(∀c∈p,c.Y1<=y)/\∀b t,a'=b::t->y<b.Y1) (fun _=>True)):=by
 subst hb
 refine Ok.jE (fun a'=>∃p,a=p++a'/\∀c∈p,c.Y1<=y) List.length ?_ ⟨[],rfl,fun c hc=>(by cases hc)⟩ hN
 rintro a' ⟨p,e,hp⟩
 cases a' with
 | nil=>exact Ok.eq (x:=false) rfl (Ok.br ⟨p,e,hp,fun b t h=>(by cases h)⟩)
 | cons b t=>
  refine Ok.eq (x:=decide (b.Y1<=y)) (by rw [kL,aP,Hm,aB]) ?_
  refine Ok.bif (fun h=>?_) (fun h=>Ok.br ⟨p,e,hp,fun b' t' h'=>?_⟩)
  ·have h:=of_decide_eq_true h
   refine Ok.eq (sC b t) (Ok.nx ⟨⟨p++[b],by rw [e];simp,fun c hc=>?_⟩,by simp⟩)
   rcases cY.1 hc with hc | hc
   ·exact hp c hc
   ·simp at hc;subst hc;exact h
  ·have h:=of_decide_eq_false h
   injection h' with h1 h2;subst h1;omega
theorem Dx {p a':List Bd} {y y':Int} (hp: ∀c∈p,c.y1<=y) (h:y<=y'):rowAt (p++a') y'=rowAt a' y':=by
 rw [p7,aG]
 rintro⟨b,hb,h1⟩
 have:=hp b hb;omega
structure Cl (gO:Bool->Bool->Bool) (X Y:List Int) (a b s:List aA):Prop where
 can:eT (s.map bY)
 cover: ∀x y,t5 (s.map bY) x y=gO (t5 (a.map bY) x y) (t5 (b.map bY) x y)
 lim:wF X Y (s.map bY)
theorem Af {s:List aA} (hs:s≠[]) (hl:s.length<=1099511627776) (hc:eT (s.map bY)): ∃f l,idx s 0=some f/\idx s (IntKind.wrap .i64 (((s.length:Nat):Int) - 1))=some l/\f∈s/\l∈s/\∀c∈s,f.Y0<=c.Y0/\c.Y1<=l.Y1:=by
 cases s with
 | nil=>exact absurd rfl hs
 | cons f t=>
  rw [jm (by simp) (by omega)]
  have hlt: (f::t).length - 1< (f::t).length:=by simp
  refine⟨f,(f::t)[(f::t).length - 1],rfl,kY _ _ hlt,by simp,cN _,fun c hcm=>⟨?_,?_⟩⟩
  ·exact hc.low (bY c) (dG.2 ⟨c,hcm,rfl⟩)
  ·have e: (f::t)= (f::t).dropLast++[(f::t)[(f::t).length - 1]]:=by
    have:=List.dropLast_concat_getLast (show f::t≠[] by simp)
    rw [<-List.getLast_eq_getElem (h:=by simp)];exact this.symm
   generalize (f::t)[(f::t).length - 1]=l at e
   have hc2:=hc
   rw [e,dP] at hc2
   have hm:bY c∈(List.map bY (f::t).dropLast++[bY l]):=by
    have:bY c∈(f::t).map bY:=dG.2 ⟨c,hcm,rfl⟩
    rw [e,dP] at this;exact this
   exact eT.high hc2 (bY c) hm
theorem ED {φ:Bool->Bool->Option Bool} {gO:Bool->Bool->Bool} (hφ: ∀p q,φ p q=some (gO p q)) (hk:gO false false=false) {a b:List aA} {X Y:List Int} (ca:eT (a.map bY)) (cb:eT (b.map bY))
  (la:wF X Y (a.map bY)) (lb:wF X Y (b.map bY)) (hX:X.length<=1048576000) (hY:Y.length<=1048576000) (hs: ∀c∈Y,small c) (hN:4398046511104<=N):Ok (o5 N a b φ) (Cl gO X Y a b):=by
 have kQ:a.length<=Y.length:=by have:=la.len ca;rwa [cV] at this
 have hbl:b.length<=Y.length:=by have:=lb.len cb;rwa [cV] at this
 unfold o5
 rw [wrap_add (by omega)]
 refine Ok.bif (fun h=>Ok.ret ?_) (fun h=>?_)
 ·have h:a.length+b.length=0:=by have:=beq_iff_eq.1 h;omega
  have e1:a= []:=List.eq_nil_of_length_eq_zero (by omega)
  have e2:b= []:=List.eq_nil_of_length_eq_zero (by omega)
  subst e1;subst e2
  exact⟨eT.nil,fun x y=>hk.symm,fun c hc=>(by cases hc)⟩
 have h0:a≠[]\/b≠[]:=by
  rw [beq_eq_false_iff_ne] at h
  by_cases e:a= []
  ·right;intro e2;subst e;subst e2;exact h rfl
  ·exact .inl e
 refine Ok.bind (Ok.nn (fun k s=>match k with | 0=>True | 1=>a= []\/((∀c∈a,s.1<=c.Y0/\c.Y1<=s.2)/\s.1∈Y/\s.2∈Y) | _=>((∀c∈a,s.1<=c.Y0/\c.Y1<=s.2)/\(∀c∈b,s.1<=c.Y0/\c.Y1<=s.2)/\s.1∈Y/\s.2∈Y)) (by simp) trivial (fun k s hk hI=>?_)) ?_
 ·obtain⟨y,e⟩:=s
  have hk:k=0\/k=1:=by simp at hk;omega
  rcases hk with rfl | rfl
  ·refine Ok.ix (x:=a) rfl ?_
   by_cases ea:a= []
   ·subst ea
    exact Ok.eq (x:=(y,e)) rfl (Ok.ret (.inl rfl))
   ·obtain⟨f,l,f1,f2,f3,f4,f5⟩:=Af ea (by omega) ca
    have hpos:decide (((a.length:Nat):Int)>0)=true:=bS (by have:=List.length_pos_iff.2 ea;omega)
    refine Ok.eq (x:=(f.Y0,l.Y1)) ?_ (Ok.ret (.inr ⟨f5,(la _ (dG.2 ⟨f,f3,rfl⟩)).1,(la _ (dG.2 ⟨l,f4,rfl⟩)).2.1⟩))
    rw [hpos,aP]
    show ((some true).bind _)=_
    rw [aB,aP,f1,aB,f2,aB,aB,aB,aB]
    simp
  ·refine Ok.ix (x:=b) rfl ?_
   have hI:a= []\/((∀c∈a,y<=c.Y0/\c.Y1<=e)/\y∈Y/\e∈Y):=hI
   by_cases eb:b= []
   ·subst eb
    refine Ok.eq (x:=(y,e)) rfl (Ok.ret ?_)
    rcases hI with h | ⟨h1,h2,h3⟩
    ·rcases h0 with h' | h'
     ·exact absurd h h'
     ·exact absurd rfl h'
    ·exact⟨h1,fun c hc=>(by cases hc),h2,h3⟩
   ·obtain⟨f,l,f1,f2,f3,f4,f5⟩:=Af eb (by omega) cb
    have hpos:decide (((b.length:Nat):Int)>0)=true:=bS (by have:=List.length_pos_iff.2 eb;omega)
    have g1:f.Y0∈Y:=(lb _ (dG.2 ⟨f,f3,rfl⟩)).1
    have g2:l.Y1∈Y:=(lb _ (dG.2 ⟨l,f4,rfl⟩)).2.1
    by_cases ea:a= []
    ·subst ea
     refine Ok.eq (x:=(f.Y0,l.Y1)) ?_ (Ok.ret ⟨fun c hc=>(by cases hc),f5,g1,g2⟩)
     rw [hpos,aP]
     show ((some true).bind _)=_
     rw [aB,aP,f1,aB,f2,aB,aB,aB,aB]
     simp
    ·obtain⟨h1,h2,h3⟩:=hI.resolve_left ea
     refine Ok.eq (x:=(if f.Y0<y then f.Y0 else y,if e<l.Y1 then l.Y1 else e)) ?_ (Ok.ret ⟨fun c hc=>?_,fun c hc=>?_,?_,?_⟩)
     ·rw [hpos,aP]
      have ez: (((a.length:Nat):Int)==0)=false:=by rw [beq_eq_false_iff_ne];have:=List.length_pos_iff.2 ea;omega
      rw [ez]
      show ((some false).bind _)=_
      rw [aB,aR,aB,f1,aB,f2,aB]
     ·have:=h1 c hc;dsimp only;split <;> split <;> omega
     ·have:=f5 c hc;dsimp only;split <;> split <;> omega
     ·dsimp only;split
      ·exact g1
      ·exact h2
     ·dsimp only;split
      ·exact g2
      ·exact h3
 ·rintro⟨y0,e0⟩ hI
  have hI: (∀c∈a,y0<=c.Y0/\c.Y1<=e0)/\(∀c∈b,y0<=c.Y0/\c.Y1<=e0)/\y0∈Y/\e0∈Y:=hI
  obtain⟨ia,ib,iy,ie⟩:=hI
  have sy:=hs _ iy
  have se:=hs _ ie
  unfold small at sy se
  dsimp only
  refine Ok.bind (Ok.jE (Go:=fun s=>Cl gO X Y a b s.2.2.1) (Rt:=fun _=>True)
   (fun s=>∃pa pb,a=pa++s.1/\b=pb++s.2.1/\(∀c∈pa,c.Y1<=s.2.2.2)/\(∀c∈pb,c.Y1<=s.2.2.2)/\y0<=s.2.2.2/\s.2.2.2<=max y0 e0/\s.2.2.2∈Y/\eT (s.2.2.1.map bY)/\wF X Y (s.2.2.1.map bY)/\(∀c∈s.2.2.1,c.Y1<=s.2.2.2)/\
    ∀x y,t5 (s.2.2.1.map bY) x y= (gO (t5 (a.map bY) x y) (t5 (b.map bY) x y)&&decide (y<s.2.2.2)))
   (fun s=>(e0 - s.2.2.2).toNat) ?_ ?_ (by dsimp only;omega)) ?_
  ·rintro⟨a',b',out,y⟩ ⟨pa,pb,ea,eb,hpa,hpb,hy0,hye,hyY,hcan,hlim,htop,hcov⟩
   dsimp only at ea eb hpa hpb hy0 hye hyY hcan hlim htop hcov ⊢
   refine Ok.bif (fun h=>?_) (fun h=>Ok.br ?_)
   ·have hlt:y<e0:=of_decide_eq_true h
    have hsl: ∀(p s t:List aA),t=p++s->s.length<=t.length:=fun p s t e=>by rw [e];simp
    have hal':=hsl _ _ _ ea
    have hbl':=hsl _ _ _ eb
    refine Ok.bind (BC (y:=y) (a:=a') (by omega) rfl) (fun o ho=>Ok.cs ho ?_ (fun r=>r.elim))
    rintro a2 ⟨qa,ea2,hqa,hha⟩
    refine Ok.bind (BC (y:=y) (a:=b') (by omega) rfl) (fun o ho=>Ok.cs ho ?_ (fun r=>r.elim))
    rintro b2 ⟨qb,eb2,hqb,hhb⟩
    have ea3:a= (pa++qa)++a2:=by rw [ea,ea2];simp
    have eb3:b= (pb++qb)++b2:=by rw [eb,eb2];simp
    have hPa: ∀c∈pa++qa,c.Y1<=y:=fun c hc=>by rcases cY.1 hc with h | h;exact hpa c h;exact hqa c h
    have hPb: ∀c∈pb++qb,c.Y1<=y:=fun c hc=>by rcases cY.1 hc with h | h;exact hpb c h;exact hqb c h
    have ca2:eT (a2.map bY):=by have:=ca;rw [ea3,dP] at this;exact this.app
    have cb2:eT (b2.map bY):=by have:=cb;rw [eb3,dP] at this;exact this.app
    have la2:wF X Y (a2.map bY):=fun c hc=>la c (by rw [ea3,dP];exact List.mem_append_right _ hc)
    have lb2:wF X Y (b2.map bY):=fun c hc=>lb c (by rw [eb3,dP];exact List.mem_append_right _ hc)
    refine Ok.eq (Jb a2 y e0) (Ok.eq (Jb b2 y e0) ?_)
    obtain⟨a1,a3,a4,a5,a6,a7,a8⟩:=Fk ca2 la2 hha hlt
    obtain⟨b1,b3,b4,b5,b6,b7,b8⟩:=Fk cb2 lb2 hhb hlt
    have hal2: (Eb a2 y e0).1.length<=X.length:=fR a5.nodup a8
    have hbl2: (Eb b2 y e0).1.length<=X.length:=fR b5.nodup b8
    generalize Eb a2 y e0=pa2 at *
    generalize Eb b2 y e0=pb2 at *
    obtain⟨xa,n⟩:=pa2
    obtain⟨xb,m⟩:=pb2
    dsimp only at *
    refine Ok.bind (F5 hφ hk a5 b5 a6 b6 (by omega) (by omega) (by omega)) ?_
    rintro row ⟨r1,r2,r3,r4⟩
    have hnx: ∃nx,nx= (if m<n then m else n)/\y<nx/\nx<=e0/\nx<=n/\nx<=m/\nx∈Y:=by
     refine⟨_,rfl,by split <;> omega,by split <;> omega,by split <;> omega,by split <;> omega,?_⟩
     split
     ·rcases b7 with h | h
      ·rw [h];exact ie
      ·exact h
     ·rcases a7 with h | h
      ·rw [h];exact ie
      ·exact h
    obtain⟨nx,hnx,n1,n2,n3,n4,n5⟩:=hnx
    rw [<-hnx]
    have hol:out.length<=Y.length:=by have:=hlim.len hcan;rwa [cV] at this
    obtain⟨out',p1,p2⟩:=Fi (N:=N) (s:=out) (b:=⟨y,nx,row⟩) (by omega) (fun c hc=>by
     have:=hlim.row hcan (b:=bY c) (dG.2 ⟨c,hc,rfl⟩)
     have e: (bY c).xs=c.Xs:=rfl
     rw [e] at this;omega)
    refine Ok.eq p1 ?_
    have htop': ∀c∈out.map bY,c.y1<=(bY ⟨y,nx,row⟩).y0:=fun c hc=>by
     obtain⟨d,hd,rfl⟩:=dG.1 hc
     exact htop d hd
    refine Ok.nx ⟨⟨pa++qa,pb++qb,ea3,eb3,fun c hc=>by have:=hPa c hc;dsimp only;omega,fun c hc=>by have:=hPb c hc;dsimp only;omega,by dsimp only;omega,by dsimp only;omega,n5,by dsimp only;rw [p2];exact u9 hcan htop' r1 r2,?_,fun c hc=>?_,fun x y'=>?_⟩,by dsimp only;omega⟩
    ·dsimp only;rw [p2]
     refine hlim.push hyY n5 (fun c hc=>?_)
     rcases r4 c hc with h | h
     ·exact a8 c h
     ·exact b8 c h
    ·have hm':bY c∈jL (out.map bY) (bY ⟨y,nx,row⟩):=by rw [<-p2];exact dG.2 ⟨c,hc,rfl⟩
     exact va htop' (by show y<=nx;omega) _ hm'
    ·show oN (rowAt (out'.map bY) y') x=_
     rw [p2,u7 htop' (fun c hc=>(hcan.each c hc).1) (fun h=>absurd h (by show ¬nx<=y;omega))]
     by_cases hyy:y<=y'/\y'<nx
     ·rw [aC (show (bY ⟨y,nx,row⟩).y0<=y'/\y'< (bY ⟨y,nx,row⟩).y1 from hyy),bS hyy.2,Bool.and_true]
      show oN row x=_
      have mp: ∀p q:List aA,(∀c∈p++q,c.Y1<=y)->∀c∈(p++q).map bY,c.y1<=y:=fun p q h c hc=>by
       obtain⟨d,hd,rfl⟩:=dG.1 hc
       exact h d hd
      have q1:t5 (a.map bY) x y'=oN xa x:=by
       unfold t5
       rw [ea3,dP,Dx (mp _ _ hPa) hyy.1,a4 y' hyy.1 (by omega)]
      have q2:t5 (b.map bY) x y'=oN xb x:=by
       unfold t5
       rw [eb3,dP,Dx (mp _ _ hPb) hyy.1,b4 y' hyy.1 (by omega)]
      rw [r3,q1,q2]
     ·rw [aG (show ¬((bY ⟨y,nx,row⟩).y0<=y'/\y'< (bY ⟨y,nx,row⟩).y1) from hyy)]
      show t5 (out.map bY) x y'=_
      rw [hcov]
      by_cases h1:y'<y
      ·rw [bS h1,bS (show y'<nx by omega)]
      ·rw [cD h1,cD (show ¬y'<nx by omega)]
   ·have hge:e0<=y:=by have:=of_decide_eq_false h;omega
    refine⟨hcan,fun x y'=>?_,hlim⟩
    dsimp only
    rw [hcov]
    by_cases h1:y'<y
    ·rw [bS h1,Bool.and_true]
    ·have z: ∀s:List aA,(∀c∈s,y0<=c.Y0/\c.Y1<=e0)->t5 (s.map bY) x y'=false:=fun s h=>by
      unfold t5
      rw [lG fun c hc=>?_]
      ·rfl
      ·obtain⟨d,hd,rfl⟩:=dG.1 hc
       exact .inr (by have:=(h d hd).2;show d.Y1<=y';omega)
     rw [z a ia,z b ib,hk];rfl
  ·refine⟨[],[],rfl,rfl,fun c hc=>(by cases hc),fun c hc=>(by cases hc),Int.le_refl _,by dsimp only;omega,iy,eT.nil,fun c hc=>(by cases hc),fun c hc=>(by cases hc),fun x y=>?_⟩
   dsimp only
   show false=_
   by_cases h1:y<y0
   ·have z: ∀s:List aA,(∀c∈s,y0<=c.Y0/\c.Y1<=e0)->t5 (s.map bY) x y=false:=fun s h=>by
     unfold t5
     rw [lG fun c hc=>?_]
     ·rfl
     ·obtain⟨d,hd,rfl⟩:=dG.1 hc
      exact .inl (by have:=(h d hd).1;show y<d.Y0;omega)
    rw [z a ia,z b ib,hk];rfl
   ·rw [cD h1,Bool.and_false]
  ·rintro o ho
   exact Ok.cs ho (fun s h=>Ok.ret h) (fun r=>r.elim)
theorem F6 {a b:List aA} {X Y:List Int} (ca:eT (a.map bY)) (cb:eT (b.map bY)) (la:wF X Y (a.map bY)) (lb:wF X Y (b.map bY)) (hX:X.length<=1048576000) (hY:Y.length<=1048576000) (hs: ∀c∈Y,small c) (hN:4398046511104<=N):
  Ok (lf N a b) (Cl (fun p q=>p&& !q) X Y a b):=by
 unfold lf
 exact Ok.bind (ED (gO:=fun p q=>p&& !q) (fun p q=>rfl) rfl ca cb la lb hX hY hs hN) (fun s h=>Ok.ret h)
end
end Go.Gk
namespace Go.Gk
open Go
section
variable {N:Nat}
structure UF (n:Nat) (up:List Int) (r:Nat->Nat):Prop where
 len:up.length=n
 rt: ∀i,i<n->∃u:Nat,up[i]? =some ((u:Nat):Int)/\u<=i/\r u=r i/\(u=i↔r i=i)
theorem UF.le {n:Nat} {up:List Int} {r:Nat->Nat} (h:UF n up r): ∀i,i<n->r i<=i:=by
 intro i
 induction i using Nat.strongRecOn with
 | ind i ih=>
  intro hi
  obtain⟨u,_,h2,h3,h4⟩:=h.rt i hi
  by_cases e:u=i
  ·rw [h4.1 e];exact bU _
  ·rw [<-h3];have:=ih u (by omega) (by omega);omega
theorem UF.rr {n:Nat} {up:List Int} {r:Nat->Nat} (h:UF n up r): ∀i,i<n->r (r i)=r i:=by
 intro i
 induction i using Nat.strongRecOn with
 | ind i ih=>
  intro hi
  obtain⟨u,_,h2,h3,h4⟩:=h.rt i hi
  by_cases e:u=i
  ·rw [h4.1 e,h4.1 e]
  ·rw [<-h3];exact ih u (by omega) (by omega)
theorem nI {l:List Int} {j:Nat} {v:Int} {i:Nat} (hj:j<l.length): (l.set j v)[i]? =if i=j then some v else l[i]? :=by
 rw [fw]
 by_cases e:j=i
 ·rw [aC e,aC e.symm,aC hj]
 ·rw [aG e,aG (fun h=>e h.symm)]
theorem UF.init (n:Nat) (up:List Int) (h1:up.length=n) (h2: ∀i,i<n->up[i]? =some ((i:Nat):Int)):UF n up (fun i=>i):=
 ⟨h1,fun i hi=>⟨i,h2 i hi,bU _,rfl,by simp⟩⟩
theorem Dy {n:Nat} (hn:n<=1048576000): ∃up,lh N ((n:Nat):Int)=some up/\UF n up (fun i=>i):=by
 unfold lh
 rw [ri 0 (by omega),aB]
 have h0: (List.replicate n (0:Int)).length=n:=by simp
 obtain⟨s',h1,h2⟩:=zw (m:=(List.replicate n (0:Int)).length) (s:=List.replicate n (0:Int)) (body:=fun(k34:Nat) (s35: (List Int))=>((idx s35 (k34:Int)).bind fun x38=>some (s35.set (Int.toNat (k34:Int)) (k34:Int)):Option ((List Int))))
  (fun k s=>s.length=n/\∀i,i<k->s[i]? =some ((i:Nat):Int)) (by omega) ⟨h0,fun i hi=>by omega⟩ (fun k s hk ⟨hs,hi⟩=>by
   refine⟨s.set k ((k:Nat):Int),?_,by simp [hs],fun i hi'=>?_⟩
   ·rw [kY _ _ (by omega),aB,cF]
   ·rw [nI (by omega)]
    split
    ·rename_i e;rw [e]
    ·exact hi i (by omega))
 rw [h1,aB]
 exact⟨s',rfl,UF.init n s' h2.1 (fun i hi=>h2.2 i (by omega))⟩
theorem Cm {n:Nat} {up:List Int} {r:Nat->Nat} (h:UF n up r) {i:Nat} (hi:i<n) (hn:n<N): ∃up',gS N up ((i:Nat):Int)=some (((r i:Nat):Int),up')/\UF n up' r:=by
 unfold gS
 obtain⟨o,h1,h2⟩:=xe (R:=Empty) (body:=fun(s32: (List Int)×Int)=>((idx s32.1 s32.2).bind fun x43=>bif (x43 != s32.2) then ((idx s32.1 s32.2).bind fun x44=>(idx s32.1 x44).bind fun x45=>(idx s32.1 s32.2).bind fun x46=>(idx (s32.1.set (Int.toNat s32.2) x45) s32.2).bind fun x47=>some (.nx ((s32.1.set (Int.toNat s32.2) x45),x47))) else (some (.br (s32.1,s32.2))):Option (Fl ((List Int)×Int) Empty)))
  (fun s=>UF n s.1 r/\∃j:Nat,s.2= ((j:Nat):Int)/\j<n/\r j=r i) (fun s=>s.2.toNat) (fun s=>s.2= ((r i:Nat):Int)/\UF n s.1 r) (fun _=>True) (fun s ⟨hu,j,hj,hjn,hr⟩=>by
   obtain⟨l,y⟩:=s
   dsimp only at hu hj ⊢
   subst hj
   obtain⟨u,a1,a2,a3,a4⟩:=hu.rt j hjn
   rw [dM a1,aB]
   by_cases e:u=j
   ·subst e
    refine⟨.br (l,((u:Nat):Int)),by rw [show (((u:Nat):Int) != ((u:Nat):Int))=false by simp,aR],?_,hu⟩
    show ((u:Nat):Int)=_
    rw [<-hr,a4.1 rfl]
   ·obtain⟨v,b1,b2,b3,b4⟩:=hu.rt u (by omega)
    have hl:=hu.len
    refine⟨.nx (l.set j ((v:Nat):Int),((v:Nat):Int)),by
     rw [show (((u:Nat):Int) != ((j:Nat):Int))=true by simp;omega,aP,aB,dM b1,aB,aB,cF,
      dM (x:=((v:Nat):Int)) (by rw [nI (by omega),aC rfl]),aB],⟨⟨by simp [hl],fun k hk=>?_⟩,v,rfl,by omega,?_⟩,?_⟩
    ·rw [nI (by omega)]
     by_cases e2:k=j
     ·subst e2
      rw [aC rfl]
      refine⟨v,rfl,by omega,by rw [b3,a3],?_⟩
      constructor
      ·intro h;omega
      ·intro h;exact absurd (a4.2 h) e
     ·rw [aG e2];exact hu.rt k hk
    ·rw [b3,a3,hr]
    ·simp only [cF];omega)
  N (up,((i:Nat):Int)) ⟨h,i,rfl,hi,rfl⟩ (by simp only [cF];omega)
 rw [h1,aB]
 cases o with
 | go s'=>exact⟨s'.1,by rw [<-h2.1];rfl,h2.2⟩
 | rt r=>exact r.elim
def oK (r:Nat->Nat) (a b:Nat):Nat->Nat:=fun x=>if r x=max a b then min a b else r x
theorem Hn (a b:Nat): (if ((a:Nat):Int)< ((b:Nat):Int) then ((b:Nat):Int) else ((a:Nat):Int))= ((max a b:Nat):Int):=by
 rw [Nat.max_def];split <;> split <;> omega
theorem Ho (a b:Nat): (if ((b:Nat):Int)< ((a:Nat):Int) then ((b:Nat):Int) else ((a:Nat):Int))= ((min a b:Nat):Int):=by
 rw [Nat.min_def];split <;> split <;> omega
theorem Iw {n:Nat} {up:List Int} {r:Nat->Nat} (h:UF n up r) {i k:Nat} (hi:i<n) (hk:k<n) (hn:n<N):
  ∃up',il N up ((i:Nat):Int) ((k:Nat):Int)=some up'/\UF n up' (oK r (r i) (r k)):=by
 obtain⟨u1,a1,a2⟩:=Cm h hi hn
 obtain⟨u2,b1,b2⟩:=Cm a2 hk hn
 have hri:=h.le i hi
 have hrk:=h.le k hk
 have rri:=h.rr i hi
 have rrk:=h.rr k hk
 unfold il
 rw [a1,aB,b1,aB]
 dsimp only
 rw [Hn,Ho]
 have hm:max (r i) (r k)<n:=by omega
 have hl:=b2.len
 rw [kY _ _ (by omega),aB,cF]
 refine⟨_,rfl,by simp [hl],fun x hx=>?_⟩
 have rmax:r (max (r i) (r k))=max (r i) (r k):=by rcases Nat.le_total (r i) (r k) with e | e <;> simp [Nat.max_def] <;> split <;> omega
 have rmin:r (min (r i) (r k))=min (r i) (r k):=by rcases Nat.le_total (r i) (r k) with e | e <;> simp [Nat.min_def] <;> split <;> omega
 rw [nI (by omega)]
 by_cases e:x=max (r i) (r k)
 ·subst e
  rw [aC rfl]
  refine⟨min (r i) (r k),rfl,by omega,?_,?_⟩
  ·unfold oK;rw [rmin,rmax,aC rfl];split <;> rfl
  ·unfold oK;rw [rmax,aC rfl]
 ·rw [aG e]
  obtain⟨u,c1,c2,c3,c4⟩:=b2.rt x hx
  refine⟨u,c1,c2,?_,?_⟩
  ·unfold oK;rw [c3]
  ·unfold oK
   split
   ·rename_i e2
    constructor
    ·intro hu;have:=c4.1 hu;omega
    ·intro hu
     have h1:=b2.le x hx
     have:min (r i) (r k)=max (r i) (r k)\/x<max (r i) (r k):=by omega
     have h3:x=max (r i) (r k):=by omega
     exact absurd h3 e
   ·exact c4
def qJ (r:Nat->Nat) (E:List (Nat×Nat)):Prop:=∀p∈E,r p.1=r p.2
def Ag (n:Nat) (r:Nat->Nat) (E:List (Nat×Nat)):Prop:=∀S:Nat->Prop,(∀p∈E,S p.1↔S p.2)->∀i j,i<n->j<n->r i=r j->S i->S j
theorem qJ.join {r:Nat->Nat} {E:List (Nat×Nat)} (h:qJ r E) (i k:Nat) (_h2:r (r i)=r i):qJ (oK r (r i) (r k)) (E++[(i,k)]):=fun p hp=>by
 rcases cY.1 hp with hp | hp
 ·unfold oK;rw [h p hp]
 ·simp at hp;subst hp
  unfold oK
  dsimp only
  split <;> split <;> omega
theorem Ag.join {n:Nat} {r:Nat->Nat} {E:List (Nat×Nat)} (h:Ag n r E) {i k:Nat} (hi:i<n) (hk:k<n):Ag n (oK r (r i) (r k)) (E++[(i,k)]):=fun S hS x y hx hy hr hSx=>by
 have hE: ∀p∈E,S p.1↔S p.2:=fun p hp=>hS p (List.mem_append_left _ hp)
 have hik:S i↔S k:=hS (i,k) (by simp)
 have key:=h S hE
 unfold oK at hr
 by_cases h1:r x=r y
 ·exact key x y hx hy h1 hSx
 ·have: (r x=r i/\r y=r k)\/(r x=r k/\r y=r i):=by
   split at hr <;> split at hr <;> omega
  rcases this with ⟨e1,e2⟩ | ⟨e1,e2⟩
  ·exact key k y hk hy e2.symm (hik.1 (key x i hx hi e1 hSx))
  ·exact key i y hi hy e2.symm (hik.2 (key x k hx hk e1 hSx))
theorem Ag.id (n:Nat):Ag n (fun i=>i) []:=fun S _ i j _ _ h hs=>by
 have h:i=j:=h
 subst h;exact hs
theorem qJ.id:qJ (fun i=>i) []:=fun p hp=>by simp at hp
def bK (n:Nat) (r:Nat->Nat):List Nat:=(List.range n).filter (fun k=>decide (r k=k))
def cls (n:Nat) (r:Nat->Nat) (k:Nat):List Nat:=(List.range n).filter (fun i=>decide (r i=k))
theorem gD (n:Nat) (r:Nat->Nat):bK (n+1) r=if r n=n then bK n r++[n] else bK n r:=by
 unfold bK
 rw [List.range_succ,kh]
 by_cases h:r n=n
 ·rw [aC h];simp [h]
 ·rw [aG h];simp [h]
theorem uO (n:Nat) (r:Nat->Nat) (k:Nat):cls (n+1) r k=if r n=k then cls n r k++[n] else cls n r k:=by
 unfold cls
 rw [List.range_succ,kh]
 by_cases h:r n=k
 ·rw [aC h];simp [h]
 ·rw [aG h];simp [h]
theorem kA (n:Nat) (r:Nat->Nat): (bK n r).length<=n:=by
 have:=l9 (fun k=>decide (r k=k)) (List.range n)
 rw [List.length_range] at this;exact this
theorem xA (n:Nat) (r:Nat->Nat) (k:Nat): (cls n r k).length<=n:=by
 have:=l9 (fun i=>decide (r i=k)) (List.range n)
 rw [List.length_range] at this;exact this
theorem iY {n k:Nat} {r:Nat->Nat}:k∈bK n r↔k<n/\r k=k:=by unfold bK;simp
theorem lA (n:Nat) (r:Nat->Nat): (bK n r).Nodup:=List.Nodup.sublist List.filter_sublist List.nodup_range
def qK (n:Nat) (r:Nat->Nat):List (List Int):=(bK n r).map (fun k=>(cls n r k).map (fun i=>((i:Nat):Int)))
theorem Fm {n k:Nat} {r:Nat->Nat} (h: ∀i,i<n->r i<=i) (hk:n<=k):cls n r k= []:=by
 unfold cls
 rw [List.filter_eq_nil_iff]
 intro i hi
 have h1:=oX.1 hi
 have:=h i h1
 simp;omega
theorem uP {α β:Type} (f g:α->β) (l:List α) (j:Nat) (a:α) (hn:l.Nodup) (hj:l[j]? =some a) (hf: ∀b,b∈l->b≠a->f b=g b): (l.map f).set j (g a)=l.map g:=by
 apply List.ext_getElem?
 intro i
 have hjl:=(bB.1 hj).1
 rw [fw,cV,gG,gG]
 by_cases e:j=i
 ·subst e;rw [aC rfl,aC hjl,hj];rfl
 ·rw [aG e]
  cases hb:l[i]? with
  | none=>rfl
  | some b=>
   have hne:b≠a:=fun he=>by
    subst he
    have hil:=(bB.1 hb).1
    exact e ((List.getElem_inj hn).1 (by rw [(bB.1 hb).2,(bB.1 hj).2]) |>.symm)
   show some (f b)=some (g b)
   rw [hf b (eV hb) hne]
def Lw (n:Nat) (r:Nat->Nat) (m:List (Int×Int)):Prop:=∀(j k:Nat),(bK n r)[j]? =some k->jy m ((k:Nat):Int) 0= ((j:Nat):Int)
theorem Ix {n:Nat} {up:List Int} {r:Nat->Nat} (h:UF n up r) (hn:n<N) (hn2:n<=1048576000): ∃up',j8 N up=some (qK n r,up')/\UF n up' r:=by
 unfold j8
 have hlen:=h.len
 have hle:=h.le
 have hrr:=h.rr
 obtain⟨s',h1,h2⟩:=zw (m:=up.length) (s:=(up,([]: (List (List Int))),([]: (List (Int×Int)))))
  (body:=fun(k32:Nat) (s33: (List Int)×(List (List Int))×(List (Int×Int)))=>((gS N s33.1 (k32:Int)).bind fun x117=>(bif (x117.1==(k32:Int)) then ((app 24 s33.2.1 [([]: (List Int))]).bind fun x126=>some (x126,(vo s33.2.2 (k32:Int) (s33.2.1.length:Int)))) else (some (s33.2.1,s33.2.2))).bind fun s122=>(idx s122.1 (jy s122.2 x117.1 (0:Int))).bind fun x128=>(app 8 x128 ([(k32:Int)]: (List Int))).bind fun x134=>(idx s122.1 (jy s122.2 x117.1 (0:Int))).bind fun x136=>some (x117.2,(s122.1.set (Int.toNat (jy s122.2 x117.1 (0:Int))) x134),s122.2):Option ((List Int)×(List (List Int))×(List (Int×Int)))))
  (fun k s=>UF n s.1 r/\s.2.1=qK k r/\Lw k r s.2.2) (by omega) ⟨h,rfl,fun j k hj=>by simp [bK] at hj⟩ (fun k s hk ⟨hu,hs,hm⟩=>by
   obtain⟨l,ss,m⟩:=s
   dsimp only at hu hs hm ⊢
   subst hs
   rw [hlen] at hk
   obtain⟨u',a1,a2⟩:=Cm hu hk hn
   rw [a1,aB]
   dsimp only
   have hhl:=kA k r
   have hsl: (qK k r).length= (bK k r).length:=by unfold qK;simp
   have hrk:=hle k hk
   by_cases e:r k=k
   ·
    rw [show (((r k:Nat):Int)==((k:Nat):Int))=true by rw [e];simp,aP,kJ (by rw [hsl];simp;omega),aB,aB]
    dsimp only
    rw [e,yo,aC rfl,hsl]
    have hi: (qK k r++[([]:List Int)])[(bK k r).length]? =some []:=by rw [<-hsl,gQ (bU _),Nat.sub_self];rfl
    rw [dM hi,aB,kJ (by simp),aB,aB,cF]
    refine⟨_,rfl,a2,?_,fun j q hj=>?_⟩
    ·dsimp only
     rw [<-hsl,List.set_append_right _ _ (bU _),Nat.sub_self]
     unfold qK
     rw [gD,aC e,dP]
     congr 1
     ·apply List.map_congr_left
      intro a ha
      have:=(iY.1 ha).1
      rw [uO,aG (by omega)]
     ·simp only [List.set_cons_zero,dZ,List.map_nil,List.nil_append]
      rw [uO,aC e,Fm (fun i hi=>hle i (by omega)) (bU _)];rfl
    ·dsimp only
     rw [gD,aC e] at hj
     rw [yo]
     by_cases e2:j< (bK k r).length
     ·rw [gF e2] at hj
      have:=(iY.1 (eV hj)).1
      rw [aG (by omega)];exact hm j q hj
     ·rw [gQ (by omega)] at hj
      have hj0:j - (bK k r).length=0:=by
       have:=(bB.1 hj).1;simp at this;omega
      rw [hj0] at hj;simp at hj;subst hj
      rw [aC rfl];congr 1;omega
   ·rw [show (((r k:Nat):Int)==((k:Nat):Int))=false by simp;omega,aR,aB]
    dsimp only
    have hh:r k∈bK k r:=iY.2 ⟨by omega,hrr k hk⟩
    obtain⟨j,hj⟩:=dV hh
    rw [hm j (r k) hj]
    have hcl:=xA k r (r k)
    have hi: (qK k r)[j]? =some ((cls k r (r k)).map (fun i=>((i:Nat):Int))):=by unfold qK;rw [gG,hj];rfl
    rw [dM hi,aB,kJ (by simp;omega),aB,aB,cF]
    refine⟨_,rfl,a2,?_,fun j' q hj'=>?_⟩
    ·unfold qK
     rw [gD,aG e]
     have:=uP (fun a=>(cls k r a).map (fun i=>((i:Nat):Int))) (fun a=>(cls (k+1) r a).map (fun i=>((i:Nat):Int))) (bK k r) j (r k) (lA k r) hj (fun b hb hne=>by
      rw [uO,aG (fun h=>hne h.symm)])
     rw [uO,aC rfl,dP] at this
     exact this
    ·rw [gD,aG e] at hj';exact hm j' q hj')
 rw [h1,aB]
 obtain⟨l,ss,m⟩:=s'
 dsimp only at h2
 rw [hlen] at h2
 refine⟨l,?_,h2.1⟩
 rw [<-h2.2.1]
end
end Go.Gk
namespace Go.Gk
open Go
section
variable {N:Nat}
theorem Cn {n:Nat} {up:List Int} {r:Nat->Nat} (h:UF n up r) {i:Nat} (hi:i<n) (hn:n<N): ∃up',fI N ((i:Nat):Int) up=some (((r i:Nat):Int),up')/\UF n up' r:=by
 unfold fI
 have:=Ok.bind (β:=Int×List Int) (Q:=fun x=>x.1= ((r i:Nat):Int)/\UF n x.2 r) (Ok.jE (body:=fun(s32:Int×(List Int))=>((idx s32.2 s32.1).bind fun x43=>bif (x43 != s32.1) then ((idx s32.2 s32.1).bind fun x44=>(idx s32.2 x44).bind fun x45=>(idx s32.2 s32.1).bind fun x46=>(idx (s32.2.set (Int.toNat s32.1) x45) s32.1).bind fun x47=>some (.nx (x47,(s32.2.set (Int.toNat s32.1) x45)))) else (some (.br (s32.1,s32.2))):Option (Fl (Int×(List Int)) Empty)))
  (N:=N) (s:=(((i:Nat):Int),up)) (Go:=fun s=>s.1= ((r i:Nat):Int)/\UF n s.2 r) (Rt:=fun _=>True) (fun s=>UF n s.2 r/\∃j:Nat,s.1= ((j:Nat):Int)/\j<n/\r j=r i) (fun s=>s.1.toNat) (by
   rintro⟨y,l⟩ ⟨hu,j,hj,hjn,hr⟩
   dsimp only at hu hj ⊢
   subst hj
   obtain⟨u,a1,a2,a3,a4⟩:=hu.rt j hjn
   refine Ok.ix a1 ?_
   by_cases e:u=j
   ·subst e
    rw [show (((u:Nat):Int) != ((u:Nat):Int))=false by simp,aR]
    refine Ok.br ⟨?_,hu⟩
    show ((u:Nat):Int)=_
    rw [<-hr,a4.1 rfl]
   ·obtain⟨v,b1,b2,b3,b4⟩:=hu.rt u (by omega)
    have hl:=hu.len
    rw [show (((u:Nat):Int) != ((j:Nat):Int))=true by simp;omega,aP]
    refine Ok.ix a1 (Ok.ix b1 (Ok.ix a1 (Ok.ix (x:=((v:Nat):Int)) (by rw [cF,nI (by omega),aC rfl]) (Ok.nx ⟨⟨⟨by simp [hl],fun k hk=>?_⟩,v,rfl,by omega,?_⟩,?_⟩))))
    ·rw [cF,nI (by omega)]
     by_cases e2:k=j
     ·subst e2
      rw [aC rfl]
      refine⟨v,rfl,by omega,by rw [b3,a3],?_⟩
      constructor
      ·intro h;omega
      ·intro h;exact absurd (a4.2 h) e
     ·rw [aG e2];exact hu.rt k hk
    ·rw [b3,a3,hr]
    ·simp only [cF];omega)
  ⟨h,i,rfl,hi,rfl⟩ (by simp only [cF];omega))
  (fun o ho=>Ok.cs (f:=fun(s32:Int×(List Int))=>some (s32.1,s32.2)) (g:=fun r:Empty=>r.elim) ho (fun s h=>Ok.ret h) (fun r=>r.elim))
 obtain⟨⟨x,up'⟩,h1,h2,h3⟩:=this
 exact⟨up',by rw [<-h2];exact h1,h3⟩
theorem Hp {n:Nat} {up:List Int} {r:Nat->Nat} (h:UF n up r) {i k:Nat} (hi:i<n) (hk:k<n) {f:List Int->Option (List Int)} (hn:n<N):
  ∃up',((fI N ((i:Nat):Int) up).bind fun x840=>(fI N ((k:Nat):Int) x840.2).bind fun x842=>(idx x842.2 (if x840.1<x842.1 then x842.1 else x840.1)).bind fun x844=>some (x842.2.set (Int.toNat (if x840.1<x842.1 then x842.1 else x840.1)) (if x842.1<x840.1 then x842.1 else x840.1)))=some up'/\UF n up' (oK r (r i) (r k)):=by
 obtain⟨u1,a1,a2⟩:=Cn h hi hn
 obtain⟨u2,b1,b2⟩:=Cn a2 hk hn
 obtain⟨v1,c1,c2⟩:=Cm h hi hn
 have hri:=h.le i hi
 have hrk:=h.le k hk
 have rri:=h.rr i hi
 have rrk:=h.rr k hk
 rw [a1,aB,b1,aB]
 dsimp only
 rw [Hn,Ho]
 have hm:max (r i) (r k)<n:=by omega
 have hl:=b2.len
 rw [kY _ _ (by omega),aB,cF]
 refine⟨_,rfl,by simp [hl],fun x hx=>?_⟩
 have rmax:r (max (r i) (r k))=max (r i) (r k):=by rcases Nat.le_total (r i) (r k) with e | e <;> simp [Nat.max_def] <;> split <;> omega
 have rmin:r (min (r i) (r k))=min (r i) (r k):=by rcases Nat.le_total (r i) (r k) with e | e <;> simp [Nat.min_def] <;> split <;> omega
 rw [nI (by omega)]
 by_cases e:x=max (r i) (r k)
 ·subst e
  rw [aC rfl]
  refine⟨min (r i) (r k),rfl,by omega,?_,?_⟩
  ·unfold oK;rw [rmin,rmax,aC rfl];split <;> rfl
  ·unfold oK;rw [rmax,aC rfl]
 ·rw [aG e]
  obtain⟨u,c1,c2,c3,c4⟩:=b2.rt x hx
  refine⟨u,c1,c2,?_,?_⟩
  ·unfold oK;rw [c3]
  ·unfold oK
   split
   ·rename_i e2
    constructor
    ·intro hu;have:=c4.1 hu;omega
    ·intro hu
     have h1:=b2.le x hx
     have h3:x=max (r i) (r k):=by omega
     exact absurd h3 e
   ·exact c4
def je (s:List aA) (k:Nat):Nat:=(aS (s.take k)).length
theorem yr {s:List aA} {k:Nat} (h:k<s.length):je s (k+1)=je s k+s[k].Xs.length / 2:=by
 unfold je
 rw [eC h,nB,cZ]
 show _+ (aS [s[k]]).length=_
 rw [show aS [s[k]]=mG s[k] by simp [aS],m7]
theorem yt {s:List aA} {k m:Nat} (h:k<=m):je s k<=je s m:=by
 unfold je
 have:=yp (s.take m) k
 rwa [List.take_take,Nat.min_eq_left h] at this
theorem Dz (s:List aA):je s s.length= (aS s).length:=by unfold je;rw [eQ]
theorem Iy {s:List aA} {k t:Nat} (h:k<s.length) (ht:2*t+1<s[k].Xs.length): (aS s)[je s k+t]? =some ⟨s[k].Xs[2*t],s[k].Y0,s[k].Xs[2*t+1],s[k].Y1⟩:=by
 have e:aS s=aS (s.take k)++(mG s[k]++aS (s.drop (k+1))):=by
  conv=>lhs;rw [<-List.take_append_drop k s,sP h]
  rw [nB,mH]
 rw [e]
 unfold je
 rw [gQ (by omega),Nat.add_sub_cancel_left,gF (by rw [m7];omega)]
 unfold mG
 rw [gG,xy _ _ ht];rfl
theorem Fp {s:List aA} {i:Nat} (h:i< (aS s).length): ∃k,k<s.length/\je s k<=i/\i<je s (k+1):=by
 have key: ∀m,m<=s.length->i<je s m->∃k,k<m/\je s k<=i/\i<je s (k+1):=by
  intro m
  induction m with
  | zero=>intro _ h;unfold je at h;simp [aS] at h
  | succ m ih=>
   intro hm hi
   by_cases h1:i<je s m
   ·obtain⟨k,hk,h2⟩:=ih (by omega) h1
    exact⟨k,by omega,h2⟩
   ·exact⟨m,by omega,by omega,hi⟩
 exact key s.length (bU _) (by rw [Dz];exact h)
def Co (a c:aI):Prop:=a.Y1=c.Y0/\a.X0<c.X1/\c.X0<a.X1
def xU (all:List aI) (i j:Nat):Prop:=∃a c,all[i]? =some a/\all[j]? =some c/\Co a c
theorem vd {s:List aA} (he: ∀b∈s,b.Xs.length % 2=0) {k i:Nat} (hk:k<s.length) (h1:je s k<=i) (h2:i<je s (k+1)): ∃t,i=je s k+t/\∃h:2*t+1<s[k].Xs.length,(aS s)[i]? =some ⟨s[k].Xs[2*t],s[k].Y0,s[k].Xs[2*t+1],s[k].Y1⟩:=by
 rw [yr hk] at h2
 have:=he _ (cN hk)
 refine⟨i - je s k,by omega,by omega,?_⟩
 have h3:=Iy (t:=i - je s k) hk (by omega)
 rwa [show je s k+ (i - je s k)=i by omega] at h3
theorem Ah {s:List aA} (hc:eT (s.map bY)) {p q:Nat} (hp:p<s.length) (hq:q<s.length) (h:p<q):s[p].Y1<=s[q].Y0:=by
 have:=mR.1 hc.ord p q (by simp;omega) (by simp;omega) h
 simp only [List.getElem_map] at this
 exact this.1
theorem Ai {s:List aA} (hc:eT (s.map bY)) {p:Nat} (hp:p<s.length):s[p].Y0<s[p].Y1:=(hc.each (bY s[p]) (dG.2 ⟨_,cN hp,rfl⟩)).1
theorem sD {s:List aA} (hc:eT (s.map bY)): ∀b∈s,b.Xs.length % 2=0:=fun b hb=>(hc.each (bY b) (dG.2 ⟨b,hb,rfl⟩)).2.2.2
theorem Fq {s:List aA} (hc:eT (s.map bY)): ∀b∈s,jd b.Xs:=fun b hb=>(hc.each (bY b) (dG.2 ⟨b,hb,rfl⟩)).2.2.1
theorem DA {s:List aA} (hc:eT (s.map bY)) {i j q:Nat} (hq:q<s.length) (h1:je s q<=j) (h2:j<je s (q+1)) (ht:xU (aS s) i j): ∃hq0:0<q,s[q - 1].Y1=s[q].Y0/\je s (q - 1)<=i/\i<je s q:=by
 obtain⟨a,c,ha,hb,e1,e2,e3⟩:=ht
 obtain⟨t,e4,ht,hj⟩:=vd (sD hc) hq h1 h2
 rw [hj] at hb;injection hb with hb;subst hb
 have hil:=(bB.1 ha).1
 obtain⟨p,hp,p1,p2⟩:=Fp hil
 obtain⟨u,e5,hu,hi⟩:=vd (sD hc) hp p1 p2
 rw [hi] at ha;injection ha with ha;subst ha
 have e1:s[p].Y1=s[q].Y0:=e1
 have hpp:=Ai hc hp
 have hqq:=Ai hc hq
 have hpq:p+1=q:=by
  rcases Nat.lt_trichotomy p q with h | h | h
  ·by_cases h':p+1=q
   ·exact h'
   ·have h3:=Ah hc hp (show p+1<s.length by omega) (by omega)
    have h4:=Ah hc (show p+1<s.length by omega) hq (by omega)
    have h5:=Ai hc (show p+1<s.length by omega)
    omega
  ·subst h;omega
  ·have:=Ah hc hq hp h;omega
 subst hpq
 exact⟨by omega,e1,p1,p2⟩
structure PJ (all:List aI) (n:Nat) (up:List Int) (r:Nat->Nat) (E:List (Nat×Nat)):Prop where
 uf:UF n up r
 co:qJ r E
 fi:Ag n r E
 so: ∀p∈E,xU all p.1 p.2
theorem PJ.join {all:List aI} {n:Nat} {up up':List Int} {r:Nat->Nat} {E:List (Nat×Nat)} (h:PJ all n up r E) {i j:Nat} (hi:i<n) (hj:j<n) (hu:UF n up' (oK r (r i) (r j))) (ht:xU all i j):PJ all n up' (oK r (r i) (r j)) (E++[(i,j)]):=
 ⟨hu,h.co.join i j (h.uf.rr i hi),h.fi.join hi hj,fun p hp=>by
  rcases cY.1 hp with hp | hp
  ·exact h.so p hp
  ·simp at hp;subst hp;exact ht⟩
structure Joined (all:List aI) (r:Nat->Nat):Prop where
 le: ∀i,i<all.length->r i<=i
 rr: ∀i,i<all.length->r (r i)=r i
 co: ∀i j,xU all i j->r i=r j
 fi: ∀S:Nat->Prop,(∀i j,xU all i j->(S i↔S j))->∀i j,i<all.length->j<all.length->r i=r j->S i->S j
def nC (all:List aI) (n:Nat) (r:Nat->Nat) (h:Nat):List aI:=(cls n r h).filterMap (fun i=>all[i]?)
theorem Aj (all:List aI) (n:Nat) (r:Nat->Nat) (h:Nat): (nC all n r h).length<=n:=by
 have h1:=List.length_filterMap_le (fun i=>all[i]?) (cls n r h)
 have h2:=xA n r h
 unfold nC;omega
theorem ve {all:List aI} {n:Nat} {r:Nat->Nat} (h:Nat) {x:aI} (hx:all[n]? =some x):nC all (n+1) r h=if r n=h then nC all n r h++[x] else nC all n r h:=by
 unfold nC
 rw [uO]
 split
 ·rw [List.filterMap_append];simp [hx]
 ·rfl
theorem lN {all:List aI} {n:Nat} {r:Nat->Nat} {h:Nat} {x:aI}:x∈nC all n r h↔∃i,i<n/\r i=h/\all[i]? =some x:=by
 unfold nC cls
 rw [List.mem_filterMap]
 constructor
 ·rintro⟨i,hi,h⟩
  have:=i7.1 hi
  exact⟨i,oX.1 this.1,by simpa using this.2,h⟩
 ·rintro⟨i,h1,h2,h3⟩
  exact⟨i,i7.2 ⟨oX.2 h1,by simpa using h2⟩,h3⟩
structure rl (s:List aA) (r:Nat->Nat) (ps:List (List aA)):Prop where
 join:Joined (aS s) r
 len:ps.length= (bK (aS s).length r).length
 each: ∀(j h:Nat) (p:List aA),(bK (aS s).length r)[j]? =some h->ps[j]? =some p->sB (nC (aS s) (aS s).length r h) p
def M4 (n:Nat) (r:Nat->Nat) (m:List (Int×Int)):Prop:=(∀(j k:Nat),(bK n r)[j]? =some k->jy m ((k:Nat):Int) 0= ((j:Nat):Int))/\∀k:Nat,tM m ((k:Nat):Int)=decide (k∈bK n r)
theorem EE {s:List aA} {X Y:List Int} (hc:eT (s.map bY)) (hl:wF X Y (s.map bY)) (hX: ∀c∈X,small c) (hY: ∀c∈Y,small c) (h1:s.length<=1073741824) (h2: ∀b∈s,b.Xs.length<=1073741824) (h3: (aS s).length<=134217728) (hN:4398046511104<=N):
  Ok (lK N s) (fun ps=>∃r,rl s r ps):=by
 unfold lK
 have hev:=sD hc
 have hinc:=Fq hc
 refine Ok.eq (Ac hev (by omega) (fun b hb=>by have:=h2 b hb;omega) (by omega)) ?_
 have hok:=Ad hc hl hX hY
 have hall:je s s.length= (aS s).length:=Dz s
 generalize hn: (aS s).length=n at *
 refine Ok.eq (ri 0 (by omega)) ?_
 rw [show ((List.replicate n (0:Int)).length)=n by simp]
 refine Ok.bind (Ok.nn (fun k up=>up.length=n/\∀i,i<k->up[i]? =some ((i:Nat):Int)) (by omega) ⟨by simp,fun i hi=>by omega⟩ (fun k up hk hI=>?_)) ?_
 ·obtain⟨hs,hi⟩:=hI
  refine Ok.idx (by omega) (Ok.ret ⟨by simp [hs],fun i hi'=>?_⟩)
  rw [cF,nI (by omega)]
  split
  ·rename_i e;rw [e]
  ·exact hi i (by omega)
 rintro up0 ⟨hu1,hu2⟩
 refine Ok.bind (Ok.nn (fun k st=>st.2.1= ((je s k:Nat):Int)/\(0<k->st.2.2= ((je s (k - 1):Nat):Int))/\∃r E,PJ (aS s) n st.1 r E/\∀q,q<k->∀i j,je s q<=j->j<je s (q+1)->xU (aS s) i j->(i,j)∈E) (by omega)
  ⟨rfl,fun h=>by omega,_,_,⟨UF.init n up0 hu1 hu2,qJ.id,Ag.id n,fun p hp=>(by cases hp)⟩,fun q hq=>by omega⟩ (fun k st hk hI=>?_)) ?_
 ·obtain⟨up,a,b⟩:=st
  obtain⟨e1,e2,r,E,hP,hE⟩:=hI
  dsimp only at e1 e2 hP ⊢
  subst e1
  refine Ok.idx hk ?_
  have hoff:=yr hk
  have hoffle:je s (k+1)<=n:=by rw [<-hall];exact yt hk
  have hkm:=cN hk
  have hlen:IntKind.wrap .i64 (Int.tdiv ((s[k].Xs.length:Nat):Int) 2)= ((s[k].Xs.length / 2:Nat):Int):=by
   have:=h2 _ hkm
   rw [show (2:Int)= ((2:Nat):Int) by rfl,<-Int.ofNat_tdiv,Dv (by omega)]
  rw [hlen,wrap_add (by omega),<-hoff]
  refine Ok.bind (P:=fun c=>c=true↔∃h0:0<k,s[k - 1].Y1=s[k].Y0) ?_ (fun c hcc=>?_)
  ·refine Ok.bif (fun h=>?_) (fun h=>Ok.ret ?_)
   ·have hpos:0<k:=by have:=of_decide_eq_true h;omega
    rw [jm hpos (by omega)]
    refine Ok.idx (by omega) (Ok.ret ?_)
    rw [beq_iff_eq]
    exact⟨fun h=>⟨hpos,h⟩,fun⟨_,h⟩=>h⟩
   ·have:=of_decide_eq_false h
    constructor
    ·intro h;cases h
    ·rintro⟨h0,_⟩;omega
  refine Ok.bind (P:=fun up'=>∃r E,PJ (aS s) n up' r E/\∀q,q<k+1->∀i j,je s q<=j->j<je s (q+1)->xU (aS s) i j->(i,j)∈E) ?_ (fun up' hI=>Ok.ret ⟨rfl,fun _=>rfl,hI⟩)
  refine Ok.bif (fun h=>?_) (fun h=>Ok.ret ⟨r,E,hP,fun q hq i j q1 q2 ht=>?_⟩)
  ·obtain⟨hpos,hyy⟩:=hcc.1 h
   rw [e2 hpos]
   have hoffp:=yr (show k - 1<s.length by omega)
   rw [show k - 1+1=k by omega] at hoffp
   refine Ok.bind (Ok.jE (Go:=fun st=>∃r E,PJ (aS s) n st.1 r E/\∀q,q<k+1->∀i j,je s q<=j->j<je s (q+1)->xU (aS s) i j->(i,j)∈E) (Rt:=fun _=>True)
    (fun st=>∃i j:Nat,st.2.1= ((i:Nat):Int)/\st.2.2= ((j:Nat):Int)/\je s (k - 1)<=i/\i<=je s k/\je s k<=j/\j<=je s (k+1)/\∃r E,PJ (aS s) n st.1 r E/\(∀q,q<k->∀i j,je s q<=j->j<je s (q+1)->xU (aS s) i j->(i,j)∈E)/\
     ∀i' j',je s (k - 1)<=i'->i'<je s k->je s k<=j'->j'<je s (k+1)->(i'<i\/j'<j)->xU (aS s) i' j'->(i',j')∈E)
    (fun st=>(n - st.2.1.toNat)+ (n - st.2.2.toNat)) ?_ ?_ (by simp only [cF];omega)) (fun o ho=>Ok.cs ho (fun st h=>Ok.ret h) (fun r=>r.elim))
   ·rintro⟨up,a,b⟩ ⟨i,j,e3,e4,i1,i2,j1,j2,r,E,hP,hE,hE2⟩
    dsimp only at e3 e4 hP ⊢
    subst e3;subst e4
    refine Ok.bif (fun h=>?_) (fun h=>Ok.br ?_)
    ·rw [bW,bR,bR] at h
     have hi:i<je s k:=by omega
     have hj:j<je s (k+1):=by omega
     obtain⟨t,et,_,hri⟩:=vd hev (show k - 1<s.length by omega) i1 (by rw [show k - 1+1=k by omega];exact hi)
     obtain⟨u,eu,_,hrj⟩:=vd hev hk j1 hj
     have xi:=hinc _ (cN (show k - 1<s.length by omega))
     have xj:=hinc _ hkm
     have farI: ∀i' a,i<i'->i'<je s k->(aS s)[i']? =some a->s[k - 1].Xs[2*t+1]<a.X0:=fun i' a h4 h5 h6=>by
      obtain⟨t',et',ht',hr'⟩:=vd hev (show k - 1<s.length by omega) (show je s (k - 1)<=i' by omega) (by rw [show k - 1+1=k by omega];exact h5)
      rw [hr'] at h6;injection h6 with h6;subst h6
      exact xi.lt (show 2*t+1<2*t' by omega) (aO _) (aO _)
     have farJ: ∀j' a,j<j'->j'<je s (k+1)->(aS s)[j']? =some a->s[k].Xs[2*u+1]<a.X0:=fun j' a h4 h5 h6=>by
      obtain⟨u',eu',hu',hr'⟩:=vd hev hk (show je s k<=j' by omega) h5
      rw [hr'] at h6;injection h6 with h6;subst h6
      exact xj.lt (show 2*u+1<2*u' by omega) (aO _) (aO _)
     refine Ok.bind (P:=fun c=>c=true↔xU (aS s) i j) ?_ (fun c hct=>?_)
     ·refine Ok.ix hri (Ok.ix hrj (Ok.bif (fun h=>Ok.ix hrj (Ok.ix hri (Ok.ret ?_))) (fun h=>Ok.ret ?_)))
      ·rw [bR] at h ⊢
       constructor
       ·intro h';exact⟨_,_,hri,hrj,hyy,h,h'⟩
       ·rintro⟨a,c,ha,hc',_,_,h'⟩
        rw [hri] at ha;injection ha with ha;subst ha
        rw [hrj] at hc';injection hc' with hc';subst hc'
        exact h'
      ·constructor
       ·intro h;cases h
       ·rintro⟨a,c,ha,hc',_,h',_⟩
        rw [hri] at ha;injection ha with ha;subst ha
        rw [hrj] at hc';injection hc' with hc';subst hc'
        rw [decide_eq_false_iff_not] at h;exact absurd h' h
     refine Ok.bind (P:=fun up'=>∃r E',PJ (aS s) n up' r E'/\(∀p∈E,p∈E')/\(xU (aS s) i j->(i,j)∈E')) ?_ ?_
     ·refine Ok.bif (fun h=>?_) (fun h=>Ok.ret ⟨r,E,hP,fun p hp=>hp,fun ht=>by rw [hct.2 ht] at h;cases h⟩)
      obtain⟨up',u1,u2⟩:=Hp (N:=N) (f:=fun x=>some x) hP.uf (i:=i) (k:=j) (by omega) (by omega) (by omega)
      refine⟨up',u1,_,_,hP.join (by omega) (by omega) u2 (hct.1 h),fun p hp=>List.mem_append_left _ hp,fun _=>by simp⟩
     ·rintro up' ⟨r',E',hP',hsub,hij⟩
      refine Ok.ix hri (Ok.ix hrj ?_)
      dsimp only
      by_cases hx:s[k - 1].Xs[2*t+1]<s[k].Xs[2*u+1]
      ·rw [bS hx,aP]
       refine Ok.eq (x:=(((i+1:Nat):Int),((j:Nat):Int))) (by rw [bN (by omega)]) (Ok.nx ⟨⟨i+1,j,rfl,rfl,by omega,by omega,j1,j2,r',E',hP',fun q hq i j q1 q2 ht=>hsub _ (hE q hq i j q1 q2 ht),fun i' j' g1 g2 g3 g4 g5 ht=>?_⟩,by simp only [cF];omega⟩)
       by_cases h5:i'<i\/j'<j
       ·exact hsub _ (hE2 i' j' g1 g2 g3 g4 h5 ht)
       ·have:i'=i:=by omega
        subst this
        by_cases h6:j'=j
        ·subst h6;exact hij ht
        ·exfalso
         obtain⟨a,c,ha,hc',_,_,h'⟩:=ht
         rw [hri] at ha;injection ha with ha;subst ha
         have:=farJ j' c (by omega) g4 hc'
         dsimp only at h';omega
      ·rw [cD hx,aR]
       refine Ok.eq (x:=(((i:Nat):Int),((j+1:Nat):Int))) (by rw [bN (by omega)]) (Ok.nx ⟨⟨i,j+1,rfl,rfl,i1,i2,by omega,by omega,r',E',hP',fun q hq i j q1 q2 ht=>hsub _ (hE q hq i j q1 q2 ht),fun i' j' g1 g2 g3 g4 g5 ht=>?_⟩,by simp only [cF];omega⟩)
       by_cases h5:i'<i\/j'<j
       ·exact hsub _ (hE2 i' j' g1 g2 g3 g4 h5 ht)
       ·have:j'=j:=by omega
        subst this
        by_cases h6:i'=i
        ·subst h6;exact hij ht
        ·exfalso
         obtain⟨a,c,ha,hc',_,h',_⟩:=ht
         rw [hrj] at hc';injection hc' with hc';subst hc'
         have:=farI i' a (by omega) g2 ha
         dsimp only at h';omega
    ·refine⟨r,E,hP,fun q hq i' j' q1 q2 ht=>?_⟩
     by_cases hqk:q<k
     ·exact hE q hqk i' j' q1 q2 ht
     ·have:q=k:=by omega
      subst this
      obtain⟨_,_,g1,g2⟩:=DA hc hk q1 q2 ht
      refine hE2 i' j' g1 g2 q1 q2 ?_ ht
      rw [Bool.and_eq_false_iff,decide_eq_false_iff_not,decide_eq_false_iff_not] at h
      omega
   ·exact⟨je s (k - 1),je s k,rfl,rfl,bU _,yt (by omega),bU _,yt (by omega),r,E,hP,hE,fun i' j' g1 g2 g3 g4 g5=>by omega⟩
  ·by_cases hqk:q<k
   ·exact hE q hqk i j q1 q2 ht
   ·have:q=k:=by omega
    subst this
    obtain⟨g0,g1,_⟩:=DA hc hk q1 q2 ht
    rw [hcc.2 ⟨g0,g1⟩] at h;cases h
 ·rintro⟨up,a,b⟩ ⟨_,_,r,E,hP,hE⟩
  dsimp only at hP ⊢
  have hEq: ∀i j,xU (aS s) i j->(i,j)∈E:=fun i j ht=>by
   have hjl:j< (aS s).length:=by obtain⟨a,c,_,hb,_⟩:=ht;exact(bB.1 hb).1
   obtain⟨q,hq,q1,q2⟩:=Fp hjl
   exact hE q hq i j q1 q2 ht
  have hJ:Joined (aS s) r:=⟨by rw [hn];exact hP.uf.le,by rw [hn];exact hP.uf.rr,fun i j ht=>hP.co (i,j) (hEq i j ht),fun S hS i j hi hj=>by
   rw [hn] at hi hj
   exact hP.fi S (fun p hp=>hS p.1 p.2 (hP.so p hp)) i j hi hj⟩
  refine Ok.bind (Ok.nn (fun k st=>UF n st.1 r/\M4 k r st.2.1/\st.2.2= (bK k r).map (nC (aS s) k r)) (by omega) ⟨hP.uf,⟨fun j k hj=>by simp [bK] at hj,fun k=>rfl⟩,rfl⟩ (fun k st hk hI=>?_)) ?_
  ·obtain⟨l,m,ls⟩:=st
   obtain⟨hu,⟨hm1,hm2⟩,hs⟩:=hI
   dsimp only at hu hm1 hm2 hs ⊢
   subst hs
   have hkx: (aS s)[k]? =some ((aS s)[k]'(by omega)):=aO (by omega)
   refine Ok.ix hkx ?_
   obtain⟨u',a1,a2⟩:=Cn (N:=N) hu hk (by omega)
   refine Ok.eq a1 ?_
   dsimp only
   have hhl:=kA k r
   have hrk:=hP.uf.le k hk
   have hrr:=hP.uf.rr k hk
   have hcl:=Aj (aS s) k r (r k)
   have hmap: ((bK k r).map (nC (aS s) k r)).length= (bK k r).length:=by simp
   rw [hm2]
   by_cases e:r k=k
   ·have hnot:r k∉bK k r:=fun h=>by have:=(iY.1 h).1;omega
    refine Ok.eq (x:=(vo m ((r k:Nat):Int) (((bK k r).length:Nat):Int),(bK k r).map (nC (aS s) k r)++[([]:List aI)],(((bK k r).length:Nat):Int))) ?_ ?_
    ·rw [cD hnot,pT,aP,kJ (by simp;omega),aB,hmap]
    ·dsimp only
     have hi: ((bK k r).map (nC (aS s) k r)++[([]:List aI)])[(bK k r).length]? =some []:=by rw [<-hmap,gQ (bU _),Nat.sub_self];rfl
     refine Ok.ix hi (Ok.app (by simp) (Ok.ix hi (Ok.ret ⟨a2,⟨fun j q hj=>?_,fun q=>?_⟩,?_⟩)))
     ·dsimp only
      rw [gD,aC e] at hj
      rw [yo]
      by_cases e2:j< (bK k r).length
      ·rw [gF e2] at hj
       have:=(iY.1 (eV hj)).1
       rw [aG (by omega)];exact hm1 j q hj
      ·rw [gQ (by omega)] at hj
       have hj0:j - (bK k r).length=0:=by
        have:=(bB.1 hj).1;simp at this;omega
       rw [hj0] at hj;simp at hj;subst hj
       rw [aC (by rw [e])];congr 1;omega
     ·dsimp only
      rw [F2,hm2,gD,aC e,fu]
      rw [dK,bR,bR,bR,cY,pS,e]
      constructor
      ·rintro(h | h)
       ·exact .inr (by omega)
       ·exact .inl h
      ·rintro(h | h)
       ·exact .inr h
       ·exact .inl (by omega)
     ·dsimp only
      rw [cF,<-hmap,List.set_append_right _ _ (bU _),Nat.sub_self,gD,aC e,dP]
      congr 1
      ·apply List.map_congr_left
       intro a ha
       have:=(iY.1 ha).1
       rw [ve a hkx,aG (by omega)]
      ·simp only [List.set_cons_zero,dZ,List.map_nil,List.nil_append]
       rw [ve k hkx,aC e]
       have:nC (aS s) k r k= []:=by unfold nC;rw [Fm (fun i hi=>hP.uf.le i (by omega)) (bU _)];rfl
       rw [this];rfl
   ·have hh:r k∈bK k r:=iY.2 ⟨by omega,hrr⟩
    obtain⟨j,hj⟩:=dV hh
    refine Ok.eq (x:=(m,(bK k r).map (nC (aS s) k r),((j:Nat):Int))) ?_ ?_
    ·rw [bS hh,nE,aR,hm1 j (r k) hj]
    ·dsimp only
     have hi: ((bK k r).map (nC (aS s) k r))[j]? =some (nC (aS s) k r (r k)):=by rw [gG,hj];rfl
     refine Ok.ix hi (Ok.app (by simp;omega) (Ok.ix hi (Ok.ret ⟨a2,⟨fun j' q hj'=>?_,fun q=>?_⟩,?_⟩)))
     ·rw [gD,aG e] at hj';exact hm1 j' q hj'
     ·rw [gD,aG e];exact hm2 q
     ·dsimp only
      rw [cF,gD,aG e]
      have:=uP (nC (aS s) k r) (nC (aS s) (k+1) r) (bK k r) j (r k) (lA k r) hj (fun b hb hne=>by
       rw [ve b hkx,aG (fun h=>hne h.symm)])
      rw [ve (r k) hkx,aC rfl] at this
      exact this
  ·rintro⟨l,m,ls⟩ ⟨_,_,hs⟩
   dsimp only at hs ⊢
   subst hs
   have hhl:=kA n r
   refine Ok.bind (Ok.nn (fun k ps=>ps.length=k/\∀(j h:Nat) (p:List aA),j<k->(bK n r)[j]? =some h->ps[j]? =some p->sB (nC (aS s) n r h) p) (by simp;omega) ⟨rfl,fun j h p hj=>by omega⟩ (fun k ps hk hI=>?_)) ?_
   ·obtain⟨hp1,hp2⟩:=hI
    have hk':k< (bK n r).length:=by simpa using hk
    refine Ok.ix (x:=nC (aS s) n r (bK n r)[k]) (by rw [gG,aO hk'];rfl) ?_
    have hcl:=Aj (aS s) n r (bK n r)[k]
    refine Ok.bind (oT (N:=N) (by omega) (fun x hx=>?_) (by omega)) ?_
    ·obtain⟨i,_,_,h⟩:=lN.1 hx
     exact(hok x (eV h)).1
    ·intro p hp
     refine Ok.app (by rw [hp1];simp;omega) (Ok.ret ⟨by simp [hp1],fun j h q hj hh hq=>?_⟩)
     by_cases hjk:j<k
     ·rw [gF (by omega)] at hq
      exact hp2 j h q hjk hh hq
     ·have:j=k:=by omega
      subst this
      rw [gQ (by omega),hp1,Nat.sub_self] at hq
      simp at hq;subst hq
      rw [aO hk'] at hh;injection hh with hh;subst hh
      exact hp
   ·rintro ps ⟨hp1,hp2⟩
    refine Ok.ret ⟨r,hJ,?_,fun j h p hh hp=>?_⟩
    ·rw [hp1,hn];simp
    ·rw [hn] at hh ⊢
     exact hp2 j h p (by have:=(bB.1 hp).1;omega) hh hp
end
end Go.Gk
namespace Go.Gk
open Go
section
variable {N:Nat}
theorem xB {n:Int} (h: -9223372036854775808<=n/\n<=9223372036854775807):IntKind.wrap .i64 n=n:=by rw [IntKind.wrap_i64];omega
def fU (n lo hi:Int):Bool:=decide (n>=lo)&&decide (n<=hi)
def lB (n:Int):Bool:=fU n (-1000000) 1000000
def qL (p:jt):Bool:=lB p.X&&lB p.Y
def fB (r:aI):Bool:=lB r.X0&&(lB r.Y0&&(lB r.X1&&lB r.Y1))
theorem Ak (n:Int):lC N n=some (lB n):=rfl
theorem yQ (p:jt):jX N p=some (qL p):=by
 unfold jX qL
 rw [Ak,aB,Ak]
 cases lB p.X <;> rfl
theorem yR (p:jt):fZ N p=some (qL p):=by
 have e: ∀n,cR N n=some (lB n):=fun _=>rfl
 unfold fZ qL
 rw [e,aB,e]
 cases lB p.X <;> rfl
theorem Al (r:aI):mU N r=some (fB r):=by
 unfold mU fB
 simp only [Ak,aB]
 cases lB r.X0 <;> cases lB r.Y0 <;> cases lB r.X1 <;> rfl
theorem DB {a b:Int} (h:a≠b):ij (N+4) [a,b]=some [a,b]:=by
 have e: (b==a)=false:=by rw [beq_eq_false_iff_ne];exact fun e=>h e.symm
 have w1:IntKind.wrap .i64 ((1:Int) - 1)=0:=by decide
 have w2:IntKind.wrap .i64 ((1:Int)+1)=2:=by decide
 unfold ij
 have e1:idx [a,b] 1=some b:=rfl
 have e2:idx [a,b] 0=some a:=rfl
 have l2: (([a,b]:List Int).length:Int)=2:=rfl
 rw [l2,show decide ((2:Int)<2)=false by decide,aR]
 rw [jE.eq_def]
 dsimp only
 rw [show decide ((1:Int)<2)=true by decide,aP,e1,aB,w1,e2,aB,e,aR,aB,w2]
 dsimp only
 rw [jE.eq_def]
 dsimp only
 rw [show decide ((2:Int)<2)=false by decide,aR,aB]
 rfl
theorem Jc (x:Int):IntKind.wrap .i64 (x - x)=0:=by rw [Int.sub_self];decide
theorem F7 {r:aI} (hx:r.X0<r.X1) (hy:r.Y0<r.Y1):iz (N+16) [r]=some [⟨r.Y0,r.Y1,[r.X0,r.X1]⟩]:=by
 have s1:wP (j5 (N+16)) [r]=some [r]:=Bw (by unfold j5;rw [Jc])
 have s2:wP (ik (N+16)) [r]=some [r]:=Bw (by unfold ik;rw [Jc])
 have s3:ue [r.Y0,r.Y1]=some [r.Y0,r.Y1]:=A6 (by simp;omega) (by simp)
 have c1:jH (N+16) [r]=some [r]:=rfl
 have f1: ∀φ,iO (N+16) [] φ=some []:=fun φ=>rfl
 have st:jN (N+16) [r]=some ([r.X0,r.X1],[r]):=by
  unfold jN
  rw [s2,aB]
  rfl
 have pu: ∀b:aA,b.Xs= [r.X0,r.X1]->b.Y0<b.Y1->jz (N+16) [] b=some [b]:=fun b h1 h2=>by
  unfold jz
  rw [h1,cD (show ¬b.Y1<=b.Y0 by omega)]
  rfl
 unfold iz
 rw [c1,aB,s1,aB]
 have ys: (nn ([r]:List aI).length (fun(k35:Nat) (s36: (List Int))=>((idx [r] (k35:Int)).bind fun x54=>(app 8 s36 ([x54.Y0,x54.Y1]: (List Int))).bind fun x58=>some x58:Option ((List Int)))) ([]: (List Int)))=some [r.Y0,r.Y1]:=rfl
 rw [ys,aB,s3,aB,DB (N:=N+12) (by omega),aB]
 have l2: (([r.Y0,r.Y1]:List Int).length:Int)=2:=rfl
 have l1: (([r]:List aI).length:Int)=1:=rfl
 have w1:IntKind.wrap .i64 ((0:Int)+1)=1:=by decide
 have w2:IntKind.wrap .i64 ((1:Int)+1)=2:=by decide
 have i0:idx [r.Y0,r.Y1] 0=some r.Y0:=rfl
 have i1:idx [r.Y0,r.Y1] 1=some r.Y1:=rfl
 have j0:idx [r] 0=some r:=rfl
 have a1:app 32 ([]:List aI) [r]=some [r]:=rfl
 rw [l2,l1]
 rw [jE.eq_def]
 dsimp only
 rw [w1,show decide ((1:Int)<2)=true by decide,aP,f1,aB]
 rw [jE.eq_def]
 dsimp only
 rw [show decide ((0:Int)<1)=true by decide,aP,j0,aB,i0,aB,aB,show decide (r.Y0<=r.Y0)=true by simp,aP,aB,a1,aB,w1,aB]
 dsimp only
 rw [jE.eq_def]
 dsimp only
 rw [show decide ((1:Int)<1)=false by decide,aR,aB,aR,aB,aB]
 unfold Fo.cs
 dsimp only
 rw [aB,i1,aB,st,aB,pu _ rfl hy,aB,aB]
 dsimp only
 rw [jE.eq_def]
 dsimp only
 rw [w2,show decide ((2:Int)<2)=false by decide,aR,aB]
 rfl
theorem Hq {r:aI} (hx:r.X0<r.X1):mo N [⟨r.Y0,r.Y1,[r.X0,r.X1]⟩]=some (fB r):=by
 have ar:mV N [⟨r.Y0,r.Y1,[r.X0,r.X1]⟩]=some r:=by
  have e1: (if r.X0<r.X0 then r.X0 else r.X0)=r.X0:=by split <;> rfl
  have e2: (if r.X1<r.X1 then r.X1 else r.X1)=r.X1:=by split <;> rfl
  show some ({X0:=(if r.X0<r.X0 then r.X0 else r.X0),Y0:=r.Y0,X1:=(if r.X1<r.X1 then r.X1 else r.X1),Y1:=r.Y1}:aI)=some r
  rw [e1,e2]
 unfold mo
 rw [ar,aB,Al]
 rfl
def t6 (b:cE):aI:=⟨b.At.X - b.dE / 2,b.At.Y - b.dE / 2,b.At.X - b.dE / 2+b.dE,b.At.Y - b.dE / 2+b.dE⟩
def pQ (b:cE):Bool:=fU b.dE 1 10000&&qL b.At
def mg (b:cE):aI×Int:=if pQ b&&fB (t6 b) then (t6 b,0) else (⟨0,0,0,0⟩,1)
theorem rm {b:cE} (h:pQ b=true): (1<=b.dE/\b.dE<=10000)/\(-1000000<=b.At.X/\b.At.X<=1000000)/\(-1000000<=b.At.Y/\b.At.Y<=1000000):=by
 simp only [pQ,fU,qL,lB,bW,decide_eq_true_iff] at h
 omega
theorem mI {b:cE} (h:pQ b=true):gE N b=some (t6 b):=by
 obtain⟨h1,h2,h3⟩:=rm h
 have t:Int.tdiv b.dE 2=b.dE / 2:=Int.tdiv_eq_ediv_of_nonneg (by omega)
 unfold gE t6
 rw [t,xB (n:=b.dE / 2) (by omega),xB (n:=b.At.X - b.dE / 2) (by omega),xB (n:=b.At.Y - b.dE / 2) (by omega),xB (by omega),xB (by omega)]
theorem sE {b:cE}:kS (N+16) b=some (mg b):=by
 have e0:iK (N+16) b.dE 1 10000=some (fU b.dE 1 10000):=rfl
 have e1: (bif (!(fU b.dE 1 10000)) then (some true) else (some (!(qL b.At))))=some (!pQ b):=by unfold pQ;cases fU b.dE 1 10000 <;> rfl
 unfold kS mg
 rw [e0,aB,yQ,aB,e1,aB]
 cases hf:pQ b with
 | false=>rfl
 | true=>
  obtain⟨h1,h2,h3⟩:=rm hf
  have hx: (t6 b).X0< (t6 b).X1:=by simp only [t6];omega
  have hy: (t6 b).Y0< (t6 b).Y1:=by simp only [t6];omega
  rw [nE,aR,mI hf,aB,F7 hx hy,aB,Hq hx,aB]
  cases fB (t6 b) <;> rfl
theorem F8:iX (N+16)=some true:=by
 unfold iX
 rw [sE,aB]
 rfl
end
end Go.Gk
namespace Go.Gk
open Go
section
variable {N:Nat}
def DC (c:UInt8):Bool:=
 ((((decide (((c.toNat:Nat):Int)<65))||(decide (((c.toNat:Nat):Int)>90)))&&((decide (((c.toNat:Nat):Int)<97))||(decide (((c.toNat:Nat):Int)>122))))&&((decide (((c.toNat:Nat):Int)<48))||(decide (((c.toNat:Nat):Int)>57))))&&decide (Lib.indexByte [95,43,45,35] c<0)
def isWord (s:eJ):Bool:= !s.cX.any DC&&(decide (1<=s.cX.length)&&decide (s.cX.length<=40))
theorem tn (s:eJ) (c:UInt8):gR N s ((c.toNat:Nat):Int)=some (Lib.indexByte s.cX c):=by
 show some (Lib.indexByte s.cX (Int.toNat ((c.toNat:Nat):Int)).toUInt8)=_
 rw [cF];simp
theorem EF {R:Type} (b1:Bool) (c:UInt8) (r:R):
  ((bif b1 then ((gR N (⟨[95,43,45,35]⟩) ((c.toNat:Nat):Int)).bind fun x14=>some (decide (x14<0))) else (some false)).bind fun s12=>bif s12 then (some (.rt r)) else (some (.nx ())):Option (Fl Unit R))=some (if (b1&&decide (Lib.indexByte [95,43,45,35] c<0))=true then .rt r else .nx ()):=by
 rw [tn,aB]
 cases b1
 ·rfl
 ·rw [aP,aB,Bool.true_and]
  cases decide (Lib.indexByte [95,43,45,35] c<0) <;> rfl
theorem rn {s:eJ} (h:s.cX.length<=1048576):jA N s=some (isWord s):=by
 unfold jA
 rw [Ip DC false (by omega) (fun k x hx=>by
  have hk:=(bB.1 hx).1
  have e:Eh s ((k:Nat):Int)=some x:=by rw [Dr s k hk,<-aO hk,hx]
  rw [e,aB]
  exact EF (R:=Bool) _ x false),aB]
 unfold isWord
 cases s.cX.any DC
 ·simp only [Fo.cs,pT,Bool.true_and,Bool.false_eq_true,if_false,Option.some.injEq]
  rw [fu,bW,bW]
  simp only [bR]
  omega
 ·simp [Fo.cs]
def cutAt (c:UInt8):List UInt8->List (List UInt8)
 | []=>[[]]
 | b::l=>if b==c then []::cutAt c l else match cutAt c l with | h::t=>(b::h)::t | []=>[[b]]
theorem Am {c:UInt8}: ∀{l:List UInt8},c∉l->cutAt c l= [l]
 | [],_=>rfl
 | b::l,h=>by
  unfold cutAt
  have hb: (b==c)=false:=by rw [beq_eq_false_iff_ne];rintro rfl;exact h (by simp)
  rw [hb,Am (fun h'=>h (by simp [h']))];rfl
theorem DD {c:UInt8}: ∀{a b:List UInt8},c∉a->cutAt c (a++c::b)=a::cutAt c b
 | [],b,_=>by rw [List.nil_append];show (if (c==c)=true then _ else _)=_;simp
 | x::a,b,h=>by
  have hb: (x==c)=false:=by rw [beq_eq_false_iff_ne];rintro rfl;exact h (by simp)
  have ih:=DD (c:=c) (a:=a) (b:=b) (fun h'=>h (by simp [h']))
  show (if (x==c)=true then []::cutAt c (a++c::b) else match cutAt c (a++c::b) with | h::t=>(x::h)::t | []=>[[x]])=_
  rw [hb,ih];rfl
theorem uQ: ∀(l:List UInt8) (c:UInt8),(Lib.indexByte l c = -1/\c∉l)\/∃a b,l=a++c::b/\c∉a/\Lib.indexByte l c= ((a.length:Nat):Int)
 | [],c=> .inl ⟨rfl,by simp⟩
 | x::l,c=>by
  unfold Lib.indexByte
  by_cases hx:x=c
  ·subst hx;exact .inr ⟨[],l,rfl,by simp,by simp⟩
  ·have hb: (x==c)=false:=by rw [beq_eq_false_iff_ne];exact hx
   rcases uQ l c with ⟨h1,h2⟩ | ⟨a,b,h1,h2,h3⟩
   ·left;rw [hb,h1];refine⟨by simp,?_⟩;simp [h2];exact fun h=>hx h.symm
   ·right
    refine⟨x::a,b,by rw [h1];rfl,by simp [h2];exact fun h=>hx h.symm,?_⟩
    rw [hb,h3]
    have: (((a.length:Nat):Int)== -1)=false:=by rw [beq_eq_false_iff_ne];omega
    rw [this];simp
theorem Hr (s:eJ) (c:UInt8):lS N s ⟨[c]⟩=some (Lib.indexByte s.cX c):=by
 show (kH N s ⟨[c]⟩).bind _=_
 unfold kH
 by_cases h:eJ.sM ⟨[c]⟩ s=true
 ·have:s= ⟨[c]⟩:=(Cb.1 h).symm
  subst this
  rw [h];simp [Lib.indexByte]
 ·rw [jU] at h
  rw [h]
  show ((ja N s ((c.toNat:Nat):Int)).bind _).bind _=_
  have:=tn (N:=N) s c
  simp only [gR] at this
  rw [this];rfl
theorem Hs (s:eJ) (c:UInt8):np N s ⟨[c]⟩=some ((s.cX.count c:Nat):Int):=by
 unfold np
 show (some _:Option Int)=_
 simp [Lib.countByte]
theorem F9 {s:eJ} {k:Nat} (h:k<=s.cX.length):vX s 0 ((k:Nat):Int)=some ⟨s.cX.take k⟩:=by
 unfold vX;rw [aC ⟨by omega,by omega,by omega⟩]
 simp only [Int.toNat_zero,List.drop_zero,Int.sub_zero,cF]
theorem Ga {s:eJ} {k:Nat} (h:k<=s.cX.length):vX s ((k:Nat):Int) ((s.cX.length:Nat):Int)=some ⟨s.cX.drop k⟩:=by
 unfold vX;rw [aC ⟨by omega,by omega,by omega⟩]
 simp only [cF]
 rw [kV];rw [iI];omega
def nP (s:eJ) (c:UInt8):List eJ:=(cutAt c s.cX).map eJ.mk
theorem DE {s:eJ} (c:UInt8) (h:s.cX.length<=1048576) (hN:4194304<=N):lT N s ⟨[c]⟩=some (nP s c):=by
 have hc:s.cX.count c<=s.cX.length:=List.count_le_length
 unfold lT mW
 rw [show ((-1:Int)==0)=false by decide,aR,show eJ.sM ⟨[c]⟩ ⟨[]⟩=false by simp [eJ.sM],aR,Hs,aB]
 rw [fz (x:=((s.cX.count c:Nat):Int)+1) (by omega) (by omega),show decide ((-1:Int)<0)=true by decide,aP,aB]
 rw [fz (x:=((s.cX.length:Nat):Int)+1) (by omega) (by omega)]
 have e1: (if ((s.cX.length:Nat):Int)+1< ((s.cX.count c:Nat):Int)+1 then ((s.cX.length:Nat):Int)+1 else ((s.cX.count c:Nat):Int)+1)= ((s.cX.count c+1:Nat):Int):=by
  rw [aG (by omega)];omega
 rw [e1,ri _ (by omega),aB]
 rw [fz (x:=((s.cX.count c+1:Nat):Int) - 1) (by omega) (by omega)]
 have key:=xe (S:=eJ×List eJ×Int) (R:=Empty) (body:=(fun(s7:eJ×(List eJ)×Int)=>(bif (decide (s7.2.2< ((s.cX.count c+1:Nat):Int) - 1)) then ((lS N s7.1 ⟨[c]⟩).bind fun x23=>bif (decide (x23<0)) then (some (.br (s7.1,s7.2.1,s7.2.2))) else ((vX s7.1 0 (IntKind.wrap .i64 (x23+0))).bind fun x24=>(idx s7.2.1 s7.2.2).bind fun x25=>(vX s7.1 (IntKind.wrap .i64 (x23+ (((⟨[c]⟩:eJ).cX.length:Nat):Int))) ((s7.1.cX.length:Nat):Int)).bind fun x27=>some (.nx (x27,(s7.2.1.set (Int.toNat s7.2.2) x24),(IntKind.wrap .i64 (s7.2.2+1)))))) else (some (.br (s7.1,s7.2.1,s7.2.2))):Option (Fl (eJ×(List eJ)×Int) Empty))))
  (fun st=>∃ws:List (List UInt8),st.2.2= ((ws.length:Nat):Int)/\cutAt c s.cX=ws++cutAt c st.1.cX/\ws.length+st.1.cX.count c=s.cX.count c/\st.1.cX.length<=s.cX.length/\st.2.1=ws.map eJ.mk++List.replicate (s.cX.count c+1 - ws.length) ⟨[]⟩)
  (fun st=>s.cX.count c+1 - st.2.2.toNat)
  (fun st=>∃ws:List (List UInt8),st.2.2= ((ws.length:Nat):Int)/\cutAt c s.cX=ws++[st.1.cX]/\ws.length=s.cX.count c/\st.2.1=ws.map eJ.mk++[⟨[]⟩])
  (fun _=>True) (by
   rintro⟨r,arr,i⟩ ⟨ws,h1,h2,h3,h4,h5⟩
   simp only at h1 h2 h3 h4 h5
   subst h1 h5
   by_cases hlt:ws.length<s.cX.count c
   ·have hd:decide (((ws.length:Nat):Int)< ((s.cX.count c+1:Nat):Int) - 1)=true:=by rw [bR];omega
    simp only [hd,aP,Hr,aB]
    rcases uQ r.cX c with ⟨_,hn⟩ | ⟨a,b,hr,ha,hi⟩
    ·rw [List.count_eq_zero_of_not_mem hn] at h3;omega
    ·have hrl:r.cX.length=a.length+ (b.length+1):=by rw [hr];simp
     rw [hi,cD (by omega),aR]
     rw [show ((a.length:Nat):Int)+0= ((a.length:Nat):Int) by omega,fz (x:=((a.length:Nat):Int)) (by omega) (by omega),F9 (by omega),aB]
     rw [kY _ _ (by simp;omega),aB]
     rw [show ((a.length:Nat):Int)+ (((⟨[c]⟩:eJ).cX.length:Nat):Int)= ((a.length+1:Nat):Int) by simp,fz (x:=((a.length+1:Nat):Int)) (by omega) (by omega),Ga (by omega),aB]
     refine⟨_,rfl,⟨ws++[a],?_,?_,?_,?_,?_⟩,?_⟩
     ·simp only;rw [fz (by omega) (by omega)];simp
     ·simp only
      rw [h2,hr,DD ha];simp
     ·simp only
      rw [hr] at h3 ⊢
      simp [List.count_eq_zero_of_not_mem ha] at h3 ⊢;omega
     ·simp;omega
     ·simp only [cF]
      rw [List.set_append_right _ _ (by simp)]
      simp only [cV,Nat.sub_self]
      obtain⟨d,hd'⟩: ∃d,s.cX.count c+1 - ws.length=d+1:=⟨s.cX.count c - ws.length,by omega⟩
      rw [hd',List.replicate_succ,List.set_cons_zero,show s.cX.count c+1 - (ws++[a]).length=d by simp;omega]
      simp [hr]
     ·simp only;rw [fz (by omega) (by omega)];omega
   ·have hd:decide (((ws.length:Nat):Int)< ((s.cX.count c+1:Nat):Int) - 1)=false:=by rw [decide_eq_false_iff_not];omega
    simp only [hd,aR]
    refine⟨_,rfl,ws,rfl,?_,by omega,?_⟩
    ·have h0:r.cX.count c=0:=by omega
     rw [h2,Am (List.count_eq_zero.1 h0)]
    ·rw [show s.cX.count c+1 - ws.length=1 by omega];rfl)
  N (s,List.replicate (s.cX.count c+1) ⟨[]⟩,0) ⟨[],rfl,rfl,by simp,bU _,by simp⟩ (by simp only;omega)
 obtain⟨o,ho,hgo⟩:=key
 rw [ho,aB]
 cases o with
 | rt r=>exact r.elim
 | go st=>
  obtain⟨r,arr,i⟩:=st
  obtain⟨ws,h1,h2,h3,h4⟩:=hgo
  simp only at h1 h2 h3 h4
  subst h1 h4
  simp only [Fo.cs]
  rw [kY _ _ (by simp),aB,fz (by omega) (by omega)]
  rw [show ((ws.length:Nat):Int)+1= ((ws.length+1:Nat):Int) by omega,qy _ _ (by simp),aB,aB]
  unfold nP
  rw [h2]
  rw [cF,List.set_append_right _ _ (by simp),kV (by simp)]
  simp
def nk (s:eJ):Bool:=decide (s.cX.length<=200)&&(nP s 47).all isWord
theorem vf {c:UInt8}: ∀{l x:List UInt8},x∈cutAt c l->x.length<=l.length
 | [],x,h=>by simp [cutAt] at h;subst h;simp
 | b::l,x,h=>by
  unfold cutAt at h
  split at h
  ·rcases dC.1 h with h | h
   ·subst h;simp
   ·have:=vf h;simp;omega
  ·split at h
   ·rename_i t e
    rcases dC.1 h with h | h
    ·subst h;have:=vf (c:=c) (l:=l) (by rw [e];exact List.mem_cons_self);simp;omega
    ·have:=vf (c:=c) (l:=l) (by rw [e];exact hZ _ h);simp;omega
   ·simp at h;subst h;simp
theorem BD (c:UInt8): ∀(l:List UInt8),(cutAt c l).length<=l.length+1
 | []=>by simp [cutAt]
 | b::l=>by
  have:=BD c l
  unfold cutAt
  split
  ·simp;omega
  ·split
   ·rename_i e;rw [e] at this;simp at this ⊢;omega
   ·simp
theorem BE {s x:eJ} {c:UInt8} (h:x∈nP s c):x.cX.length<=s.cX.length:=by
 obtain⟨y,hy,rfl⟩:=dG.1 h
 exact vf hy
theorem BF (s:eJ) (c:UInt8): (nP s c).length<=s.cX.length+1:=by unfold nP;rw [cV];exact BD c _
theorem xC {s:eJ} (h:s.cX.length<=1048576) (hN:4194304<=N):mq N s=some (nk s):=by
 unfold mq nk
 by_cases hl:s.cX.length<=200
 ·rw [bS (by omega),aP,DE 47 h hN,aB]
  have e:=rV (l:=nP s 47) (φ:=iQ N) (fun x=> !isWord x) (by have:=BF s 47;omega) (fun x hx=>by
   unfold iQ
   rw [rn (by have:=BE hx;omega)];rfl)
  have e2:iP N (nP s 47) (iQ N)=rE (nP s 47) (iQ N):=rfl
  rw [e2,e,aB,aB,bS hl,Bool.true_and]
  congr 1
  rw [fu]
  simp
 ·rw [cD (by omega),aR,aB,cD hl,Bool.false_and]
end
end Go.Gk
namespace Go.Gk
open Go Classical
section
variable {N:Nat}
theorem Ht {a b:aA} (h:bY a=bY b):a=b:=by cases a;cases b;unfold bY at h;simp at h;obtain⟨h1,h2,h3⟩:=h;subst h1;subst h2;subst h3;rfl
theorem xD: ∀{s t:List aA},s.map bY=t.map bY->s=t
 | [],[],_=>rfl
 | [],_::_,h=>by cases h
 | _::_,[],h=>by cases h
 | a::s,b::t,h=>by
  rw [dZ,dZ] at h
  injection h with h1 h2
  rw [Ht h1,xD h2]
theorem Hu {s t:List aA} (hs:eT (s.map bY)) (ht:eT (t.map bY)) (h: ∀x y,t5 (s.map bY) x y=t5 (t.map bY) x y):s=t:=xD (tk hs ht h)
theorem sB.unique {l:List aI} {s t:List aA} (hs:sB l s) (ht:sB l t):s=t:=Hu hs.can ht.can fun x y=>by rw [hs.cover,ht.cover]
theorem sB.DF {l:List aI} {s:List aA} (h:sB l s):s.length<=2*l.length/\(∀b∈s,b.Xs.length<=2*l.length)/\(aS s).length<=2*l.length* (2*l.length):=by
 have h1:s.length<=2*l.length:=by have:=h.lim.len h.can;rwa [cV,jD] at this
 have h2: ∀b∈s,b.Xs.length<=2*l.length:=fun b hb=>by
  have:=h.lim.row h.can (b:=bY b) (dG.2 ⟨b,hb,rfl⟩)
  rwa [lM] at this
 exact⟨h1,h2,Ab h1 h2⟩
theorem vg {n:Int} (h:lB n=true): -1000000<=n/\n<=1000000:=by
 unfold lB fU at h
 rw [bW,bR,bR] at h;omega
theorem mJ {r:aI} (h:fB r=true): (-1000000<=r.X0/\r.X0<=1000000)/\(-1000000<=r.Y0/\r.Y0<=1000000)/\(-1000000<=r.X1/\r.X1<=1000000)/\(-1000000<=r.Y1/\r.Y1<=1000000):=by
 unfold fB at h
 simp only [bW] at h
 exact⟨vg h.1,vg h.2.1,vg h.2.2.1,vg h.2.2.2⟩
theorem An {r:aI} (h: (-1000000<=r.X0/\r.X0<=1000000)/\(-1000000<=r.Y0/\r.Y0<=1000000)/\(-1000000<=r.X1/\r.X1<=1000000)/\(-1000000<=r.Y1/\r.Y1<=1000000)):fB r=true:=by
 unfold fB lB fU
 simp only [bW,bR]
 omega
theorem Cp {r:aI} (h:fB r=true) (hx:r.X0<r.X1) (hy:r.Y0<r.Y1):AU r:=by
 have:=mJ h
 refine⟨hx,hy,?_,?_,?_,?_⟩ <;> unfold small <;> omega
def kM (r:aI):Option Int:=if fB r=true then (if r.X1<=r.X0\/r.Y1<=r.Y0 then some 13 else none) else some 1
def lv (l:List aI):Int:=if 2000<l.length then 2 else (l.findSome? kM).getD 0
theorem A8 {l:List aI} (hl:l.length<=4611686018427387904):k8 N l=some (lv l):=by
 unfold k8 lv
 by_cases h:2000<l.length
 ·rw [bS (by omega),aP,aC h]
 ·rw [cD (by omega),aR,aG h,zT kM hl (fun k x hx=>by
   rw [dM hx,aB,Al,aB]
   unfold kM
   cases hr:fB x with
   | false=>rfl
   | true=>
    rw [nE,aR,aC rfl]
    by_cases h2:x.X1<=x.X0\/x.Y1<=x.Y0
    ·rw [aC h2,show (decide (x.X1<=x.X0)||decide (x.Y1<=x.Y0))=true by rw [dK,bR,bR];exact h2];rfl
    ·rw [aG h2,show (decide (x.X1<=x.X0)||decide (x.Y1<=x.Y0))=false by rw [<-jU,dK,bR,bR];exact h2];rfl),aB]
  cases l.findSome? kM <;> rfl
theorem xE {r:aI}:kM r=none↔fB r=true/\r.X0<r.X1/\r.Y0<r.Y1:=by
 unfold kM
 by_cases h:fB r=true
 ·rw [aC h]
  by_cases h2:r.X1<=r.X0\/r.Y1<=r.Y0
  ·rw [aC h2]
   constructor
   ·intro h;cases h
   ·rintro⟨_,h3,h4⟩;omega
  ·rw [aG h2]
   exact⟨fun _=>⟨h,by omega,by omega⟩,fun _=>rfl⟩
 ·rw [aG h]
  constructor
  ·intro h;cases h
  ·rintro⟨h3,_⟩;exact absurd h3 h
theorem DG {r:aI} {e:Int} (h:kM r=some e):e≠0:=by
 unfold kM at h
 split at h
 ·split at h
  ·injection h with h;omega
  ·cases h
 ·injection h with h;omega
theorem oZ {l:List aI}:lv l=0↔l.length<=2000/\∀r∈l,fB r=true/\r.X0<r.X1/\r.Y0<r.Y1:=by
 unfold lv
 by_cases h:2000<l.length
 ·rw [aC h];constructor
  ·intro h;omega
  ·intro h;omega
 ·rw [aG h]
  cases hf:l.findSome? kM with
  | none=>
   rw [List.findSome?_eq_none_iff] at hf
   exact⟨fun _=>⟨by omega,fun r hr=>xE.1 (hf r hr)⟩,fun _=>rfl⟩
  | some e=>
   obtain⟨r,hr,he⟩:=List.exists_of_findSome?_eq_some hf
   constructor
   ·intro h0;exact absurd h0 (DG he)
   ·rintro⟨_,h2⟩
    rw [xE.2 (h2 r hr)] at he;cases he
def JS (l:List aI):Prop:=∀(k:Nat) a b,l[k]? =some a->l[k+1]? =some b->¬(b.Y0<a.Y0\/(b.Y0=a.Y0/\b.X0<=a.X0))
def Ao (l:List aI):Prop:=∃s,sB l s/\aS s=l
noncomputable def jW (l:List aI):Int:=if lv l≠0 then lv l else if JS l then (if Ao l then 0 else 3) else 8
theorem Ap {l:List aI} (h:lv l=0):l.length<=2000/\∀r∈l,AU r:=⟨(oZ.1 h).1,fun r hr=>by have:=(oZ.1 h).2 r hr;exact Cp this.1 this.2.1 this.2.2⟩
theorem EG {l m:List aI} (hl:l.length<=4611686018427387904):kF N l m=some (decide (l=m)):=by
 have:=Bu (l:=l) (m:=m) hl
 unfold Ex at this
 unfold kF
 rw [show (decide (l=m)) = @decide (l=m) (instDecidableEqList l m) from decide_eq_decide.2 Iff.rfl]
 exact this
theorem uR {l:List aI} (hl:l.length<=1073741824) (hN:4398046511104<=N):jI N l=some (jW l):=by
 refine Ok.get ?_
 unfold jI
 refine Ok.eq (A8 (by omega)) ?_
 unfold jW
 refine Ok.bif (fun h=>Ok.ret ?_) (fun h=>?_)
 ·rw [aC (by simpa using h)]
 ·have h0:lv l=0:=by simpa using h
  rw [aG (by simpa using h0)]
  obtain⟨hlen,hok⟩:=Ap h0
  refine Ok.bind (Ok.jE (Go:=fun _=>JS l) (Rt:=fun r=>r=8/\¬JS l) (fun s=>∃k:Nat,s= ((k:Nat):Int)/\1<=k/\∀(j:Nat) a b,j+1<k->l[j]? =some a->l[j+1]? =some b->¬(b.Y0<a.Y0\/(b.Y0=a.Y0/\b.X0<=a.X0))) (fun s=>l.length - s.toNat) ?_ ⟨1,rfl,bU _,fun j a b hj=>by omega⟩ (by simp;omega)) ?_
  ·rintro s ⟨k,rfl,hk,hI⟩
   refine Ok.bif (fun h=>?_) (fun h=>Ok.br fun j a b ha hb=>hI j a b ?_ ha hb)
   ·have hk2:k<l.length:=by have:=of_decide_eq_true h;omega
    rw [jm hk (by omega)]
    refine Ok.idx (by omega) (Ok.idx hk2 (Ok.bif (fun hb=>Ok.rt ⟨rfl,fun hu=>?_⟩) (fun hb=>Ok.nx ⟨⟨k+1,by rw [bN (by omega)],by omega,fun j a b hj ha hb'=>?_⟩,by rw [bN (by omega)];simp only [cF];omega⟩)))
    ·refine hu (k - 1) l[k - 1] l[k] (aO _) (by rw [show k - 1+1=k by omega];exact aO _) ?_
     rw [dK,bW,bR,bR,beq_iff_eq] at hb;exact hb
    ·by_cases e:j+1<k
     ·exact hI j a b e ha hb'
     ·have:j+1=k:=by omega
      subst this
      rw [aO (by omega)] at ha hb'
      injection ha with ha;injection hb' with hb'
      subst ha;subst hb'
      rw [<-jU,dK,bW,bR,bR,beq_iff_eq] at hb;exact hb
   ·have:=of_decide_eq_false h
    have:=(bB.1 hb).1;omega
  ·rintro o ho
   refine Ok.cs ho (fun s hu=>?_) (fun r hr=>Ok.ret (by rw [hr.1,aG hr.2]))
   rw [aC hu]
   refine Ok.bind (oT (N:=N) (by omega) hok (by omega)) ?_
   intro s hs
   obtain⟨z1,z2,z3⟩:=hs.DF
   have z4:2*l.length* (2*l.length)<=4000*4000:=Nat.mul_le_mul (by omega) (by omega)
   refine Ok.eq (Ac (sD hs.can) (by omega) (fun b hb=>by have:=z2 b hb;omega) (by omega)) (Ok.eq (EG (by omega)) ?_)
   have hiff:Ao l↔aS s=l:=⟨fun⟨t,h1,h2⟩=>by rw [hs.unique h1];exact h2,fun h=>⟨s,hs,h⟩⟩
   refine Ok.bif (fun h=>Ok.ret ?_) (fun h=>Ok.ret ?_)
   ·have h: ¬aS s=l:=by simpa using h
    rw [aG (fun h'=>h (hiff.1 h'))]
   ·have h:aS s=l:=by simpa using h
    rw [aC (hiff.2 h)]
theorem uS {l:List aI}:jW l=0↔lv l=0/\JS l/\Ao l:=by
 unfold jW
 by_cases h:lv l=0
 ·rw [aG (by simpa using h)]
  by_cases h2:JS l
  ·rw [aC h2]
   by_cases h3:Ao l
   ·rw [aC h3];exact⟨fun _=>⟨h,h2,h3⟩,fun _=>rfl⟩
   ·rw [aG h3];constructor
    ·intro h;omega
    ·rintro⟨_,_,h4⟩;exact absurd h4 h3
  ·rw [aG h2];constructor
   ·intro h;omega
   ·rintro⟨_,h4,_⟩;exact absurd h4 h2
 ·rw [aC h]
  constructor
  ·intro h2;exact absurd h2 h
  ·rintro⟨h2,_⟩;exact absurd h2 h
theorem wx (n lo hi:Int):iK N n lo hi=some (fU n lo hi):=rfl
theorem Gb {b:cE} (hN:16<=N):kS N b=some (mg b):=by
 have:=sE (N:=N - 16) (b:=b)
 rwa [show N - 16+16=N by omega] at this
def lI (n:Nat) (b:cE):Option Int:=if (mg b).2≠0 then some (mg b).2 else if fU b.cM 0 (((n:Nat):Int) - 1)=true/\fU b.To b.cM (((n:Nat):Int) - 1)=true then none else some 1
def jf (a:k7):Int:=if 500<a.aM.length then 2 else (a.aM.findSome? (lI a.aJ.length)).getD 0
theorem A9 {a:k7} (h1:a.aJ.length<=4611686018427387904) (h2:a.aM.length<=4611686018427387904) (hN:16<=N):kG N a=some (jf a):=by
 unfold kG jf
 by_cases h:500<a.aM.length
 ·rw [bS (by omega),aP,aC h]
 ·have hw:IntKind.wrap .i64 (((a.aJ.length:Nat):Int) - 1)= ((a.aJ.length:Nat):Int) - 1:=fz (by omega) (by omega)
  rw [cD (by omega),aR,aG h,zT (lI a.aJ.length) h2 (fun k x hx=>by
   rw [dM hx,aB,Gb hN,aB]
   unfold lI
   by_cases h0: (mg x).2=0
   ·rw [aG (by simpa using h0),h0,show ((0:Int) != 0)=false by rfl,aR,hw,wx,aB,wx,aB]
    cases h3:fU x.cM 0 (((a.aJ.length:Nat):Int) - 1) <;> cases h4:fU x.To x.cM (((a.aJ.length:Nat):Int) - 1) <;> rfl
   ·rw [aC h0,show ((mg x).2 != 0)=true by simpa using h0];rfl),aB]
  cases a.aM.findSome? (lI a.aJ.length) <;> rfl
theorem DH {b:cE} (h: (mg b).2=0):pQ b=true/\fB (t6 b)=true:=by
 unfold mg at h
 split at h
 ·rename_i h';rwa [bW] at h'
 ·cases h
theorem lY {a:k7} (h:jf a=0):a.aM.length<=500/\∀b∈a.aM,pQ b=true/\fB (t6 b)=true/\0<=b.cM/\b.cM<=b.To/\b.To< ((a.aJ.length:Nat):Int):=by
 unfold jf at h
 split at h
 ·omega
 ·refine⟨by omega,fun b hb=>?_⟩
  have hn:lI a.aJ.length b=none:=by
   cases hf:a.aM.findSome? (lI a.aJ.length) with
   | none=>exact List.findSome?_eq_none_iff.1 hf b hb
   | some e=>
    rw [hf] at h
    obtain⟨c,hc,he⟩:=List.exists_of_findSome?_eq_some hf
    have h:e=0:=h
    subst h
    unfold lI at he
    split at he
    ·rename_i h';injection he with he;exact absurd he h'
    ·split at he
     ·cases he
     ·injection he with he;omega
  unfold lI at hn
  split at hn
  ·cases hn
  ·rename_i h0
   split at hn
   ·rename_i h1
    have h0: (mg b).2=0:=by simpa using h0
    have:=DH h0
    unfold fU at h1
    simp only [bW,bR] at h1
    exact⟨this.1,this.2,by omega,by omega,by omega⟩
   ·cases hn
theorem Jd {b:cE} (h1:pQ b=true) (h2:fB (t6 b)=true):AU (t6 b):=by
 have hf:=rm h1
 refine Cp h2 ?_ ?_
 ·show b.At.X - b.dE / 2<b.At.X - b.dE / 2+b.dE;omega
 ·show b.At.Y - b.dE / 2<b.At.Y - b.dE / 2+b.dE;omega
def kZ (p q:fD):Int:=if Lib.compareBytes p.Part.cX q.Part.cX≠0 then Lib.compareBytes p.Part.cX q.Part.cX else Lib.compareBytes p.fD.cX q.fD.cX
theorem zk (p q:fD):jP N p q=some (kZ p q):=by
 unfold jP kZ
 show (bif (Lib.compareBytes p.Part.cX q.Part.cX != 0) then _ else _)=_
 by_cases h:Lib.compareBytes p.Part.cX q.Part.cX=0
 ·rw [h,aG (by simp)];rfl
 ·rw [aC h,show (Lib.compareBytes p.Part.cX q.Part.cX != 0)=true by simpa using h];rfl
def mK (l:fW):fD:=⟨l.Part,l.fD⟩
theorem BG (l:fW):mX N l=some (mK l):=rfl
def kl (a:k7) (k:Nat):Option Int:=(a.bV[k]?).bind fun x=>
 if (nk x.Part&&isWord x.fD)=true then
  if (fU x.cU 0 (((a.aJ.length:Nat):Int) - 1)&&qL x.At)=true then
   if 0<k/\(∃y,a.bV[k - 1]? =some y/\kZ (mK x) (mK y)<=0) then some 8 else none
  else some 1
 else some 5
noncomputable def mL (a:k7):Int:=if 1000<a.bV.length then 2 else (vu a.bV.length (kl a)).getD 0
end
end Go.Gk
namespace Go.Gk
open Go Classical
section
variable {N:Nat}
def Aq (a:k7):Prop:=∀x∈a.bV,x.Part.cX.length<=1048576/\x.fD.cX.length<=1048576
theorem Ba {a:k7} (h1:a.aJ.length<=1073741824) (h2:a.bV.length<=1073741824) (h3:Aq a) (hN:4194304<=N):kI N a=some (mL a):=by
 unfold kI mL
 by_cases h:1000<a.bV.length
 ·rw [bS (by omega),aP,aC h]
 ·have hw:IntKind.wrap .i64 (((a.aJ.length:Nat):Int) - 1)= ((a.aJ.length:Nat):Int) - 1:=fz (by omega) (by omega)
  rw [cD (by omega),aR,aG h,rU (kl a) (by omega) (fun k hk _=>by
   have hx:a.bV[k]? =some a.bV[k]:=aO hk
   have hs:=h3 _ (cN hk)
   rw [dM hx,aB,xC hs.1 hN,aB]
   have hle:kl a k= (if (nk a.bV[k].Part&&isWord a.bV[k].fD)=true then
     if (fU a.bV[k].cU 0 (((a.aJ.length:Nat):Int) - 1)&&qL a.bV[k].At)=true then
      if 0<k/\(∃y,a.bV[k - 1]? =some y/\kZ (mK a.bV[k]) (mK y)<=0) then some 8 else none
     else some 1
    else some 5):=by unfold kl;rw [hx];rfl
   rw [hle]
   have e1: ((bif (!nk a.bV[k].Part) then (some true) else ((jA N a.bV[k].fD).bind fun x225=>some (!x225))):Option Bool)=some (!(nk a.bV[k].Part&&isWord a.bV[k].fD)):=by
    rw [rn hs.2,aB]
    cases nk a.bV[k].Part <;> rfl
   have e2: ((iK N a.bV[k].cU 0 (IntKind.wrap .i64 (((a.aJ.length:Nat):Int) - 1))).bind fun x318=>bif (!x318) then (some true) else ((jX N a.bV[k].At).bind fun x321=>some (!x321)))=some (!(fU a.bV[k].cU 0 (((a.aJ.length:Nat):Int) - 1)&&qL a.bV[k].At)):=by
    rw [hw,wx,aB,yQ,aB]
    cases fU a.bV[k].cU 0 (((a.aJ.length:Nat):Int) - 1) <;> rfl
   show ((bif (!nk a.bV[k].Part) then (some true) else ((jA N a.bV[k].fD).bind fun x225=>some (!x225))):Option Bool).bind _=_
   rw [e1,aB]
   cases h4: (nk a.bV[k].Part&&isWord a.bV[k].fD) with
   | false=>rfl
   | true=>
    rw [nE,aR,aC rfl]
    show (((iK N a.bV[k].cU 0 (IntKind.wrap .i64 (((a.aJ.length:Nat):Int) - 1))).bind fun x318=>bif (!x318) then (some true) else ((jX N a.bV[k].At).bind fun x321=>some (!x321)))).bind _=_
    rw [e2,aB]
    cases h5: (fU a.bV[k].cU 0 (((a.aJ.length:Nat):Int) - 1)&&qL a.bV[k].At) with
    | false=>rfl
    | true=>
     rw [nE,aR,aC rfl]
     by_cases h0:0<k
     ·rw [bS (by omega),aP,jm h0 (by omega),kY _ _ (by omega:k - 1<a.bV.length)]
      simp only [BG,aB,zk]
      by_cases h6:kZ (mK a.bV[k]) (mK a.bV[k - 1])<=0
      ·rw [bS h6,aC ⟨h0,_,aO (by omega:k - 1<a.bV.length),h6⟩];rfl
      ·rw [cD h6,aG (by
        rintro⟨_,y,hy,h7⟩
        rw [aO (by omega:k - 1<a.bV.length)] at hy;injection hy with hy
        rw [<-hy] at h7;exact h6 h7)];rfl
     ·rw [cD (by omega),aG (fun h=>h0 h.1)];rfl),aB]
  cases vu a.bV.length (kl a) <;> rfl
def jS (b:cE) (k:Int):Bool:=decide (b.cM<=k)&&decide (k<=b.To)
theorem Ar (b:cE) (k:Int):ld N b k=some (jS b k):=rfl
def jY (bs:List cE) (k:Int):List aI:=(bs.filter (fun b=>jS b k)).map t6
structure kB (bs:List cE):Prop where
 len:bs.length<=500
 ok: ∀b∈bs,pQ b=true/\fB (t6 b)=true
structure tp (r hs:List aI) (s:List aA):Prop where
 can:eT (s.map bY)
 cover: ∀x y,t5 (s.map bY) x y= (sj r x y&& !sj hs x y)
 lim:wF (sw r++sw hs) (jw r++jw hs) (s.map bY)
theorem yu {bs:List cE} (h:kB bs) (k:Int): (jY bs k).length<=500:=by
 unfold jY
 rw [cV]
 have:=l9 (fun b=>jS b k) bs
 have:=h.len;omega
theorem qM {bs:List cE} (h:kB bs) (k:Int): ∀r∈jY bs k,AU r/\fB r=true:=by
 intro r hr
 unfold jY at hr
 obtain⟨b,hb,rfl⟩:=dG.1 hr
 have:=h.ok b (i7.1 hb).1
 exact⟨Jd this.1 this.2,this.2⟩
theorem tp.small {r hs:List aI} {s:List aA} (h:tp r hs s) (h1: ∀x∈r,AU x) (h2: ∀x∈hs,AU x): (∀c∈sw r++sw hs,small c)/\∀c∈jw r++jw hs,small c:=by
 constructor
 ·intro c hc
  rcases cY.1 hc with h | h
  ·obtain⟨x,hx,rfl | rfl⟩:=sA.1 h
   ·exact(h1 x hx).s1
   ·exact(h1 x hx).s2
  ·obtain⟨x,hx,rfl | rfl⟩:=sA.1 h
   ·exact(h2 x hx).s1
   ·exact(h2 x hx).s2
 ·intro c hc
  rcases cY.1 hc with h | h
  ·obtain⟨x,hx,rfl | rfl⟩:=lu.1 h
   ·exact(h1 x hx).s3
   ·exact(h1 x hx).s4
  ·obtain⟨x,hx,rfl | rfl⟩:=lu.1 h
   ·exact(h2 x hx).s3
   ·exact(h2 x hx).s4
theorem vh {s:List aA} {X Y:List Int} {A:Nat} (hc:eT (s.map bY)) (h:wF X Y (s.map bY)) (hX:X.length<=A) (hY:Y.length<=A):s.length<=A/\(∀b∈s,b.Xs.length<=A)/\(aS s).length<=A*A:=by
 have h1:s.length<=A:=by have:=h.len hc;rw [cV] at this;omega
 have h2: ∀b∈s,b.Xs.length<=A:=fun b hb=>by
  have:=h.row hc (b:=bY b) (dG.2 ⟨b,hb,rfl⟩)
  have e: (bY b).xs=b.Xs:=rfl
  rw [e] at this;omega
 exact⟨h1,h2,Ab h1 h2⟩
theorem Bb {r hs:List aI} (h1:r.length<=2000) (h2: ∀x∈r,AU x) (h3:hs.length<=500) (h4: ∀x∈hs,AU x) (hN:4398046511104<=N) {β:Type} {f:List aA->Option β} {Q:β->Prop} (k: ∀s,tp r hs s->Ok (f s) Q):
  Ok ((iz N r).bind fun x378=>(iz N hs).bind fun x380=>(lf N x378 x380).bind f) Q:=by
 refine Ok.bind (oT (N:=N) (by omega) h2 (by omega)) (fun s hs1=>?_)
 refine Ok.bind (oT (N:=N) (by omega) h4 (by omega)) (fun t ht=>?_)
 have hz: ∀c∈jw r++jw hs,small c:=by
  intro c hc
  rcases cY.1 hc with h | h
  ·obtain⟨x,hx,rfl | rfl⟩:=lu.1 h
   ·exact(h2 x hx).s3
   ·exact(h2 x hx).s4
  ·obtain⟨x,hx,rfl | rfl⟩:=lu.1 h
   ·exact(h4 x hx).s3
   ·exact(h4 x hx).s4
 refine Ok.bind (F6 (X:=sw r++sw hs) (Y:=jw r++jw hs) hs1.can ht.can (hs1.lim.mono (fun c h=>List.mem_append_left _ h) (fun c h=>List.mem_append_left _ h)) (ht.lim.mono (fun c h=>List.mem_append_right _ h) (fun c h=>List.mem_append_right _ h))
  (by rw [cZ,lM,lM];omega) (by rw [cZ,jD,jD];omega) hz hN) (fun u hu=>?_)
 exact k u ⟨hu.can,fun x y=>by rw [hu.cover,hs1.cover,ht.cover],hu.lim⟩
def dO:Nat->List (List (List aA))->List aK
 | _,[]=>[]
 | k,ps::r=>ps.map (fun p=>⟨((k:Nat):Int),p,aS p⟩)++dO (k+1) r
theorem tq (ps:List (List aA)): ∀(r:List (List (List aA))) (k:Nat),dO k (r++[ps])=dO k r++ps.map (fun p=>⟨((k+r.length:Nat):Int),p,aS p⟩)
 | [],k=>by unfold dO;simp [dO]
 | q::r,k=>by
  show _++dO (k+1) (r++[ps])= (_++dO (k+1) r)++_
  rw [tq ps r (k+1),kC]
  congr 3
  simp only [dN]
  rw [show k+ (r.length+1)=k+1+r.length by omega]
theorem As {s p:List aA} {ps:List (List aA)} {r:Nat->Nat} {X Y:List Int} (h:rl s r ps) (hc:eT (s.map bY)) (hl:wF X Y (s.map bY)) (hX: ∀c∈X,small c) (hY: ∀c∈Y,small c) (hp:p∈ps):
  ∃j k:Nat,ps[j]? =some p/\(bK (aS s).length r)[j]? =some k/\sB (nC (aS s) (aS s).length r k) p/\wF X Y (p.map bY):=by
 obtain⟨j,hj⟩:=dV hp
 have hjl:=(bB.1 hj).1
 rw [h.len] at hjl
 have hh: (bK (aS s).length r)[j]? =some (bK (aS s).length r)[j]:=aO hjl
 have hs:=h.each j _ p hh hj
 refine⟨j,_,hj,hh,hs,hs.lim.mono (fun c hcx=>?_) (fun c hcx=>?_)⟩
 ·obtain⟨x,hx,hxc⟩:=sA.1 hcx
  obtain⟨i,_,_,hi⟩:=lN.1 hx
  have:=Ad hc hl hX hY x (eV hi)
  rcases hxc with rfl | rfl
  ·exact this.2.1.1
  ·exact this.2.1.2
 ·obtain⟨x,hx,hxc⟩:=lu.1 hcx
  obtain⟨i,_,_,hi⟩:=lN.1 hx
  have:=Ad hc hl hX hY x (eV hi)
  rcases hxc with rfl | rfl
  ·exact this.2.2.1
  ·exact this.2.2.2
structure wy (cs:List (List aI)) (bs:List cE) (k:Nat) (mP:List (List aA)) (gq:List (List (List aA))):Prop where
 len:mP.length=k
 zm:gq.length=k
 dr: ∀(i:Nat) r s,i<k->cs[i]? =some r->mP[i]? =some s->tp r (jY bs ((i:Nat):Int)) s
 pt: ∀(i:Nat) s ps,i<k->mP[i]? =some s->gq[i]? =some ps->∃u,rl s u ps
 yS: (dO 0 gq).length<=k*25000000
theorem rl.yS {s:List aA} {u:Nat->Nat} {ps:List (List aA)} (h:rl s u ps):ps.length<=(aS s).length:=by
 rw [h.len];exact kA _ _
theorem EH {cs:List (List aI)} {bs:List cE} (hcs:cs.length<=16) (hc: ∀r∈cs,r.length<=2000/\∀x∈r,AU x) (hb:kB bs) (hN:4398046511104<=N):
  Ok (j6 N cs bs [] []) (fun x=>∃gq,wy cs bs cs.length x.2.1 gq/\x.2.2=dO 0 gq/\(x.1=true↔(∀s∈x.2.1,(aS s).length<=2000)/\x.2.2.length<=2000)):=by
 unfold j6
 refine Ok.bind (P:=fun(st:List (List aA)×List aK×Bool)=>∃gq,wy cs bs cs.length st.1 gq/\st.2.1=dO 0 gq/\(st.2.2=true↔∀s∈st.1,(aS s).length<=2000)) (Ok.nn (fun(k:Nat) (st:List (List aA)×List aK×Bool)=>∃gq,wy cs bs k st.1 gq/\st.2.1=dO 0 gq/\(st.2.2=true↔∀s∈st.1,(aS s).length<=2000)) (by omega)
  ⟨[],⟨rfl,rfl,fun i r s hi=>by omega,fun i s ps hi=>by omega,by simp [dO]⟩,rfl,by simp⟩ (fun k st hk hI=>?_)) ?_
 ·obtain⟨mP,pcs,okk⟩:=st
  obtain⟨gq,D,e1,e2⟩:=hI
  dsimp only at D e1 e2 ⊢
  subst e1
  have hkx:cs[k]? =some cs[k]:=aO hk
  obtain⟨hr1,hr2⟩:=hc _ (cN hk)
  refine Ok.ix hkx ?_
  refine Ok.bind (P:=fun t=>t=jY bs ((k:Nat):Int)) (Ok.mono (Ok.nn (fun j t=>t=jY (bs.take j) ((k:Nat):Int)) (by have:=hb.len;omega) rfl (fun j t hj e=>?_)) (fun t e=>by rw [e,eQ])) (fun t e=>?_)
  ·subst e
   refine Ok.idx hj (Ok.eq (Ar _ _) ?_)
   have hts:bs.take (j+1)=bs.take j++[bs[j]]:=eC hj
   have hgb:=hb.ok _ (cN hj)
   have hl: (jY (bs.take j) ((k:Nat):Int)).length<=500:=by
    unfold jY
    rw [cV]
    have:=l9 (fun b=>jS b ((k:Nat):Int)) (bs.take j)
    rw [cL] at this
    have:=hb.len;omega
   cases ht:jS bs[j] ((k:Nat):Int) with
   | false=>
    rw [aR]
    refine Ok.eq rfl (Ok.ret ?_)
    unfold jY
    rw [hts,kh];simp [ht]
   | true=>
    rw [aP]
    refine Ok.eq (x:=jY (bs.take j) ((k:Nat):Int)++[t6 bs[j]]) (by rw [mI hgb.1,aB,kJ (by simp;omega),aB]) (Ok.ret ?_)
    unfold jY
    rw [hts,kh,dP];simp [ht]
  ·subst e
   have hho:=qM hb ((k:Nat):Int)
   have hhl:=yu hb ((k:Nat):Int)
   refine Bb hr1 hr2 hhl (fun x hx=>(hho x hx).1) hN (fun s hs=>?_)
   obtain⟨sx,sy⟩:=hs.small hr2 (fun x hx=>(hho x hx).1)
   obtain⟨z1,z2,z3⟩:=vh (A:=5000) hs.can hs.lim (by rw [cZ,lM,lM];omega) (by rw [cZ,jD,jD];omega)
   have hmany:=Iv (N:=N) (s:=s) (by omega) (fun b hb=>by have:=z2 b hb;omega) (by omega)
   refine Ok.eq (x:=(okk&&decide ((aS s).length<=2000),s)) ?_ ?_
   ·cases okk with
    | false=>rfl
    | true=>
     rw [aP,hmany,aB,Bool.true_and]
     rw [show decide ((((aS s).length:Nat):Int)<=2000)=decide ((aS s).length<=2000) from decide_eq_decide.2 (by omega)]
   dsimp only
   refine Ok.app (by rw [D.len];simp;omega) ?_
   refine Ok.bind (EE (N:=N) hs.can hs.lim sx sy (by omega) (fun b hb=>by have:=z2 b hb;omega) (by omega) hN) ?_
   rintro ps ⟨u,hu⟩
   have hfew:=hu.yS
   have hk16:k*25000000<=16*25000000:=Nat.mul_le_mul_right _ (by omega)
   have hDf:=D.yS
   refine Ok.bind (P:=fun t=>t=dO 0 gq++ps.map (fun p=>(⟨((k:Nat):Int),p,aS p⟩:aK))) (Ok.mono (Ok.nn (fun j t=>t=dO 0 gq++(ps.take j).map (fun p=>(⟨((k:Nat):Int),p,aS p⟩:aK))) (by omega) (by simp) (fun j t hj e=>?_)) (fun t e=>by rw [e,eQ])) (fun t e=>Ok.ret ?_)
   ·subst e
    have hjx:ps[j]? =some ps[j]:=aO hj
    refine Ok.ix hjx ?_
    obtain⟨_,_,_,_,mS,hpl⟩:=As hu hs.can hs.lim sx sy (cN hj)
    obtain⟨y1,y2,y3⟩:=vh (A:=5000) mS.can hpl (by rw [cZ,lM,lM];omega) (by rw [cZ,jD,jD];omega)
    refine Ok.eq (Ac (sD mS.can) (by omega) (fun b hb=>by have:=y2 b hb;omega) (by omega)) (Ok.app ?_ (Ok.ret ?_))
    ·simp only [cZ,cV,cL,List.length_singleton];omega
    ·rw [eC hj,dP,kC];rfl
   ·subst e
    refine⟨gq++[ps],⟨by simp [D.len],by simp [D.zm],fun i r s' hi hr hs'=>?_,fun i s' ps' hi hs' hps'=>?_,?_⟩,?_,?_⟩
    ·dsimp only at hs'
     by_cases hik:i<k
     ·rw [gF (by rw [D.len];exact hik)] at hs'
      exact D.dr i r s' hik hr hs'
     ·have:i=k:=by omega
      subst this
      rw [gQ (by rw [D.len];omega),D.len,Nat.sub_self] at hs'
      simp at hs';subst hs'
      rw [hkx] at hr;injection hr with hr;subst hr
      exact hs
    ·dsimp only at hs'
     by_cases hik:i<k
     ·rw [gF (by rw [D.len];exact hik)] at hs'
      rw [gF (by rw [D.zm];exact hik)] at hps'
      exact D.pt i s' ps' hik hs' hps'
     ·have:i=k:=by omega
      subst this
      rw [gQ (by rw [D.len];omega),D.len,Nat.sub_self] at hs'
      rw [gQ (by rw [D.zm];omega),D.zm,Nat.sub_self] at hps'
      simp at hs' hps';subst hs';subst hps'
      exact⟨u,hu⟩
    ·rw [tq,cZ,cV];omega
    ·dsimp only
     rw [tq,D.zm,iJ]
    ·dsimp only
     rw [bW,e2,bR]
     constructor
     ·rintro⟨h1,h2⟩ s' hs'
      rcases cY.1 hs' with h | h
      ·exact h1 s' h
      ·simp at h;subst h;exact h2
     ·intro h
      exact⟨fun s' hs'=>h s' (List.mem_append_left _ hs'),h s (by simp)⟩
 ·rintro⟨mP,pcs,okk⟩ ⟨gq,D,e1,e2⟩
  dsimp only at D e1 e2 ⊢
  subst e1
  refine Ok.bind (P:=fun b=>b=true↔(∀s∈mP,(aS s).length<=2000)/\(dO 0 gq).length<=2000) (Ok.bif (fun h=>Ok.ret ?_) (fun h=>Ok.ret ?_)) (fun b hb=>Ok.ret ⟨gq,D,rfl,hb⟩)
  ·rw [bR]
   constructor
   ·intro h';exact⟨e2.1 h,by omega⟩
   ·rintro⟨_,h'⟩;omega
  ·constructor
   ·intro h';cases h'
   ·rintro⟨h',_⟩;rw [e2.2 h'] at h;cases h
end
end Go.Gk
namespace Go.Gk
open Go Classical
section
variable {N:Nat}
section
variable {α:Type}
def n9 (P:α->Bool) (l:List α) (n:Nat):List Nat:=(List.range n).filter (fun k=>(l[k]?).any P)
theorem wz {P:α->Bool} {l:List α} {n:Nat} {x:α} (h:l[n]? =some x):n9 P l (n+1)=if P x=true then n9 P l n++[n] else n9 P l n:=by
 unfold n9
 rw [List.range_succ,kh]
 by_cases hp:P x=true
 ·rw [aC hp];simp [h,hp]
 ·rw [aG hp];simp [h,hp]
theorem yv (P:α->Bool) (l:List α) (n:Nat): (n9 P l n).length<=n:=by
 have:=l9 (fun k=>(l[k]?).any P) (List.range n)
 rw [List.length_range] at this;exact this
theorem Gc {P:α->Bool} {l:List α} {n k:Nat}:k∈n9 P l n↔k<n/\(l[k]?).any P=true:=by unfold n9;simp
theorem xF {β:Type} {l:List α} (P:α->Bool) (g:Nat->β):vu l.length (fun k=>(l[k]?).bind fun x=>if P x=true then some (g k) else none)= (l.findIdx? P).map g:=by
 cases h:l.findIdx? P with
 | none=>
  rw [List.findIdx?_eq_none_iff] at h
  refine nZ.2 fun k hk=>?_
  rw [aO hk]
  have:=h _ (cN hk)
  simp [this]
 | some j=>
  obtain⟨hj,hp,hn⟩:=List.findIdx?_eq_some_iff_getElem.1 h
  refine oS.2 ⟨j,hj,by rw [aO hj];simp [hp],fun i hi=>?_⟩
  rw [aO (by omega)]
  have:=hn i hi
  simp [this]
end
def ints (l:List Nat):List Int:=l.map fun i=>((i:Nat):Int)
theorem oc (l m:List Nat):ints (l++m)=ints l++ints m:=dP
theorem jT (l:List Nat): (ints l).length=l.length:=cV _
theorem mM {l:List Nat} {x:Int}:x∈ints l↔∃i∈l,x= ((i:Nat):Int):=by
 unfold ints;rw [dG]
 constructor
 ·rintro⟨i,h1,h2⟩;exact⟨i,h1,h2.symm⟩
 ·rintro⟨i,h1,h2⟩;exact⟨i,h1,h2.symm⟩
def p8 (p0 p1:aI):Bool:=((((decide (p0.X0<p1.X1))&&(decide (p1.X0<p0.X1)))&&((p0.Y1==p1.Y0)||(p1.Y1==p0.Y0)))||(((decide (p0.Y0<p1.Y1))&&(decide (p1.Y0<p0.Y1)))&&((p0.X1==p1.X0)||(p1.X1==p0.X0))))
def g9 (b:cE) (p:aK):Bool:=b.eH&&(jS b p.cU&&p.iN.any (fun r=>p8 r (t6 b)))
def fM (bs:List cE) (pcs:List aK):List (List Int):=bs.map fun b=>ints (n9 (g9 b) pcs pcs.length)
theorem rp {l:List aI} {φ:aI->Option Bool} (p:aI->Bool) (hl:l.length<=4611686018427387904) (h: ∀x∈l,φ x=some (p x)):gX N l φ=some (l.any p):=
 rV p hl h
theorem Hv {bs:List cE} {pcs:List aK} (hb:kB bs) (hp:pcs.length<=1073741824) (hr: ∀p∈pcs,p.iN.length<=1073741824):j7 N bs pcs []=some (fM bs pcs):=by
 refine Ok.get ?_
 have hbl:=hb.len
 unfold j7
 refine Ok.bind (Ok.nn (fun k st=>st=fM (bs.take k) pcs) (by omega) rfl (fun k st hk e=>?_)) (fun st e=>Ok.ret (by rw [e,eQ]))
 subst e
 have hg:=hb.ok _ (cN hk)
 refine Ok.idx hk ?_
 refine Ok.bind (P:=fun t=>t=ints (n9 (g9 bs[k]) pcs pcs.length)) (Ok.nn (fun j t=>t=ints (n9 (g9 bs[k]) pcs j)) (by omega) rfl (fun j t hj e=>?_)) (fun t e=>?_)
 ·subst e
  have hjx:pcs[j]? =some pcs[j]:=aO hj
  have hl:=yv (g9 bs[k]) pcs j
  refine Ok.ix hjx ?_
  refine Ok.eq (x:=g9 bs[k] pcs[j]) ?_ ?_
  ·unfold g9
   cases bs[k].eH with
   | false=>rfl
   | true=>
    rw [aP,Ar,aB,Bool.true_and]
    cases jS bs[k] pcs[j].cU with
    | false=>rfl
    | true=>
     rw [aP,rp (fun r=>p8 r (t6 bs[k])) (by have:=hr _ (cN hj);omega) (fun r _=>by
      unfold ki;rw [mI hg.1];rfl),aB,Bool.true_and]
  ·rw [wz hjx]
   cases ht:g9 bs[k] pcs[j] with
   | false=>rw [aR,aG (by simp)];exact Ok.eq rfl (Ok.ret rfl)
   | true=>
    rw [aP,aC rfl]
    refine Ok.eq (x:=ints (n9 (g9 bs[k]) pcs j)++[((j:Nat):Int)]) (by rw [kJ (by rw [jT];simp;omega),aB]) (Ok.ret ?_)
    rw [oc];rfl
 ·subst e
  refine Ok.app ?_ (Ok.ret ?_)
  ·unfold fM;simp;omega
  ·unfold fM
   rw [eC hk,dP];rfl
def yT (r:List aI) (p:jt):Bool:=r.any (fun x=>decide (p.X>=x.X0)&&(decide (p.X<x.X1)&&(decide (p.Y>=x.Y0)&&decide (p.Y<x.Y1))))
theorem xG {r:List aI} {p:jt} (hl:r.length<=4611686018427387904):ky N r p=some (yT r p):=by
 unfold ky
 rw [rp (fun x=>decide (p.X>=x.X0)&&(decide (p.X<x.X1)&&(decide (p.Y>=x.Y0)&&decide (p.Y<x.Y1)))) hl (fun x _=>by
  unfold lD
  cases decide (p.X>=x.X0) <;> cases decide (p.X<x.X1) <;> cases decide (p.Y>=x.Y0) <;> rfl)];rfl
def lx (l:fW) (b:cE):Bool:=b.eH&&(jS b l.cU&&yT [t6 b] l.At)
def kN (l:fW) (p:aK):Bool:=(p.cU==l.cU)&&yT p.iN l.At
def zn (bs:List cE) (pcs:List aK) (l:fW):Option km:=match bs.findIdx? (lx l) with
 | some k=>some ⟨true,((k:Nat):Int)⟩
 | none=>(pcs.findIdx? (kN l)).map fun k=>⟨false,((k:Nat):Int)⟩
theorem Hx {bs:List cE} {pcs:List aK} (hb:kB bs) (hp:pcs.length<=1073741824) (hr: ∀p∈pcs,p.iN.length<=1073741824) (l:fW):
  j9 N bs pcs l=some ((zn bs pcs l).getD ⟨false,0⟩,(zn bs pcs l).isSome):=by
 have hbl:=hb.len
 unfold j9
 rw [rU (fun k=>(bs[k]?).bind fun x=>if lx l x=true then some ((⟨true,((k:Nat):Int)⟩:km),true) else none) (by omega) (fun k hk _=>by
  have hkx:bs[k]? =some bs[k]:=aO hk
  have hg:=hb.ok _ (cN hk)
  rw [dM hkx,aB,hkx,mI hg.1,aB,aB,xG (by simp)]
  unfold lx
  cases bs[k].eH with
  | false=>rfl
  | true=>
   show (((bif jS bs[k] l.cU then _ else _:Option Bool)).bind _)=_
   cases jS bs[k] l.cU with
   | false=>rfl
   | true=>
    cases yT [t6 bs[k]] l.At <;> rfl),aB,xF (lx l) (fun k=>((⟨true,((k:Nat):Int)⟩:km),true))]
 unfold zn
 cases bs.findIdx? (lx l) with
 | some k=>rfl
 | none=>
  show ((vn pcs.length _ ()).bind _)=_
  rw [rU (fun k=>(pcs[k]?).bind fun x=>if kN l x=true then some ((⟨false,((k:Nat):Int)⟩:km),true) else none) (by omega) (fun k hk _=>by
   have hkx:pcs[k]? =some pcs[k]:=aO hk
   rw [dM hkx,aB,hkx,aB,xG (by have:=hr _ (cN hk);omega)]
   unfold kN
   cases pcs[k].cU==l.cU with
   | false=>rfl
   | true=>cases yT pcs[k].iN l.At <;> rfl),aB,xF (kN l) (fun k=>((⟨false,((k:Nat):Int)⟩:km),true))]
  cases pcs.findIdx? (kN l) <;> rfl
def Lk (n:Nat) (tch:List (List Int)) (i j:Nat):Prop:=∃(k:Nat) (l:List Int),tch[k]? =some l/\((i:Nat):Int)∈l/\j=n+k
structure Iz (n m:Nat) (tch:List (List Int)) (r:Nat->Nat):Prop where
 le: ∀i,i<n+m->r i<=i
 rr: ∀i,i<n+m->r (r i)=r i
 co: ∀i j,Lk n tch i j->r i=r j
 fi: ∀S:Nat->Prop,(∀i j,Lk n tch i j->(S i↔S j))->∀i j,i<n+m->j<n+m->r i=r j->S i->S j
theorem Gd {n m:Nat} {tch:List (List Int)} (hm:tch.length=m) (ht: ∀l∈tch,l.length<=1073741824/\∀x∈l,∃i:Nat,i<n/\x= ((i:Nat):Int)) (hn:n<=1073741824) (hm2:m<=1073741824) {up:List Int} (hu:UF (n+m) up (fun i=>i)) (hN:4398046511104<=N):
  Ok (nn tch.length (fun(k34:Nat) (s35: (List Int))=>((idx tch (k34:Int)).bind fun x89=>(nn x89.length (fun(k92:Nat) (s93: (List Int))=>((idx x89 (k92:Int)).bind fun x107=>(il N s93 x107 (IntKind.wrap .i64 ((n:Int)+ (k34:Int)))).bind fun x109=>some x109:Option ((List Int)))) s35).bind fun s93=>some s93:Option ((List Int)))) up)
   (fun up'=>∃r,UF (n+m) up' r/\Iz n m tch r):=by
 have base:Ok (nn tch.length (fun(k34:Nat) (s35: (List Int))=>((idx tch (k34:Int)).bind fun x89=>(nn x89.length (fun(k92:Nat) (s93: (List Int))=>((idx x89 (k92:Int)).bind fun x107=>(il N s93 x107 (IntKind.wrap .i64 ((n:Int)+ (k34:Int)))).bind fun x109=>some x109:Option ((List Int)))) s35).bind fun s93=>some s93:Option ((List Int)))) up)
   (fun up'=>∃r E,UF (n+m) up' r/\qJ r E/\Ag (n+m) r E/\(∀p∈E,Lk n tch p.1 p.2)/\∀(k:Nat) l (i:Nat),k<tch.length->tch[k]? =some l->((i:Nat):Int)∈l->(i,n+k)∈E):=by
  refine Ok.nn (fun q up'=>∃r E,UF (n+m) up' r/\qJ r E/\Ag (n+m) r E/\(∀p∈E,Lk n tch p.1 p.2)/\∀(k:Nat) l (i:Nat),k<q->tch[k]? =some l->((i:Nat):Int)∈l->(i,n+k)∈E) (by omega)
   ⟨_,_,hu,qJ.id,Ag.id _,fun p hp=>(by cases hp),fun k l i hk=>by omega⟩ (fun q up' hq hI=>?_)
  obtain⟨r,E,h1,h2,h3,h4,h5⟩:=hI
  have hqx:tch[q]? =some tch[q]:=aO hq
  obtain⟨hl1,hl2⟩:=ht _ (cN hq)
  refine Ok.ix hqx ?_
  rw [wrap_add (by omega)]
  refine Ok.bind (Ok.nn (fun t up'=>∃r E,UF (n+m) up' r/\qJ r E/\Ag (n+m) r E/\(∀p∈E,Lk n tch p.1 p.2)/\(∀(k:Nat) l (i:Nat),k<q->tch[k]? =some l->((i:Nat):Int)∈l->(i,n+k)∈E)/\∀i:Nat,((i:Nat):Int)∈tch[q].take t->(i,n+q)∈E) (by omega)
   ⟨r,E,h1,h2,h3,h4,h5,fun i hi=>by simp at hi⟩ (fun t up' htl hI=>?_)) (fun up' hI=>Ok.ret ?_)
  ·obtain⟨r,E,h1,h2,h3,h4,h5,h6⟩:=hI
   refine Ok.idx htl ?_
   obtain⟨i,hi,e⟩:=hl2 _ (cN htl)
   rw [e]
   obtain⟨u2,a1,a2⟩:=Iw (N:=N) h1 (i:=i) (k:=n+q) (by omega) (by omega) (by omega)
   refine Ok.eq a1 (Ok.ret ⟨_,_,a2,h2.join i (n+q) (h1.rr i (by omega)),h3.join (by omega) (by omega),fun p hp=>?_,fun k l j hk hl hj=>List.mem_append_left _ (h5 k l j hk hl hj),fun j hj=>?_⟩)
   ·rcases cY.1 hp with hp | hp
    ·exact h4 p hp
    ·simp at hp;subst hp
     exact⟨q,tch[q],hqx,by rw [<-e];exact cN htl,rfl⟩
   ·rw [eC htl,cY] at hj
    rcases hj with hj | hj
    ·exact List.mem_append_left _ (h6 j hj)
    ·rw [pS,e] at hj
     have:j=i:=by omega
     subst this;simp
  ·obtain⟨r,E,h1,h2,h3,h4,h5,h6⟩:=hI
   refine⟨r,E,h1,h2,h3,h4,fun k l i hk hl hi=>?_⟩
   by_cases hkq:k<q
   ·exact h5 k l i hkq hl hi
   ·have:k=q:=by omega
    subst this
    rw [hqx] at hl;injection hl with hl;subst hl
    exact h6 i (by rw [eQ];exact hi)
 obtain⟨up',e,r,E,h1,h2,h3,h4,h5⟩:=base
 have hE: ∀i j,Lk n tch i j->(i,j)∈E:=fun i j ⟨k,l,hl,hi,hj⟩=>by
  rw [hj];exact h5 k l i (bB.1 hl).1 hl hi
 exact⟨up',e,r,h1,h1.le,h1.rr,fun i j h=>h2 (i,j) (hE i j h),fun S hS i j hi hj=>h3 S (fun p hp=>hS p.1 p.2 (h4 p hp)) i j hi hj⟩
def sF (bs:List cE) (j:Nat):Bool:=(bs[j]?).any (fun b=>b.eH)
def gP (n:Nat) (c:List Nat):List Nat:=c.filter (fun i=>decide (i<n))
def gB (bs:List cE) (n:Nat) (c:List Nat):List Nat:=(c.filter (fun i=> !decide (i<n)&&sF bs (i - n))).map (fun i=>i - n)
def DI (bs:List cE) (n:Nat) (c:List Nat):Bool:=decide (0< (gP n c).length+ (gB bs n c).length)
def Je (bs:List cE) (n:Nat) (c:List Nat):cC:=⟨ints (gP n c),ints (gB bs n c),[]⟩
theorem Ft (n:Nat) (c:List Nat) (i:Nat):gP n (c++[i])=if i<n then gP n c++[i] else gP n c:=by
 unfold gP;rw [kh];split <;> rename_i h <;> simp [h]
theorem Fu (bs:List cE) (n:Nat) (c:List Nat) (i:Nat):gB bs n (c++[i])=if i<n then gB bs n c else if sF bs (i - n)=true then gB bs n c++[i - n] else gB bs n c:=by
 unfold gB;rw [kh,dP]
 split
 ·rename_i h;simp [h]
 ·rename_i h
  split <;> rename_i h2 <;> simp [h,h2]
theorem Cq (n:Nat) (c:List Nat): (gP n c).length<=c.length:=l9 _ _
theorem Cr (bs:List cE) (n:Nat) (c:List Nat): (gB bs n c).length<=c.length:=by unfold gB;rw [cV];exact l9 _ _
def live (bs:List cE) (n t:Nat) (r:Nat->Nat) (hs:List Nat):List Nat:=hs.filter (fun h=>DI bs n (cls t r h))
def kU (bs:List cE) (n t:Nat) (r:Nat->Nat) (hs:List Nat):List cC:=(live bs n t r hs).map (fun h=>Je bs n (cls t r h))
theorem BH (bs:List cE) (n t:Nat) (r:Nat->Nat) (hs:List Nat) (h:Nat):live bs n t r (hs++[h])=if DI bs n (cls t r h)=true then live bs n t r hs++[h] else live bs n t r hs:=by
 unfold live;rw [kh];split <;> rename_i h2 <;> simp [h2]
theorem qN (bs:List cE) (n t:Nat) (r:Nat->Nat) (hs:List Nat): (kU bs n t r hs).length= (live bs n t r hs).length:=by unfold kU;rw [cV]
def gi (bs:List cE) (n t:Nat) (r:Nat->Nat) (h:Nat):Nat:=(live bs n t r ((bK t r).takeWhile (fun x=>decide (x≠h)))).length
theorem vQ {l:List Nat} (hn:l.Nodup) {k h:Nat} (hk:l[k]? =some h):l.takeWhile (fun x=>decide (x≠h))=l.take k:=by
 induction l generalizing k with
 | nil=>simp at hk
 | cons a l ih=>
  cases k with
  | zero=>simp at hk;subst hk;simp
  | succ k=>
   have hk:l[k]? =some h:=by simpa using hk
   have hne:a≠h:=fun e=>(List.nodup_cons.1 hn).1 (by rw [e];exact eV hk)
   rw [List.takeWhile_cons,aC (by simpa using hne),List.take_succ_cons,ih (List.nodup_cons.1 hn).2 hk]
theorem oH (bs:List cE) (n t:Nat) (r:Nat->Nat) (hs:List Nat): (live bs n t r hs).length<=hs.length:=l9 _ _
theorem Hy {bs:List cE} {n t:Nat} {r:Nat->Nat} {h:Nat} (hh:h∈bK t r) (hne:DI bs n (cls t r h)=true):gi bs n t r h< (live bs n t r (bK t r)).length/\(live bs n t r (bK t r))[gi bs n t r h]? =some h:=by
 obtain⟨k,hk⟩:=dV hh
 have hkl:=(bB.1 hk).1
 unfold gi
 rw [vQ (lA t r) hk]
 have e:bK t r= (bK t r).take k++h::(bK t r).drop (k+1):=by
  have h1:=(List.take_append_drop k (bK t r)).symm
  rw [sP hkl,(bB.1 hk).2] at h1;exact h1
 have e2:live bs n t r (bK t r)=live bs n t r ((bK t r).take k)++h::live bs n t r ((bK t r).drop (k+1)):=by
  conv=>lhs;rw [e]
  unfold live
  rw [kh,List.filter_cons,aC hne]
 constructor
 ·rw [e2];simp
 ·rw [e2]
  simp
end
end Go.Gk
