/-
  Helping texts: plain functions and plain laws. No statement of the seed is proved here.
-/
import Derived.Test.YtgjiokjfpghfgabGreatDoorA1
import Derived.ChangeShapes
import Derived.ChangeSame
import Derived.Carry
import Derived.RowKit
import Derived.Test.YtgjiokjfpghfgabGreatDoorA2
set_option linter.unusedVariables false
set_option linter.unusedSimpArgs false
set_option linter.unusedSectionVars false
namespace Go.Gk
open Go
noncomputable section
structure aI where
 X0:Int
 Y0:Int
 X1:Int
 Y1:Int
 deriving DecidableEq,Inhabited
structure je where
 X:Int
 Y:Int
 deriving DecidableEq,Inhabited
structure bM where
 At:je
 eN:Int
 cQ:Int
 To:Int
 gE:Bool
 deriving DecidableEq,Inhabited
structure cK where
 Part:cX
 fB:cX
 eK:Int
 At:je
 deriving DecidableEq,Inhabited
structure iD where
 aJ: (List (List aI))
 cW: (List aI)
 aU: (List bM)
 aZ: (List cK)
 deriving DecidableEq,Inhabited
structure fB where
 Part:cX
 fB:cX
 deriving DecidableEq,Inhabited
structure Test where
 A:fB
 B:fB
 Joined:Bool
 deriving DecidableEq,Inhabited
structure dO where
 bM:Bool
 Number:Int
 deriving DecidableEq,Inhabited
structure eT where
 Open:Bool
 dO:dO
 A:Int
 B:Int
 deriving DecidableEq,Inhabited
structure aA where
 Y0:Int
 Y1:Int
 Xs: (List Int)
 deriving DecidableEq,Inhabited
structure aH where
 eK:Int
 Set: (List aA)
 mG: (List aI)
 deriving DecidableEq,Inhabited
structure cI where
 mu: (List Int)
 aU: (List Int)
 iw: (List fB)
 deriving DecidableEq,Inhabited
def o0 (N:Nat) (p0 p1 p2:Int):Option (Bool):=
 some ((decide (p0>=p1))&&(decide (p0<=p2)))
def ji (N:Nat) (p0:Int):Option (Bool):=
 (o0 N p0 (-1000000) 1000000).bind fun j=>some j
def ki (N:Nat) (p0:aI):Option (Bool):=
 ((ji N p0.X0).bind fun j=>bif j then ((ji N p0.Y0).bind fun o=>bif o then ((ji N p0.X1).bind fun aa=>bif aa then ((ji N p0.Y1).bind fun ab=>some ab) else (some false)) else (some false)) else (some false)).bind fun ad=>some ad
def iZ (N:Nat) (p0: (List aI)):Option (Int):=
 bif (decide ((p0.length:Int)>2000)) then (some 2) else ((oW p0.length (fun(o:Nat) (aa:Unit)=>((idx p0 (o:Int)).bind fun j=>(ki N j).bind fun ab=>bif (!ab) then (some (.rt 1)) else (bif ((decide (j.X1<=j.X0))||(decide (j.Y1<=j.Y0))) then (some (.rt 13)) else (some (.nx ()))):Option (Fl (Unit) Int))) ()).bind fun ad=>ad.cs (fun(aa:Unit)=>some 0) (fun r=>some r))
def gI (N:Nat) (p0: (List aI)):Option ((List aI)):=
 (app 32 ([]: (List aI)) p0).bind fun j=>some j
def hG (N:Nat) (p0 p1:aI):Option (Int):=
 some (IntKind.wrap .i64 (p0.Y0 - p1.Y0))
def fC (N:Nat) (p0: (List Int)):Option ((List Int)):=
 bif (decide ((p0.length:Int)<2)) then (some p0) else ((mZ (fun(o:Int)=>(bif (decide (o< (p0.length:Int))) then ((idx p0 o).bind fun ab=>(idx p0 (IntKind.wrap .i64 (o - 1))).bind fun ad=>bif (ab==ad) then ((rG p0 o (p0.length:Int)).bind fun ak=>(mZ (fun(j: (List Int)×Int×Int)=>(bif (decide (j.2.2< (((j.1.length - Int.toNat o):Nat):Int))) then ((Ak j.1 o j.2.2).bind fun ae=>(Ak j.1 o (IntKind.wrap .i64 (j.2.2 - 1))).bind fun af=>(bif (ae != af) then ((Ak j.1 o j.2.2).bind fun ag=>(idx j.1 j.2.1).bind fun al=>some ((j.1.set (Int.toNat j.2.1) ag),(IntKind.wrap .i64 (j.2.1+1)))) else (some (j.1,j.2.1))).bind fun aa=>some (.nx (aa.1,aa.2,(IntKind.wrap .i64 (j.2.2+1))))) else (some (.br (j.1,j.2.1,j.2.2))):Option (Fl ((List Int)×Int×Int) Empty))) N (p0,o,1)).bind fun ah=>ah.cs (fun(j: (List Int)×Int×Int)=>(rG j.1 j.2.1 (j.1.length:Int)).bind fun an=>(rG (j.1.take (Int.toNat j.2.1)++List.replicate (j.1.length - Int.toNat j.2.1) (0:Int)) 0 j.2.1).bind fun ai=>some (.rt ai)) (fun r=>r.elim)) else (some (.nx (IntKind.wrap .i64 (o+1))))) else (some (.br o)):Option (Fl (Int) (List Int)))) N 1).bind fun aj=>aj.cs (fun(o:Int)=>some p0) (fun r=>some r))
def lx (N:Nat) (p0:aI) (p1: (List Int)) (p2:Int):Option (Bool):=
 (idx p1 p2).bind fun j=>some (decide (p0.Y1<=j))
def jI (N:Nat) (p0: (List aI)) (p1:aI->Option Bool):Option (Int):=
 (oW p0.length (fun(j:Nat) (o:Unit)=>((idx p0 (j:Int)).bind fun aa=>(p1 aa).bind fun ab=>bif ab then (some (.rt (j:Int))) else (some (.nx ())):Option (Fl (Unit) Int))) ()).bind fun ad=>ad.cs (fun(o:Unit)=>some (-1)) (fun r=>some r)
def iQ (N:Nat) (p0: (List aI)) (p1:aI->Option Bool):Option (Int):=
 (oW p0.length (fun(j:Nat) (o:Unit)=>((idx p0 (j:Int)).bind fun aa=>(p1 aa).bind fun ab=>bif ab then (some (.rt (j:Int))) else (some (.nx ())):Option (Fl (Unit) Int))) ()).bind fun ad=>ad.cs (fun(o:Unit)=>some (-1)) (fun r=>some r)
def fV (N:Nat) (p0: (List aI)) (p1:aI->Option Bool):Option ((List aI)):=
 (iQ N p0 p1).bind fun o=>bif (o==(-1)) then (some p0) else ((mZ (fun(j: (List aI)×Int×Int)=>(bif (decide (j.2.2< (j.1.length:Int))) then ((idx j.1 j.2.2).bind fun aa=>(p1 aa).bind fun ad=>(bif (!ad) then ((idx j.1 j.2.1).bind fun ag=>some ((j.1.set (Int.toNat j.2.1) aa),(IntKind.wrap .i64 (j.2.1+1)))) else (some (j.1,j.2.1))).bind fun ab=>some (.nx (ab.1,ab.2,(IntKind.wrap .i64 (j.2.2+1))))) else (some (.br (j.1,j.2.1,j.2.2))):Option (Fl ((List aI)×Int×Int) Empty))) N (p0,o,(IntKind.wrap .i64 (o+1)))).bind fun ae=>ae.cs (fun(j: (List aI)×Int×Int)=>(rG j.1 j.2.1 (j.1.length:Int)).bind fun ah=>(rG (j.1.take (Int.toNat j.2.1)++List.replicate (j.1.length - Int.toNat j.2.1) (⟨0,0,0,0⟩:aI)) 0 j.2.1).bind fun af=>some af) (fun r=>r.elim))
def fD (N:Nat) (p0 p1:aI):Option (Int):=
 some (IntKind.wrap .i64 (p0.X0 - p1.X0))
def gO (N:Nat) (p0: (List aI)):Option ((List Int)×(List aI)):=
 (sJ (fD N) p0).bind fun aa=>(jS aa.length (fun(ad:Nat) (j: (List Int))=>((idx aa (ad:Int)).bind fun o=>(bif (decide ((IntKind.wrap .i64 ((j.length:Int) - 1))>=0)) then ((idx j (IntKind.wrap .i64 ((j.length:Int) - 1))).bind fun ae=>some (decide (o.X0<=ae))) else (some false)).bind fun af=>(bif af then ((idx j (IntKind.wrap .i64 ((j.length:Int) - 1))).bind fun ab=>(idx j (IntKind.wrap .i64 ((j.length:Int) - 1))).bind fun ai=>some (j.set (Int.toNat (IntKind.wrap .i64 ((j.length:Int) - 1))) (if ab<o.X1 then o.X1 else ab))) else ((app 8 j ([o.X0,o.X1]: (List Int))).bind fun ag=>some ag)).bind fun ah=>some ah:Option ((List Int)))) ([]: (List Int))).bind fun j=>some (j,aa)
def kj (N:Nat) (p0: (List Int)) (p1: (List Int)):Option (Bool):=
 bif ((p0.length:Int) != (p1.length:Int)) then (some false) else ((oW p0.length (fun(j:Nat) (o:Unit)=>((idx p0 (j:Int)).bind fun aa=>(idx p1 (j:Int)).bind fun ab=>bif (aa != ab) then (some (.rt false)) else (some (.nx ())):Option (Fl (Unit) Bool))) ()).bind fun ad=>ad.cs (fun(o:Unit)=>some true) (fun r=>some r))
def gF (N:Nat) (p0: (List aA)) (p1:aA):Option ((List aA)):=
 bif (((p1.Xs.length:Int)==0)||(decide (p1.Y1<=p1.Y0))) then (some p0) else ((bif (decide ((IntKind.wrap .i64 ((p0.length:Int) - 1))>=0)) then ((idx p0 (IntKind.wrap .i64 ((p0.length:Int) - 1))).bind fun j=>bif (j.Y1==p1.Y0) then ((idx p0 (IntKind.wrap .i64 ((p0.length:Int) - 1))).bind fun o=>(kj N o.Xs p1.Xs).bind fun aa=>some aa) else (some false)) else (some false)).bind fun ab=>bif ab then ((idx p0 (IntKind.wrap .i64 ((p0.length:Int) - 1))).bind fun ad=>some (p0.set (Int.toNat (IntKind.wrap .i64 ((p0.length:Int) - 1))) ({ad with Y1:=p1.Y1}))) else ((app 40 p0 ([p1]: (List aA))).bind fun ae=>some ae))
def fG (N:Nat) (p0: (List aI)):Option ((List aA)):=
 (gI N p0).bind fun ag=>(sJ (hG N) ag).bind fun aa=>(jS aa.length (fun(ah:Nat) (ad: (List Int))=>((idx aa (ah:Int)).bind fun ae=>(app 8 ad ([ae.Y0,ae.Y1]: (List Int))).bind fun ai=>some ai:Option ((List Int)))) ([]: (List Int))).bind fun ad=>(pS ad).bind fun aj=>(fC N aj).bind fun ab=>(mZ (fun(j: (List aA)×(List aI)×Int×Int)=>(bif (decide ((IntKind.wrap .i64 (j.2.2.2+1))< (ab.length:Int))) then ((fV N j.2.1 (fun y0=>lx N y0 ab j.2.2.2)).bind fun ak=>(mZ (fun(o: (List aI)×Int)=>((bif (decide (o.2< (aa.length:Int))) then ((idx aa o.2).bind fun al=>(idx ab j.2.2.2).bind fun an=>some (decide (al.Y0<=an))) else (some false)).bind fun ao=>bif ao then ((idx aa o.2).bind fun aq=>(app 32 o.1 ([aq]: (List aI))).bind fun ar=>some (.nx (ar,(IntKind.wrap .i64 (o.2+1))))) else (some (.br (o.1,o.2))):Option (Fl ((List aI)×Int) Empty))) N (ak,j.2.2.1)).bind fun au=>au.cs (fun(o: (List aI)×Int)=>(idx ab j.2.2.2).bind fun av=>(idx ab (IntKind.wrap .i64 (j.2.2.2+1))).bind fun aw=>(gO N o.1).bind fun af=>(gF N j.1 (⟨av,aw,af.1⟩:aA)).bind fun ax=>some (.nx (ax,af.2,o.2,(IntKind.wrap .i64 (j.2.2.2+1))))) (fun r=>r.elim)) else (some (.br (j.1,j.2.1,j.2.2.1,j.2.2.2))):Option (Fl ((List aA)×(List aI)×Int×Int) Empty))) N (([]: (List aA)),([]: (List aI)),0,0)).bind fun ay=>ay.cs (fun(j: (List aA)×(List aI)×Int×Int)=>some j.1) (fun r=>r.elim)
def gQ (N:Nat) (p0: (List aA)):Option ((List aI)):=
 (jS p0.length (fun(aa:Nat) (o: (List aI))=>((idx p0 (aa:Int)).bind fun iR=>(mZ (fun(j: (List aI)×Int)=>(bif (decide (j.2< (iR.Xs.length:Int))) then ((idx iR.Xs j.2).bind fun ab=>(idx iR.Xs (IntKind.wrap .i64 (j.2+1))).bind fun ad=>(app 32 j.1 ([(⟨ab,iR.Y0,ad,iR.Y1⟩:aI)]: (List aI))).bind fun ae=>some (.nx (ae,(IntKind.wrap .i64 (j.2+2))))) else (some (.br (j.1,j.2))):Option (Fl ((List aI)×Int) Empty))) N (o,0)).bind fun af=>af.cs (fun(j: (List aI)×Int)=>some j.1) (fun r=>r.elim):Option ((List aI)))) ([]: (List aI))).bind fun o=>some o
def iJ (N:Nat) (p0: (List aI)) (p1: (List aI)):Option (Bool):=
 bif ((p0.length:Int) != (p1.length:Int)) then (some false) else ((oW p0.length (fun(j:Nat) (o:Unit)=>((idx p0 (j:Int)).bind fun aa=>(idx p1 (j:Int)).bind fun ab=>bif (!(decide (aa=ab))) then (some (.rt false)) else (some (.nx ())):Option (Fl (Unit) Bool))) ()).bind fun ad=>ad.cs (fun(o:Unit)=>some true) (fun r=>some r))
def gJ (N:Nat) (p0: (List aI)):Option (Int):=
 (iZ N p0).bind fun ab=>bif (ab != 0) then (some ab) else ((mZ (fun(j:Int)=>(bif (decide (j< (p0.length:Int))) then ((idx p0 (IntKind.wrap .i64 (j - 1))).bind fun o=>(idx p0 j).bind fun aa=>bif ((decide (aa.Y0<o.Y0))||((aa.Y0==o.Y0)&&(decide (aa.X0<=o.X0)))) then (some (.rt 8)) else (some (.nx (IntKind.wrap .i64 (j+1))))) else (some (.br j)):Option (Fl (Int) Int))) N 1).bind fun ad=>ad.cs (fun(j:Int)=>(fG N p0).bind fun ae=>(gQ N ae).bind fun af=>(iJ N af p0).bind fun Gq=>bif (!Gq) then (some 3) else (some 0)) (fun r=>some r))
def fP (N:Nat) (p0 p1 p2:Int):Option (Bool):=
 some ((decide (p0>=p1))&&(decide (p0<=p2)))
def gW (N:Nat) (p0:je):Option (Bool):=
 ((ji N p0.X).bind fun j=>bif j then ((ji N p0.Y).bind fun o=>some o) else (some false)).bind fun aa=>some aa
def eM (N:Nat) (p0:bM):Option (aI):=
 some (⟨(IntKind.wrap .i64 (p0.At.X - (IntKind.wrap .i64 (Int.tdiv p0.eN 2)))),(IntKind.wrap .i64 (p0.At.Y - (IntKind.wrap .i64 (Int.tdiv p0.eN 2)))),(IntKind.wrap .i64 ((IntKind.wrap .i64 (p0.At.X - (IntKind.wrap .i64 (Int.tdiv p0.eN 2))))+p0.eN)),(IntKind.wrap .i64 ((IntKind.wrap .i64 (p0.At.Y - (IntKind.wrap .i64 (Int.tdiv p0.eN 2))))+p0.eN))⟩:aI)
def kl (N:Nat) (p0: (List aA)):Option (aI):=
 (idx p0 0).bind fun ad=>(idx ad.Xs 0).bind fun ae=>(idx p0 0).bind fun af=>(idx p0 0).bind fun ag=>(idx ag.Xs 1).bind fun ah=>(idx p0 (IntKind.wrap .i64 ((p0.length:Int) - 1))).bind fun ai=>(jS p0.length (fun(aj:Nat) (j:aI)=>((idx p0 (aj:Int)).bind fun o=>(idx o.Xs 0).bind fun aa=>(idx o.Xs (IntKind.wrap .i64 ((o.Xs.length:Int) - 1))).bind fun ab=>some ({{j with X0:=(if aa<j.X0 then aa else j.X0)} with X1:=(if j.X1<ab then ab else j.X1)}):Option (aI))) (⟨ae,af.Y0,ah,ai.Y1⟩:aI)).bind fun j=>some j
def jX (N:Nat) (p0: (List aA)):Option (Bool):=
 (bif ((p0.length:Int)==0) then (some true) else ((kl N p0).bind fun j=>(ki N j).bind fun o=>some o)).bind fun aa=>some aa
def jE (N:Nat) (p0:bM):Option (aI×Int):=
 ((fP N p0.eN 1 10000).bind fun o=>bif (!o) then (some true) else ((gW N p0.At).bind fun aa=>some (!aa))).bind fun ab=>bif ab then (some ((⟨0,0,0,0⟩:aI),1)) else ((eM N p0).bind fun j=>(fG N ([j]: (List aI))).bind fun ad=>(jX N ad).bind fun ae=>bif (!ae) then (some ((⟨0,0,0,0⟩:aI),1)) else (some (j,0)))
def iK (N:Nat) (p0:iD):Option (Int):=
 bif (decide ((p0.aU.length:Int)>500)) then (some 2) else ((oW p0.aU.length (fun(aa:Nat) (ab:Unit)=>((idx p0.aU (aa:Int)).bind fun j=>(jE N j).bind fun o=>bif (o.2 != 0) then (some (.rt o.2)) else (((fP N j.cQ 0 (IntKind.wrap .i64 ((p0.aJ.length:Int) - 1))).bind fun ad=>bif (!ad) then (some true) else ((fP N j.To j.cQ (IntKind.wrap .i64 ((p0.aJ.length:Int) - 1))).bind fun ae=>some (!ae))).bind fun af=>bif af then (some (.rt 1)) else (some (.nx ()))):Option (Fl (Unit) Int))) ()).bind fun ag=>ag.cs (fun(ab:Unit)=>some 0) (fun r=>some r))
def gk (N:Nat) (p0:cX) (p1:Int):Option (Int):=
 some (Lib.indexByte p0.cG (Int.toNat p1).toUInt8)
def iL (N:Nat) (p0 p1:cX):Option (Int):=
 bif (((p1.cG.length:Int)==0)||(p1.Ac p0)) then (some 0) else (bif ((p1.cG.length:Int)==1) then ((BK p1 0).bind fun j=>(gk N p0 (j.toNat:Int)).bind fun o=>some o) else (bif (decide ((p1.cG.length:Int)>=(p0.cG.length:Int))) then (some (-1)) else (none)))
def jF (N:Nat) (p0 p1:cX):Option (Int):=
 (iL N p0 p1).bind fun j=>some j
def kB (N:Nat) (p0 p1:cX):Option (Int):=
 bif ((p1.cG.length:Int)==0) then (none) else (bif ((p1.cG.length:Int)==1) then ((BK p1 0).bind fun aa=>some ((Lib.countByte p0.cG (Int.toNat (aa.toNat:Int)).toUInt8:Nat):Int)) else ((mZ (fun(j:cX×Int)=>((jF N j.1 p1).bind fun o=>bif (o==(-1)) then (some (.rt j.2)) else ((rQ j.1 (IntKind.wrap .i64 (o+ (p1.cG.length:Int))) (j.1.cG.length:Int)).bind fun ab=>some (.nx (ab,(IntKind.wrap .i64 (j.2+1))))):Option (Fl (cX×Int) Int))) N (p0,0)).bind fun ad=>ad.cs (fun(j:cX×Int)=>some 0) (fun r=>some r)))
def km (N:Nat) (p0 p1:cX) (p2 p3:Int):Option ((List cX)):=
 bif (p3==0) then (some ([]: (List cX))) else (bif (p1.Ac (⟨[]⟩)) then (none) else ((bif (decide (p3<0)) then ((kB N p0 p1).bind fun ab=>some (IntKind.wrap .i64 (ab+1))) else (some p3)).bind fun o=>(mk 16 (⟨[]⟩:cX) (if (IntKind.wrap .i64 ((p0.cG.length:Int)+1))<o then (IntKind.wrap .i64 ((p0.cG.length:Int)+1)) else o)).bind fun ad=>(mZ (fun(j:cX×(List cX)×Int)=>(bif (decide (j.2.2< (IntKind.wrap .i64 ((if (IntKind.wrap .i64 ((p0.cG.length:Int)+1))<o then (IntKind.wrap .i64 ((p0.cG.length:Int)+1)) else o) - 1)))) then ((jF N j.1 p1).bind fun aa=>bif (decide (aa<0)) then (some (.br (j.1,j.2.1,j.2.2))) else ((rQ j.1 0 (IntKind.wrap .i64 (aa+p2))).bind fun ae=>(idx j.2.1 j.2.2).bind fun ai=>(rQ j.1 (IntKind.wrap .i64 (aa+ (p1.cG.length:Int))) (j.1.cG.length:Int)).bind fun af=>some (.nx (af,(j.2.1.set (Int.toNat j.2.2) ae),(IntKind.wrap .i64 (j.2.2+1)))))) else (some (.br (j.1,j.2.1,j.2.2))):Option (Fl (cX×(List cX)×Int) Empty))) N (p0,ad,0)).bind fun ag=>ag.cs (fun(j:cX×(List cX)×Int)=>(idx j.2.1 j.2.2).bind fun aj=>(rG (j.2.1.set (Int.toNat j.2.2) j.1) 0 (IntKind.wrap .i64 (j.2.2+1))).bind fun ah=>some ah) (fun r=>r.elim)))
def kC (N:Nat) (p0 p1:cX):Option ((List cX)):=
 (km N p0 p1 0 (-1)).bind fun j=>some j
def i5 (N:Nat) (p0: (List cX)) (p1:cX->Option Bool):Option (Int):=
 (oW p0.length (fun(j:Nat) (o:Unit)=>((idx p0 (j:Int)).bind fun aa=>(p1 aa).bind fun ab=>bif ab then (some (.rt (j:Int))) else (some (.nx ())):Option (Fl (Unit) Int))) ()).bind fun ad=>ad.cs (fun(o:Unit)=>some (-1)) (fun r=>some r)
def fW (N:Nat) (p0: (List cX)) (p1:cX->Option Bool):Option (Bool):=
 (i5 N p0 p1).bind fun j=>some (decide (j>=0))
def gK (N:Nat) (p0:cX) (p1:Int):Option (Int):=
 (gk N p0 p1).bind fun j=>some j
def gG (N:Nat) (p0:cX):Option (Bool):=
 (oW p0.cG.length (fun(o:Nat) (aa:Unit)=>((BK p0 (o:Int)).bind fun j=>(bif ((((decide ((j.toNat:Int)<65))||(decide ((j.toNat:Int)>90)))&&((decide ((j.toNat:Int)<97))||(decide ((j.toNat:Int)>122))))&&((decide ((j.toNat:Int)<48))||(decide ((j.toNat:Int)>57)))) then ((gK N (⟨[95,43,45,35]⟩) (j.toNat:Int)).bind fun ab=>some (decide (ab<0))) else (some false)).bind fun ad=>bif ad then (some (.rt false)) else (some (.nx ())):Option (Fl (Unit) Bool))) ()).bind fun ae=>ae.cs (fun(aa:Unit)=>some ((decide ((p0.cG.length:Int)>=1))&&(decide ((p0.cG.length:Int)<=40)))) (fun r=>some r)
def fX (N:Nat) (p0:cX):Option (Bool):=
 (gG N p0).bind fun j=>some (!j)
def jY (N:Nat) (p0:cX):Option (Bool):=
 (bif (decide ((p0.cG.length:Int)<=200)) then ((kC N p0 (⟨[47]⟩)).bind fun j=>(fW N j (fX N)).bind fun o=>some (!o)) else (some false)).bind fun aa=>some aa
def jk (N:Nat) (p0:cK):Option (fB):=
 some (⟨p0.Part,p0.fB⟩:fB)
def jJ (N:Nat) (p0 p1:cX):Option (Int):=
 some (Lib.compareBytes p0.cG p1.cG)
def kQ (N:Nat) (p0 p1:cX):Option (Int):=
 (jJ N p0 p1).bind fun j=>some j
def cY (N:Nat) (p0 p1:fB):Option (Int):=
 (kQ N p0.Part p1.Part).bind fun j=>bif (j != 0) then (some j) else ((kQ N p0.fB p1.fB).bind fun o=>some o)
def iM (N:Nat) (p0:iD):Option (Int):=
 bif (decide ((p0.aZ.length:Int)>1000)) then (some 2) else ((oW p0.aZ.length (fun(o:Nat) (aa:Unit)=>((idx p0.aZ (o:Int)).bind fun j=>((jY N j.Part).bind fun ab=>bif (!ab) then (some true) else ((gG N j.fB).bind fun ad=>some (!ad))).bind fun ae=>bif ae then (some (.rt 5)) else (((fP N j.eK 0 (IntKind.wrap .i64 ((p0.aJ.length:Int) - 1))).bind fun af=>bif (!af) then (some true) else ((gW N j.At).bind fun ag=>some (!ag))).bind fun ah=>bif ah then (some (.rt 1)) else ((bif (decide ((o:Int)>0)) then ((idx p0.aZ (IntKind.wrap .i64 ((o:Int) - 1))).bind fun ai=>(jk N j).bind fun aj=>(jk N ai).bind fun ak=>(cY N aj ak).bind fun al=>some (decide (al<=0))) else (some false)).bind fun an=>bif an then (some (.rt 8)) else (some (.nx ())))):Option (Fl (Unit) Int))) ()).bind fun ao=>ao.cs (fun(aa:Unit)=>some 0) (fun r=>some r))
def jG (N:Nat) (p0 p1:Int) (p2 p3:Int):Option (Int):=
 some (if (if 0< (IntKind.wrap .i64 ((IntKind.wrap .i64 (p2 - p1))+1)) then (IntKind.wrap .i64 ((IntKind.wrap .i64 (p2 - p1))+1)) else 0)< (IntKind.wrap .i64 ((IntKind.wrap .i64 (p0 - p3))+1)) then (IntKind.wrap .i64 ((IntKind.wrap .i64 (p0 - p3))+1)) else (if 0< (IntKind.wrap .i64 ((IntKind.wrap .i64 (p2 - p1))+1)) then (IntKind.wrap .i64 ((IntKind.wrap .i64 (p2 - p1))+1)) else 0))
def oy (N:Nat) (p0 p1:aI):Option (Int):=
 (jG N p0.X0 p0.X1 p1.X0 p1.X1).bind fun j=>(jG N p0.Y0 p0.Y1 p1.Y0 p1.Y1).bind fun o=>some (if j<o then o else j)
def i6 (N:Nat) (p0:bM) (p1:Int):Option (Bool):=
 some ((decide (p0.cQ<=p1))&&(decide (p1<=p0.To)))
def kn (N:Nat) (p0: (List aA)) (p1 p2:Int):Option ((List Int)×Int):=
 bif ((p0.length:Int)==0) then (some (([]: (List Int)),p2)) else ((idx p0 0).bind fun aa=>bif (decide (p1<aa.Y0)) then ((idx p0 0).bind fun j=>some (([]: (List Int)),(if j.Y0<p2 then j.Y0 else p2))) else ((idx p0 0).bind fun ab=>(idx p0 0).bind fun o=>some (ab.Xs,(if o.Y1<p2 then o.Y1 else p2))))
def na (N:Nat) (p0: (List Int)) (p1: (List Int)) (p2:Bool->Bool->Option Bool):Option ((List Int)):=
 (mZ (fun(j: (List Int)×(List Int)×(List Int)×Bool×Bool×Bool)=>((bif (decide ((j.1.length:Int)>0)) then (some true) else (some (decide ((j.2.1.length:Int)>0)))).bind fun af=>bif af then ((bif ((j.2.1.length:Int)==0) then (some true) else (bif (decide ((j.1.length:Int)>0)) then ((idx j.1 0).bind fun ag=>(idx j.2.1 0).bind fun ah=>some (decide (ag<=ah))) else (some false))).bind fun ai=>(bif ai then ((idx j.1 0).bind fun aj=>some aj) else ((idx j.2.1 0).bind fun ak=>some ak)).bind fun o=>(bif (decide ((j.1.length:Int)>0)) then ((idx j.1 0).bind fun al=>some (al==o)) else (some false)).bind fun an=>(bif an then ((rG j.1 1 (j.1.length:Int)).bind fun ao=>some (ao,(!j.2.2.2.1))) else (some (j.1,j.2.2.2.1))).bind fun aa=>(bif (decide ((j.2.1.length:Int)>0)) then ((idx j.2.1 0).bind fun aq=>some (aq==o)) else (some false)).bind fun ar=>(bif ar then ((rG j.2.1 1 (j.2.1.length:Int)).bind fun au=>some (au,(!j.2.2.2.2.1))) else (some (j.2.1,j.2.2.2.2.1))).bind fun ab=>(p2 aa.2 ab.2).bind fun ad=>(bif (ad != j.2.2.2.2.2) then ((app 8 j.2.2.1 ([o]: (List Int))).bind fun av=>some (av,ad)) else (some (j.2.2.1,j.2.2.2.2.2))).bind fun ae=>some (.nx (aa.1,ab.1,ae.1,aa.2,ab.2,ae.2))) else (some (.br (j.1,j.2.1,j.2.2.1,j.2.2.2.1,j.2.2.2.2.1,j.2.2.2.2.2))):Option (Fl ((List Int)×(List Int)×(List Int)×Bool×Bool×Bool) Empty))) N (p0,p1,([]: (List Int)),false,false,false)).bind fun aw=>aw.cs (fun(j: (List Int)×(List Int)×(List Int)×Bool×Bool×Bool)=>some j.2.2.1) (fun r=>r.elim)
def mf (N:Nat) (p0: (List aA)) (p1: (List aA)) (p2:Bool->Bool->Option Bool):Option ((List aA)):=
 bif ((IntKind.wrap .i64 ((p0.length:Int)+ (p1.length:Int)))==0) then (some ([]: (List aA))) else ((jS (([p0,p1]: (List (List aA))).length) (fun(ag:Nat) (o:Int×Int)=>((idx ([p0,p1]: (List (List aA))) (ag:Int)).bind fun iR=>(bif (decide ((iR.length:Int)>0)) then ((bif ((ag:Int)==0) then (some true) else (some ((p0.length:Int)==0))).bind fun ak=>(bif ak then ((idx iR 0).bind fun al=>(idx iR (IntKind.wrap .i64 ((iR.length:Int) - 1))).bind fun an=>some (al.Y0,an.Y1)) else (some (o.1,o.2))).bind fun af=>(idx iR 0).bind fun ah=>(idx iR (IntKind.wrap .i64 ((iR.length:Int) - 1))).bind fun ai=>some ((if ah.Y0<af.1 then ah.Y0 else af.1),(if af.2<ai.Y1 then ai.Y1 else af.2))) else (some (o.1,o.2))).bind fun aj=>some (aj.1,aj.2):Option (Int×Int))) (0,0)).bind fun o=>(mZ (fun(j: (List aA)×(List aA)×(List aA)×Int)=>(bif (decide (j.2.2.2<o.2)) then ((mZ (fun(aa: (List aA))=>((bif (decide ((aa.length:Int)>0)) then ((idx aa 0).bind fun ao=>some (decide (ao.Y1<=j.2.2.2))) else (some false)).bind fun aq=>bif aq then ((rG aa 1 (aa.length:Int)).bind fun ar=>some (.nx ar)) else (some (.br aa)):Option (Fl ((List aA)) Empty))) N j.1).bind fun au=>au.cs (fun(aa: (List aA))=>(mZ (fun(ab: (List aA))=>((bif (decide ((ab.length:Int)>0)) then ((idx ab 0).bind fun av=>some (decide (av.Y1<=j.2.2.2))) else (some false)).bind fun aw=>bif aw then ((rG ab 1 (ab.length:Int)).bind fun ax=>some (.nx ax)) else (some (.br ab)):Option (Fl ((List aA)) Empty))) N j.2.1).bind fun ay=>ay.cs (fun(ab: (List aA))=>(kn N aa j.2.2.2 o.2).bind fun ad=>(kn N ab j.2.2.2 o.2).bind fun ae=>(na N ad.1 ae.1 p2).bind fun az=>(gF N j.2.2.1 (⟨j.2.2.2,(if ae.2<ad.2 then ae.2 else ad.2),az⟩:aA)).bind fun a0=>some (.nx (aa,ab,a0,(if ae.2<ad.2 then ae.2 else ad.2)))) (fun r=>r.elim)) (fun r=>r.elim)) else (some (.br (j.1,j.2.1,j.2.2.1,j.2.2.2))):Option (Fl ((List aA)×(List aA)×(List aA)×Int) Empty))) N (p0,p1,([]: (List aA)),o.1)).bind fun a1=>a1.cs (fun(j: (List aA)×(List aA)×(List aA)×Int)=>some j.2.2.1) (fun r=>r.elim))
def ly (N:Nat) (p0 p1:Bool):Option (Bool):=
 some (p0&&(!p1))
def i7 (N:Nat) (p0: (List aA)) (p1: (List aA)):Option ((List aA)):=
 (mf N p0 p1 (ly N)).bind fun j=>some j
def jZ (N:Nat) (p0: (List aA)):Option (Int):=
 (jS p0.length (fun(o:Nat) (j:Int)=>((idx p0 (o:Int)).bind fun aa=>some (IntKind.wrap .i64 (j+ (IntKind.wrap .i64 (Int.tdiv (aa.Xs.length:Int) 2)))):Option (Int))) 0).bind fun j=>some j
def dR (N:Nat) (p0:Int) (p1_0: (List Int)):Option (Int×(List Int)):=
 (mZ (fun(j:Int×(List Int))=>((idx j.2 j.1).bind fun aa=>bif (aa != j.1) then ((idx j.2 j.1).bind fun ab=>(idx j.2 ab).bind fun o=>(idx j.2 j.1).bind fun af=>(idx (j.2.set (Int.toNat j.1) o) j.1).bind fun ad=>some (.nx (ad,(j.2.set (Int.toNat j.1) o)))) else (some (.br (j.1,j.2))):Option (Fl (Int×(List Int)) Empty))) N (p0,p1_0)).bind fun ae=>ae.cs (fun(j:Int×(List Int))=>some (j.1,j.2)) (fun r=>r.elim)
def jz (N:Nat) (p0: (List aA)):Option ((List (List aA))):=
 (gQ N p0).bind fun ab=>(mk 8 (0:Int) (ab.length:Int)).bind fun an=>(jS an.length (fun(ai:Nat) (ag: (List Int))=>((idx ag (ai:Int)).bind fun bd=>some (ag.set (Int.toNat (ai:Int)) (ai:Int)):Option ((List Int)))) an).bind fun ag=>(jS p0.length (fun(aj:Nat) (aa: (List Int)×Int×Int)=>((idx p0 (aj:Int)).bind fun ak=>(bif (decide ((aj:Int)>0)) then ((idx p0 (IntKind.wrap .i64 ((aj:Int) - 1))).bind fun ar=>some (ar.Y1==ak.Y0)) else (some false)).bind fun au=>(bif au then ((mZ (fun(j: (List Int)×Int×Int)=>(bif ((decide (j.2.1<aa.2.1))&&(decide (j.2.2< (IntKind.wrap .i64 (aa.2.1+ (IntKind.wrap .i64 (Int.tdiv (ak.Xs.length:Int) 2))))))) then (((idx ab j.2.1).bind fun av=>(idx ab j.2.2).bind fun aw=>bif (decide (av.X0<aw.X1)) then ((idx ab j.2.2).bind fun ax=>(idx ab j.2.1).bind fun ay=>some (decide (ax.X0<ay.X1))) else (some false)).bind fun az=>(bif az then ((dR N j.2.1 j.1).bind fun ae=>(dR N j.2.2 ae.2).bind fun ad=>(idx ad.2 (if ae.1<ad.1 then ad.1 else ae.1)).bind fun bf=>some (ad.2.set (Int.toNat (if ae.1<ad.1 then ad.1 else ae.1)) (if ad.1<ae.1 then ad.1 else ae.1))) else (some j.1)).bind fun a0=>(idx ab j.2.1).bind fun a1=>(idx ab j.2.2).bind fun a2=>(bif (decide (a1.X1<a2.X1)) then (some ((IntKind.wrap .i64 (j.2.1+1)),j.2.2)) else (some (j.2.1,(IntKind.wrap .i64 (j.2.2+1))))).bind fun ao=>some (.nx (a0,ao.1,ao.2))) else (some (.br (j.1,j.2.1,j.2.2))):Option (Fl ((List Int)×Int×Int) Empty))) N (aa.1,aa.2.2,aa.2.1)).bind fun a3=>a3.cs (fun(j: (List Int)×Int×Int)=>some j.1) (fun r=>r.elim)) else (some aa.1)).bind fun a4=>some (a4,(IntKind.wrap .i64 (aa.2.1+ (IntKind.wrap .i64 (Int.tdiv (ak.Xs.length:Int) 2)))),aa.2.1):Option ((List Int)×Int×Int))) (ag,0,0)).bind fun aa=>(jS ab.length (fun(aq:Nat) (o: (List Int)×(List (Int×Int))×(List (List aI)))=>((idx ab (aq:Int)).bind fun a5=>(dR N (aq:Int) o.1).bind fun ah=>(bif (!(iu o.2.1 ah.1)) then ((app 24 o.2.2 [([]: (List aI))]).bind fun a6=>some ((n0 o.2.1 ah.1 (o.2.2.length:Int)),a6,(o.2.2.length:Int))) else (some (o.2.1,o.2.2,(cZ o.2.1 ah.1 (0:Int))))).bind fun af=>(idx af.2.1 af.2.2).bind fun a7=>(app 32 a7 ([a5]: (List aI))).bind fun a8=>(idx af.2.1 af.2.2).bind fun bg=>some (ah.2,af.1,(af.2.1.set (Int.toNat af.2.2) a8)):Option ((List Int)×(List (Int×Int))×(List (List aI))))) (aa.1,([]: (List (Int×Int))),([]: (List (List aI))))).bind fun o=>(jS o.2.2.length (fun(a9:Nat) (al: (List (List aA)))=>((idx o.2.2 (a9:Int)).bind fun ba=>(fG N ba).bind fun bb=>(app 24 al ([bb]: (List (List aA)))).bind fun bc=>some bc:Option ((List (List aA))))) ([]: (List (List aA)))).bind fun al=>some al
def hQ (N:Nat) (p0_0: (List (List aI))) (p0_2: (List bM)) (p0_4: (List (List aA))) (p0_5: (List aH)):Option (Bool×(List (List aA))×(List aH)):=
 (jS p0_0.length (fun(aa:Nat) (j: (List (List aA))×(List aH)×Bool)=>((idx p0_0 (aa:Int)).bind fun ai=>(jS p0_2.length (fun(aj:Nat) (o: (List aI))=>((idx p0_2 (aj:Int)).bind fun af=>(i6 N af (aa:Int)).bind fun ak=>(bif ak then ((eM N af).bind fun al=>(app 32 o ([al]: (List aI))).bind fun an=>some an) else (some o)).bind fun ao=>some ao:Option ((List aI)))) ([]: (List aI))).bind fun o=>(fG N ai).bind fun aq=>(fG N o).bind fun ar=>(i7 N aq ar).bind fun ab=>(bif j.2.2 then ((jZ N ab).bind fun au=>some ((decide (au<=2000)),ab)) else (some (false,ab))).bind fun ad=>(app 24 j.1 ([ad.2]: (List (List aA)))).bind fun av=>(jz N ad.2).bind fun ag=>(jS ag.length (fun(aw:Nat) (ae: (List aH))=>((idx ag (aw:Int)).bind fun ah=>(gQ N ah).bind fun ax=>(app 56 ae ([(⟨(aa:Int),ah,ax⟩:aH)]: (List aH))).bind fun ay=>some ay:Option ((List aH)))) j.2.1).bind fun ae=>some (av,ae,ad.1):Option ((List (List aA))×(List aH)×Bool))) (p0_4,p0_5,true)).bind fun j=>(bif j.2.2 then (some (decide ((j.2.1.length:Int)<=2000))) else (some false)).bind fun az=>some (az,j.1,j.2.1)
def n7 (N:Nat) (p0 p1:aI):Option (Bool):=
 some ((((decide (p0.X0<p1.X1))&&(decide (p1.X0<p0.X1)))&&((p0.Y1==p1.Y0)||(p1.Y1==p0.Y0)))||(((decide (p0.Y0<p1.Y1))&&(decide (p1.Y0<p0.Y1)))&&((p0.X1==p1.X0)||(p1.X1==p0.X0))))
def ir (N:Nat) (p0:aI) (p1:bM):Option (Bool):=
 (eM N p1).bind fun j=>(n7 N p0 j).bind fun o=>some o
def eZ (N:Nat) (p0: (List aI)) (p1:aI->Option Bool):Option (Bool):=
 (jI N p0 p1).bind fun j=>some (decide (j>=0))
def hU (N:Nat) (p0_2: (List bM)) (p0_5: (List aH)) (p0_6: (List (List Int))):Option ((List (List Int))):=
 (jS p0_2.length (fun(ae:Nat) (o: (List (List Int)))=>((idx p0_2 (ae:Int)).bind fun aa=>(jS p0_5.length (fun(ab:Nat) (j: (List Int))=>((idx p0_5 (ab:Int)).bind fun ad=>(bif aa.gE then ((i6 N aa ad.eK).bind fun af=>bif af then ((eZ N ad.mG (fun y0=>ir N y0 aa)).bind fun ag=>some ag) else (some false)) else (some false)).bind fun ah=>(bif ah then ((app 8 j ([(ab:Int)]: (List Int))).bind fun ai=>some ai) else (some j)).bind fun aj=>some aj:Option ((List Int)))) ([]: (List Int))).bind fun j=>(app 24 o ([j]: (List (List Int)))).bind fun ak=>some ak:Option ((List (List Int))))) p0_6).bind fun o=>some o
def gY (N:Nat) (p0:Int):Option (((List Int))):=
 (mk 8 (0:Int) p0).bind fun aa=>(jS aa.length (fun(o:Nat) (j: (List Int))=>((idx j (o:Int)).bind fun ab=>some (j.set (Int.toNat (o:Int)) (o:Int)):Option ((List Int)))) aa).bind fun j=>some j
def dC (N:Nat) (p0_0: (List Int)) (p1:Int):Option (Int×(List Int)):=
 (mZ (fun(j: (List Int)×Int)=>((idx j.1 j.2).bind fun aa=>bif (aa != j.2) then ((idx j.1 j.2).bind fun ab=>(idx j.1 ab).bind fun o=>(idx j.1 j.2).bind fun af=>(idx (j.1.set (Int.toNat j.2) o) j.2).bind fun ad=>some (.nx ((j.1.set (Int.toNat j.2) o),ad))) else (some (.br (j.1,j.2))):Option (Fl ((List Int)×Int) Empty))) N (p0_0,p1)).bind fun ae=>ae.cs (fun(j: (List Int)×Int)=>some (j.2,j.1)) (fun r=>r.elim)
def cV (N:Nat) (p0_0: (List Int)) (p1 p2:Int):Option ((List Int)):=
 (dC N p0_0 p1).bind fun o=>(dC N o.2 p2).bind fun j=>(idx j.2 (if o.1<j.1 then j.1 else o.1)).bind fun aa=>some (j.2.set (Int.toNat (if o.1<j.1 then j.1 else o.1)) (if j.1<o.1 then j.1 else o.1))
def hZ (N:Nat) (p0_0: (List Int)):Option ((List (List Int))×(List Int)):=
 (jS p0_0.length (fun(ab:Nat) (j: (List Int)×(List (List Int))×(List (Int×Int)))=>((dC N j.1 (ab:Int)).bind fun aa=>(bif (aa.1==(ab:Int)) then ((app 24 j.2.1 [([]: (List Int))]).bind fun ad=>some (ad,(n0 j.2.2 (ab:Int) (j.2.1.length:Int)))) else (some (j.2.1,j.2.2))).bind fun o=>(idx o.1 (cZ o.2 aa.1 (0:Int))).bind fun iR=>(app 8 iR ([(ab:Int)]: (List Int))).bind fun ae=>(idx o.1 (cZ o.2 aa.1 (0:Int))).bind fun af=>some (aa.2,(o.1.set (Int.toNat (cZ o.2 aa.1 (0:Int))) ae),o.2):Option ((List Int)×(List (List Int))×(List (Int×Int))))) (p0_0,([]: (List (List Int))),([]: (List (Int×Int))))).bind fun j=>some (j.2.1,j.1)
def jl (N:Nat) (p0:aI) (p1:je):Option (Bool):=
 (bif (decide (p1.X>=p0.X0)) then (bif (decide (p1.X<p0.X1)) then (bif (decide (p1.Y>=p0.Y0)) then (some (decide (p1.Y<p0.Y1))) else (some false)) else (some false)) else (some false)).bind fun j=>some j
def iE (N:Nat) (p0: (List aI)) (p1:je):Option (Bool):=
 (eZ N p0 (fun y0=>jl N y0 p1)).bind fun j=>some j
def ig (N:Nat) (p0_2: (List bM)) (p0_5: (List aH)) (p1:cK):Option (dO×Bool):=
 (oW p0_2.length (fun(o:Nat) (ad:Unit)=>((idx p0_2 (o:Int)).bind fun j=>(bif j.gE then ((i6 N j p1.eK).bind fun ae=>bif ae then ((eM N j).bind fun af=>(iE N ([af]: (List aI)) p1.At).bind fun ag=>some ag) else (some false)) else (some false)).bind fun ah=>bif ah then (some (.rt ((⟨true,(o:Int)⟩:dO),true))) else (some (.nx ())):Option (Fl (Unit) (dO×Bool)))) ()).bind fun ai=>ai.cs (fun(ad:Unit)=>(oW p0_5.length (fun(aa:Nat) (aj:Unit)=>((idx p0_5 (aa:Int)).bind fun ab=>(bif (ab.eK==p1.eK) then ((iE N ab.mG p1.At).bind fun ak=>some ak) else (some false)).bind fun al=>bif al then (some (.rt ((⟨false,(aa:Int)⟩:dO),true))) else (some (.nx ())):Option (Fl (Unit) (dO×Bool)))) ()).bind fun an=>an.cs (fun(aj:Unit)=>some ((⟨false,0⟩:dO),false)) (fun r=>some r)) (fun r=>some r)
def fH (N:Nat) (p0_8: (List Int)) (p0_9: (List Int)) (p1:dO):Option (Int):=
 bif p1.bM then ((idx p0_9 p1.Number).bind fun j=>some j) else ((idx p0_8 p1.Number).bind fun o=>some o)
def eL (N:Nat) (p0_2: (List bM)) (p0_3: (List cK)) (p0_5: (List aH)) (p0_6: (List (List Int))) (p0_8: (List Int)) (p0_9: (List Int)) (p0_10: (List Int)) (p0_11: (List dO)):Option ((List cI)×(List Int)×(List Int)×(List Int)×(List dO)):=
 (gY N (IntKind.wrap .i64 ((p0_5.length:Int)+ (p0_2.length:Int)))).bind fun ar=>(jS p0_6.length (fun(ai:Nat) (af: (List Int))=>((idx p0_6 (ai:Int)).bind fun aj=>(jS aj.length (fun(au:Nat) (ag: (List Int))=>((idx aj (au:Int)).bind fun av=>(cV N ag av (IntKind.wrap .i64 ((p0_5.length:Int)+ (ai:Int)))).bind fun aw=>some aw:Option ((List Int)))) af).bind fun ag=>some ag:Option ((List Int)))) ar).bind fun af=>(mk 8 (0:Int) (p0_5.length:Int)).bind fun ax=>(mk 8 (0:Int) (p0_2.length:Int)).bind fun CS=>(hZ N af).bind fun ak=>(jS ak.1.length (fun(ay:Nat) (aa: (List cI)×(List Int)×(List Int))=>((idx ak.1 (ay:Int)).bind fun al=>(jS al.length (fun(az:Nat) (j: (List Int)×(List Int)×(List Int)×(List Int))=>((idx al (az:Int)).bind fun ab=>(bif (decide (ab< (p0_5.length:Int))) then ((idx j.1 ab).bind fun bc=>(app 8 j.2.2.1 ([ab]: (List Int))).bind fun a0=>some ((j.1.set (Int.toNat ab) (aa.1.length:Int)),j.2.1,a0,j.2.2.2)) else ((idx p0_2 (IntKind.wrap .i64 (ab - (p0_5.length:Int)))).bind fun a1=>(bif a1.gE then ((idx j.2.1 (IntKind.wrap .i64 (ab - (p0_5.length:Int)))).bind fun bd=>(app 8 j.2.2.2 ([(IntKind.wrap .i64 (ab - (p0_5.length:Int)))]: (List Int))).bind fun a2=>some ((j.2.1.set (Int.toNat (IntKind.wrap .i64 (ab - (p0_5.length:Int)))) (aa.1.length:Int)),a2)) else ((idx j.2.1 (IntKind.wrap .i64 (ab - (p0_5.length:Int)))).bind fun bf=>some ((j.2.1.set (Int.toNat (IntKind.wrap .i64 (ab - (p0_5.length:Int)))) (-1)),j.2.2.2))).bind fun an=>some (j.1,an.1,j.2.2.1,an.2))).bind fun ad=>some (ad.1,ad.2.1,ad.2.2.1,ad.2.2.2):Option ((List Int)×(List Int)×(List Int)×(List Int)))) (aa.2.1,aa.2.2,([]: (List Int)),([]: (List Int)))).bind fun j=>(bif (decide ((IntKind.wrap .i64 ((j.2.2.1.length:Int)+ (j.2.2.2.length:Int)))>0)) then ((app 72 aa.1 [(⟨j.2.2.1,j.2.2.2,([]: (List fB))⟩:cI)]).bind fun a3=>some a3) else (some aa.1)).bind fun a4=>some (a4,j.1,j.2.1):Option ((List cI)×(List Int)×(List Int)))) (([]: (List cI)),ax,CS)).bind fun aa=>(jS p0_3.length (fun(a5:Nat) (o: (List cI)×(List Int)×(List Int)×(List Int)×(List dO))=>((idx p0_3 (a5:Int)).bind fun ao=>(ig N p0_2 p0_5 ao).bind fun ah=>(bif ah.2 then ((fH N o.2.1 o.2.2.1 ah.1).bind fun ae=>(idx o.1 ae).bind fun a6=>(jk N ao).bind fun a7=>(app 32 a6.iw ([a7]: (List fB))).bind fun a8=>(idx o.1 ae).bind fun a9=>some ((o.1.set (Int.toNat ae) {a9 with iw:=a8}),ae)) else (some (o.1,(-1)))).bind fun aq=>(app 8 o.2.2.2.1 ([aq.2]: (List Int))).bind fun ba=>(app 16 o.2.2.2.2 ([ah.1]: (List dO))).bind fun bb=>some (aq.1,o.2.1,o.2.2.1,ba,bb):Option ((List cI)×(List Int)×(List Int)×(List Int)×(List dO)))) (aa.1,aa.2.1,aa.2.2,p0_10,p0_11)).bind fun o=>some (o.1,o.2.1,o.2.2.1,o.2.2.2.1,o.2.2.2.2)
def fI (N:Nat) (p0:iD):Option (Option ((List (List aI))×(List aI)×(List bM)×(List cK)×(List (List aA))×(List aH)×(List (List Int))×(List cI)×(List Int)×(List Int)×(List Int)×(List dO))×Int):=
 bif ((p0.aJ.length:Int)==0) then (some (none,9)) else (bif (decide ((p0.aJ.length:Int)>16)) then (some (none,2)) else ((oW p0.aJ.length (fun(an:Nat) (aa:Int)=>((idx p0.aJ (an:Int)).bind fun ae=>(gJ N ae).bind fun af=>bif (af != 0) then (some (.rt (none,af))) else (some (.nx (IntKind.wrap .i64 (aa+ (ae.length:Int))))):Option (Fl (Int) (Option ((List (List aI))×(List aI)×(List bM)×(List cK)×(List (List aA))×(List aH)×(List (List Int))×(List cI)×(List Int)×(List Int)×(List Int)×(List dO))×Int)))) (p0.cW.length:Int)).bind fun ao=>ao.cs (fun(aa:Int)=>(gJ N p0.cW).bind fun ag=>bif (ag != 0) then (some (none,ag)) else (bif (decide (aa>2000)) then (some (none,2)) else ((iK N p0).bind fun ah=>bif (ah != 0) then (some (none,ah)) else ((iM N p0).bind fun ai=>bif (ai != 0) then (some (none,ai)) else ((oW p0.aU.length (fun(aj:Nat) (aq:Unit)=>((idx p0.aU (aj:Int)).bind fun ab=>(rG p0.aU 0 (aj:Int)).bind fun ak=>(oW ak.length (fun(ar:Nat) (au:Unit)=>((idx ak (ar:Int)).bind fun ad=>(bif ((decide (ab.cQ<=ad.To))&&(decide (ad.cQ<=ab.To))) then ((eM N ab).bind fun av=>(eM N ad).bind fun aw=>(oy N av aw).bind fun ax=>some (ax==0)) else (some false)).bind fun ay=>bif ay then (some (.rt (none,12))) else (some (.nx ())):Option (Fl (Unit) (Option ((List (List aI))×(List aI)×(List bM)×(List cK)×(List (List aA))×(List aH)×(List (List Int))×(List cI)×(List Int)×(List Int)×(List Int)×(List dO))×Int)))) ()).bind fun az=>az.cs (fun(au:Unit)=>some (.nx ())) (fun r=>some (.rt r)):Option (Fl (Unit) (Option ((List (List aI))×(List aI)×(List bM)×(List cK)×(List (List aA))×(List aH)×(List (List Int))×(List cI)×(List Int)×(List Int)×(List Int)×(List dO))×Int)))) ()).bind fun a0=>a0.cs (fun(aq:Unit)=>(hQ N p0.aJ p0.aU ([]: (List (List aA))) ([]: (List aH))).bind fun j=>bif (!j.1) then (some (none,2)) else ((hU N p0.aU j.2.2 ([]: (List (List Int)))).bind fun al=>(eL N p0.aU p0.aZ j.2.2 al ([]: (List Int)) ([]: (List Int)) ([]: (List Int)) ([]: (List dO))).bind fun o=>some (some (p0.aJ,p0.cW,p0.aU,p0.aZ,j.2.1,j.2.2,al,o.1,o.2.1,o.2.2.1,o.2.2.2.1,o.2.2.2.2),0))) (fun r=>some r)))))) (fun r=>some r)))
def eD (N:Nat) (p0: (List cK)) (p1:fB) (p2:cK->fB->Option Int):Option (Int×Bool):=
 (mZ (fun(j:Int×Int)=>(bif (decide (j.1<j.2)) then ((idx p0 (IntKind.wrap .i64 (Int.fdiv (IntKind.wrap .u64 (IntKind.wrap .i64 (j.1+j.2))) 2))).bind fun aa=>(p2 aa p1).bind fun ab=>(bif (decide (ab<0)) then (some ((IntKind.wrap .i64 ((IntKind.wrap .i64 (Int.fdiv (IntKind.wrap .u64 (IntKind.wrap .i64 (j.1+j.2))) 2))+1)),j.2)) else (some (j.1,(IntKind.wrap .i64 (Int.fdiv (IntKind.wrap .u64 (IntKind.wrap .i64 (j.1+j.2))) 2))))).bind fun o=>some (.nx (o.1,o.2))) else (some (.br (j.1,j.2))):Option (Fl (Int×Int) Empty))) N (0,(p0.length:Int))).bind fun ad=>ad.cs (fun(j:Int×Int)=>(bif (decide (j.1< (p0.length:Int))) then ((idx p0 j.1).bind fun ae=>(p2 ae p1).bind fun af=>some (af==0)) else (some false)).bind fun ag=>some (j.1,ag)) (fun r=>r.elim)
def gq (N:Nat) (p0:cK) (p1:fB):Option (Int):=
 (jk N p0).bind fun j=>(cY N j p1).bind fun o=>some o
def dE (N:Nat) (p0:iD) (p1:fB):Option (Int):=
 (eD N p0.aZ p1 (gq N)).bind fun j=>bif (!j.2) then (some (-1)) else (some j.1)
def nb (N:Nat) (p0: (List Int)):Option (Int):=
 (oW p0.length (fun(o:Nat) (aa:Unit)=>((idx p0 (o:Int)).bind fun j=>bif (j != 0) then (some (.rt j)) else (some (.nx ())):Option (Fl (Unit) Int))) ()).bind fun ab=>ab.cs (fun(aa:Unit)=>some 0) (fun r=>some r)
def fE (N:Nat) (p0 p1:Test):Option (Int):=
 (cY N p0.A p1.A).bind fun j=>(cY N p0.B p1.B).bind fun o=>(nb N ([j,o]: (List Int))).bind fun aa=>some aa
def ij (N:Nat) (p0:iD) (p1: (List Test)):Option (Option ((List (List aI))×(List aI)×(List bM)×(List cK)×(List (List aA))×(List aH)×(List (List Int))×(List cI)×(List Int)×(List Int)×(List Int)×(List dO))×Int):=
 (fI N p0).bind fun o=>Am o.1 (bif (o.2 != 0) then (some (none,o.2)) else (bif (decide ((p1.length:Int)>2000)) then (some (none,2)) else ((oW p1.length (fun(ad:Nat) (af:Unit)=>((idx p1 (ad:Int)).bind fun aa=>((dE N p0 aa.A).bind fun ag=>bif (decide (ag<0)) then (some true) else ((dE N p0 aa.B).bind fun ah=>some (decide (ah<0)))).bind fun ai=>bif ai then (some (.rt (none,9))) else ((cY N aa.B aa.A).bind fun aj=>bif (decide (aj<=0)) then (some (.rt (none,8))) else ((bif (decide ((ad:Int)>0)) then ((idx p1 (IntKind.wrap .i64 ((ad:Int) - 1))).bind fun ak=>(fE N aa ak).bind fun al=>some (decide (al<=0))) else (some false)).bind fun an=>bif an then (some (.rt (none,8))) else (some (.nx ())))):Option (Fl (Unit) (Option ((List (List aI))×(List aI)×(List bM)×(List cK)×(List (List aA))×(List aH)×(List (List Int))×(List cI)×(List Int)×(List Int)×(List Int)×(List dO))×Int)))) ()).bind fun ao=>ao.cs (fun(af:Unit)=>some (none,0)) (fun r=>some r)))) (fun(j: ((List (List aI))×(List aI)×(List bM)×(List cK)×(List (List aA))×(List aH)×(List (List Int))×(List cI)×(List Int)×(List Int)×(List Int)×(List dO)))=>bif (o.2 != 0) then (some (none,o.2)) else (bif (decide ((p1.length:Int)>2000)) then (some (none,2)) else ((oW p1.length (fun(ae:Nat) (aq:Unit)=>((idx p1 (ae:Int)).bind fun ab=>((dE N p0 ab.A).bind fun ar=>bif (decide (ar<0)) then (some true) else ((dE N p0 ab.B).bind fun au=>some (decide (au<0)))).bind fun av=>bif av then (some (.rt (none,9))) else ((cY N ab.B ab.A).bind fun aw=>bif (decide (aw<=0)) then (some (.rt (none,8))) else ((bif (decide ((ae:Int)>0)) then ((idx p1 (IntKind.wrap .i64 ((ae:Int) - 1))).bind fun ax=>(fE N ab ax).bind fun ay=>some (decide (ay<=0))) else (some false)).bind fun az=>bif az then (some (.rt (none,8))) else (some (.nx ())))):Option (Fl (Unit) (Option ((List (List aI))×(List aI)×(List bM)×(List cK)×(List (List aA))×(List aH)×(List (List Int))×(List cI)×(List Int)×(List Int)×(List Int)×(List dO))×Int)))) ()).bind fun a0=>a0.cs (fun(aq:Unit)=>some (some (j.1,j.2.1,j.2.2.1,j.2.2.2.1,j.2.2.2.2.1,j.2.2.2.2.2.1,j.2.2.2.2.2.2.1,j.2.2.2.2.2.2.2.1,j.2.2.2.2.2.2.2.2.1,j.2.2.2.2.2.2.2.2.2.1,j.2.2.2.2.2.2.2.2.2.2.1,j.2.2.2.2.2.2.2.2.2.2.2),0)) (fun r=>some r))))
def lz (N:Nat) (p0 p1 p2:Int):Option (Bool):=
 some ((decide (p0>=p1))&&(decide (p0<=p2)))
def eV (N:Nat) (p0:Int) (p1h_5: (List aH)):Option (Bool):=
 (lz N p0 0 (IntKind.wrap .i64 ((p1h_5.length:Int) - 1))).bind fun j=>some j
def lA (N:Nat) (p0: (List eT)) (p1:eT):Option (Int):=
 (oW p0.length (fun(j:Nat) (o:Unit)=>((idx p0 (j:Int)).bind fun aa=>bif (decide (p1=aa)) then (some (.rt (j:Int))) else (some (.nx ())):Option (Fl (Unit) Int))) ()).bind fun ab=>ab.cs (fun(o:Unit)=>some (-1)) (fun r=>some r)
def gH (N:Nat) (p0: (List eT)) (p1:eT):Option (Bool):=
 (lA N p0 p1).bind fun j=>some (decide (j>=0))
def gr (N:Nat) (p0_0: (List (List aI))) (p0_1: (List aI)) (p0_2: (List bM)) (p0_3: (List cK)) (p0_4: (List (List aA))) (p0_5: (List aH)) (p0_6: (List (List Int))) (p0_7: (List cI)) (p0_8: (List Int)) (p0_9: (List Int)) (p0_10: (List Int)) (p0_11: (List dO)) (p1: (List eT)):Option (Int):=
 bif (decide ((p1.length:Int)>20)) then (some 2) else ((oW p1.length (fun(o:Nat) (aa:Unit)=>((idx p1 (o:Int)).bind fun j=>(bif (j.Open&&((j.A != 0)||(j.B != 0))) then (some true) else (bif (!j.Open) then (some (!(decide (j.dO= (⟨false,0⟩:dO))))) else (some false))).bind fun ab=>bif ab then (some (.rt 3)) else (((eV N j.A p0_5).bind fun ad=>bif ad then ((eV N j.B p0_5).bind fun ae=>some ae) else (some false)).bind fun af=>(bif j.Open then ((eV N j.dO.Number p0_5).bind fun ag=>some ag) else (some af)).bind fun ah=>(bif (j.Open&&j.dO.bM) then (((lz N j.dO.Number 0 (IntKind.wrap .i64 ((p0_2.length:Int) - 1))).bind fun ai=>bif ai then ((idx p0_2 j.dO.Number).bind fun aj=>some aj.gE) else (some false)).bind fun ak=>some ak) else (some ah)).bind fun al=>bif (!al) then (some (.rt 9)) else (bif ((!j.Open)&&(decide (j.B<=j.A))) then (some (.rt 8)) else ((rG p1 0 (o:Int)).bind fun an=>(gH N an j).bind fun ao=>bif ao then (some (.rt 7)) else (some (.nx ()))))):Option (Fl (Unit) Int))) ()).bind fun aq=>aq.cs (fun(aa:Unit)=>some 0) (fun r=>some r))
def fJ (N:Nat) (p0:dO) (p1:Int):Option (Int):=
 bif p0.bM then (some (IntKind.wrap .i64 (p1+p0.Number))) else (some p0.Number)
def gu (N:Nat) (p0 p1:Int) (p2_0: (List (Int×Bool))) (p3h_0: (List Int)):Option ((List Int)):=
 (bif (!(cZ p2_0 p0 (false:Bool))) then (some (!(cZ p2_0 p1 (false:Bool)))) else (some false)).bind fun j=>(bif j then ((cV N p3h_0 p0 p1).bind fun o=>some o) else (some p3h_0)).bind fun aa=>some aa
def dF (N:Nat) (p0_2: (List bM)) (p0_3: (List cK)) (p0_5: (List aH)) (p0_6: (List (List Int))) (p0_10: (List Int)) (p0_11: (List dO)) (p1: (List eT)):Option ((List Int)):=
 (jS p1.length (fun(aq:Nat) (aa: (List (Int×Bool)))=>((idx p1 (aq:Int)).bind fun aj=>(bif aj.Open then ((fJ N aj.dO (p0_5.length:Int)).bind fun ar=>some (n0 aa ar true)) else (some aa)).bind fun au=>some au:Option ((List (Int×Bool))))) ([]: (List (Int×Bool)))).bind fun aa=>(gY N (IntKind.wrap .i64 ((p0_5.length:Int)+ (p0_2.length:Int)))).bind fun av=>(jS p0_6.length (fun(ak:Nat) (ae: (List Int))=>((idx p0_6 (ak:Int)).bind fun al=>(jS al.length (fun(aw:Nat) (af: (List Int))=>((idx al (aw:Int)).bind fun ax=>(gu N ax (IntKind.wrap .i64 ((p0_5.length:Int)+ (ak:Int))) aa af).bind fun ay=>some ay:Option ((List Int)))) ae).bind fun af=>some af:Option ((List Int)))) av).bind fun ae=>(jS p1.length (fun(az:Nat) (ab: (List Int))=>((idx p1 (az:Int)).bind fun ag=>(bif (!ag.Open) then ((gu N ag.A ag.B aa ab).bind fun a0=>some a0) else (some ab)).bind fun a1=>some a1:Option ((List Int)))) ae).bind fun ab=>(mk 8 (0:Int) (p0_3.length:Int)).bind fun a2=>(jS p0_11.length (fun(o:Nat) (j: (List Int)×(List (Int×Int))×(List Int))=>((idx p0_11 (o:Int)).bind fun a3=>(fJ N a3 (p0_5.length:Int)).bind fun ad=>((idx p0_10 (o:Int)).bind fun a4=>bif (decide (a4<0)) then (some true) else (some (cZ aa ad (false:Bool)))).bind fun a5=>bif a5 then ((idx j.2.2 (o:Int)).bind fun a6=>some (j.1,j.2.1,(j.2.2.set (Int.toNat (o:Int)) (-1)))) else ((dC N j.1 ad).bind fun ah=>(bif (!(iu j.2.1 ah.1)) then ((dC N ah.2 ad).bind fun an=>some (an.2,(n0 j.2.1 an.1 (o:Int)))) else (some (ah.2,j.2.1))).bind fun ai=>(dC N ai.1 ad).bind fun ao=>(idx j.2.2 (o:Int)).bind fun a7=>some (ao.2,ai.2,(j.2.2.set (Int.toNat (o:Int)) (cZ ai.2 ao.1 (0:Int))))):Option ((List Int)×(List (Int×Int))×(List Int)))) (ab,([]: (List (Int×Int))),a2)).bind fun j=>some j.2.2
def mg (N:Nat) (p0_0: (List (List aI))) (p0_1: (List aI)) (p0_2: (List bM)) (p0_3: (List cK)) (p0_5: (List aH)) (p0_6: (List (List Int))) (p0_10: (List Int)) (p0_11: (List dO)) (p1: (List Test)) (p2: (List eT)):Option ((List Bool)):=
 (dF N p0_2 p0_3 p0_5 p0_6 p0_10 p0_11 p2).bind fun o=>(jS p1.length (fun(ad:Nat) (j: (List Bool))=>((idx p1 (ad:Int)).bind fun aa=>(dE N (⟨p0_0,p0_1,p0_2,p0_3⟩:iD) aa.A).bind fun ab=>(dE N (⟨p0_0,p0_1,p0_2,p0_3⟩:iD) aa.B).bind fun ae=>((idx o ab).bind fun af=>bif (decide (af>=0)) then ((idx o ab).bind fun ag=>(idx o ae).bind fun ah=>(app 1 j ([(ag==ah)]: (List Bool))).bind fun ai=>some ai) else ((app 1 j ([false]: (List Bool))).bind fun aj=>some aj)).bind fun ak=>some ak:Option ((List Bool)))) ([]: (List Bool))).bind fun j=>some j
def fK (N:Nat) (p0:iD) (p1: (List Test)) (p2: (List eT)):Option ((List Bool)×Int):=
 (ij N p0 p1).bind fun o=>Am o.1 (bif (o.2 != 0) then (some (([]: (List Bool)),o.2)) else (none)) (fun(j: ((List (List aI))×(List aI)×(List bM)×(List cK)×(List (List aA))×(List aH)×(List (List Int))×(List cI)×(List Int)×(List Int)×(List Int)×(List dO)))=>bif (o.2 != 0) then (some (([]: (List Bool)),o.2)) else ((gr N j.1 j.2.1 j.2.2.1 j.2.2.2.1 j.2.2.2.2.1 j.2.2.2.2.2.1 j.2.2.2.2.2.2.1 j.2.2.2.2.2.2.2.1 j.2.2.2.2.2.2.2.2.1 j.2.2.2.2.2.2.2.2.2.1 j.2.2.2.2.2.2.2.2.2.2.1 j.2.2.2.2.2.2.2.2.2.2.2 p2).bind fun aa=>bif (aa != 0) then (some (([]: (List Bool)),aa)) else ((mg N j.1 j.2.1 j.2.2.1 j.2.2.2.1 j.2.2.2.2.2.1 j.2.2.2.2.2.2.1 j.2.2.2.2.2.2.2.2.2.2.1 j.2.2.2.2.2.2.2.2.2.2.2 p1 p2).bind fun ab=>some (ab,0))))
def dU (N:Nat) (p0:iD) (p1: (List eT)) (p2 p3:fB):Option (Bool×Int):=
 (fI N p0).bind fun o=>Am o.1 (bif (o.2 != 0) then (some (false,o.2)) else (none)) (fun(j: ((List (List aI))×(List aI)×(List bM)×(List cK)×(List (List aA))×(List aH)×(List (List Int))×(List cI)×(List Int)×(List Int)×(List Int)×(List dO)))=>bif (o.2 != 0) then (some (false,o.2)) else ((gr N j.1 j.2.1 j.2.2.1 j.2.2.2.1 j.2.2.2.2.1 j.2.2.2.2.2.1 j.2.2.2.2.2.2.1 j.2.2.2.2.2.2.2.1 j.2.2.2.2.2.2.2.2.1 j.2.2.2.2.2.2.2.2.2.1 j.2.2.2.2.2.2.2.2.2.2.1 j.2.2.2.2.2.2.2.2.2.2.2 p1).bind fun ad=>bif (ad != 0) then (some (false,ad)) else ((dE N p0 p2).bind fun aa=>(dE N p0 p3).bind fun ae=>bif ((decide (aa<0))||(decide (ae<0))) then (some (false,9)) else ((dF N j.2.2.1 j.2.2.2.1 j.2.2.2.2.2.1 j.2.2.2.2.2.2.1 j.2.2.2.2.2.2.2.2.2.2.1 j.2.2.2.2.2.2.2.2.2.2.2 p1).bind fun ab=>((idx ab aa).bind fun af=>bif (decide (af>=0)) then ((idx ab aa).bind fun ag=>(idx ab ae).bind fun ah=>some (ag==ah)) else (some false)).bind fun ai=>some (ai,0)))))
def fL (N:Nat):Option (Bool):=
 (dU N (⟨([([(⟨0,0,1,1⟩:aI)]: (List aI))]: (List (List aI))),([]: (List aI)),([]: (List bM)),([(⟨⟨[97]⟩,⟨[49]⟩,0,⟨0,0⟩⟩:cK)]: (List cK))⟩:iD) ([]: (List eT)) (⟨⟨[97]⟩,⟨[49]⟩⟩:fB) (⟨⟨[97]⟩,⟨[49]⟩⟩:fB)).bind fun j=>some ((j.2==0)&&j.1)
def lB (N:Nat) (p0:iD) (p1: (List Test)) (p2: (List eT)):Option (Bool×Int):=
 (fK N p0 p1 p2).bind fun j=>bif (j.2 != 0) then (some (false,j.2)) else ((oW p1.length (fun(o:Nat) (aa:Unit)=>((idx p1 (o:Int)).bind fun ab=>(idx j.1 (o:Int)).bind fun ad=>bif (ad != ab.Joined) then (some (.rt (false,0))) else (some (.nx ())):Option (Fl (Unit) (Bool×Int)))) ()).bind fun ae=>ae.cs (fun(aa:Unit)=>some (true,0)) (fun r=>some r))
def dI (N:Nat) (p0:iD) (p1: (List Test)) (p2: (List eT)):Option (Bool):=
 (fK N p0 p1 p2).bind fun o=>bif (o.2 != 0) then ((bif ((o.1.length:Int)==0) then ((fL N).bind fun ad=>some ad) else (some false)).bind fun ae=>some ae) else (bif ((o.1.length:Int) != (p1.length:Int)) then (some false) else ((mZ (fun(j:Bool×Int)=>(bif (decide (j.2< (p1.length:Int))) then ((idx p1 j.2).bind fun af=>(idx p1 j.2).bind fun ag=>(dU N p0 p2 af.A ag.B).bind fun aa=>(bif (aa.2 != 0) then (some true) else ((idx o.1 j.2).bind fun ah=>some (aa.1 != ah))).bind fun ai=>bif ai then (some (.rt false)) else ((bif j.1 then ((idx o.1 j.2).bind fun aj=>(idx p1 j.2).bind fun ak=>some (aj==ak.Joined)) else (some false)).bind fun al=>some (.nx (al,(IntKind.wrap .i64 (j.2+1)))))) else (some (.br (j.1,j.2))):Option (Fl (Bool×Int) Bool))) N (true,0)).bind fun an=>an.cs (fun(j:Bool×Int)=>(lB N p0 p1 p2).bind fun ab=>(bif (ab.2==0) then (bif (ab.1==j.1) then ((fL N).bind fun ao=>some ao) else (some false)) else (some false)).bind fun aq=>some aq) (fun r=>some r)))
end
end Go.Gk
namespace Go.Gk
open Go
def mz {R:Type} (m:Nat) (e:Nat->Option R):Option R:=(List.range m).findSome? e
theorem iF {R:Type} {m:Nat} {e:Nat->Option R}:mz m e=none↔∀k,k<m->e k=none:=by
 simp [mz]
theorem ja {R:Type} {m:Nat} {e:Nat->Option R} {r:R}:mz m e=some r↔∃k,k<m/\e k=some r/\∀j,j<k->e j=none:=by
 constructor
 ·intro h
  obtain⟨l1,a,l2,hl,ha,hn⟩:=List.findSome?_eq_some_iff.1 h
  have hlen:l1.length<m:=by have:=congrArg List.length hl;simp at this;omega
  have hget: ∀i,i<l1.length->l1[i]? =some i:=fun i hi=>by
   have:=congrArg (·[i]?) hl
   simp only [fx hi,List.getElem?_range (show i<m by omega)] at this
   exact this.symm
  have hat:a=l1.length:=by
   have:=congrArg (·[l1.length]?) hl
   simp [List.getElem?_range hlen] at this
   exact this.symm
  refine⟨a,by omega,ha,fun j hj=>hn j ?_⟩
  exact gN (hget j (by omega))
 ·rintro⟨k,hk,he,hn⟩
  refine List.findSome?_eq_some_iff.2 ⟨List.range k,k,(List.range (m - k - 1)).map (· + (k+1)),?_,he,fun x hx=>hn x (mM.1 hx)⟩
  refine List.ext_getElem? fun i=>?_
  by_cases h1:i<k
  ·rw [fx (by simpa using h1),List.getElem?_range (by omega),List.getElem?_range h1]
  ·rw [eW (by simpa using h1),List.length_range]
   by_cases h2:i=k
   ·subst h2;simp [List.getElem?_range hk]
   ·obtain⟨d,rfl⟩: ∃d,i=k+1+d:=⟨i - (k+1),by omega⟩
    rw [show k+1+d - k=d+1 by omega,List.getElem?_cons_succ,gz]
    by_cases h3:k+1+d<m
    ·rw [List.getElem?_range h3,List.getElem?_range (by omega)];simp;omega
    ·rw [List.getElem?_eq_none (by simp;omega),List.getElem?_eq_none (by simp;omega)];rfl
theorem Dh {R R':Type} {m:Nat} {e:Nat->Option R} (f:R->R'): (mz m e).map f=mz m (fun k=>(e k).map f):=by
 cases hx:mz m e with
 | none=>exact(iF.2 fun k hk=>by rw [iF.1 hx k hk];rfl).symm
 | some r=>
  obtain⟨k,hk,he,hn⟩:=ja.1 hx
  exact(ja.2 ⟨k,hk,by rw [he];rfl,fun j hj=>by rw [hn j hj];rfl⟩).symm
section
variable {S R:Type}
def B4 (o:Option R) (s:S):Fl S R:=match o with | some r=> .rt r | none=> .nx s
def ya (o:Option R) (s:S):Fo S R:=match o with | some r=> .rt r | none=> .go s
theorem zv {body:Nat->S->Option (Fl S R)} (F:Nat->S) (e:Nat->Option R) (m:Nat): ∀(n k:Nat),k+n=m->
  (∀j,k<=j->j<m->(∀i,k<=i->i<j->e i=none)->body j (F j)=some (B4 (e j) (F (j+1))))->
  ∃o,xD body n k (F k)=some o/\((∀j,k<=j->j<m->e j=none)/\o = .go (F m)\/∃j r,k<=j/\j<m/\e j=some r/\(∀i,k<=i->i<j->e i=none)/\o = .rt r)
 | 0,k,hk,_=>⟨_,rfl, .inl ⟨fun j h1 h2=>by omega,by rw [show k=m by omega]⟩⟩
 | n+1,k,hk,h=>by
  have hb:=h k (bI _) (by omega) (fun i h1 h2=>by omega)
  unfold xD
  rw [hb]
  cases hx:e k with
  | some r=>exact⟨_,rfl, .inr ⟨k,r,bI _,by omega,hx,fun i h1 h2=>by omega,rfl⟩⟩
  | none=>
   obtain⟨o,ho,hc⟩:=zv F e m n (k+1) (by omega) (fun j h1 h2 h3=>h j (by omega) h2 fun i h4 h5=>by
    by_cases h6:i=k
    ·subst h6;exact hx
    ·exact h3 i (by omega) h5)
   refine⟨o,ho,?_⟩
   rcases hc with ⟨h1,h2⟩ | ⟨j,r,h1,h2,h3,h4,h5⟩
   ·refine .inl ⟨fun j h3 h4=>?_,h2⟩
    by_cases h6:j=k
    ·subst h6;exact hx
    ·exact h1 j (by omega) h4
   ·refine .inr ⟨j,r,by omega,h2,h3,fun i h6 h7=>?_,h5⟩
    by_cases h8:i=k
    ·subst h8;exact hx
    ·exact h4 i (by omega) h7
theorem ED {body:Nat->S->Option (Fl S R)} {m:Nat} {s:S} (F:Nat->S) (e:Nat->Option R) (hm:m<=4611686018427387904) (hs:F 0=s)
  (h: ∀k,k<m->(∀i,i<k->e i=none)->body k (F k)=some (B4 (e k) (F (k+1)))):oW m body s=some (ya (mz m e) (F m)):=by
 subst hs
 unfold oW
 rw [aC hm]
 obtain⟨o,ho,hc⟩:=zv F e m m 0 (by omega) (fun j _ h2 h3=>h j h2 fun i hi=>h3 i (mN _) hi)
 rw [ho]
 rcases hc with ⟨h1,h2⟩ | ⟨j,r,_,h2,h3,h4,h5⟩
 ·rw [iF.2 fun k hk=>h1 k (mN _) hk,h2];rfl
 ·rw [ja.2 ⟨j,h2,h3,fun i hi=>h4 i (mN _) hi⟩,h5];rfl
theorem mh {body:Nat->Unit->Option (Fl Unit R)} {m:Nat} (e:Nat->Option R) (hm:m<=4611686018427387904)
  (h: ∀k,k<m->(∀i,i<k->e i=none)->body k ()=some (B4 (e k) ())):oW m body ()=some (ya (mz m e) ()):=
 ED (fun _=>()) e hm rfl h
theorem zw {body:Nat->S->Option S} (F:Nat->S): ∀(n k:Nat),(∀j,k<=j->j<k+n->body j (F j)=some (F (j+1)))->Ae body n k (F k)=some (F (k+n))
 | 0,_,_=>rfl
 | n+1,k,h=>by
  unfold Ae
  rw [h k (bI _) (by omega)]
  have:=zw F n (k+1) (fun j h1 h2=>h j (by omega) (by omega))
  rw [show k+ (n+1)=k+1+n by omega]
  exact this
theorem EE {body:Nat->S->Option S} {m:Nat} {s:S} (F:Nat->S) (hm:m<=4611686018427387904) (hs:F 0=s)
  (h: ∀k,k<m->body k (F k)=some (F (k+1))):jS m body s=some (F m):=by
 subst hs
 unfold jS
 rw [aC hm]
 have:=zw F m 0 (fun j _ h2=>h j (by omega))
 rwa [fR] at this
theorem sX {body:S->Option (Fl S R)} (Inv:S->Prop) (μ:S->Nat) (Go:S->Prop) (Rt:R->Prop)
  (h: ∀s,Inv s->∃fl,body s=some fl/\match fl with | .nx s'=>Inv s'/\μ s'<μ s | .br s'=>Go s' | .rt r=>Rt r):
  ∀(N:Nat) (s:S),Inv s->μ s<N->∃o,mZ body N s=some o/\match o with | .go s'=>Go s' | .rt r=>Rt r
 | 0,s,_,hn=>by omega
 | N+1,s,hi,hn=>by
  obtain⟨fl,hb,hf⟩:=h s hi
  unfold mZ
  rw [hb]
  cases fl with
  | nx s'=>exact sX Inv μ Go Rt h N s' hf.1 (by have:=hf.2;omega)
  | br s'=>exact⟨_,rfl,hf⟩
  | rt r=>exact⟨_,rfl,hf⟩
theorem zx {body:Nat->S->Option (Fl S R)} (Inv:Nat->S->Prop) (Go:S->Prop) (Rt:R->Prop) (m:Nat)
  (h: ∀k s,k<m->Inv k s->∃fl,body k s=some fl/\match fl with | .nx s'=>Inv (k+1) s' | .br s'=>Go s' | .rt r=>Rt r) (hg: ∀s,Inv m s->Go s):
  ∀(n k:Nat) (s:S),k+n=m->Inv k s->∃o,xD body n k s=some o/\match o with | .go s'=>Go s' | .rt r=>Rt r
 | 0,k,s,hk,hi=>⟨_,rfl,hg s (by rw [<-hk];exact hi)⟩
 | n+1,k,s,hk,hi=>by
  obtain⟨fl,hb,hf⟩:=h k s (by omega) hi
  unfold xD
  rw [hb]
  cases fl with
  | nx s'=>exact zx Inv Go Rt m h hg n (k+1) s' (by omega) hf
  | br s'=>exact⟨_,rfl,hf⟩
  | rt r=>exact⟨_,rfl,hf⟩
theorem EF {body:Nat->S->Option (Fl S R)} {m:Nat} {s:S} (Inv:Nat->S->Prop) (Go:S->Prop) (Rt:R->Prop) (hm:m<=4611686018427387904) (h0:Inv 0 s)
  (h: ∀k s,k<m->Inv k s->∃fl,body k s=some fl/\match fl with | .nx s'=>Inv (k+1) s' | .br s'=>Go s' | .rt r=>Rt r) (hg: ∀s,Inv m s->Go s):
  ∃o,oW m body s=some o/\match o with | .go s'=>Go s' | .rt r=>Rt r:=by
 unfold oW
 rw [aC hm]
 exact zx Inv Go Rt m h hg m 0 s (by omega) h0
theorem zy {body:Nat->S->Option S} (Inv:Nat->S->Prop) (m:Nat) (h: ∀k s,k<m->Inv k s->∃s',body k s=some s'/\Inv (k+1) s'):
  ∀(n k:Nat) (s:S),k+n=m->Inv k s->∃s',Ae body n k s=some s'/\Inv m s'
 | 0,k,s,hk,hi=>⟨_,rfl,by rw [<-hk];exact hi⟩
 | n+1,k,s,hk,hi=>by
  obtain⟨s',hb,hf⟩:=h k s (by omega) hi
  unfold Ae
  rw [hb]
  exact zy Inv m h n (k+1) s' (by omega) hf
theorem u5 {body:Nat->S->Option S} {m:Nat} {s:S} (Inv:Nat->S->Prop) (hm:m<=4611686018427387904) (h0:Inv 0 s)
  (h: ∀k s,k<m->Inv k s->∃s',body k s=some s'/\Inv (k+1) s'): ∃s',jS m body s=some s'/\Inv m s':=by
 unfold jS
 rw [aC hm]
 exact zy Inv m h m 0 s (by omega) h0
end
section
variable {α β:Type}
theorem aB (x:α) (f:α->Option β): (some x).bind f=f x:=rfl
theorem iV (l:List α) (k:Nat) (h:k<l.length):idx l ((k:Nat):Int)=some l[k]:=by
 unfold idx;rw [aC (by omega),bP,aK h]
theorem dK {l:List α} {k:Nat} {x:α} (h:l[k]? =some x):idx l ((k:Nat):Int)=some x:=by
 unfold idx;rw [aC (by omega),bP,h]
theorem Di (s:cX) (k:Nat) (h:k<s.cG.length):BK s ((k:Nat):Int)=some s.cG[k]:=by
 unfold BK;rw [aC (by omega),bP,aK h]
theorem k8 {k:Nat} (h:0<k) (hk:k<=4611686018427387904):IntKind.wrap .i64 (((k:Nat):Int) - 1)= ((k - 1:Nat):Int):=by
 rw [eI (by omega) (by omega)];omega
theorem sY (l:List α) (k:Nat) (h:k<=l.length):rG l 0 ((k:Nat):Int)=some (l.take k):=by
 unfold rG;rw [aC ⟨by omega,by omega,by omega⟩]
 simp only [Int.toNat_zero,List.drop_zero,Int.sub_zero,bP]
theorem sZ (l:List α) (k:Nat) (h:k<=l.length):rG l ((k:Nat):Int) ((l.length:Nat):Int)=some (l.drop k):=by
 unfold rG;rw [aC ⟨by omega,by omega,by omega⟩]
 simp only [bP,Option.some.injEq]
 rw [nN];rw [gA];omega
theorem il {b:Nat} {l ys:List α} (h: (l.length+ys.length)*b<=140737488355328):app b l ys=some (l++ys):=by unfold app;rw [aC h]
theorem pd {b:Nat} (z:α) {n:Nat} (h:n*b<=140737488355328):mk b z ((n:Nat):Int)=some (List.replicate n z):=by
 unfold mk
 have e: ((n:Nat):Int)* ((b:Nat):Int)= ((n*b:Nat):Int):=(Int.natCast_mul n b).symm
 rw [e]
 generalize n*b=q at h ⊢
 rw [aC ⟨by omega,by omega⟩,bP]
end
theorem cX.ext' {a b:cX} (h:a.cG=b.cG):a=b:=by cases a;cases b;simp at h;rw [h]
theorem EG {a b:cX}:a.Ac b=true↔a=b:=by
 unfold cX.Ac;rw [beq_iff_eq];exact⟨cX.ext',fun h=>by rw [h]⟩
theorem uF: ∀(a:List UInt8),Op.bytesLess a a=false
 | []=>rfl
 | a::l=>by
  unfold Op.bytesLess
  rw [uF l];simp
theorem vC: ∀{a b c:List UInt8},Op.bytesLess a b=true->Op.bytesLess b c=true->Op.bytesLess a c=true
 | [],[],_,h,_=>by simp [Op.bytesLess] at h
 | [],_::_,[],_,h=>by simp [Op.bytesLess] at h
 | [],_::_,_::_,_,_=>rfl
 | _::_,[],_,h,_=>by simp [Op.bytesLess] at h
 | _::_,_::_,[],_,h=>by simp [Op.bytesLess] at h
 | a::l,b::m,c::n,h1,h2=>by
  unfold Op.bytesLess at h1 h2 ⊢
  simp only [dM,bN,bQ,beq_iff_eq] at h1 h2 ⊢
  rcases h1 with h1 | ⟨rfl,h1⟩
  ·rcases h2 with h2 | ⟨rfl,h2⟩
   ·exact .inl (UInt8.lt_trans h1 h2)
   ·exact .inl h1
  ·rcases h2 with h2 | ⟨rfl,h2⟩
   ·exact .inl h2
   ·exact .inr ⟨rfl,vC h1 h2⟩
theorem vD: ∀(a b:List UInt8),Op.bytesLess a b=true\/a=b\/Op.bytesLess b a=true
 | [],[]=> .inr (.inl rfl)
 | [],_::_=> .inl rfl
 | _::_,[]=> .inr (.inr rfl)
 | a::l,b::m=>by
  unfold Op.bytesLess
  simp only [dM,bN,bQ,beq_iff_eq]
  by_cases h1:a<b
  ·exact .inl (.inl h1)
  ·by_cases h2:b<a
   ·exact .inr (.inr (.inl h2))
   ·have e:a=b:=by
     simp only [UInt8.lt_iff_toNat_lt] at h1 h2
     exact UInt8.toNat_inj.1 (by omega)
    subst e
    rcases vD l m with h | h | h
    ·exact .inl (.inr ⟨rfl,h⟩)
    ·exact .inr (.inl (by rw [h]))
    ·exact .inr (.inr (.inr ⟨rfl,h⟩))
theorem rX: ∀(a b:List UInt8),Lib.compareBytes a b<0↔Op.bytesLess a b=true
 | [],[]=>by simp [Lib.compareBytes,Op.bytesLess]
 | [],_::_=>by simp [Lib.compareBytes,Op.bytesLess]
 | _::_,[]=>by simp [Lib.compareBytes,Op.bytesLess]
 | a::l,b::m=>by
  unfold Lib.compareBytes Op.bytesLess
  simp only [dM,bN,bQ,beq_iff_eq]
  split
  ·simp_all
  ·rename_i h1
   split
   ·rename_i h2
    have h3:a≠b:=fun e=>by subst e;exact h1 h2
    simp [h1,h3]
   ·rename_i h2
    have e:a=b:=by
     simp only [UInt8.lt_iff_toNat_lt] at h1 h2
     exact UInt8.toNat_inj.1 (by omega)
    subst e
    rw [rX l m];simp [h1]
theorem rY: ∀(a b:List UInt8),Lib.compareBytes a b=0↔a=b
 | [],[]=>by simp [Lib.compareBytes]
 | [],_::_=>by simp [Lib.compareBytes]
 | _::_,[]=>by simp [Lib.compareBytes]
 | a::l,b::m=>by
  unfold Lib.compareBytes
  split
  ·rename_i h1
   have h3:a≠b:=fun e=>by subst e;exact absurd h1 (by simp)
   simp [h3]
  ·rename_i h1
   split
   ·rename_i h2
    have h3:a≠b:=fun e=>by subst e;exact h1 h2
    simp [h3]
   ·rename_i h2
    have e:a=b:=by
     simp only [UInt8.lt_iff_toNat_lt] at h1 h2
     exact UInt8.toNat_inj.1 (by omega)
    subst e
    rw [rY l m];simp
def cX.lt (a b:cX):Prop:=a.Fj b=true
theorem cX.lt_irrefl (a:cX): ¬cX.lt a a:=by unfold cX.lt cX.Fj;rw [uF];decide
theorem cX.lt_trans {a b c:cX} (h1:cX.lt a b) (h2:cX.lt b c):cX.lt a c:=vC h1 h2
theorem cX.zz (a b:cX):cX.lt a b\/a=b\/cX.lt b a:=by
 rcases vD a.cG b.cG with h | h | h
 ·exact .inl h
 ·exact .inr (.inl (cX.ext' h))
 ·exact .inr (.inr h)
theorem cX.E9 {a b:cX} (h:cX.lt a b):a≠b:=fun e=>by subst e;exact cX.lt_irrefl a h
end Go.Gk
namespace Go.Gk
open Go
class Bk (α:Type) where
 bk:α->Nat
 pos: ∀x,1<=bk x
def bk {α:Type} [Bk α] (x:α):Nat:=Bk.bk x
theorem Dj {α:Type} [Bk α] (x:α):1<=bk x:=Bk.pos x
instance:Bk cX:=⟨fun s=>s.cG.length+1,fun _=>by omega⟩
instance:Bk Int:=⟨fun _=>1,fun _=>by omega⟩
instance:Bk Bool:=⟨fun _=>1,fun _=>by omega⟩
instance {α:Type} [Bk α]:Bk (List α):=⟨fun l=>(l.map bk).sum+1,fun _=>by omega⟩
theorem Dk {α:Type} [Bk α]:bk ([]:List α)=1:=rfl
theorem yb {α:Type} [Bk α] (x:α) (l:List α):bk (x::l)=bk x+bk l:=by
 show (List.map bk (x::l)).sum+1=bk x+ ((List.map bk l).sum+1)
 simp;omega
theorem Az {α:Type} [Bk α]: ∀{l:List α} {x:α},x∈l->bk x+1<=bk l
 | y::l,x,h=>by
  rw [yb]
  rcases ga.1 h with h | h
  ·subst h;have:=Dj l;omega
  ·have:=Az h;omega
theorem qe {α:Type} [Bk α]: ∀(l:List α),l.length+1<=bk l
 | []=>by rw [Dk];simp
 | x::l=>by rw [yb,kN];have:=qe l;have:=Dj x;omega
theorem Dl (s:cX):bk s=s.cG.length+1:=rfl
section
variable {α R:Type}
theorem B5 {l:List α} {e:Nat->Option R} (f:α->Option R) (h: ∀k x,l[k]? =some x->e k=f x):mz l.length e=l.findSome? f:=by
 cases hx:mz l.length e with
 | none=>
  refine(List.findSome?_eq_none_iff.2 fun x hm=>?_).symm
  obtain⟨k,hk⟩:=fS hm
  rw [<-h k x hk];exact iF.1 hx k (aW.1 hk).1
 | some r=>
  obtain⟨k,hk,he,hn⟩:=ja.1 hx
  refine(List.findSome?_eq_some_iff.2 ⟨l.take k,l[k],l.drop (k+1),?_,?_,fun y hy=>?_⟩).symm
  ·rw [<-qQ hk,List.take_append_drop]
  ·rw [<-h k l[k] (aK hk)];exact he
  ·obtain⟨j,hj⟩:=fS hy
   have hjk:j<k:=by have:=(aW.1 hj).1;rw [cP] at this;omega
   rw [List.getElem?_take_of_lt hjk] at hj
   rw [<-h j y hj];exact hn j hjk
theorem yc (l:List α) (p:α->Bool) (r:R):l.findSome? (fun x=>if p x=true then some r else none)=if l.any p=true then some r else none:=by
 induction l with
 | nil=>simp
 | cons x l ih=>
  rw [List.findSome?_cons,List.any_cons]
  cases h:p x <;> simp [ih]
theorem s8 {l:List α} {body:Nat->Unit->Option (Fl Unit R)} (f:α->Option R) (hl:l.length<=4611686018427387904)
  (h: ∀k x,l[k]? =some x->body k ()=some (B4 (f x) ())):oW l.length body ()=some (ya (l.findSome? f) ()):=by
 have h2:=mh (body:=body) (m:=l.length) (fun k=>(l[k]?).bind f) hl (fun k hk _=>by
  rw [h k l[k] (aK hk),aK hk];rfl)
 rw [h2,B5 f (fun k x hx=>by rw [hx];rfl)]
theorem Bi {l:List α} {body:Nat->Unit->Option (Fl Unit R)} (p:α->Bool) (r:R) (hl:l.length<=4611686018427387904)
  (h: ∀k x,l[k]? =some x->body k ()=some (if p x=true then .rt r else .nx ())):oW l.length body ()=some (if l.any p=true then .rt r else .go ()):=by
 rw [s8 (fun x=>if p x=true then some r else none) hl (fun k x hx=>by rw [h k x hx];cases p x <;> rfl),yc]
 cases l.any p <;> rfl
end
theorem EH {β:Type} (b:Bool) (x y:β): (bif b then some x else some y)=some (bif b then x else y):=by cases b <;> rfl
section
variable {α β:Type}
def Bj (l:List α) (p:α->Bool):Int:=match l.findIdx? p with | some k=>((k:Nat):Int) | none=> -1
theorem Dm {l:List α} {p:α->Bool} (h:l.any p=false):Bj l p = -1:=by
 unfold Bj
 rw [List.findIdx?_eq_none_iff.2]
 intro x hx
 rw [<-nM]
 intro hp
 rw [<-nM] at h
 exact h (kg.2 ⟨x,hx,hp⟩)
theorem Dn {l:List α} {p:α->Bool} {k:Nat} {x:α} (hk:l[k]? =some x) (hp:p x=true) (hn: ∀j y,j<k->l[j]? =some y->p y=false):Bj l p= ((k:Nat):Int):=by
 unfold Bj
 have hlt:=(aW.1 hk).1
 have:l.findIdx? p=some k:=by
  rw [List.findIdx?_eq_some_iff_getElem]
  refine⟨hlt,?_,fun j hj=>?_⟩
  ·have:=aK hlt;rw [hk] at this;injection this with this;rw [<-this];exact hp
  ·have:=hn j l[j] hj (aK (by omega));simpa using this
 rw [this]
theorem qX (l:List α) (p:α->Bool): (Bj l p = -1/\∀x∈l,p x=false)\/∃k x,Bj l p= ((k:Nat):Int)/\l[k]? =some x/\p x=true/\∀j y,j<k->l[j]? =some y->p y=false:=by
 unfold Bj
 cases h:l.findIdx? p with
 | none=>exact .inl ⟨rfl,fun x hx=>by have:=List.findIdx?_eq_none_iff.1 h x hx;simpa using this⟩
 | some k=>
  obtain⟨hk,hp,hn⟩:=List.findIdx?_eq_some_iff_getElem.1 h
  refine .inr ⟨k,l[k],rfl,aK hk,hp,fun j y hj hy=>?_⟩
  have:=hn j hj
  rw [aK (by omega)] at hy
  injection hy with hy
  subst hy;simpa using this
theorem Dp (l:List α) (p:α->Bool):decide (Bj l p>=0)=l.any p:=by
 rcases qX l p with ⟨h,hn⟩ | ⟨k,x,h,hx,hp,_⟩
 ·rw [h,List.any_eq_false.2 (fun x hx=>by rw [hn x hx];decide)];decide
 ·rw [h,kg.2 ⟨x,gN hx,hp⟩];simp
def pf (p0:List α) (p1:α->Option Bool):Option Int:=
 (oW p0.length (fun(k1:Nat) (_:Unit)=>((idx p0 ((k1:Nat):Int)).bind fun x7=>(p1 x7).bind fun x10=>bif x10 then (some (.rt ((k1:Nat):Int))) else (some (.nx ())):Option (Fl (Unit) Int))) ()).bind fun o11=>o11.cs (fun(_:Unit)=>some (-1)) (fun r=>some r)
theorem oc {l:List α} {φ:α->Option Bool} (p:α->Bool) (hl:l.length<=4611686018427387904) (h: ∀x∈l,φ x=some (p x)):pf l φ=some (Bj l p):=by
 unfold pf
 rw [mh (fun k=>(l[k]?).bind fun x=>if p x=true then some ((k:Nat):Int) else none) hl (fun k hk _=>by
  rw [iV l k hk,aB,h _ (cM hk),aB,aK hk]
  cases hp:p l[k] <;> simp [B4,hp]),aB]
 rcases qX l p with ⟨h1,h2⟩ | ⟨k,x,h1,h2,h3,h4⟩
 ·rw [iF.2 (fun k hk=>by rw [aK hk];simp [h2 _ (cM hk)])]
  simp [ya,Fo.cs,h1]
 ·rw [(ja (r:=((k:Nat):Int))).2 ⟨k,(aW.1 h2).1,by rw [h2];simp [h3],fun j hj=>by
   cases hy:l[j]? with
   | none=>rfl
   | some y=>simp [h4 j y hj hy]⟩]
  simp [ya,Fo.cs,h1]
def oe (p0:List α) (p1:α->Option Bool):Option Bool:=
 (pf p0 p1).bind fun x1=>some (decide (x1>=0))
theorem oH {l:List α} {φ:α->Option Bool} (p:α->Bool) (hl:l.length<=4611686018427387904) (h: ∀x∈l,φ x=some (p x)):oe l φ=some (l.any p):=by
 unfold oe
 rw [oc p hl h,aB,Dp]
def Dq [DecidableEq α] (p0:List α) (p1:α):Option Int:=
 (oW p0.length (fun(k2:Nat) (_:Unit)=>((idx p0 ((k2:Nat):Int)).bind fun x12=>bif (decide (p1=x12)) then (some (.rt ((k2:Nat):Int))) else (some (.nx ())):Option (Fl (Unit) Int))) ()).bind fun o18=>o18.cs (fun(_:Unit)=>some (-1)) (fun r=>some r)
theorem B6 [DecidableEq α] {l:List α} {a:α} (hl:l.length<=4611686018427387904):Dq l a=some (Bj l (fun x=>decide (a=x))):=by
 have:=oc (l:=l) (φ:=fun x=>some (decide (a=x))) (fun x=>decide (a=x)) hl (fun _ _=>rfl)
 rw [<-this];rfl
def t9 [DecidableEq α] (p0:List α) (p1:α):Option Bool:=(Dq p0 p1).bind fun x3=>some (decide (x3>=0))
theorem yd [DecidableEq α] {l:List α} {a:α} (hl:l.length<=4611686018427387904):t9 l a=some (decide (a∈l)):=by
 unfold t9
 rw [B6 hl,aB,Dp,Option.some.injEq,fQ]
 simp
def AA [DecidableEq α] (p0 p1:List α):Option Bool:=
 bif (((p0.length:Nat):Int) != ((p1.length:Nat):Int)) then (some false) else ((oW p0.length (fun(k1:Nat) (_:Unit)=>((idx p0 ((k1:Nat):Int)).bind fun x13=>(idx p1 ((k1:Nat):Int)).bind fun x16=>bif (!(decide (x13=x16))) then (some (.rt false)) else (some (.nx ())):Option (Fl (Unit) Bool))) ()).bind fun o23=>o23.cs (fun(_:Unit)=>some true) (fun r=>some r))
theorem xh [DecidableEq α] {l m:List α} (hl:l.length<=4611686018427387904):AA l m=some (decide (l=m)):=by
 unfold AA
 by_cases h:l.length=m.length
 ·have e: (((l.length:Nat):Int) != ((m.length:Nat):Int))=false:=by rw [h];simp
  rw [e,aS]
  rw [mh (fun k=>if l[k]? =m[k]? then none else some false) hl (fun k hk _=>by
   rw [iV l k hk,aB,iV m k (by omega),aB,aK hk,aK (by omega:k<m.length)]
   by_cases hx:l[k]=m[k] <;> simp [B4,hx]),aB]
  by_cases hx:l=m
  ·subst hx;rw [iF.2 (fun k _=>aC rfl)];simp [ya,Fo.cs]
  ·have: ∃r,mz l.length (fun k=>if l[k]? =m[k]? then none else some false)=some r:=by
    cases hf:mz l.length (fun k=>if l[k]? =m[k]? then none else some false) with
    | some r=>exact⟨r,rfl⟩
    | none=>
     exfalso;refine hx (List.ext_getElem? fun i=>?_)
     by_cases hi:i<l.length
     ·have:=iF.1 hf i hi
      by_cases h6:l[i]? =m[i]?
      ·exact h6
      ·rw [aD h6] at this;cases this
     ·rw [List.getElem?_eq_none (by omega),List.getElem?_eq_none (by omega)]
   obtain⟨r,hr⟩:=this
   have hr2:r=false:=by
    obtain⟨k,_,hk,_⟩:=ja.1 hr
    split at hk
    ·cases hk
    ·injection hk with hk;exact hk.symm
   rw [hr,hr2];simp [ya,Fo.cs,hx]
 ·have e: (((l.length:Nat):Int) != ((m.length:Nat):Int))=true:=by simp;omega
  rw [e,aQ,bC (fun h'=>h (by rw [h']))]
def Dr (key:α->cX) (l:List α):Prop:=∀(i j:Nat) (x y:α),i<j->l[i]? =some x->l[j]? =some y->cX.lt (key x) (key y)
theorem Dr.inj {key:α->cX} {l:List α} (h:Dr key l) {i j:Nat} {x y:α} (hx:l[i]? =some x) (hy:l[j]? =some y) (e:key x=key y):i=j:=by
 rcases Nat.lt_trichotomy i j with h1 | h1 | h1
 ·exact absurd e (cX.E9 (h i j x y h1 hx hy))
 ·exact h1
 ·exact absurd e.symm (cX.E9 (h j i y x h1 hy hx))
def Ds (N:Nat) (p0:List α) (p1:β) (p2:α->β->Option Int):Option (Int×Bool):=
 (mZ (fun(s2:Int×Int)=>(bif (decide (s2.1<s2.2)) then ((idx p0 (IntKind.wrap .i64 (Int.fdiv (IntKind.wrap .u64 (IntKind.wrap .i64 (s2.1+s2.2))) 2))).bind fun x13=>(p2 x13 p1).bind fun x16=>(bif (decide (x16<0)) then (some ((IntKind.wrap .i64 ((IntKind.wrap .i64 (Int.fdiv (IntKind.wrap .u64 (IntKind.wrap .i64 (s2.1+s2.2))) 2))+1)),s2.2)) else (some (s2.1,(IntKind.wrap .i64 (Int.fdiv (IntKind.wrap .u64 (IntKind.wrap .i64 (s2.1+s2.2))) 2))))).bind fun s17=>some (.nx (s17.1,s17.2))) else (some (.br (s2.1,s2.2))):Option (Fl (Int×Int) Empty))) N (0,((p0.length:Nat):Int))).bind fun o29=>o29.cs (fun(s2:Int×Int)=>(bif (decide (s2.1< ((p0.length:Nat):Int))) then ((idx p0 s2.1).bind fun x25=>(p2 x25 p1).bind fun x28=>some (x28==0)) else (some false)).bind fun s23=>some (s2.1,s23)) (fun r=>r.elim)
theorem B7 {a b:Nat} (h:a<b) (hb:b<=4611686018427387904):IntKind.wrap .i64 (Int.fdiv (IntKind.wrap .u64 (IntKind.wrap .i64 (((a:Nat):Int)+ ((b:Nat):Int)))) 2)= (((a+b) / 2:Nat):Int):=by
 rw [eI (x:=((a:Nat):Int)+ ((b:Nat):Int)) (by omega) (by omega)]
 have e:IntKind.wrap .u64 (((a:Nat):Int)+ ((b:Nat):Int))= ((a+b:Nat):Int):=by
  show ((a:Int)+b) % 18446744073709551616=_
  omega
 rw [e,Int.fdiv_eq_ediv_of_nonneg _ (by omega),eI (by omega) (by omega)]
 omega
end
end Go.Gk
namespace Go.Gk
open Go Go.ChangeShapes Go.WideShapes Go.RowKit
structure UB (ub: (H:Type)->DataW H->Nat) (ua: (H:Type)->List (DataW H)->Nat):Prop where
 str: ∀(H:Type) (b:List UInt8),ub H (.lit (.string b))=b.length+1
 pos: ∀(H:Type) (d:DataW H),1<=ub H d
 sl: ∀(H:Type) (e s:List (DataW H)),ub H (.slice e s)=ua H e+ua H s+1
 ag: ∀(H:Type) (l:List (DataW H)),ub H (.agg l)=ua H l+1
 nil: ∀(H:Type),ua H []=0
 cons: ∀(H:Type) (x:DataW H) (l:List (DataW H)),ua H (x::l)=ub H x+ua H l
def Hw (w:World):dB:=fun b=>w.heap[b]?
structure gX (ub: (H:Type)->DataW H->Nat) (P:Program) (T:TypeId) (α:Type) [GT α] [Bk α]:Prop where
 trod: ∀{H:Type} {enc:TypeId×Value->H} {w:World} {base:Nat} {spare:Nat->Bool} {held:Bool} {fuel:Nat} {cs:List Value} {d:DataW H×List MemPlace},
  DataW.trod enc P w base spare held fuel T cs=some d->∃x:α,GT.ok (Hw w) cs x/\bk x<=ub H d.1
 Hk: ∀{w:World} {r:Reach} {base:Nat} {v:Value},Value.okWide P w r base T v->v=rN α v.cells.toList
section
variable {ub: (H:Type)->DataW H->Nat} {ua: (H:Type)->List (DataW H)->Nat} {P:Program} {T e:TypeId}
theorem B8 (u:UB ub ua) (ht:P.underlying T=some (.int .i64)):gX ub P T Int where
 trod:=fun h=>by
  obtain⟨n,rfl,rfl,_⟩:=DataW.trod_int ht h
  exact⟨n,rfl,u.pos _ _⟩
 Hk:=fun h=>by obtain⟨n,rfl⟩:=okWide_int ht h;rfl
theorem AB (u:UB ub ua) (ht:P.underlying T=some .bool):gX ub P T Bool where
 trod:=fun h=>by
  obtain⟨n,rfl,rfl⟩:=DataW.trod_bool ht h
  exact⟨n,rfl,u.pos _ _⟩
 Hk:=fun h=>by obtain⟨n,rfl⟩:=okWide_bool ht h;rfl
theorem B9 (u:UB ub ua) (ht:P.underlying T=some .string):gX ub P T cX where
 trod:=fun h=>by
  obtain⟨s,rfl,rfl,_⟩:=DataW.trod_string ht h
  refine⟨⟨s.data.toList⟩,?_,?_⟩
  ·show [Value.string s]= [Gk.str ⟨s.data.toList⟩]
   cases s;rfl
  ·rw [u.str];exact bI _
 Hk:=fun h=>by obtain⟨n,rfl⟩:=okWide_string ht h;rfl
theorem uG {α:Type} {R:Nat->α->Prop}: ∀(n:Nat),(∀i,i<n->∃x,R i x)->∃l:List α,l.length=n/\∀i x,l[i]? =some x->R i x
 | 0,_=>⟨[],rfl,fun i x h=>by simp at h⟩
 | n+1,h=>by
  obtain⟨l,h1,h2⟩:=uG n (fun i hi=>h i (by omega))
  obtain⟨x,hx⟩:=h n (by omega)
  refine⟨l++[x],by simp [h1],fun i y hy=>?_⟩
  by_cases hi:i<n
  ·rw [fx (by omega)] at hy;exact h2 i y hy
  ·have:=(aW.1 hy).1
   rw [eA] at this
   have:i=n:=by simp at this;omega
   subst this
   rw [eW (by omega),h1] at hy
   simp at hy;subst hy;exact hx
theorem xk {H α:Type} [Bk α] (u:UB ub ua): ∀{l:List α} {es:List (DataW H×List MemPlace)},l.length=es.length->
  (∀(i:Nat) (x:α) (y:DataW H×List MemPlace),l[i]? =some x->es[i]? =some y->bk x<=ub H y.1)->bk l<=ua H (es.map (·.1))+1
 | [],[],_,_=>by rw [Dk];omega
 | x::l,y::es,hl,h=>by
  have h1:=h 0 x y rfl rfl
  have h2:=xk (H:=H) u (l:=l) (es:=es) (by simpa using hl) (fun i x y hx hy=>h (i+1) x y (by simpa using hx) (by simpa using hy))
  rw [yb,eB,u.cons];omega
theorem zA {w:World} {base:Nat} {a:Addr} {n:Nat} {cs:List Value} (h:w.cells? base a n=some cs):At (Hw w) a cs:=by
 intro j v hv
 obtain⟨_,hlen,hc⟩:=World.cells?_some h
 have hj:=(aW.1 hv).1
 have h2:=hc j (by omega)
 rw [hv] at h2
 unfold sE Hw
 unfold World.cell? at h2
 exact h2
theorem lY {α:Type} [GT α] [Bk α] (u:UB ub ua) (he:gX ub P e α) (ht:P.underlying T=some (.slice e):=by kernel_rfl) (hc:P.cellsOf e=GT.sz α:=by kernel_rfl):gX ub P T (List α) where
 trod:=fun{H enc w base spare held fuel cs d} h=>by
  rcases DataW.trod_slice ht h with ⟨rfl,rfl⟩ | ⟨a,len,cap,elems,rest,n,_,rfl,rfl,_,hlc,hcm,hlen,hel,_⟩
  ·exact⟨[],⟨_,rfl,none,0,0,rfl,rfl,bI _,by simp [maxLen],fun i x hx=>by simp at hx⟩,u.pos _ _⟩
  ·have each: ∀i,i<len->∃x:α,(∃c y,GT.ok (Hw w) c x/\At (Hw w) (a.add (i*GT.sz α)) c/\elems[i]? =some y/\bk x<=ub H y.1):=by
    intro i hi
    have h1:=hel i hi
    rw [aK (by omega:i<elems.length),Option.bind_eq_some_iff] at h1
    obtain⟨c,h2,h3⟩:=h1
    obtain⟨x,h4,h5⟩:=he.trod h3
    refine⟨x,c,_,h4,?_,aK (by omega),h5⟩
    rw [hc] at h2
    exact zA h2
   obtain⟨l,hl,hr⟩:=uG len each
   refine⟨l,⟨_,rfl,some a,len,cap,rfl,hl.symm,hlc,hcm,fun i x hx=>?_⟩,?_⟩
   ·obtain⟨c,y,h1,h2,_⟩:=hr i x hx
    exact⟨a,c,rfl,h1,h2⟩
   ·have:=xk (H:=H) u (l:=l) (es:=elems) (by omega) (fun i x y hx hy=>by
     obtain⟨c,y',_,_,h3,h4⟩:=hr i x hx
     rw [hy] at h3;injection h3 with h3;subst h3;exact h4)
    rw [u.sl];omega
 Hk:=fun h=>by obtain⟨a,n,c,rfl⟩:=okWide_slice ht h;rfl
def Bl (ub: (H:Type)->DataW H->Nat) (ua: (H:Type)->List (DataW H)->Nat) (P:Program) (off:Nat) (fs:List Field) (β:Type) [GT β] (m:β->Nat):Prop:=
 ∀{H:Type} {enc:TypeId×Value->H} {w:World} {base:Nat} {spare:Nat->Bool} {held:Bool} {n:Nat} {cs:List Value} {ys:List (DataW H×List MemPlace)},
  (∀(i:Nat) (f:Field),fs[i]? =some f->DataW.trod enc P w base spare held n f.type ((cs.drop f.offset).take (P.cellsOf f.type))=ys[i]?)->ys.length=fs.length->
  cs.length=off+GT.sz β->∃x:β,GT.ok (Hw w) (cs.drop off) x/\m x<=ua H (ys.map (·.1))
theorem kp {β:Type} [GT β] [Bk β] {off:Nat} {f:Field} (u:UB ub ua) (h:gX ub P f.type β) (ho:f.offset=off:=by exact rfl) (hc:P.cellsOf f.type=GT.sz β:=by kernel_rfl):Bl ub ua P off [f] β bk:=by
 intro H enc w base spare held n cs ys hf hl hcs
 match ys,hl with
 | [y],_=>
  have h1:=hf 0 f rfl
  rw [ho,hc,nN (by rw [gA];omega)] at h1
  obtain⟨x,h2,h3⟩:=h.trod (d:=y) h1
  exact⟨x,h2,by rw [eB,u.cons];omega⟩
theorem dG {α β:Type} [GT α] [GT β] [Bk α] {off off':Nat} {f:Field} {fs:List Field} {m:β->Nat} (u:UB ub ua) (h:gX ub P f.type α) (hr:Bl ub ua P off' fs β m) (ho:f.offset=off:=by exact rfl) (hc:P.cellsOf f.type=GT.sz α:=by kernel_rfl) (hoff:off'=off+GT.sz α:=by exact rfl):Bl ub ua P off (f::fs) (α×β) (fun x=>bk x.1+m x.2):=by
 intro H enc w base spare held n cs ys hf hl hcs
 have hsz:GT.sz (α×β)=GT.sz α+GT.sz β:=rfl
 match ys,hl with
 | y::ys,hl=>
  have h1:=hf 0 f rfl
  rw [ho,hc] at h1
  obtain⟨x,h2,h3⟩:=h.trod (d:=y) h1
  obtain⟨x',h4,h5⟩:=hr (n:=n) (cs:=cs) (ys:=ys) (fun i g hg=>hf (i+1) g hg) (by simpa using hl) (by omega)
  refine⟨(x,x'),⟨_,_,?_,h2,h4⟩,?_⟩
  ·rw [hoff,<-List.drop_drop,List.take_append_drop]
  ·rw [eB,u.cons];show bk x+m x'<=_;omega
theorem gV {γ β:Type} [GT β] [Bk γ] {fs:Array Field} {m:β->Nat} (u:UB ub ua) (f:γ->β) (g:β->γ) (hfg: ∀b,f (g b)=b) (ht:P.underlying T=some (.struct fs)) (h:Bl ub ua P 0 fs.toList β m) (hm: ∀b,bk (g b)<=m b+1) (hc:P.cellsOf T=GT.sz β:=by kernel_rfl): @gX ub P T γ (GT.via f) _:=
 @gX.mk ub P T γ (GT.via f) _
  (fun{H enc w base spare held fuel cs d} hd=>by
   obtain⟨xs,n,_,rfl,hl,hlen,hf⟩:=DataW.trod_struct ht hd
   obtain⟨b,h1,h2⟩:=h (n:=n) (cs:=cs) (ys:=xs) (fun i g hg=>hf i g (by rw [<-Array.getElem?_toList];exact hg)) (by rw [hlen];simp) (by omega)
   refine⟨g b,?_,?_⟩
   ·show GT.ok (Hw w) cs (f (g b))
    rw [hfg];exact h1
   ·rw [u.ag];have:=hm b;omega)
  (fun hv=>by
   obtain⟨cs,rfl,_⟩:=okWide_struct ht hv
   cases cs;rfl)
theorem gX.arg {H:Type} {enc:TypeId×Value->H} {w:World} {base:Nat} {spare:Nat->Bool} {held:Bool} {r:Reach} {b0:Nat} {v:Value} {d:DataW H} {ps:List MemPlace} {α:Type} [GT α] [Bk α] (o:gX ub P T α)
  (hv:Value.okWide P w r b0 T v) (hd:DataW.Trod enc P w base spare held T v d ps): ∃x:α,rO (Hw w) v x/\bk x<=ub H d:=by
 obtain⟨fuel,hf⟩:=hd
 obtain⟨x,h1,h2⟩:=o.trod hf
 exact⟨x,⟨_,o.Hk hv,h1⟩,h2⟩
end
theorem Calls.fin {P:Program} {f:FuncId} {args:Array Value} {w:World} {R Q:Value->World->Prop} (h:Calls P f args w (gR R)) (k: ∀v w',R v w'->Q v w'):
  Calls P f args w (fun e W'=>∃v,e = .returned v/\Q v W'):=Calls.mono h fun _ w' ⟨v,e,hr⟩=>⟨v,e,k v w' hr⟩
def jo (W:World):HP:=⟨fun M h=>hle (Hw W) M/\h=nE,fun k ⟨a,b⟩=>⟨BF a k,b⟩⟩
theorem Holds.begin (W:World):Holds W W [jo W]:=by
 refine⟨Hw W,fun _=>nE,⟨rfl,rfl,rfl,bI _,fun b o h=>h,fun i Pr hq=>?_,fun _ _ _ _ h=>(by cases h),fun _ _ _ _ h=>(by cases h),fun _ _ _ _ _ _ _ h=>(by cases h)⟩⟩
 match i,hq with
 | 0,hq=>simp at hq;subst hq;exact⟨CD _,rfl⟩
theorem Holds.Dt {α:Type} [GT α] {W:World} {V:List HP} {v:Value} {x:α} (h:Holds W W (V++[jo W])) (hv:Gk.rO (Hw W) v x):Holds W W (rd v x::(V++[jo W])):=
 h.wA fun M hs g=>by
  have h1:=(g.sat V.length (jo W) (by simp)).1
  exact⟨hv.mono h1,rfl⟩
theorem Holds.kept {E W w:World} {V:List HP} (h:Holds E w (V++[jo W])) (he:E=W):Below W.heap.size W w:=by
 subst he
 obtain⟨M,hs,g⟩:=h
 have h1:=(g.sat V.length (jo E) (by simp)).1
 have h2: ∀k o,E.heap[k]? =some o->w.heap[k]? =some o:=fun k o ho=>g.im k o (h1 k o ho)
 refine⟨g.os,g.tape,g.out,?_,fun k hk=>?_⟩
 ·by_cases h0:E.heap.size=0
  ·omega
  ·have h3:=h2 (E.heap.size - 1) _ (fw (by omega))
   have:=(Array.getElem?_eq_some_iff.1 h3).1
   omega
 ·rw [fw hk];exact h2 k _ (fw hk)
section
variable {H:Type} {enc:TypeId×Value->H} {P:Program}
theorem Ca {f:Func} {s:ChangeSpec} {apart fresh handsOn again:Bool} {W W':World} {args:Array Value} {v:Value} {ds gs:List (DataW H)} {before pa pv:List MemPlace}
  (hW:DataW.Whole enc P f.params.toList s.vars apart W args.toList ds gs before)
  (hres: ∀(b:Nat) (sp:Nat->Bool) (hd:Bool),DataW.TrodAll enc P W' b sp hd f.resultTypes.toList (v.resultList f.resultTypes.size) (s.fn H (ds++gs)).results [])
  (hargs: ∀sp:Nat->Bool,(∀p∈before,sp p.block=true)->DataW.TrodAll enc P W' 0 sp true f.params.toList args.toList (s.fn H (ds++gs)).args pa)
  (hvars: ∀sp:Nat->Bool,(∀p∈before,sp p.block=true)->DataW.TrodVars enc P W' sp s.vars (s.fn H (ds++gs)).vars pv)
  (hps:before=pa++pv) (hb:Below W.heap.size W W')
  (hok: ∀(j:Nat) (t:TypeId) (r:Value),f.resultTypes[j]? =some t->(v.resultList f.resultTypes.size)[j]? =some r->Value.okWide P W' .any 0 t r):
  s.post enc P f apart fresh handsOn again W args v W':=by
 have hlt: ∀p∈before,p.block<W.heap.size:=fun p hp=>hW.lt p hp
 have hold: ∀p∈before,(fun b=>decide (b<W.heap.size)) p.block=true:=fun p hp=>by simpa using hlt p hp
 refine⟨ds,gs,before,[],pa,pv,hW,hres _ _ _,hargs _ hold,hvars _ hold,World.keptBut_mono (fun p hp=>⟨hp,?_⟩) (hb.frame (· ∈before)),fun _=>?_⟩
 ·rw [hps,cJ] at hp
  exact Or.inr hp
 ·obtain⟨_,_,_,_,_,hz,hn⟩:=hW
  refine⟨hok,_,_,([]++pa)++pv,⟨[]++pa,pv,trodAll_append (hargs _ (fun _ _=>rfl)) (hres _ _ _),hvars _ (fun _ _=>rfl),rfl,?_,?_⟩,?_⟩
  ·intro b off hp
   have hin:MemPlace.cell b off∈before:=by rw [hps];simpa using hp
   rw [hb.frozen (hlt _ hin)]
   exact hz b off hin
  ·intro ha
   have:=hn ha
   rw [hps] at this
   simpa using this
  ·intro p hp _
   rw [hps]
   simpa using hp
theorem rI {W W':World} (hl:laidOutB P=true) (hb:Below W.heap.size W W') {sp:Nat->Bool}: ∀{ts:List TypeId} {vs:List Value} {ds:List (DataW H)} {ps:List MemPlace},
  (∀t∈ts,P.readableRec t=true/\t<P.types.size)->DataW.TrodAll enc P W 0 (fun _=>true) true ts vs ds ps->(∀p∈ps,p.block<W.heap.size)->(∀p∈ps,sp p.block=true)->DataW.TrodAll enc P W' 0 sp true ts vs ds ps
 | [],_,_,_,_,h,_,_=>by
  obtain⟨rfl,rfl,rfl⟩:=trodAll_nil h
  rfl
 | t::ts,_,_,_,ht,h,hlt,hsp=>by
  obtain⟨v,vs,d,ds,p,q,rfl,rfl,rfl,h1,h2⟩:=trodAll_cons h
  refine⟨p,q,?_,rI hl hb (fun t h=>ht t (by simp [h])) h2 (fun x hx=>hlt x (by simp [hx])) (fun x hx=>hsp x (by simp [hx])),rfl⟩
  exact WideElems.Trod_stays hl (ht t (by simp)).1 (ht t (by simp)).2 h1 (fun x hx=>hb.same (hlt x (by simp [hx]))) (fun x hx=>hsp x (by simp [hx]))
end
end Go.Gk
namespace Go.Gk
open Go
instance:Bk aI:=⟨fun x=>bk x.X0+bk x.Y0+bk x.X1+bk x.Y1+1,fun _=>by omega⟩
theorem EI (x:aI):bk x=bk x.X0+bk x.Y0+bk x.X1+bk x.Y1+1:=rfl
instance:Bk je:=⟨fun x=>bk x.X+bk x.Y+1,fun _=>by omega⟩
theorem Du (x:je):bk x=bk x.X+bk x.Y+1:=rfl
instance:Bk bM:=⟨fun x=>bk x.At+bk x.eN+bk x.cQ+bk x.To+bk x.gE+1,fun _=>by omega⟩
theorem EJ (x:bM):bk x=bk x.At+bk x.eN+bk x.cQ+bk x.To+bk x.gE+1:=rfl
instance:Bk cK:=⟨fun x=>bk x.Part+bk x.fB+bk x.eK+bk x.At+1,fun _=>by omega⟩
theorem Bm (x:cK):bk x=bk x.Part+bk x.fB+bk x.eK+bk x.At+1:=rfl
instance:Bk iD:=⟨fun x=>bk x.aJ+bk x.cW+bk x.aU+bk x.aZ+1,fun _=>by omega⟩
theorem Dv (x:iD):bk x=bk x.aJ+bk x.cW+bk x.aU+bk x.aZ+1:=rfl
instance:Bk fB:=⟨fun x=>bk x.Part+bk x.fB+1,fun _=>by omega⟩
theorem FY (x:fB):bk x=bk x.Part+bk x.fB+1:=rfl
instance:Bk Test:=⟨fun x=>bk x.A+bk x.B+bk x.Joined+1,fun _=>by omega⟩
theorem EK (x:Test):bk x=bk x.A+bk x.B+bk x.Joined+1:=rfl
instance:Bk dO:=⟨fun x=>bk x.bM+bk x.Number+1,fun _=>by omega⟩
theorem FZ (x:dO):bk x=bk x.bM+bk x.Number+1:=rfl
instance:Bk eT:=⟨fun x=>bk x.Open+bk x.dO+bk x.A+bk x.B+1,fun _=>by omega⟩
theorem EL (x:eT):bk x=bk x.Open+bk x.dO+bk x.A+bk x.B+1:=rfl
instance:Bk aA:=⟨fun x=>bk x.Y0+bk x.Y1+bk x.Xs+1,fun _=>by omega⟩
instance:Bk aH:=⟨fun x=>bk x.eK+bk x.Set+bk x.mG+1,fun _=>by omega⟩
instance:Bk cI:=⟨fun x=>bk x.mu+bk x.aU+bk x.iw+1,fun _=>by omega⟩
end Go.Gk
namespace Go.Gk
open Go Go.Sort
section
variable {α:Type}
theorem uH {β:Type} (a:Array β) {n:Nat} (h:a.size=n):a.extract 0 n=a:=by subst h;exact Array.extract_size
theorem F0 {φ:α->α->Option Int} {l:List α} (cf:α->α->Int) (hφ: ∀x∈l,∀y∈l,φ x y=some (cf x y)) (h1: ∀x∈l,¬cf x x<0)
  (h2: ∀x∈l,∀y∈l,∀z∈l,cf x y<0->cf y z<0->cf x z<0) (h3: ∀x∈l,∀y∈l,∀z∈l,¬cf x y<0->¬cf y z<0->¬cf x z<0):SWO (Eb (y5 φ l)):=by
 have hm: ∀i:Fin l.length,l[i]∈l:=fun i=>cM i.isLt
 have e: ∀i j:Fin l.length,y5 φ l i j=cf l[i] l[j]:=fun i j=>by unfold y5;rw [hφ _ (hm i) _ (hm j)];rfl
 refine⟨fun x=>?_,fun x y z=>?_,fun x y z=>?_⟩
 ·simp only [Eb,e,decide_eq_false_iff_not];exact h1 _ (hm _)
 ·simp only [Eb,e,decide_eq_true_iff];exact h2 _ (hm _) _ (hm _) _ (hm _)
 ·simp only [Eb,e,decide_eq_false_iff_not];exact h3 _ (hm _) _ (hm _) _ (hm _)
theorem vJ {φ:α->α->Option Int} {l:List α} (cf:α->α->Int) (hφ: ∀x∈l,∀y∈l,φ x y=some (cf x y)) (h1: ∀x∈l,¬cf x x<0)
  (h2: ∀x∈l,∀y∈l,∀z∈l,cf x y<0->cf y z<0->cf x z<0) (h3: ∀x∈l,∀y∈l,∀z∈l,¬cf x y<0->¬cf y z<0->¬cf x z<0) (hl:l.length<4611686018427387904):
  ∃m,sJ φ l=some m/\m.Perm l/\m.Pairwise (fun x y=>¬cf y x<0):=by
 have hO:=F0 cf hφ h1 h2 h3
 have hm: ∀i:Fin l.length,l[i]∈l:=fun i=>cM i.isLt
 have hc: (∀i j:Fin l.length,∃c,φ l[i] l[j]=some c):=fun i j=>⟨_,hφ _ (hm i) _ (hm j)⟩
 refine⟨A6 φ l,by unfold sJ;rw [aC ⟨⟨hc,hO⟩,hl⟩],?_⟩
 unfold A6
 by_cases hn:0<l.length
 ·rw [dif_pos hn]
  letI inh:Inhabited (Fin l.length):=⟨⟨0,hn⟩⟩
  have hds: (Array.ofFn fun i:Fin l.length=>i).size=l.length:=by simp
  obtain⟨hp,hs⟩:=pdq_sorts (Eb (y5 φ l)) hO (Array.ofFn fun i:Fin l.length=>i) 0 l.length (Lib.bitLen l.length) true true (mN _) (by rw [hds];exact bI _) (Or.inl rfl)
  show (List.map (fun i=>l[i]) (pdq (Eb (y5 φ l)) (Array.ofFn fun i:Fin l.length=>i) 0 l.length (Lib.bitLen l.length) true true).toList).Perm l/\_
  generalize pdq (Eb (y5 φ l)) (Array.ofFn fun i:Fin l.length=>i) 0 l.length (Lib.bitLen l.length) true true=d' at hp hs
  obtain⟨hz,_,hpm⟩:=hp
  have hz':d'.size=l.length:=hz.trans hds
  rw [uH d' hz',uH _ hds] at hpm
  have hof: (Array.ofFn fun i:Fin l.length=>i).toList.map (fun i=>l[i])=l:=by
   rw [Array.toList_ofFn,List.map_ofFn]
   exact List.ofFn_getElem
  refine⟨(hpm.map (fun i=>l[i])).trans (List.Perm.of_eq hof),?_⟩
  rw [List.pairwise_map,mO]
  intro i j hi hj hij
  rw [Array.length_toList] at hi hj
  have:=hs i j (mN _) hij (by rw [<-hz'];exact hj)
  rw [getElem!_pos d' i hi,getElem!_pos d' j hj] at this
  have hij2:=hφ _ (hm (d'[j])) _ (hm (d'[i]))
  have hij3:y5 φ l d'[j] d'[i]=cf l[d'[j]] l[d'[i]]:=by unfold y5;rw [hij2];rfl
  unfold Eb at this
  rw [decide_eq_false_iff_not,hij3] at this
  exact this
 ·rw [dif_neg hn]
  have:l= []:=List.length_eq_zero_iff.1 (by omega)
  subst this
  exact⟨List.Perm.refl _,kO⟩
theorem xl {φ:α->α->Option Int} {x:α} (h:φ x x=some 0):sJ φ [x]=some [x]:=by
 obtain⟨m,h1,h2,_⟩:=vJ (φ:=φ) (l:=[x]) (fun _ _=>0) (fun a ha b hb=>by simp at ha hb;rw [ha,hb];exact h) (fun _ _=>by decide) (fun _ _ _ _ _ _ h=>by simp at h) (fun _ _ _ _ _ _ _ _=>by decide) (by simp)
 rw [h1,List.perm_singleton.1 h2]
theorem wL {l:List Int} (h:l.Pairwise (fun x y=>x<=y)) (hl:l.length<4611686018427387904):pS l=some l:=by
 unfold pS
 rw [aC hl,List.mergeSort_of_pairwise (by simpa using h)]
end
end Go.Gk
namespace Go.Gk
open Go
def z6 (l:List Int) (x:Int):Nat:=l.countP (fun a=>decide (a<=x))
def lJ (l:List Int) (x:Int):Bool:=z6 l x % 2==1
def kY (l:List Int):Prop:=l.Pairwise (· < ·)
theorem yg (x:Int):z6 [] x=0:=rfl
theorem kG (a:Int) (l:List Int) (x:Int):z6 (a::l) x= (if a<=x then 1 else 0)+z6 l x:=by
 unfold z6
 rw [List.countP_cons]
 by_cases h:a<=x <;> simp [h];omega
theorem vK (l m:List Int) (x:Int):z6 (l++m) x=z6 l x+z6 m x:=List.countP_append
theorem Bo {l:List Int} {x:Int} (h: ∀a∈l,a<=x):z6 l x=l.length:=by
 unfold z6;rw [List.countP_eq_length];intro a ha;simpa using h a ha
theorem vL {l:List Int} {x:Int} (h: ∀a∈l,x<a):z6 l x=0:=by
 unfold z6;rw [List.countP_eq_zero];intro a ha;have:=h a ha;simp;omega
theorem tl {l:List Int} {x:Int}:lJ l x=true↔z6 l x % 2=1:=by unfold lJ;simp
theorem tm {l:List Int} {x:Int} (h: ∀a∈l,x<a):lJ l x=false:=by unfold lJ;rw [vL h];rfl
theorem kY.head {a:Int} {l:List Int} (h:kY (a::l)): ∀b∈l,a<b:=(List.pairwise_cons.1 h).1
theorem kY.tail {a:Int} {l:List Int} (h:kY (a::l)):kY l:=(List.pairwise_cons.1 h).2
theorem tn {a:Int} {l:List Int} (h:kY (a::l)):lJ (a::l) a=true:=by
 rw [tl,kG,aC (Int.le_refl _),vL h.head]
theorem vM: ∀{l m:List Int},kY l->kY m->(∀x,lJ l x=lJ m x)->l=m
 | [],[],_,_,_=>rfl
 | [],b::m,_,hm,h=>by have:=h b;rw [tn hm] at this;cases this
 | a::l,[],hl,_,h=>by have:=h a;rw [tn hl] at this;cases this
 | a::l,b::m,hl,hm,h=>by
  have hab:a=b:=by
   rcases Int.lt_trichotomy a b with h1 | h1 | h1
   ·have h2:=h a
    rw [tn hl,tm (l:=b::m) (fun c hc=>by
     rcases ga.1 hc with rfl | hc
     ·exact h1
     ·have:=hm.head c hc;omega)] at h2
    cases h2
   ·exact h1
   ·have h2:=h b
    rw [tn hm,tm (l:=a::l) (fun c hc=>by
     rcases ga.1 hc with rfl | hc
     ·exact h1
     ·have:=hl.head c hc;omega)] at h2
    cases h2
  subst hab
  rw [vM hl.tail hm.tail (fun x=>?_)]
  by_cases hx:a<=x
  ·have h2:=h x
   unfold lJ at h2 ⊢
   rw [kG,kG,aC hx] at h2
   rw [fQ] at h2 ⊢
   simp only [beq_iff_eq] at h2 ⊢
   omega
  ·rw [tm (fun c hc=>by have:=hl.head c hc;omega),tm (fun c hc=>by have:=hm.head c hc;omega)]
theorem tp {l:List Int} {a b:Int} (hl: ∀c∈l,c<a) (he:l.length % 2=0) (hab:a<b) (x:Int):lJ (l++[a,b]) x= (lJ l x||(decide (a<=x)&&decide (x<b))):=by
 rw [fQ,dM,bN,bQ,bQ,tl,tl,vK,kG,kG,yg]
 by_cases h1:a<=x
 ·have h2:z6 l x=l.length:=Bo fun c hc=>by have:=hl c hc;omega
  rw [h2,aC h1]
  by_cases h3:b<=x
  ·rw [aC h3];omega
  ·rw [aD h3];omega
 ·rw [aD h1,aD (by omega)];omega
theorem Dy {l:List Int} {s e a b:Int} (hl: ∀c∈l,c<s) (he:l.length % 2=0) (hs:s<e) (h1:s<=a) (h2:a<=e) (hab:a<b) (x:Int):lJ (l++[s,max e b]) x= (lJ (l++[s,e]) x||(decide (a<=x)&&decide (x<b))):=by
 rw [tp hl he (by omega),tp hl he hs]
 rw [fQ]
 simp only [dM,bN,bQ]
 constructor
 ·rintro(h | h)
  ·exact .inl (.inl h)
  ·by_cases hx:x<e
   ·exact .inl (.inr ⟨h.1,hx⟩)
   ·exact .inr ⟨by omega,by omega⟩
 ·rintro((h | h) | h)
  ·exact .inl h
  ·exact .inr ⟨h.1,by omega⟩
  ·exact .inr ⟨by omega,by omega⟩
theorem kY.snoc {l:List Int} {a b:Int} (h:kY l) (hl: ∀c∈l,c<a) (hab:a<b):kY (l++[a,b]):=by
 unfold kY
 rw [List.pairwise_append]
 refine⟨h,by simp [hab],fun c hc d hd=>?_⟩
 have:=hl c hc
 simp at hd
 rcases hd with rfl | rfl <;> omega
structure Bd where
 y0:Int
 y1:Int
 xs:List Int
def rowAt:List Bd->Int->List Int
 | [],_=>[]
 | b::s,y=>if b.y0<=y/\y<b.y1 then b.xs else rowAt s y
theorem j8 (b:Bd) (s:List Bd) (y:Int):rowAt (b::s) y=if b.y0<=y/\y<b.y1 then b.xs else rowAt s y:=rfl
structure dS (s:List Bd):Prop where
 each: ∀b∈s,b.y0<b.y1/\b.xs≠[]/\kY b.xs/\b.xs.length % 2=0
 ord:s.Pairwise (fun b c=>b.y1<=c.y0/\(b.y1=c.y0->b.xs≠c.xs))
theorem dS.nil:dS []:=⟨fun b h=>by simp at h,kO⟩
theorem dS.tail {b:Bd} {s:List Bd} (h:dS (b::s)):dS s:=⟨fun c hc=>h.each c (jM _ hc),(List.pairwise_cons.1 h.ord).2⟩
theorem jr {s:List Bd} {y:Int} (h: ∀b∈s,y<b.y0\/b.y1<=y):rowAt s y= []:=by
 induction s with
 | nil=>rfl
 | cons b s ih=>
  unfold rowAt
  have:=h b (by simp)
  rw [aD (by omega)]
  exact ih fun c hc=>h c (jM _ hc)
theorem mV (s t:List Bd) (y:Int):rowAt (s++t) y=if (∃b∈s,b.y0<=y/\y<b.y1) then rowAt s y else rowAt t y:=by
 induction s with
 | nil=>simp
 | cons b s ih=>
  rw [List.cons_append,j8,j8]
  by_cases h:b.y0<=y/\y<b.y1
  ·rw [aC h,aC ⟨b,by simp,h⟩,aC h]
  ·rw [aD h,ih]
   by_cases h2: ∃c∈s,c.y0<=y/\y<c.y1
   ·obtain⟨c,hc,hc2⟩:=h2
    rw [aC ⟨c,hc,hc2⟩,aC ⟨c,jM _ hc,hc2⟩,aD h]
   ·rw [aD h2,aD (show ¬∃c∈b::s,c.y0<=y/\y<c.y1 from ?_)]
    rintro⟨c,hc,hc2⟩
    rcases ga.1 hc with rfl | hc
    ·exact h hc2
    ·exact h2 ⟨c,hc,hc2⟩
theorem dS.j9 {b:Bd} {s:List Bd} {y:Int} (h0:b.y0<=y) (h1:y<b.y1):rowAt (b::s) y=b.xs:=by unfold rowAt;rw [aC ⟨h0,h1⟩]
theorem dS.vN {b:Bd} {s:List Bd} (h:dS (b::s)): ∀c∈s,b.y1<=c.y0:=fun c hc=>((List.pairwise_cons.1 h.ord).1 c hc).1
theorem dS.qY {b:Bd} {s:List Bd} (h:dS (b::s)) {y:Int} (hy:y<b.y0):rowAt (b::s) y= []:=jr fun c hc=>by
 rcases ga.1 hc with rfl | hc
 ·exact .inl hy
 ·have:=h.vN c hc;have:=(h.each b (by simp)).1;exact .inl (by omega)
theorem dS.Bp {b:Bd} {s:List Bd} (h:dS (b::s)):rowAt (b::s) b.y1≠b.xs:=by
 rw [j8,aD (by omega)]
 cases s with
 | nil=>exact fun e=>(h.each b (by simp)).2.1 e.symm
 | cons c s=>
  have h1:=(List.pairwise_cons.1 h.ord).1 c (by simp)
  by_cases e:b.y1=c.y0
  ·rw [dS.j9 (by omega) (by have:=(h.tail.each c (by simp)).1;omega)]
   exact fun h=>h1.2 e h.symm
  ·rw [h.tail.qY (by have:=h1.1;omega)]
   exact fun e=>(h.each b (by simp)).2.1 e.symm
theorem vO: ∀{s t:List Bd},dS s->dS t->(∀y,rowAt s y=rowAt t y)->s=t
 | [],[],_,_,_=>rfl
 | [],c::t,_,ht,h=>by
  have hc:=ht.each c (by simp)
  have:=h c.y0
  rw [dS.j9 (Int.le_refl _) hc.1] at this
  exact absurd this.symm hc.2.1
 | b::s,[],hs,_,h=>by
  have hb:=hs.each b (by simp)
  have:=h b.y0
  rw [dS.j9 (Int.le_refl _) hb.1] at this
  exact absurd this hb.2.1
 | b::s,c::t,hs,ht,h=>by
  have hb:=hs.each b (by simp)
  have hc:=ht.each c (by simp)
  have e0:b.y0=c.y0:=by
   rcases Int.lt_trichotomy b.y0 c.y0 with h1 | h1 | h1
   ·have h2:=h b.y0
    rw [dS.j9 (Int.le_refl _) hb.1,ht.qY h1] at h2
    exact absurd h2 hb.2.1
   ·exact h1
   ·have h2:=h c.y0
    rw [dS.j9 (Int.le_refl _) hc.1,hs.qY h1] at h2
    exact absurd h2.symm hc.2.1
  have ex:b.xs=c.xs:=by
   have h2:=h b.y0
   rw [dS.j9 (Int.le_refl _) hb.1,dS.j9 (by omega) (by omega)] at h2
   exact h2
  have e1:b.y1=c.y1:=by
   rcases Int.lt_trichotomy b.y1 c.y1 with h1 | h1 | h1
   ·have h2:=h b.y1
    rw [dS.j9 (b:=c) (by omega) h1] at h2
    exact absurd (h2.trans ex.symm) hs.Bp
   ·exact h1
   ·have h2:=h c.y1
    rw [dS.j9 (b:=b) (by omega) h1] at h2
    exact absurd (h2.symm.trans ex) ht.Bp
  have ebc:b=c:=by cases b;cases c;simp_all
  subst ebc
  rw [vO hs.tail ht.tail (fun y=>?_)]
  by_cases hy:b.y1<=y
  ·have h2:=h y
   unfold rowAt at h2
   rw [aD (by omega),aD (by omega)] at h2
   exact h2
  ·rw [jr (fun d hd=>by have:=hs.vN d hd;exact .inl (by omega)),jr (fun d hd=>by have:=ht.vN d hd;exact .inl (by omega))]
def tq (s:List Bd) (x y:Int):Bool:=lJ (rowAt s y) x
theorem xm {s:List Bd} (h: ∀b∈s,kY b.xs) (y:Int):kY (rowAt s y):=by
 induction s with
 | nil=>exact kO
 | cons b s ih=>
  unfold rowAt
  split
  ·exact h b (by simp)
  ·exact ih fun c hc=>h c (jM _ hc)
theorem vP {s t:List Bd} (hs:dS s) (ht:dS t) (h: ∀x y,tq s x y=tq t x y):s=t:=
 vO hs ht fun y=>vM (xm (fun b hb=>(hs.each b hb).2.2.1) y) (xm (fun b hb=>(ht.each b hb).2.2.1) y) fun x=>h x y
def ld (s:List Bd) (b:Bd):List Bd:=
 if b.xs= []\/b.y1<=b.y0 then s else
  match s.getLast? with
  | some c=>if c.y1=b.y0/\c.xs=b.xs then s.dropLast++[⟨c.y0,b.y1,c.xs⟩] else s++[b]
  | none=>[b]
theorem pg {α:Type} {s:List α} {c:α} (h:s.getLast? =some c):s=s.dropLast++[c]:=by
 have hne:s≠[]:=fun e=>by rw [e] at h;cases h
 rw [List.getLast?_eq_some_getLast hne] at h
 injection h with h
 rw [<-h];exact(List.dropLast_concat_getLast hne).symm
theorem uj {s:List Bd} {b:Bd} (hs: ∀c∈s,c.y1<=b.y0) (hg: ∀c∈s,c.y0<c.y1) (hb:b.y1<=b.y0->b.y1=b.y0) (y:Int):rowAt (ld s b) y=if b.y0<=y/\y<b.y1 then b.xs else rowAt s y:=by
 have key: ∀(s:List Bd) (c:Bd),(∀d∈s,d.y1<=c.y0)->rowAt (s++[c]) y=if c.y0<=y/\y<c.y1 then c.xs else rowAt s y:=by
  intro s c h
  rw [mV]
  by_cases h1:c.y0<=y/\y<c.y1
  ·rw [aC h1,aD (by rintro⟨d,hd,hd2⟩;have:=h d hd;omega),dS.j9 h1.1 h1.2]
  ·rw [aD h1]
   by_cases h2: ∃d∈s,d.y0<=y/\y<d.y1
   ·rw [aC h2]
   ·rw [aD h2,j8,aD h1]
    refine(show rowAt [] y=_ from (jr (s:=s) fun d hd=>?_).symm)
    by_cases h3:d.y0<=y
    ·exact .inr (by have: ¬(d.y0<=y/\y<d.y1):=fun h4=>h2 ⟨d,hd,h4⟩;omega)
    ·exact .inl (by omega)
 unfold ld
 by_cases h0:b.xs= []\/b.y1<=b.y0
 ·rw [aC h0]
  by_cases h1:b.y0<=y/\y<b.y1
  ·rw [aC h1]
   rcases h0 with h0 | h0
   ·rw [h0];exact jr fun c hc=> .inr (by have:=hs c hc;omega)
   ·omega
  ·rw [aD h1]
 ·rw [aD h0]
  cases hl:s.getLast? with
  | none=>
   have:s= []:=by simpa using hl
   subst this
   rfl
  | some c=>
   dsimp only
   have hsp:=pg hl
   have hcm:c∈s:=by rw [hsp];simp
   by_cases h1:c.y1=b.y0/\c.xs=b.xs
   ·rw [aC h1]
    have hd: ∀d∈s.dropLast,d.y1<=c.y0\/True:=fun _ _=> .inr trivial
    rw [mV]
    have hrow:rowAt s y=if (∃d∈s.dropLast,d.y0<=y/\y<d.y1) then rowAt s.dropLast y else (if c.y0<=y/\y<c.y1 then c.xs else []):=by
     conv=>lhs;rw [hsp]
     rw [mV];rfl
    rw [hrow]
    have hcg:=hg c hcm
    by_cases h2: ∃d∈s.dropLast,d.y0<=y/\y<d.y1
    ·obtain⟨d,hd,hd2⟩:=h2
     have:=hs d (List.dropLast_subset _ hd)
     have he: ∃d∈s.dropLast,d.y0<=y/\y<d.y1:=⟨d,hd,hd2⟩
     rw [aC he,aC he,aD (by omega)]
    ·rw [aD h2,aD h2]
     show (if c.y0<=y/\y<b.y1 then c.xs else [])=_
     by_cases h3:b.y0<=y/\y<b.y1
     ·rw [aC h3,aC ⟨by omega,h3.2⟩,h1.2]
     ·rw [aD h3]
      by_cases h4:c.y0<=y/\y<c.y1
      ·rw [aC h4,aC ⟨h4.1,by omega⟩]
      ·rw [aD h4,aD (by omega)]
   ·rw [aD h1]
    exact key s b hs
theorem uk {s:List Bd} {b:Bd} (h:dS s) (hs: ∀c∈s,c.y1<=b.y0) (hb:kY b.xs) (he:b.xs.length % 2=0):dS (ld s b):=by
 unfold ld
 by_cases h0:b.xs= []\/b.y1<=b.y0
 ·rw [aC h0];exact h
 ·rw [aD h0]
  have hbg:b.y0<b.y1/\b.xs≠[]/\kY b.xs/\b.xs.length % 2=0:=⟨by omega,fun e=>h0 (.inl e),hb,he⟩
  cases hl:s.getLast? with
  | none=>exact⟨fun c hc=>by simp at hc;subst hc;exact hbg,List.pairwise_singleton _ _⟩
  | some c=>
   dsimp only
   have hsp:=pg hl
   have hcm:c∈s:=by rw [hsp];simp
   have hc:=h.each c hcm
   have hord:=h.ord
   rw [hsp,List.pairwise_append] at hord
   by_cases h1:c.y1=b.y0/\c.xs=b.xs
   ·rw [aC h1]
    refine⟨fun d hd=>?_,?_⟩
    ·rcases cJ.1 hd with hd | hd
     ·exact h.each d (List.dropLast_subset _ hd)
     ·simp at hd;subst hd;exact⟨by show c.y0<b.y1;omega,hc.2⟩
    ·rw [List.pairwise_append]
     refine⟨hord.1,List.pairwise_singleton _ _,fun d hd e he=>?_⟩
     simp at he;subst he
     exact hord.2.2 d hd c (by simp)
   ·rw [aD h1]
    refine⟨fun d hd=>?_,?_⟩
    ·rcases cJ.1 hd with hd | hd
     ·exact h.each d hd
     ·simp at hd;subst hd;exact hbg
    ·rw [List.pairwise_append]
     refine⟨h.ord,List.pairwise_singleton _ _,fun d hd e he=>?_⟩
     simp at he;subst he
     refine⟨hs d hd,fun e1 e2=>?_⟩
     rw [hsp] at hd
     rcases cJ.1 hd with hd | hd
     ·have h2:=(hord.2.2 d hd c (by simp)).1
      have:=hs c hcm
      omega
     ·simp at hd;subst hd;exact h1 ⟨e1,e2⟩
theorem um {s:List Bd} {b:Bd} (hs: ∀c∈s,c.y1<=b.y0) (hb:b.y0<=b.y1): ∀c∈ld s b,c.y1<=b.y1:=by
 intro c hc
 unfold ld at hc
 split at hc
 ·have:=hs c hc;omega
 ·split at hc
  ·split at hc
   ·rcases cJ.1 hc with hc | hc
    ·have:=hs c (List.dropLast_subset _ hc);omega
    ·simp at hc;subst hc;exact Int.le_refl _
   ·rcases cJ.1 hc with hc | hc
    ·have:=hs c hc;omega
    ·simp at hc;subst hc;exact Int.le_refl _
  ·simp at hc;subst hc;exact Int.le_refl _
end Go.Gk
namespace Go.Gk
open Go
section
variable {N:Nat}
def bH (b:aA):Bd:=⟨b.Y0,b.Y1,b.Xs⟩
def small (a:Int):Prop:= -1099511627776<=a/\a<=1099511627776
structure z7 (r:aI):Prop where
 x:r.X0<r.X1
 y:r.Y0<r.Y1
 s1:small r.X0
 s2:small r.X1
 s3:small r.Y0
 s4:small r.Y1
def AF (l:List aI) (x:Int):Bool:=l.any (fun r=>decide (r.X0<=x)&&decide (x<r.X1))
def vQ (l:List aI) (x y:Int):Bool:=l.any (fun r=>(decide (r.X0<=x)&&decide (x<r.X1))&&(decide (r.Y0<=y)&&decide (y<r.Y1)))
theorem vR {l:List aI} {x:Int}:AF l x=true↔∃r∈l,r.X0<=x/\x<r.X1:=by unfold AF;simp [kg]
theorem jt {l:List aI} {x y:Int}:vQ l x y=true↔∃r∈l,(r.X0<=x/\x<r.X1)/\r.Y0<=y/\y<r.Y1:=by unfold vQ;simp [kg]
theorem wrap_small {a b:Int} (ha:small a) (hb:small b):IntKind.wrap .i64 (a - b)=a - b:=by unfold small at *;exact eI (by omega) (by omega)
theorem zC {n:Nat} (h:0<n) (hn:n<=4611686018427387904):IntKind.wrap .i64 (((n:Nat):Int) - 1)= ((n - 1:Nat):Int):=k8 h hn
structure Je (out:List Int) (m:List aI) (k:Nat):Prop where
 row: (k=0/\out= [])\/∃A s e,out=A++[s,e]/\kY A/\(∀c∈A,c<s)/\A.length % 2=0/\s<e/\∃j r,j<k/\m[j]? =some r/\s=r.X0
 lJ: ∀x,lJ out x=AF (m.take k) x
 len:out.length<=2*k
 mem: ∀c∈out,∃r∈m,c=r.X0\/c=r.X1
theorem uo (l:List aI) (r:aI) (x:Int):AF (l++[r]) x= (AF l x||(decide (r.X0<=x)&&decide (x<r.X1))):=by unfold AF;rw [List.any_append];simp
theorem yh {l:List aI} (hl:l.length<=268435456) (hok: ∀r∈l,z7 r): ∃row l',gO N l=some (row,l')/\l'.Perm l/\kY row/\row.length % 2=0/\(∀x,lJ row x=AF l x)/\row.length<=2*l.length/\∀c∈row,∃r∈l,c=r.X0\/c=r.X1:=by
 unfold gO
 obtain⟨m,h1,h2,h3⟩:=vJ (φ:=fD N) (l:=l) (fun a b=>a.X0 - b.X0) (fun a ha b hb=>by
  unfold fD;rw [wrap_small (hok a ha).s1 (hok b hb).s1]) (fun a _=>by omega) (fun a _ b _ c _ h1 h2=>by omega) (fun a _ b _ c _ h1 h2=>by omega) (by omega)
 have hml:m.length=l.length:=h2.length_eq
 have hmok: ∀r∈m,z7 r:=fun r hr=>hok r (h2.subset hr)
 rw [h1,aB]
 obtain⟨out,a1,a2⟩:=u5 (m:=m.length) (s:=([]:List Int)) (body:=fun(k32:Nat) (s33: (List Int))=>((idx m (k32:Int)).bind fun x79=>(bif (decide ((IntKind.wrap .i64 ((s33.length:Int) - 1))>=0)) then ((idx s33 (IntKind.wrap .i64 ((s33.length:Int) - 1))).bind fun x86=>some (decide (x79.X0<=x86))) else (some false)).bind fun s84=>(bif s84 then ((idx s33 (IntKind.wrap .i64 ((s33.length:Int) - 1))).bind fun x94=>(idx s33 (IntKind.wrap .i64 ((s33.length:Int) - 1))).bind fun x95=>some (s33.set (Int.toNat (IntKind.wrap .i64 ((s33.length:Int) - 1))) (if x94<x79.X1 then x79.X1 else x94))) else ((app 8 s33 ([x79.X0,x79.X1]: (List Int))).bind fun x97=>some x97)).bind fun s92=>some s92:Option ((List Int))))
  (fun k out=>Je out m k) (by omega) ⟨.inl ⟨rfl,rfl⟩,fun x=>rfl,by simp,fun c hc=>by cases hc⟩ (fun k out hk ⟨i1,i2,i3,i4⟩=>by
   have hx:m[k]? =some m[k]:=aK hk
   have hr:=hmok _ (cM hk)
   rw [dK hx,aB]
   have hts:m.take (k+1)=m.take k++[m[k]]:=fA hk
   rcases i1 with ⟨rfl,rfl⟩ | ⟨A,s,e,rfl,hA,hAs,hAe,hse,j,r,hj,hjr,hsr⟩
   ·rw [show decide (IntKind.wrap .i64 (((([]:List Int).length:Nat):Int) - 1)>=0)=false by decide,aS,aB,aS,il (by simp),aB,aB]
    refine⟨_,rfl, .inr ⟨[],_,_,rfl,kO,fun c hc=>by simp at hc,rfl,hr.x,0,m[0],by omega,hx,rfl⟩,fun x=>?_,by simp,fun c hc=>⟨m[0],cM hk,by simpa using hc⟩⟩
    rw [hts,uo,<-i2 x]
    exact tp (l:=[]) (fun c hc=>by simp at hc) rfl hr.x x
   ·have hlen: (A++[s,e]).length=A.length+2:=by simp
    have hwp:IntKind.wrap .i64 ((((A++[s,e]).length:Nat):Int) - 1)= ((A.length+1:Nat):Int):=by rw [zC (by omega) (by omega),hlen];rfl
    have hlast: (A++[s,e])[A.length+1]? =some e:=by rw [eW (by omega)];simp
    have hs:s<=m[k].X0:=by
     have:=mO.1 h3 j k (by have:=(aW.1 hjr).1;omega) hk hj
     rw [hsr,<-(aW.1 hjr).2];omega
    rw [hwp,cB (by omega),aQ,dK hlast,aB,aB]
    by_cases hc:m[k].X0<=e
    ·rw [cB hc,aQ,aB,aB,aB,bP]
     have kV: (A++[s,e]).set (A.length+1) (if e<m[k].X1 then m[k].X1 else e)=A++[s,max e m[k].X1]:=by
      rw [List.set_append_right _ _ (by omega)]
      have:A.length+1 - A.length=1:=by omega
      rw [this,Int.max_def]
      simp only [List.set_cons_succ,List.set_cons_zero]
      congr 2
      split <;> split <;> simp <;> omega
     rw [kV]
     refine⟨_,rfl, .inr ⟨A,s,_,rfl,hA,hAs,hAe,by omega,j,r,by omega,hjr,hsr⟩,fun x=>?_,by simp at i3 ⊢;omega,fun c hc=>by
      rcases cJ.1 hc with h | h
      ·exact i4 c (List.mem_append_left _ h)
      ·simp at h
       rcases h with h | h
       ·exact i4 c (by simp [h])
       ·rw [Int.max_def] at h
        split at h
        ·exact⟨_,cM hk, .inr h⟩
        ·exact i4 c (by simp [h])⟩
     rw [hts,uo,<-i2 x]
     exact Dy hAs hAe hse hs hc hr.x x
    ·rw [bC hc,aS,il (by rw [hlen];simp;omega),aB,aB]
     have hall: ∀c∈A++[s,e],c<m[k].X0:=fun c hc'=>by
      rcases cJ.1 hc' with h | h
      ·have:=hAs c h;omega
      ·simp at h;omega
     refine⟨_,rfl, .inr ⟨A++[s,e],_,_,rfl,hA.snoc hAs hse,hall,by rw [hlen];omega,hr.x,k,m[k],by omega,hx,rfl⟩,fun x=>?_,by simp at i3 ⊢;omega,fun c hc=>by
      rcases cJ.1 hc with h | h
      ·exact i4 c h
      ·exact⟨m[k],cM hk,by simpa using h⟩⟩
     rw [hts,uo,<-i2 x]
     exact tp hall (by rw [hlen];omega) hr.x x)
 rw [a1,aB]
 refine⟨out,m,rfl,h2,?_,?_,fun x=>?_,by rw [<-hml];exact a2.len,fun c hc=>by obtain⟨r,hr,h⟩:=a2.mem c hc;exact⟨r,h2.subset hr,h⟩⟩
 ·rcases a2.row with ⟨_,h⟩ | ⟨A,s,e,rfl,hA,hAs,hAe,hse,_⟩
  ·rw [h];exact kO
  ·exact hA.snoc hAs hse
 ·rcases a2.row with ⟨_,h⟩ | ⟨A,s,e,rfl,hA,hAs,hAe,hse,_⟩
  ·rw [h];rfl
  ·simp;omega
 ·rw [a2.lJ x,fy,fQ,vR,vR]
  constructor
  ·rintro⟨r,hr,h⟩;exact⟨r,h2.subset hr,h⟩
  ·rintro⟨r,hr,h⟩;exact⟨r,h2.symm.subset hr,h⟩
theorem Cc {l m:List Int} (hl:l.length<=4611686018427387904):kj N l m=some (decide (l=m)):=xh hl
theorem Bq {s:List aA} {b:aA} (hs:s.length<=1048576000) (hx: ∀c∈s,c.Xs.length<=1048576000): ∃s',gF N s b=some s'/\s'.map bH=ld (s.map bH) (bH b):=by
 unfold gF ld
 by_cases h0:b.Xs= []\/b.Y1<=b.Y0
 ·have e: ((((b.Xs.length:Nat):Int)==0)||(decide (b.Y1<=b.Y0)))=true:=by
   rw [dM]
   rcases h0 with h | h
   ·left;rw [h];rfl
   ·right;exact cB h
  rw [e,aQ,aC (show (bH b).xs= []\/(bH b).y1<=(bH b).y0 from h0)]
  exact⟨s,rfl,rfl⟩
 ·have e: ((((b.Xs.length:Nat):Int)==0)||(decide (b.Y1<=b.Y0)))=false:=by
   rw [Bool.or_eq_false_iff]
   constructor
   ·rw [beq_eq_false_iff_ne];intro h;exact h0 (.inl (List.eq_nil_of_length_eq_zero (by omega)))
   ·exact bC fun h=>h0 (.inr h)
  rw [e,aS,aD (show ¬((bH b).xs= []\/(bH b).y1<=(bH b).y0) from h0)]
  rcases List.eq_nil_or_concat s with rfl | ⟨A,c,hA⟩
  ·rw [show decide (IntKind.wrap .i64 (((([]:List aA).length:Nat):Int) - 1)>=0)=false by decide,aS,aB,aS,il (by simp),aB]
   exact⟨_,rfl,rfl⟩
  ·rw [List.concat_eq_append] at hA
   subst hA
   have hlen: (A++[c]).length=A.length+1:=by simp
   have hwp:IntKind.wrap .i64 ((((A++[c]).length:Nat):Int) - 1)= ((A.length:Nat):Int):=by rw [zC (by omega) (by omega),hlen];rfl
   have hlast: (A++[c])[A.length]? =some c:=by simp
   rw [hwp,cB (by omega),aQ,dK hlast,aB,aB,Cc (by have:=hx c (by simp);omega),aB,aB,bP,il (by rw [hlen];simp;omega),aB]
   have hl2: ((A++[c]).map bH).getLast? =some (bH c):=by simp
   have hd2: ((A++[c]).map bH).dropLast=A.map bH:=by simp
   rw [hl2,hd2]
   dsimp only
   by_cases h1:c.Y1=b.Y0/\c.Xs=b.Xs
   ·rw [aC (show (bH c).y1= (bH b).y0/\(bH c).xs= (bH b).xs from h1),show (c.Y1==b.Y0)=true by rw [h1.1];simp,aQ,cB h1.2,aB,aQ]
    refine⟨_,rfl,?_⟩
    rw [List.set_append_right _ _ (bI _),Nat.sub_self]
    simp [bH]
   ·rw [aD (show ¬((bH c).y1= (bH b).y0/\(bH c).xs= (bH b).xs) from h1)]
    have e2: (bif (c.Y1==b.Y0) then (some (decide (c.Xs=b.Xs))) else (some false))=some false:=by
     by_cases h2:c.Y1=b.Y0
     ·rw [show (c.Y1==b.Y0)=true by rw [h2];simp,aQ,bC (fun h=>h1 ⟨h2,h⟩)]
     ·rw [show (c.Y1==b.Y0)=false by simpa using h2,aS]
    rw [e2,aB,aS]
    exact⟨_,rfl,by simp⟩
end
end Go.Gk
namespace Go.Gk
open Go
def nU (l:List (Int×Int)):List Int:=l.flatMap fun s=>[s.1,s.2]
def Cd (l:List (Int×Int)) (x:Int):Bool:=l.any fun s=>decide (s.1<=x)&&decide (x<s.2)
theorem lZ (s:Int×Int) (l:List (Int×Int)):nU (s::l)=s.1::s.2::nU l:=rfl
theorem Ce (l:List (Int×Int)): (nU l).length=2*l.length:=by
 induction l with
 | nil=>rfl
 | cons s l ih=>rw [lZ,kN,kN,kN,ih];omega
theorem Cf (s:Int×Int) (l:List (Int×Int)) (x:Int):Cd (s::l) x= ((decide (s.1<=x)&&decide (x<s.2))||Cd l x):=rfl
theorem vS {l:List (Int×Int)} {x:Int}:Cd l x=true↔∃s∈l,s.1<=x/\x<s.2:=by
 unfold Cd;simp
theorem Cg {a b:Int} {m:List Int} (h:kY (a::b::m)) (x:Int):lJ (a::b::m) x= ((decide (a<=x)&&decide (x<b))||lJ m x):=by
 have hab:a<b:=h.head b (by simp)
 have hm:=h.tail.head
 rw [fQ,dM,bN,bQ,bQ,tl,tl,kG,kG]
 by_cases h1:a<=x
 ·rw [aC h1]
  by_cases h2:b<=x
  ·rw [aC h2];omega
  ·rw [aD h2,vL (fun c hc=>by have:=hm c hc;omega)];omega
 ·rw [aD h1,aD (by omega)];omega
theorem tr: ∀{l:List (Int×Int)},kY (nU l)->∀x,lJ (nU l) x=Cd l x
 | [],_,x=>rfl
 | s::l,h,x=>by
  rw [lZ] at h ⊢
  rw [Cg h,Cf,tr h.tail.tail]
end Go.Gk
namespace Go.Gk
open Go
end Go.Gk
namespace Go.Gk
open Go
def Ok {β:Type} (o:Option β) (P:β->Prop):Prop:=∃r,o=some r/\P r
section
variable {α β S R:Type} {P:α->Prop} {Q:β->Prop}
theorem Ok.ret {x:β} (h:Q x):Ok (some x) Q:=⟨x,rfl,h⟩
theorem Ok.of {o:Option β} {x:β} (h:o=some x) (hq:Q x):Ok o Q:=⟨x,h,hq⟩
theorem Ok.mono {o:Option α} {P':α->Prop} (h:Ok o P) (k: ∀x,P x->P' x):Ok o P':=by obtain⟨x,h1,h2⟩:=h;exact⟨x,h1,k x h2⟩
theorem Ok.bind {o:Option α} {f:α->Option β} (h:Ok o P) (k: ∀x,P x->Ok (f x) Q):Ok (o.bind f) Q:=by
 obtain⟨x,h1,h2⟩:=h;rw [h1];exact k x h2
theorem Ok.eq {o:Option α} {f:α->Option β} {x:α} (h:o=some x) (k:Ok (f x) Q):Ok (o.bind f) Q:=by rw [h];exact k
theorem Ok.bif {b:Bool} {x y:Option β} (ht:b=true->Ok x Q) (hf:b=false->Ok y Q):Ok (bif b then x else y) Q:=by
 cases b with
 | true=>exact ht rfl
 | false=>exact hf rfl
theorem Ok.get {o:Option β} {x:β} (h:Ok o (fun r=>r=x)):o=some x:=by obtain⟨r,h1,h2⟩:=h;rw [h1,h2]
def Hp (Go:S->Prop) (Rt:R->Prop):Fo S R->Prop | .go s=>Go s | .rt r=>Rt r
def Fa (Nx Br:S->Prop) (Rt:R->Prop):Fl S R->Prop | .nx s=>Nx s | .br s=>Br s | .rt r=>Rt r
theorem Ok.nx {Nx Br:S->Prop} {Rt:R->Prop} {s:S} (h:Nx s):Ok (some (Fl.nx s)) (Fa Nx Br Rt):=⟨_,rfl,h⟩
theorem Ok.br {Nx Br:S->Prop} {Rt:R->Prop} {s:S} (h:Br s):Ok (some (Fl.br s)) (Fa Nx Br Rt):=⟨_,rfl,h⟩
theorem Ok.rt {Nx Br:S->Prop} {Rt:R->Prop} {r:R} (h:Rt r):Ok (some (Fl.rt r:Fl S R)) (Fa Nx Br Rt):=⟨_,rfl,h⟩
theorem Ok.cs {Go:S->Prop} {Rt:R->Prop} {o:Fo S R} {f:S->Option β} {g:R->Option β} (h:Hp Go Rt o) (hf: ∀s,Go s->Ok (f s) Q) (hg: ∀r,Rt r->Ok (g r) Q):Ok (o.cs f g) Q:=by
 cases o with
 | go s=>exact hf s h
 | rt r=>exact hg r h
theorem Ok.jS {body:Nat->S->Option S} {m:Nat} {s:S} (Inv:Nat->S->Prop) (hm:m<=4611686018427387904) (h0:Inv 0 s) (h: ∀k s,k<m->Inv k s->Ok (body k s) (Inv (k+1))):Ok (jS m body s) (Inv m):=
 u5 Inv hm h0 h
theorem Ok.oW {body:Nat->S->Option (Fl S R)} {m:Nat} {s:S} (Inv:Nat->S->Prop) {Go:S->Prop} {Rt:R->Prop} (hm:m<=4611686018427387904) (h0:Inv 0 s)
  (h: ∀k s,k<m->Inv k s->Ok (body k s) (Fa (Inv (k+1)) Go Rt)) (hg: ∀s,Inv m s->Go s):Ok (oW m body s) (Hp Go Rt):=by
 obtain⟨o,h1,h2⟩:=EF (R:=R) Inv Go Rt hm h0 (fun k s hk hi=>by
  obtain⟨fl,a1,a2⟩:=h k s hk hi
  exact⟨fl,a1,by cases fl <;> exact a2⟩) hg
 exact⟨o,h1,by cases o <;> exact h2⟩
theorem Ok.mZ {body:S->Option (Fl S R)} {N:Nat} {s:S} (Inv:S->Prop) (μ:S->Nat) {Go:S->Prop} {Rt:R->Prop}
  (h: ∀s,Inv s->Ok (body s) (Fa (fun s'=>Inv s'/\μ s'<μ s) Go Rt)) (hi:Inv s) (hn:μ s<N):Ok (mZ body N s) (Hp Go Rt):=by
 obtain⟨o,h1,h2⟩:=sX (R:=R) Inv μ Go Rt (fun s hi=>by
  obtain⟨fl,a1,a2⟩:=h s hi
  exact⟨fl,a1,by cases fl <;> exact a2⟩) N s hi hn
 exact⟨o,h1,by cases o <;> exact h2⟩
theorem Ok.app {b:Nat} {l ys:List α} {f:List α->Option β} (h: (l.length+ys.length)*b<=140737488355328) (k:Ok (f (l++ys)) Q):Ok ((Go.Gk.app b l ys).bind f) Q:=by rw [il h];exact k
theorem Ok.idx {l:List α} {i:Nat} {f:α->Option β} (h:i<l.length) (k:Ok (f l[i]) Q):Ok ((Go.Gk.idx l ((i:Nat):Int)).bind f) Q:=by rw [iV l i h];exact k
theorem Ok.ix {l:List α} {i:Nat} {x:α} {f:α->Option β} (h:l[i]? =some x) (k:Ok (f x) Q):Ok ((Go.Gk.idx l ((i:Nat):Int)).bind f) Q:=by rw [dK h];exact k
end
theorem zD {n:Nat} (h:n<=4611686018427387904):IntKind.wrap .i64 ((n:Nat):Int)= ((n:Nat):Int):=eI (by omega) (by omega)
theorem wrap_add {n m:Nat} (h:n+m<=4611686018427387904):IntKind.wrap .i64 (((n:Nat):Int)+ ((m:Nat):Int))= ((n+m:Nat):Int):=by rw [eI (by omega) (by omega)];simp
theorem gT {n:Nat} (h:n+1<=4611686018427387904):IntKind.wrap .i64 (((n:Nat):Int)+1)= ((n+1:Nat):Int):=by rw [eI (by omega) (by omega)];simp
theorem xn {n:Nat} (h:n+2<=4611686018427387904):IntKind.wrap .i64 (((n:Nat):Int)+2)= ((n+2:Nat):Int):=by rw [eI (by omega) (by omega)];simp
theorem dW {α:Type} [DecidableEq α]: ∀{l m:List α},l.Nodup->(∀x∈l,x∈m)->l.length<=m.length
 | [],m,_,_=>mN _
 | a::l,m,hn,hs=>by
  have ha:a∈m:=hs a (by simp)
  have hn':=List.nodup_cons.1 hn
  have:=dW (l:=l) (m:=m.erase a) hn'.2 (fun x hx=>by
   rw [List.mem_erase_of_ne (fun e=>hn'.1 (by rw [<-e];exact hx))]
   exact hs x (jM _ hx))
  rw [List.length_erase_of_mem ha] at this
  have:=List.length_pos_of_mem ha
  simp;omega
section
variable {α:Type} {N:Nat}
def Hq (z:α) (N:Nat) (p0:List α) (p1:α->Option Bool):Option (List α):=
 (pf p0 p1).bind fun x31=>bif (x31==(-1)) then (some p0) else ((mZ (fun(s33: (List α)×Int×Int)=>(bif (decide (s33.2.2< (s33.1.length:Int))) then ((idx s33.1 s33.2.2).bind fun x54=>(p1 x54).bind fun x58=>(bif (!x58) then ((idx s33.1 s33.2.1).bind fun x63=>some ((s33.1.set (Int.toNat s33.2.1) x54),(IntKind.wrap .i64 (s33.2.1+1)))) else (some (s33.1,s33.2.1))).bind fun s61=>some (.nx (s61.1,s61.2,(IntKind.wrap .i64 (s33.2.2+1))))) else (some (.br (s33.1,s33.2.1,s33.2.2))):Option (Fl ((List α)×Int×Int) Empty))) N (p0,x31,(IntKind.wrap .i64 (x31+1)))).bind fun o67=>o67.cs (fun(s33: (List α)×Int×Int)=>(rG s33.1 s33.2.1 (s33.1.length:Int)).bind fun x64=>(rG (s33.1.take (Int.toNat s33.2.1)++List.replicate (s33.1.length - Int.toNat s33.2.1) z) 0 s33.2.1).bind fun x65=>some x65) (fun r=>r.elim))
theorem Dz {z:α} {l:List α} {φ:α->Option Bool} (p:α->Bool) (hφ: ∀x∈l,φ x=some (p x)) (hl:l.length<=4611686018427387000) (hN:l.length<N):Hq z N l φ=some (l.filter (fun x=> !p x)):=by
 unfold Hq
 rw [oc p (by omega) hφ,aB]
 rcases qX l p with ⟨h1,h2⟩ | ⟨k,x,h1,h2,h3,h4⟩
 ·rw [h1]
  have:l.filter (fun x=> !p x)=l:=List.filter_eq_self.2 fun a ha=>by rw [h2 a ha];rfl
  rw [this];rfl
 ·rw [h1,show (((k:Nat):Int)== -1)=false by simp,aS]
  have hk:=(aW.1 h2).1
  have hpre: (l.take k).filter (fun x=> !p x)=l.take k:=List.filter_eq_self.2 fun a ha=>by
   obtain⟨j,hj⟩:=fS ha
   have hjk:j<k:=by have:=(aW.1 hj).1;rw [cP] at this;omega
   rw [List.getElem?_take_of_lt hjk] at hj
   rw [h4 j a hjk hj];rfl
  have hst:l.take (k+1)=l.take k++[x]:=by
   rw [fA hk];congr 1
   have:=(aW.1 h2).2;rw [this]
  have hk1:IntKind.wrap .i64 (((k:Nat):Int)+1)= ((k+1:Nat):Int):=by rw [eI (by omega) (by omega)];omega
  rw [hk1]
  obtain⟨o,a1,a2⟩:=sX (S:=(List α)×Int×Int) (R:=Empty) (body:=fun(s33: (List α)×Int×Int)=>(bif (decide (s33.2.2< (s33.1.length:Int))) then ((idx s33.1 s33.2.2).bind fun x54=>(φ x54).bind fun x58=>(bif (!x58) then ((idx s33.1 s33.2.1).bind fun x63=>some ((s33.1.set (Int.toNat s33.2.1) x54),(IntKind.wrap .i64 (s33.2.1+1)))) else (some (s33.1,s33.2.1))).bind fun s61=>some (.nx (s61.1,s61.2,(IntKind.wrap .i64 (s33.2.2+1))))) else (some (.br (s33.1,s33.2.1,s33.2.2))):Option (Fl ((List α)×Int×Int) Empty)))
   (fun s=>∃i j:Nat,s.2.1= ((i:Nat):Int)/\s.2.2= ((j:Nat):Int)/\i<j/\j<=l.length/\s.1.length=l.length/\s.1.take i= (l.take j).filter (fun x=> !p x)/\∀m,j<=m->s.1[m]? =l[m]?)
   (fun s=>l.length - s.2.2.toNat) (fun s=>∃i:Nat,s.2.1= ((i:Nat):Int)/\i<=l.length/\s.1.length=l.length/\s.1.take i=l.filter (fun x=> !p x)) (fun _=>True) (fun s ⟨i,j,e1,e2,hij,hj,hlen,ht,hd⟩=>by
    obtain⟨s,a,b⟩:=s
    dsimp only at e1 e2 hlen ht hd ⊢
    subst e1;subst e2
    by_cases hlt:j<l.length
    ·rw [cB (by rw [hlen];omega),aQ]
     have hx:s[j]? =some l[j]:=by rw [hd j (bI _)];exact aK hlt
     have w1:IntKind.wrap .i64 (((j:Nat):Int)+1)= ((j+1:Nat):Int):=by rw [eI (by omega) (by omega)];omega
     have w2:IntKind.wrap .i64 (((i:Nat):Int)+1)= ((i+1:Nat):Int):=by rw [eI (by omega) (by omega)];omega
     have hs2:l.take (j+1)=l.take j++[l[j]]:=fA hlt
     rw [dK hx,aB,hφ _ (cM hlt),aB,w1]
     cases hp:p l[j] with
     | true=>
      refine⟨.nx (s,((i:Nat):Int),((j+1:Nat):Int)),by rw [l9,aS,aB],⟨i,j+1,rfl,rfl,by omega,by omega,hlen,?_,fun m hm=>hd m (by omega)⟩,?_⟩
      ·rw [hs2,iU,ht];simp [hp]
      ·simp only [bP];omega
     | false=>
      refine⟨.nx (s.set i l[j],((i+1:Nat):Int),((j+1:Nat):Int)),by rw [mP,aQ,iV _ _ (by omega),aB,bP,w2,aB],⟨i+1,j+1,rfl,rfl,by omega,by omega,by simp [hlen],?_,fun m hm=>?_⟩,?_⟩
      ·rw [hs2,iU,<-ht]
       have: (s.set i l[j]).take (i+1)=s.take i++[l[j]]:=by
        rw [fA (by simp;omega),List.take_set_of_le (bI _)];simp
       rw [this];simp [hp]
      ·rw [eO,aD (by omega)];exact hd m (by omega)
      ·simp only [bP];omega
    ·rw [bC (by rw [hlen];omega),aS]
     have hje:j=l.length:=by omega
     subst hje
     rw [fy] at ht
     exact⟨.br (s,((i:Nat):Int),((l.length:Nat):Int)),rfl,i,rfl,by omega,hlen,ht⟩)
   N (l,((k:Nat):Int),((k+1:Nat):Int)) ⟨k,k+1,rfl,rfl,by omega,by omega,rfl,by rw [hst,iU,hpre];simp [h3],fun _ _=>rfl⟩ (by simp only [bP];omega)
  rw [a1,aB]
  cases o with
  | rt r=>exact r.elim
  | go s=>
   obtain⟨i,e1,hi,hlen,ht⟩:=a2
   obtain⟨s,a,b⟩:=s
   dsimp only at e1 hlen ht
   subst e1
   simp only [Fo.cs]
   rw [sZ _ _ (by omega),aB,bP,sY _ _ (by simp;omega),aB,List.take_append_of_le_length (by simp;omega),List.take_take,Nat.min_self,ht]
end
section
variable {κ ν:Type} [DecidableEq κ]
theorem iG (m:List (κ×ν)) (k k':κ) (x z:ν):cZ (n0 m k x) k' z=if k'=k then x else cZ m k' z:=by
 induction m with
 | nil=>unfold n0 cZ;by_cases h:k'=k <;> simp [h]
 | cons p m ih=>
  unfold n0
  by_cases h:k=p.1
  ·rw [aC h]
   by_cases h':k'=k
   ·subst h';simp [cZ]
   ·simp only [cZ,List.find?_cons,aD h',bC h']
    rw [bC (fun e=>h' (e.trans h.symm))]
  ·rw [aD h]
   by_cases h':k'=p.1
   ·have:k'≠k:=fun e=>h (e.symm.trans h')
    simp only [cZ,List.find?_cons,cB h',aD this]
   ·unfold cZ at ih ⊢
    simp only [List.find?_cons,bC h']
    exact ih
theorem kr (m:List (κ×ν)) (k k':κ) (x:ν):iu (n0 m k x) k'= (decide (k'=k)||iu m k'):=by
 induction m with
 | nil=>unfold n0 iu;simp
 | cons p m ih=>
  unfold n0
  by_cases h:k=p.1
  ·rw [aC h]
   by_cases h':k'=k
   ·simp [iu,h']
   ·simp only [iu,List.any_cons,bC h',Bool.false_or]
    rw [bC (fun e=>h' (e.trans h.symm)),Bool.false_or]
  ·rw [aD h]
   unfold iu at ih ⊢
   simp only [List.any_cons]
   rw [ih]
   cases decide (k'=p.1) <;> cases decide (k'=k) <;> simp
end
end Go.Gk
namespace Go.Gk
open Go
section
variable {N:Nat}
theorem vT (l:List Int) (a b:Nat) (h:a+b<l.length):Ak l ((a:Nat):Int) ((b:Nat):Int)=some l[a+b]:=by
 unfold Ak
 rw [aC (by omega),show ((a:Nat):Int)+ ((b:Nat):Int)= ((a+b:Nat):Int) by omega,iV _ _ h]
theorem kY.DA {l:List Int} {a:Int} (h:kY l) (hl: ∀c∈l,c<a):kY (l++[a]):=by
 unfold kY
 rw [List.pairwise_append]
 exact⟨h,List.pairwise_singleton _ _,fun c hc d hd=>by simp at hd;subst hd;exact hl c hc⟩
theorem kY.last {l:List Int} {a:Int} (h:kY l) (hl:l.getLast? =some a): ∀c∈l,c<=a:=by
 intro c hc
 have hs:=pg hl
 rw [hs] at h hc
 rcases cJ.1 hc with h1 | h1
 ·have:=(List.pairwise_append.1 h).2.2 c h1 a (by simp);omega
 ·simp at h1;omega
theorem yi {l:List Int} (hs:l.Pairwise (fun x y=>x<=y)) (hl:l.length<=4611686018427387000) (hN:l.length<N):
  Ok (fC N l) (fun m=>kY m/\∀c,c∈m↔c∈l):=by
 unfold fC
 refine Ok.bif (fun h2=>Ok.ret ⟨?_,fun c=>Iff.rfl⟩) (fun h2=>?_)
 ·have h2:=of_decide_eq_true h2
  match l,h2 with
  | [],_=>exact kO
  | [a],_=>exact List.pairwise_singleton _ _
  | a::b::l,h2=>simp at h2;omega
 ·have h2:=of_decide_eq_false h2
  have le: ∀(i j:Nat) (x y:Int),i<j->l[i]? =some x->l[j]? =some y->x<=y:=fun i j x y hij hx hy=>by
   have:=mO.1 hs i j (aW.1 hx).1 (aW.1 hy).1 hij
   rw [(aW.1 hx).2,(aW.1 hy).2] at this;exact this
  refine Ok.bind (Ok.mZ (Go:=fun _=>kY l) (Rt:=fun m=>kY m/\∀c,c∈m↔c∈l) (fun s=>∃k:Nat,s= ((k:Nat):Int)/\1<=k/\k<=l.length/\kY (l.take k)) (fun s=>l.length - s.toNat) ?_ ⟨1,rfl,bI _,by omega,?_⟩ (by simp;omega)) ?_
  ·rintro s ⟨k,rfl,hk1,hkl,hinc⟩
   refine Ok.bif (fun h=>?_) (fun h=>Ok.br ?_)
   ·have hk:k<l.length:=by have:=of_decide_eq_true h;omega
    refine Ok.idx hk ?_
    rw [k8 hk1 (by omega)]
    refine Ok.idx (by omega) ?_
    refine Ok.bif (fun he=>?_) (fun he=>?_)
    ·have he:l[k]=l[k - 1]:=by simpa using he
     refine Ok.eq (sZ l k hkl) ?_
     refine Ok.bind (Ok.mZ (Go:=fun s=>∃i:Nat,s.2.1= ((i:Nat):Int)/\i<=l.length/\s.1.length=l.length/\kY (s.1.take i)/\∀c,c∈s.1.take i↔c∈l) (Rt:=fun _=>True)
      (fun s=>∃i j:Nat,s.2.1= ((i:Nat):Int)/\s.2.2= ((j:Nat):Int)/\1<=j/\k+j<=l.length/\i<=k+j - 1/\s.1.length=l.length/\kY (s.1.take i)/\(s.1.take i).getLast? =l[k+j - 1]? /\
       (∀c,c∈s.1.take i↔c∈l.take (k+j))/\∀m,k+j - 1<=m->s.1[m]? =l[m]?) (fun s=>l.length - s.2.2.toNat) ?_ ?_ (by simp;omega)) ?_
     ·rintro⟨u,a,b⟩ ⟨i,j,e1,e2,hj,hjl,hij,hlen,hi,hlast,hmem,hrest⟩
      dsimp only at e1 e2 hlen hi hlast hmem hrest ⊢
      subst e1;subst e2
      rw [bP]
      refine Ok.bif (fun h=>?_) (fun h=>Ok.br ?_)
      ·have hlt:k+j<l.length:=by have:=of_decide_eq_true h;omega
       have hx:u[k+j]'(by omega)=l[k+j]:=by have:=hrest (k+j) (by omega);rw [aK (by omega),aK hlt] at this;injection this
       have hy:u[k+ (j - 1)]'(by omega)=l[k+ (j - 1)]:=by have:=hrest (k+ (j - 1)) (by omega);rw [aK (by omega),aK (by omega)] at this;injection this
       refine Ok.eq (vT u k j (by omega)) ?_
       rw [k8 hj (by omega)]
       refine Ok.eq (vT u k (j - 1) (by omega)) ?_
       rw [hx,hy]
       have hts:l.take (k+j+1)=l.take (k+j)++[l[k+j]]:=fA hlt
       have hlast': (u.take i).getLast? =some l[k+ (j - 1)]:=by rw [hlast,show k+j - 1=k+ (j - 1) by omega,aK (by omega)]
       have hxy:l[k+ (j - 1)]<=l[k+j]:=le (k+ (j - 1)) (k+j) _ _ (by omega) (aK _) (aK _)
       refine Ok.bind (P:=fun s'=>s'.1.length=l.length/\∃i':Nat,s'.2= ((i':Nat):Int)/\i'<=k+j/\kY (s'.1.take i')/\(s'.1.take i').getLast? =l[k+j]? /\(∀c,c∈s'.1.take i'↔c∈l.take (k+j+1))/\∀m,k+j<=m->s'.1[m]? =l[m]?) ?_ ?_
       ·refine Ok.bif (fun hne=>?_) (fun hne=>Ok.ret ?_)
        ·have hne:l[k+j]≠l[k+ (j - 1)]:=by simpa using hne
         refine Ok.eq (vT u k j (by omega)) ?_
         rw [hx]
         refine Ok.idx (by omega) (Ok.ret ⟨by simp [hlen],i+1,?_,by omega,?_⟩)
         ·rw [gT (by omega)]
         ·dsimp only
          rw [bP]
          have ht: (u.set i l[k+j]).take (i+1)=u.take i++[l[k+j]]:=by
           rw [fA (by simp;omega),List.take_set_of_le (bI _)];simp
          rw [ht]
          refine⟨hi.DA fun c hc=>?_,by simp [aK hlt],fun c=>?_,fun m hm=>?_⟩
          ·have:=hi.last hlast' c hc;omega
          ·rw [hts,cJ,cJ,hmem]
          ·rw [eO,aD (by omega)];exact hrest m (by omega)
        ·have he:l[k+j]=l[k+ (j - 1)]:=by simpa using hne
         refine⟨hlen,i,rfl,by omega,hi,?_,fun c=>?_,fun m hm=>hrest m (by omega)⟩
         ·dsimp only;rw [hlast',aK hlt,he]
         ·rw [hts,cJ,<-hmem]
          constructor
          ·exact .inl
          ·rintro(h | h)
           ·exact h
           ·simp at h;subst h
            rw [he];exact List.mem_of_getLast? hlast'
       ·rintro⟨v,a⟩ ⟨g1,i',g2,g3,g4,g5,g6,g7⟩
        dsimp only at g1 g2 g4 g5 g6 g7 ⊢
        refine Ok.nx ⟨⟨i',j+1,g2,?_,by omega,by omega,by omega,g1,g4,?_,g6,fun m hm=>g7 m (by omega)⟩,?_⟩
        ·rw [gT (by omega)]
        ·rw [show k+ (j+1) - 1=k+j by omega];exact g5
        ·rw [gT (by omega)];simp only [bP];omega
      ·have hge:k+j=l.length:=by have:=of_decide_eq_false h;omega
       refine⟨i,rfl,by omega,hlen,hi,fun c=>?_⟩
       rw [hmem,hge,fy]
     ·refine⟨k,1,rfl,rfl,bI _,by omega,by omega,rfl,hinc,?_,fun c=>?_,fun m _=>rfl⟩
      ·dsimp only
       rw [show k+1 - 1=k by omega,aK hk,he,List.getLast?_eq_getElem?,cP,Nat.min_eq_left hkl,List.getElem?_take_of_lt (by omega),aK (by omega)]
      ·dsimp only
       rw [fA hk,cJ]
       constructor
       ·exact .inl
       ·rintro(h | h)
        ·exact h
        ·simp at h;subst h;rw [he]
         refine gN (i:=k - 1) ?_
         rw [List.getElem?_take_of_lt (by omega),aK (by omega)]
     ·rintro o ho
      refine Ok.cs ho ?_ (fun r=>r.elim)
      rintro⟨u,a,b⟩ ⟨i,e1,hi,hlen,hinc',hmem⟩
      dsimp only at e1 hlen hinc' hmem ⊢
      subst e1
      refine Ok.eq (sZ u i (by omega)) ?_
      rw [bP]
      refine Ok.eq (sY _ i (by simp;omega)) (Ok.rt ?_)
      rw [List.take_append_of_le_length (by simp;omega),List.take_take,Nat.min_self]
      exact⟨hinc',hmem⟩
    ·have he:l[k]≠l[k - 1]:=by simpa using he
     refine Ok.nx ⟨⟨k+1,by rw [gT (by omega)],by omega,by omega,?_⟩,by rw [gT (by omega)];simp only [bP];omega⟩
     rw [fA hk]
     refine hinc.DA fun c hc=>?_
     have hlast: (l.take k).getLast? =some l[k - 1]:=by
      rw [List.getLast?_eq_getElem?,cP,Nat.min_eq_left hkl,List.getElem?_take_of_lt (by omega),aK (by omega)]
     have h3:=hinc.last hlast c hc
     have h4:=le (k - 1) k _ _ (by omega) (aK (by omega:k - 1<l.length)) (aK hk)
     omega
   ·have hge:k=l.length:=by have:=of_decide_eq_false h;omega
    subst hge;rw [fy] at hinc;exact hinc
  ·match l,h2 with
   | [],h2=>simp at h2
   | a::l,_=>exact List.pairwise_singleton _ _
  ·rintro o ho
   exact Ok.cs ho (fun s h=>Ok.ret ⟨h,fun c=>Iff.rfl⟩) (fun r h=>Ok.ret h)
def oO (l:List aI):List Int:=l.flatMap fun r=>[r.X0,r.X1]
def kH (l:List aI):List Int:=l.flatMap fun r=>[r.Y0,r.Y1]
theorem oQ {l:List aI} {c:Int}:c∈oO l↔∃r∈l,c=r.X0\/c=r.X1:=by unfold oO;simp [List.mem_flatMap]
theorem ka {l:List aI} {c:Int}:c∈kH l↔∃r∈l,c=r.Y0\/c=r.Y1:=by unfold kH;simp [List.mem_flatMap]
theorem kI (l:List aI): (oO l).length=2*l.length:=by
 induction l with
 | nil=>rfl
 | cons r l ih=>unfold oO at *;simp [List.flatMap_cons,ih];omega
theorem jc (l:List aI): (kH l).length=2*l.length:=by
 induction l with
 | nil=>rfl
 | cons r l ih=>unfold kH at *;simp [List.flatMap_cons,ih];omega
def sD (X Y:List Int) (s:List Bd):Prop:=∀b∈s,b.y0∈Y/\b.y1∈Y/\∀c∈b.xs,c∈X
theorem sD.push {X Y:List Int} {s:List Bd} {b:Bd} (h:sD X Y s) (h0:b.y0∈Y) (h1:b.y1∈Y) (h2: ∀c∈b.xs,c∈X):sD X Y (ld s b):=by
 intro c hc
 unfold ld at hc
 split at hc
 ·exact h c hc
 ·split at hc
  ·rename_i d hd
   have hdm:d∈s:=List.mem_of_getLast? hd
   split at hc
   ·rcases cJ.1 hc with hc | hc
    ·exact h c (List.dropLast_subset _ hc)
    ·simp at hc;subst hc;exact⟨(h d hdm).1,h1,(h d hdm).2.2⟩
   ·rcases cJ.1 hc with hc | hc
    ·exact h c hc
    ·simp at hc;subst hc;exact⟨h0,h1,h2⟩
  ·simp at hc;subst hc;exact⟨h0,h1,h2⟩
theorem kY.nodup {l:List Int} (h:kY l):l.Nodup:=List.Pairwise.imp (fun h=>by omega) h
theorem sD.row {X Y:List Int} {s:List Bd} (h:sD X Y s) (hc:dS s) {b:Bd} (hb:b∈s):b.xs.length<=X.length:=dW (hc.each b hb).2.2.1.nodup (h b hb).2.2
theorem sD.len {X Y:List Int} {s:List Bd} (h:sD X Y s) (hc:dS s):s.length<=Y.length:=by
 have hn: (s.map Bd.y0).Nodup:=by
  unfold List.Nodup
  rw [List.pairwise_map]
  refine List.Pairwise.imp_of_mem (fun{a b} ha hb hab=>?_) hc.ord
  have:=(hc.each a ha).1
  have:=hab.1
  omega
 have:=dW hn (m:=Y) (fun x hx=>by
  obtain⟨b,hb,rfl⟩:=cL.1 hx
  exact(h b hb).1)
 rwa [gM] at this
theorem sD.mono {X Y X' Y':List Int} {s:List Bd} (h:sD X Y s) (hx: ∀c∈X,c∈X') (hy: ∀c∈Y,c∈Y'):sD X' Y' s:=fun b hb=>⟨hy _ (h b hb).1,hy _ (h b hb).2.1,fun c hc=>hx c ((h b hb).2.2 c hc)⟩
theorem kY.lt {l:List Int} (h:kY l) {i j:Nat} {x y:Int} (hij:i<j) (hx:l[i]? =some x) (hy:l[j]? =some y):x<y:=by
 have:=mO.1 h i j (aW.1 hx).1 (aW.1 hy).1 hij
 rw [(aW.1 hx).2,(aW.1 hy).2] at this;exact this
theorem kY.next {l:List Int} (h:kY l) {k:Nat} {x y c:Int} (hx:l[k]? =some x) (hy:l[k+1]? =some y) (hc:c∈l) (hxc:x<c):y<=c:=by
 obtain⟨j,hj⟩:=fS hc
 rcases Nat.lt_trichotomy j (k+1) with h1 | h1 | h1
 ·exfalso
  by_cases e:j=k
  ·subst e;rw [hx] at hj;injection hj with hj;omega
  ·have:=h.lt (show j<k by omega) hj hx;omega
 ·subst h1;rw [hy] at hj;injection hj with hj;omega
 ·have:=h.lt h1 hy hj;omega
theorem sf {l:List aI} {φ:aI->Option Bool} (p:aI->Bool) (hφ: ∀x∈l,φ x=some (p x)) (hl:l.length<=4611686018427387000) (hN:l.length<N):fV N l φ=some (l.filter (fun x=> !p x)):=
 Dz (z:=(⟨0,0,0,0⟩:aI)) p hφ hl hN
theorem wM {l:List aI} (hl:l.length<=268435456):gI N l=some l:=by
 unfold gI;rw [il (by simp;omega),aB,List.nil_append]
structure Hr (l m:List aI) (ys:List Int) (k:Nat) (out:List aA) (now:List aI) (nx:Nat):Prop where
 can:dS (out.map bH)
 top: ∀c∈out,∀y,ys[k]? =some y->c.Y1<=y
 cover: ∀x y,tq (out.map bH) x y= (vQ l x y&&decide (∀a,ys[k]? =some a->y<a))
 lim:sD (oO l) (kH l) (out.map bH)
 JH: ∀r∈now,r∈m.take nx
 JI: ∀r∈m.take nx,∀y,ys[k]? =some y->y<r.Y1->r∈now
 len:now.length<=nx
 Jf:nx<=m.length
 rest: ∀(j:Nat) r y,nx<=j->m[j]? =some r->ys[k]? =some y->y<=r.Y0
 low: ∀r∈now,∀y,ys[k]? =some y->r.Y0<=y
structure nV (l:List aI) (s:List aA):Prop where
 can:dS (s.map bH)
 cover: ∀x y,tq (s.map bH) x y=vQ l x y
 lim:sD (oO l) (kH l) (s.map bH)
theorem ph {l:List aI} (hl:l.length<=134217728) (hok: ∀r∈l,z7 r) (hN:4294967296<=N):Ok (fG N l) (nV l):=by
 unfold fG
 refine Ok.eq (wM (by omega)) ?_
 obtain⟨m,h1,h2,h3⟩:=vJ (φ:=hG N) (l:=l) (fun a b=>a.Y0 - b.Y0) (fun a ha b hb=>by
  unfold hG;rw [wrap_small (hok a ha).s3 (hok b hb).s3]) (fun a _=>by omega) (fun a _ b _ c _ h1 h2=>by omega) (fun a _ b _ c _ h1 h2=>by omega) (by omega)
 refine Ok.eq h1 ?_
 have hml:m.length=l.length:=h2.length_eq
 have hmem: ∀r,r∈m↔r∈l:=fun r=>h2.mem_iff
 refine Ok.bind (Ok.jS (fun k s=>s=kH (m.take k)) (by omega) rfl (fun k s hk e=>?_)) ?_
 ·subst e
  refine Ok.idx hk (Ok.app ?_ (Ok.ret ?_))
  ·rw [jc];simp;omega
  ·rw [fA hk]
   unfold kH;rw [List.flatMap_append];rfl
 rintro s rfl
 rw [fy]
 have hgs:pS (kH m)=some ((kH m).mergeSort (fun x y=>decide (x<=y))):=by unfold pS;rw [aC (by rw [jc];omega)]
 refine Ok.eq hgs ?_
 have hsp: ((kH m).mergeSort (fun x y=>decide (x<=y))).Pairwise (fun x y=>x<=y):=by
  have:=List.pairwise_mergeSort (le:=fun(x y:Int)=>decide (x<=y)) (fun a b c h1 h2=>by simp at *;omega) (fun a b=>by simp;omega) (kH m)
  exact List.Pairwise.imp (fun h=>by simpa using h) this
 have hsm: ∀c,c∈(kH m).mergeSort (fun x y=>decide (x<=y))↔c∈kH m:=fun c=>List.mem_mergeSort
 have hsl: ((kH m).mergeSort (fun x y=>decide (x<=y))).length=2*m.length:=by rw [List.length_mergeSort,jc]
 generalize (kH m).mergeSort (fun x y=>decide (x<=y))=sy at hsp hsm hsl
 refine Ok.bind (yi (N:=N) hsp (by omega) (by omega)) ?_
 rintro ys ⟨hy,hym⟩
 have hyl:ys.length<=2*m.length:=by
  have:=dW hy.nodup (m:=sy) (fun c hc=>(hym c).1 hc)
  omega
 have y0m: ∀r∈m,r.Y0∈ys:=fun r hr=>(hym _).2 ((hsm _).2 (ka.2 ⟨r,hr, .inl rfl⟩))
 have y1m: ∀r∈m,r.Y1∈ys:=fun r hr=>(hym _).2 ((hsm _).2 (ka.2 ⟨r,hr, .inr rfl⟩))
 have yml: ∀c∈ys,c∈kH l:=fun c hc=>by
  obtain⟨r,hr,h⟩:=ka.1 ((hsm _).1 ((hym _).1 hc))
  exact ka.2 ⟨r,(hmem r).1 hr,h⟩
 refine Ok.bind (Ok.mZ (Go:=fun s=>nV l s.1) (Rt:=fun _=>True) (fun s=>∃k nx:Nat,s.2.2.2= ((k:Nat):Int)/\s.2.2.1= ((nx:Nat):Int)/\(k<ys.length\/k=0)/\Hr l m ys k s.1 s.2.1 nx) (fun s=>ys.length - s.2.2.2.toNat) ?_ ?_ (by simp;omega)) ?_
 ·rintro⟨out,now,a,b⟩ ⟨k,nx,e1,e2,hk,I⟩
  dsimp only at e1 e2 I ⊢
  subst e1;subst e2
  rw [gT (by omega)]
  refine Ok.bif (fun h=>?_) (fun h=>Ok.br ?_)
  ·have hk1:k+1<ys.length:=by have:=of_decide_eq_true h;omega
   have hyk:ys[k]? =some ys[k]:=aK _
   have hyk1:ys[k+1]? =some ys[k+1]:=aK hk1
   have hlt:=hy.lt (Nat.lt_succ_self k) hyk hyk1
   have hcov:=I.cover
   simp only [hyk,Option.some.injEq,forall_eq'] at hcov
   refine Ok.eq (sf (fun r=>decide (r.Y1<=ys[k])) (fun r _=>by unfold lx;rw [iV ys k (by omega),aB]) (by have:=I.len;have:=I.Jf;omega) (by have:=I.len;have:=I.Jf;omega)) ?_
   have hfl:=l8 (fun r:aI=> !decide (r.Y1<=ys[k])) now
   have hIl:=I.len
   have hIn:=I.Jf
   refine Ok.bind (Ok.mZ (Go:=fun s=>∃nx':Nat,s.2= ((nx':Nat):Int)/\nx'<=m.length/\s.1.length<=nx'/\(∀r∈s.1,r∈m.take nx')/\(∀r∈m.take nx',ys[k]<r.Y1->r∈s.1)/\(∀r∈s.1,r.Y0<=ys[k]/\ys[k]<r.Y1)/\(∀(j:Nat) r,nx'<=j->m[j]? =some r->ys[k]<r.Y0)) (Rt:=fun _=>True)
    (fun s=>∃nx':Nat,s.2= ((nx':Nat):Int)/\nx<=nx'/\nx'<=m.length/\s.1.length<=nx'/\(∀r∈s.1,r∈m.take nx')/\(∀r∈m.take nx',ys[k]<r.Y1->r∈s.1)/\(∀r∈s.1,r.Y0<=ys[k]/\ys[k]<r.Y1)) (fun s=>m.length - s.2.toNat) ?_ ?_ (by simp;omega)) ?_
   ·rintro⟨nw,b⟩ ⟨nx',e1,g0,g1,g2,g3,g4,g5⟩
    dsimp only at e1 g2 g3 g4 g5 ⊢
    subst e1
    refine Ok.bind (P:=fun b=>b=true↔∃h:nx'<m.length,m[nx'].Y0<=ys[k]) ?_ ?_
    ·refine Ok.bif (fun h=>?_) (fun h=>Ok.ret ?_)
     ·have hlt:nx'<m.length:=by have:=of_decide_eq_true h;omega
      refine Ok.idx hlt (Ok.idx (by omega) (Ok.ret ?_))
      rw [bQ];exact⟨fun h=>⟨hlt,h⟩,fun⟨_,h⟩=>h⟩
     ·have:=of_decide_eq_false h
      constructor
      ·intro h;cases h
      ·rintro⟨h,_⟩;omega
    ·intro bb hbb
     refine Ok.bif (fun h=>?_) (fun h=>Ok.br ?_)
     ·obtain⟨hlt,h0⟩:=hbb.1 h
      have hts:m.take (nx'+1)=m.take nx'++[m[nx']]:=fA hlt
      refine Ok.idx hlt (Ok.app (by simp;omega) (Ok.nx ⟨⟨nx'+1,by rw [gT (by omega)],by omega,by omega,by simp;omega,fun r hr=>?_,fun r hr hr2=>?_,fun r hr=>?_⟩,by rw [gT (by omega)];simp only [bP];omega⟩))
      ·rw [hts]
       rcases cJ.1 hr with h | h
       ·exact List.mem_append_left _ (g3 r h)
       ·exact List.mem_append_right _ h
      ·rw [hts] at hr
       rcases cJ.1 hr with h | h
       ·exact List.mem_append_left _ (g4 r h hr2)
       ·exact List.mem_append_right _ h
      ·rcases cJ.1 hr with h | h
       ·exact g5 r h
       ·simp at h;subst h
        refine⟨h0,?_⟩
        have:=(hok m[nx'] ((hmem _).1 (cM hlt))).y
        have:=I.rest nx' _ ys[k] g0 (aK hlt) hyk
        omega
     ·refine⟨nx',rfl,g1,g2,g3,g4,g5,fun j r hj hr=>?_⟩
      have hjl:=(aW.1 hr).1
      have hlt:nx'<m.length:=by omega
      have h0: ¬m[nx'].Y0<=ys[k]:=fun h0=>by rw [hbb.2 ⟨hlt,h0⟩] at h;cases h
      by_cases e:nx'=j
      ·subst e;rw [aK hlt] at hr;injection hr with hr;subst hr;omega
      ·have:=mO.1 h3 nx' j hlt hjl (by omega)
       have hr':=(aW.1 hr).2
       rw [hr'] at this;omega
   ·refine⟨nx,rfl,bI _,hIn,by dsimp only;omega,fun r hr=>I.JH r (iT.1 hr).1,fun r hr h=>iT.2 ⟨I.JI r hr ys[k] hyk h,by simpa using h⟩,fun r hr=>?_⟩
    have hr:=iT.1 hr
    have hr2:ys[k]<r.Y1:=by simpa using hr.2
    exact⟨I.low r hr.1 ys[k] hyk,hr2⟩
   ·rintro o ho
    refine Ok.cs ho ?_ (fun r=>r.elim)
    rintro⟨nw,b⟩ ⟨nx',e1,g1,g2,g3,g4,g5,g6⟩
    dsimp only at e1 g2 g3 g4 g5 ⊢
    subst e1
    refine Ok.idx (by omega) (Ok.idx hk1 ?_)
    have hnm: ∀r∈nw,r∈l:=fun r hr=>(hmem r).1 (List.take_subset _ _ (g3 r hr))
    obtain⟨row,nw',s1,s2,s3,s4,s5,s6,s7⟩:=yh (N:=N) (l:=nw) (by omega) (fun r hr=>hok r (hnm r hr))
    refine Ok.eq s1 ?_
    have hlimx: ∀c∈row,c∈oO l:=fun c hc=>by
     obtain⟨r,hr,h⟩:=s7 c hc
     exact oQ.2 ⟨r,hnm r hr,h⟩
    have hol:out.length<=2*l.length:=by have:=I.lim.len I.can;rw [jc,gM] at this;exact this
    have hox: ∀c∈out,c.Xs.length<=2*l.length:=fun c hc=>by
     have:=I.lim.row I.can (b:=bH c) (cL.2 ⟨c,hc,rfl⟩)
     rw [kI] at this;exact this
    obtain⟨out',p1,p2⟩:=Bq (N:=N) (s:=out) (b:=⟨ys[k],ys[k+1],row⟩) (by omega) (fun c hc=>by have:=hox c hc;omega)
    refine Ok.eq p1 ?_
    have htop: ∀c∈out.map bH,c.y1<=(bH ⟨ys[k],ys[k+1],row⟩).y0:=fun c hc=>by
     obtain⟨d,hd,rfl⟩:=cL.1 hc
     exact I.top d hd ys[k] hyk
    have hcan:=uk I.can htop s3 s4
    refine Ok.nx ⟨⟨k+1,nx',rfl,rfl, .inl hk1,⟨by dsimp only;rw [p2];exact hcan,fun c hc y hy1=>?_,fun x y=>?_,?_,fun r hr=>g3 r (s2.subset hr),fun r hr y hy1 h=>?_,by rw [s2.length_eq];exact g2,g1,fun j r y hj hr hy1=>?_,fun r hr y hy1=>?_⟩⟩,by simp only [bP];omega⟩
    ·rw [hyk1] at hy1;injection hy1 with hy1;subst hy1
     have hm':bH c∈ld (out.map bH) (bH ⟨ys[k],ys[k+1],row⟩):=by rw [<-p2];exact cL.2 ⟨c,hc,rfl⟩
     exact um htop (by show ys[k]<=ys[k+1];omega) _ hm'
    ·simp only [hyk1,Option.some.injEq,forall_eq']
     unfold tq
     rw [p2,uj htop (fun c hc=>(I.can.each c hc).1) (fun h=>absurd h (by show ¬ys[k+1]<=ys[k];omega))]
     by_cases hyy:ys[k]<=y/\y<ys[k+1]
     ·rw [aC (show (bH ⟨ys[k],ys[k+1],row⟩).y0<=y/\y< (bH ⟨ys[k],ys[k+1],row⟩).y1 from hyy),cB hyy.2,Bool.and_true]
      show lJ row x=_
      rw [s5,fQ,vR,jt]
      constructor
      ·rintro⟨r,hr,h⟩
       have hrm:=List.take_subset _ _ (g3 r hr)
       have h5:=g5 r hr
       have:=hy.next hyk hyk1 (y1m r hrm) h5.2
       exact⟨r,hnm r hr,h,by omega,by omega⟩
      ·rintro⟨r,hr,h,h7,h8⟩
       have hrm:=(hmem r).2 hr
       have h9:r.Y0<=ys[k]:=by
        by_cases h10:r.Y0<=ys[k]
        ·exact h10
        ·have:=hy.next hyk hyk1 (y0m r hrm) (by omega);omega
       have h11:r∈m.take nx':=by
        obtain⟨j,hj⟩:=fS hrm
        by_cases h12:j<nx'
        ·exact gN (i:=j) (by rw [List.getElem?_take_of_lt h12];exact hj)
        ·have:=g6 j r (by omega) hj;omega
       exact⟨r,g4 r h11 (by omega),h⟩
     ·rw [aD (show ¬((bH ⟨ys[k],ys[k+1],row⟩).y0<=y/\y< (bH ⟨ys[k],ys[k+1],row⟩).y1) from hyy)]
      show tq (out.map bH) x y=_
      rw [hcov]
      by_cases h1:y<ys[k]
      ·rw [cB h1,cB (show y<ys[k+1] by omega)]
      ·rw [bC h1,bC (show ¬y<ys[k+1] by omega)]
    ·show sD (oO l) (kH l) (out'.map bH)
     rw [p2]
     exact I.lim.push (yml _ (cM _)) (yml _ (cM _)) hlimx
    ·rw [hyk1] at hy1;injection hy1 with hy1;subst hy1
     exact s2.symm.subset (g4 r hr (by omega))
    ·rw [hyk1] at hy1;injection hy1 with hy1;subst hy1
     exact hy.next hyk hyk1 (y0m r (gN hr)) (g6 j r hj hr)
    ·rw [hyk1] at hy1;injection hy1 with hy1;subst hy1
     have:=(g5 r (s2.subset hr)).1;omega
  ·have hge: ¬k+1<ys.length:=by have:=of_decide_eq_false h;omega
   refine⟨I.can,fun x y=>?_,I.lim⟩
   rw [I.cover]
   by_cases hyn:ys= []
   ·have:vQ l x y=false:=by
     rw [<-nM,jt]
     rintro⟨r,hr,_⟩
     have:=y0m r ((hmem r).2 hr)
     rw [hyn] at this;cases this
    rw [this];rfl
   ·have hkl:k<ys.length:=by
     rcases hk with h | h
     ·exact h
     ·subst h;exact List.length_pos_iff.2 hyn
    rw [aK hkl]
    simp only [Option.some.injEq,forall_eq']
    cases hc:vQ l x y with
    | false=>rfl
    | true=>
     obtain⟨r,hr,_,h7,h8⟩:=jt.1 hc
     have:=y1m r ((hmem r).2 hr)
     obtain⟨j,hj⟩:=fS this
     have hjl:=(aW.1 hj).1
     have:r.Y1<=ys[k]:=by
      by_cases e:j=k
      ·subst e;rw [aK hkl] at hj;injection hj with hj;omega
      ·have:=hy.lt (show j<k by omega) hj (aK hkl);omega
     rw [cB (show y<ys[k] by omega)];rfl
 ·refine⟨0,0,rfl,rfl, .inr rfl,?_⟩
  show Hr l m ys 0 [] [] 0
  refine⟨dS.nil,fun c hc=>(by cases hc),fun x y=>?_,fun b hb=>(by cases hb),fun r hr=>(by cases hr),fun r hr=>(by rw [List.take_zero] at hr;cases hr),bI _,mN _,fun j r y _ hr hy0=>?_,fun r hr=>(by cases hr)⟩
  ·show false=_
   symm
   rw [Bool.and_eq_false_iff]
   cases hc:vQ l x y with
   | false=>exact .inl rfl
   | true=>
    right
    obtain⟨r,hr,_,h7,h8⟩:=jt.1 hc
    have hr0:=y0m r ((hmem r).2 hr)
    have hpos:0<ys.length:=List.length_pos_of_mem hr0
    rw [decide_eq_false_iff_not]
    intro h
    have h:=h ys[0] (aK hpos)
    obtain⟨j,hj⟩:=fS hr0
    by_cases e:j=0
    ·subst e;rw [aK hpos] at hj;injection hj with hj;omega
    ·have:=hy.lt (show 0<j by omega) (aK hpos) hj;omega
  ·obtain⟨j',hj'⟩:=fS (y0m r (gN hr))
   by_cases e:j'=0
   ·subst e;rw [hy0] at hj';injection hj' with hj';omega
   ·have:=hy.lt (show 0<j' by omega) hy0 hj';omega
 ·rintro o ho
  refine Ok.cs ho (fun s h=>Ok.ret h) (fun r=>r.elim)
end
end Go.Gk
namespace Go.Gk
open Go
section
variable {N:Nat}
def xo:List Int->List (Int×Int)
 | a::b::l=>(a,b)::xo l
 | _=>[]
theorem u6: ∀(xs:List Int),(xo xs).length=xs.length / 2
 | []=>rfl
 | [a]=>by simp [xo]
 | a::b::l=>by unfold xo;rw [kN,u6 l];simp only [kN];omega
theorem tt: ∀(xs:List Int) (j:Nat) (h:2*j+1<xs.length),(xo xs)[j]? =some (xs[2*j],xs[2*j+1])
 | [],j,h=>by simp at h
 | [a],j,h=>by simp at h
 | a::b::l,0,h=>rfl
 | a::b::l,j+1,h=>by
  have:=tt l j (by simp at h;omega)
  unfold xo
  rw [List.getElem?_cons_succ,this]
  have e1: (a::b::l)[2* (j+1)]=l[2*j]'(by simp at h;omega):=by simp [show 2* (j+1)=2*j+1+1 by omega]
  have e2: (a::b::l)[2* (j+1)+1]=l[2*j+1]'(by simp at h;omega):=by simp [show 2* (j+1)+1=2*j+1+1+1 by omega]
  rw [e1,e2]
theorem tu: ∀{xs:List Int},xs.length % 2=0->nU (xo xs)=xs
 | [],_=>rfl
 | [a],h=>by simp at h
 | a::b::l,h=>by unfold xo;rw [lZ,tu (by simp at h;omega)]
theorem EO {xs:List Int} (h:kY xs) (he:xs.length % 2=0) (x:Int):lJ xs x=Cd (xo xs) x:=by
 have:=tr (l:=xo xs) (by rw [tu he];exact h) x
 rwa [tu he] at this
theorem yj {xs:List Int}: ∀p∈xo xs,p.1∈xs/\p.2∈xs:=by
 intro p hp
 obtain⟨j,hj⟩:=fS hp
 have hjl:=(aW.1 hj).1
 rw [u6] at hjl
 rw [tt xs j (by omega)] at hj
 injection hj with hj;subst hj
 exact⟨cM _,cM _⟩
theorem AG {xs:List Int} (h:kY xs): ∀p∈xo xs,p.1<p.2:=by
 intro p hp
 obtain⟨j,hj⟩:=fS hp
 have hjl:=(aW.1 hj).1
 rw [u6] at hjl
 rw [tt xs j (by omega)] at hj
 injection hj with hj;subst hj
 exact h.lt (show 2*j<2*j+1 by omega) (aK _) (aK _)
def lf (b:aA):List aI:=(xo b.Xs).map fun p=>⟨p.1,b.Y0,p.2,b.Y1⟩
def aL (s:List aA):List aI:=s.flatMap lf
theorem lh (b:aA) (s:List aA):aL (b::s)=lf b++aL s:=rfl
theorem ku (b:aA): (lf b).length=b.Xs.length / 2:=by unfold lf;rw [gM,u6]
theorem kJ (s t:List aA):aL (s++t)=aL s++aL t:=List.flatMap_append
theorem uq (s:List aA) (k:Nat): (aL (s.take k)).length<=(aL s).length:=by
 conv=>rhs;rw [<-List.take_append_drop k s,kJ,eA]
 omega
theorem vU {s:List aA} {A B:Nat} (h1:s.length<=A) (h2: ∀b∈s,b.Xs.length<=B): (aL s).length<=A*B:=by
 induction s generalizing A with
 | nil=>simp [aL]
 | cons b s ih=>
  rw [lh,eA,ku]
  simp at h1
  obtain⟨A',rfl⟩: ∃A',A=A'+1:=⟨A - 1,by omega⟩
  have:=ih (A:=A') (by omega) (fun c hc=>h2 c (jM _ hc))
  have:=h2 b (by simp)
  rw [Nat.add_mul];omega
theorem vV {s:List aA} (he: ∀b∈s,b.Xs.length % 2=0) (h1:s.length<=1099511627776) (h2: ∀b∈s,b.Xs.length<=1099511627776/\b.Xs.length<N) (h3: (aL s).length<=1099511627776):gQ N s=some (aL s):=by
 refine Ok.get ?_
 unfold gQ
 refine Ok.bind (Ok.jS (fun k t=>t=aL (s.take k)) (by omega) rfl (fun k t hk e=>?_)) (fun t e=>Ok.ret (by rw [e,fy]))
 subst e
 refine Ok.idx hk ?_
 have hm:=cM hk
 generalize hb:s[k]=b at hm ⊢
 have heb:=he b hm
 have hbl:=h2 b hm
 have hts:aL (s.take (k+1))=aL (s.take k)++lf b:=by
  rw [fA hk,kJ,hb];simp [aL]
 have hle:=uq s (k+1)
 rw [hts,eA,ku] at hle
 refine Ok.bind (Ok.mZ (Go:=fun s'=>s'.1=aL (s.take (k+1))) (Rt:=fun _=>True) (fun s'=>∃j:Nat,s'.2= ((2*j:Nat):Int)/\2*j<=b.Xs.length/\s'.1=aL (s.take k)++(lf b).take j) (fun s'=>b.Xs.length - s'.2.toNat) ?_ ⟨0,rfl,by omega,by simp⟩ (by simp;omega)) ?_
 ·rintro⟨acc,i⟩ ⟨j,e1,hj,e2⟩
  dsimp only at e1 e2 ⊢
  subst e1;subst e2
  refine Ok.bif (fun h=>?_) (fun h=>Ok.br ?_)
  ·have hlt:2*j+1<b.Xs.length:=by have:=of_decide_eq_true h;omega
   refine Ok.idx (by omega) ?_
   rw [gT (by omega)]
   refine Ok.idx hlt (Ok.app ?_ (Ok.nx ⟨⟨j+1,?_,by omega,?_⟩,?_⟩))
   ·simp;rw [ku];omega
   ·rw [xn (by omega)];congr 1
   ·rw [kf]
    congr 1
    have hg: (lf b)[j]? =some ⟨b.Xs[2*j],b.Y0,b.Xs[2*j+1],b.Y1⟩:=by
     unfold lf;rw [gz,tt _ _ hlt];rfl
    have hjl:=(aW.1 hg).1
    rw [fA hjl,(aW.1 hg).2]
   ·rw [xn (by omega)];simp only [bP];omega
  ·have hge:2*j=b.Xs.length:=by have:=of_decide_eq_false h;omega
   show aL (s.take k)++(lf b).take j=_
   rw [hts,nN (l:=lf b) (by rw [ku];omega)]
 ·rintro o ho
  exact Ok.cs ho (fun s' h=>Ok.ret h) (fun r=>r.elim)
theorem EP {s:List aA} (h1:s.length<=1099511627776) (h2: ∀b∈s,b.Xs.length<=1099511627776) (h3: (aL s).length<=1099511627776):jZ N s=some (((aL s).length:Nat):Int):=by
 refine Ok.get ?_
 unfold jZ
 refine Ok.bind (Ok.jS (fun k t=>t= (((aL (s.take k)).length:Nat):Int)) (by omega) rfl (fun k t hk e=>?_)) (fun t e=>Ok.ret (by rw [e,fy]))
 subst e
 refine Ok.idx hk (Ok.ret ?_)
 have hm:=cM hk
 have hbl:=h2 _ hm
 have hts:aL (s.take (k+1))=aL (s.take k)++lf s[k]:=by
  rw [fA hk,kJ];simp [aL]
 have hle:=uq s (k+1)
 rw [hts,eA,ku] at hle
 have e:Int.tdiv ((s[k].Xs.length:Nat):Int) 2= ((s[k].Xs.length / 2:Nat):Int):=by
  rw [show (2:Int)= ((2:Nat):Int) by rfl,<-Int.ofNat_tdiv]
 rw [e,zD (by omega),wrap_add (by omega),hts,eA,ku]
theorem AH (l m:List aI) (x y:Int):vQ (l++m) x y= (vQ l x y||vQ m x y):=List.any_append
theorem DB {b:aA} (h:kY b.Xs) (he:b.Xs.length % 2=0) (x y:Int):vQ (lf b) x y= (lJ b.Xs x&&(decide (b.Y0<=y)&&decide (y<b.Y1))):=by
 rw [EO h he,fQ,jt,bN,vS,bN,bQ,bQ]
 unfold lf
 constructor
 ·rintro⟨r,hr,h1,h2⟩
  obtain⟨p,hp,rfl⟩:=cL.1 hr
  exact⟨⟨p,hp,h1⟩,h2⟩
 ·rintro⟨⟨p,hp,h1⟩,h2⟩
  exact⟨_,cL.2 ⟨p,hp,rfl⟩,h1,h2⟩
theorem qZ: ∀{s:List aA},dS (s.map bH)->∀x y,vQ (aL s) x y=tq (s.map bH) x y
 | [],_,x,y=>rfl
 | b::s,h,x,y=>by
  rw [lh,AH,qZ h.tail x y]
  have hb:=h.each (bH b) (by simp)
  rw [DB hb.2.2.1 hb.2.2.2]
  unfold tq
  rw [eB,j8]
  by_cases hy:b.Y0<=y/\y<b.Y1
  ·rw [aC (show (bH b).y0<=y/\y< (bH b).y1 from hy),jr (fun c hc=> .inl (by have:=h.vN c hc;have e: (bH b).y1=b.Y1:=rfl;omega)),cB hy.1,cB hy.2]
   show (lJ b.Xs x&&true||false)=lJ b.Xs x
   simp
  ·rw [aD (show ¬((bH b).y0<=y/\y< (bH b).y1) from hy)]
   have: (decide (b.Y0<=y)&&decide (y<b.Y1))=false:=by rw [Bool.and_eq_false_iff,decide_eq_false_iff_not,decide_eq_false_iff_not];omega
   rw [this];simp
theorem m8 {s:List aA} {r:aI} (h:r∈aL s): ∃b∈s,∃p∈xo b.Xs,r= ⟨p.1,b.Y0,p.2,b.Y1⟩:=by
 unfold aL lf at h
 obtain⟨b,hb,h⟩:=List.mem_flatMap.1 h
 obtain⟨p,hp,rfl⟩:=cL.1 h
 exact⟨b,hb,p,hp,rfl⟩
theorem vW {s:List aA} {X Y:List Int} (h:dS (s.map bH)) (hl:sD X Y (s.map bH)) (hx: ∀c∈X,small c) (hy: ∀c∈Y,small c): ∀r∈aL s,z7 r/\(r.X0∈X/\r.X1∈X)/\r.Y0∈Y/\r.Y1∈Y:=by
 intro r hr
 obtain⟨b,hb,p,hp,rfl⟩:=m8 hr
 have hm:bH b∈s.map bH:=cL.2 ⟨b,hb,rfl⟩
 have hc:=h.each _ hm
 have hll:=hl _ hm
 have h1:=yj p hp
 have h2:=hll.2.2 p.1 h1.1
 have h3:=hll.2.2 p.2 h1.2
 exact⟨⟨AG hc.2.2.1 p hp,hc.1,hx _ h2,hx _ h3,hy _ hll.1,hy _ hll.2.1⟩,⟨h2,h3⟩,hll.1,hll.2.1⟩
theorem sg {l:List Int} {x:Int} (h: ∀c∈l,c<=x):lJ l x= (l.length % 2==1):=by unfold lJ;rw [Bo h]
theorem uu {l:List Int} {a x:Int} (h:x<a):lJ (l++[a]) x=lJ l x:=by unfold lJ;rw [vK,kG,aD (by omega),yg];rfl
def Ch (l:List Int):Bool:=l.length % 2==1
theorem vX (l:List Int) (a:Int):Ch (l++[a]) = !Ch l:=by
 unfold Ch
 rw [eA,fQ,Bool.not_eq_true',beq_iff_eq,beq_eq_false_iff_ne]
 simp;omega
structure zF (jo:Bool->Bool->Bool) (a b a' b' out:List Int) (inA inB is:Bool) (pa pb:List Int):Prop where
 ea:a=pa++a'
 eb:b=pb++b'
 oa:inA=Ch pa
 ob:inB=Ch pb
 oo:is=Ch out
 ok:is=jo inA inB
 low: ∀c,(c∈pa\/c∈pb\/c∈out)->∀d,(d∈a'\/d∈b')->c<d
 inc:kY out
 Hs: ∀x,(∀d,(d∈a'\/d∈b')->x<d)->lJ out x=jo (lJ pa x) (lJ pb x)
 mem: ∀c∈out,c∈pa\/c∈pb
 len:out.length<=pa.length+pb.length
theorem zF.step {jo:Bool->Bool->Bool} {a b a' b' out:List Int} {inA inB is:Bool} {pa pb:List Int} (I:zF jo a b a' b' out inA inB is pa pb) (ha:kY a) (hb:kY b) (x:Int) (ta tb:List Int) (wa wb:Bool)
  (h1:a'= (if wa then x::ta else ta)) (h2:b'= (if wb then x::tb else tb)) (hw:wa=true\/wb=true) (hx: ∀d,(d∈ta\/d∈tb)->x<d):
  zF jo a b ta tb (if jo (inA ^^ wa) (inB ^^ wb)=is then out else out++[x]) (inA ^^ wa) (inB ^^ wb) (jo (inA ^^ wa) (inB ^^ wb)) (if wa then pa++[x] else pa) (if wb then pb++[x] else pb):=by
 have hxm:x∈a'\/x∈b':=by
  rcases hw with h | h
  ·left;rw [h1,aC h];simp
  ·right;rw [h2,aC h];simp
 have hsub: ∀d,(d∈ta\/d∈tb)->d∈a'\/d∈b':=fun d hd=>by
  rcases hd with h | h
  ·left;rw [h1];split
   ·exact jM _ h
   ·exact h
  ·right;rw [h2];split
   ·exact jM _ h
   ·exact h
 have hlow: ∀c,(c∈pa\/c∈pb\/c∈out)->c<x:=fun c hc=>I.low c hc x hxm
 have hpa: ∀c∈(if wa then pa++[x] else pa),c∈pa\/(wa=true/\c=x):=fun c hc=>by
  split at hc
  ·rename_i h
   rcases cJ.1 hc with h' | h'
   ·exact .inl h'
   ·simp at h';exact .inr ⟨h,h'⟩
  ·exact .inl hc
 have hpb: ∀c∈(if wb then pb++[x] else pb),c∈pb\/(wb=true/\c=x):=fun c hc=>by
  split at hc
  ·rename_i h
   rcases cJ.1 hc with h' | h'
   ·exact .inl h'
   ·simp at h';exact .inr ⟨h,h'⟩
  ·exact .inl hc
 have hout: ∀c∈(if jo (inA ^^ wa) (inB ^^ wb)=is then out else out++[x]),c∈out\/c=x:=fun c hc=>by
  split at hc
  ·exact .inl hc
  ·rcases cJ.1 hc with h' | h'
   ·exact .inl h'
   ·simp at h';exact .inr h'
 have ooA: (inA ^^ wa)=Ch (if wa then pa++[x] else pa):=by
  rw [I.oa];cases wa <;> simp [vX]
 have ooB: (inB ^^ wb)=Ch (if wb then pb++[x] else pb):=by
  rw [I.ob];cases wb <;> simp [vX]
 have ooO:jo (inA ^^ wa) (inB ^^ wb)=Ch (if jo (inA ^^ wa) (inB ^^ wb)=is then out else out++[x]):=by
  split
  ·rename_i h;rw [h];exact I.oo
  ·rename_i h
   rw [vX,<-I.oo]
   cases hk:jo (inA ^^ wa) (inB ^^ wb) <;> cases his:is <;> simp_all
 refine⟨?_,?_,ooA,ooB,ooO,rfl,?_,?_,?_,?_,?_⟩
 ·rw [I.ea,h1];split <;> simp
 ·rw [I.eb,h2];split <;> simp
 ·intro c hc d hd
  have hd':=hx d hd
  have hdd:=hsub d hd
  rcases hc with h | h | h
  ·rcases hpa c h with h' | ⟨_,rfl⟩
   ·exact I.low c (.inl h') d hdd
   ·exact hd'
  ·rcases hpb c h with h' | ⟨_,rfl⟩
   ·exact I.low c (.inr (.inl h')) d hdd
   ·exact hd'
  ·rcases hout c h with h' | rfl
   ·exact I.low c (.inr (.inr h')) d hdd
   ·exact hd'
 ·split
  ·exact I.inc
  ·exact I.inc.DA fun c hc=>hlow c (.inr (.inr hc))
 ·intro y hy
  by_cases hxy:y<x
  ·have e1:lJ (if wa then pa++[x] else pa) y=lJ pa y:=by split;exact uu hxy;rfl
   have e2:lJ (if wb then pb++[x] else pb) y=lJ pb y:=by split;exact uu hxy;rfl
   have e3:lJ (if jo (inA ^^ wa) (inB ^^ wb)=is then out else out++[x]) y=lJ out y:=by split;rfl;exact uu hxy
   rw [e1,e2,e3]
   refine I.Hs y fun d hd=>?_
   have:x<=d:=by
    rcases hd with h | h
    ·rw [h1] at h
     split at h
     ·rcases ga.1 h with rfl | h
      ·exact Int.le_refl _
      ·have:=hx d (.inl h);omega
     ·have:=hx d (.inl h);omega
    ·rw [h2] at h
     split at h
     ·rcases ga.1 h with rfl | h
      ·exact Int.le_refl _
      ·have:=hx d (.inr h);omega
     ·have:=hx d (.inr h);omega
   omega
  ·rw [sg (l:=if wa then pa++[x] else pa),sg (l:=if wb then pb++[x] else pb),sg]
   ·have e1:=ooA;have e2:=ooB;have e3:=ooO
    unfold Ch at e1 e2 e3
    rw [<-e1,<-e2,<-e3]
   ·intro c hc
    rcases hout c hc with h | rfl
    ·have:=hlow c (.inr (.inr h));omega
    ·omega
   ·intro c hc
    rcases hpb c hc with h | ⟨_,rfl⟩
    ·have:=hlow c (.inr (.inl h));omega
    ·omega
   ·intro c hc
    rcases hpa c hc with h | ⟨_,rfl⟩
    ·have:=hlow c (.inl h);omega
    ·omega
 ·intro c hc
  have m1: ∀c,c∈pa->c∈(if wa then pa++[x] else pa):=fun c h=>by split;exact List.mem_append_left _ h;exact h
  have m2: ∀c,c∈pb->c∈(if wb then pb++[x] else pb):=fun c h=>by split;exact List.mem_append_left _ h;exact h
  rcases hout c hc with h | rfl
  ·rcases I.mem c h with h | h
   ·exact .inl (m1 c h)
   ·exact .inr (m2 c h)
  ·rcases hw with h | h
   ·left;rw [aC h];simp
   ·right;rw [aC h];simp
 ·have:=I.len
  have h3: (if wa then pa++[x] else pa).length+ (if wb then pb++[x] else pb).length>=pa.length+pb.length+1:=by
   rcases hw with h | h
   ·subst h;cases wb <;> simp <;> omega
   ·subst h;cases wa <;> simp <;> omega
  split
  ·omega
  ·simp at h3 ⊢;omega
end
end Go.Gk
namespace Go.Gk
open Go
section
variable {N:Nat}
theorem gU (x:Int) (l:List Int):idx (x::l) 0=some x:=rfl
theorem oR {α:Type} (x:α) (l:List α):rG (x::l) 1 (((x::l).length:Nat):Int)=some l:=sZ (x::l) 1 (by simp)
theorem iO {α:Type} (x:α) (l:List α):decide ((((x::l).length:Nat):Int)>0)=true:=cB (by simp)
theorem q8 {α:Type} (x:α) (l:List α): ((((x::l).length:Nat):Int)==0)=false:=by rw [beq_eq_false_iff_ne];simp;omega
theorem AI {a b:List Int} (ha:kY a) (hb:kY b) (h:a≠[]\/b≠[]): ∃x ta tb wa wb,a= (if wa then x::ta else ta)/\b= (if wb then x::tb else tb)/\(wa=true\/wb=true)/\(∀d,(d∈ta\/d∈tb)->x<d):=by
 match a,b,ha,hb,h with
 | [],[],_,_,h=>rcases h with h | h <;> exact absurd rfl h
 | x::ta,[],ha,_,_=>exact⟨x,ta,[],true,false,rfl,rfl, .inl rfl,fun d hd=>by rcases hd with h | h;exact ha.head d h;cases h⟩
 | [],y::tb,_,hb,_=>exact⟨y,[],tb,false,true,rfl,rfl, .inr rfl,fun d hd=>by rcases hd with h | h;cases h;exact hb.head d h⟩
 | x::ta,y::tb,ha,hb,_=>
  rcases Int.lt_trichotomy x y with h | h | h
  ·refine⟨x,ta,y::tb,true,false,rfl,rfl, .inl rfl,fun d hd=>?_⟩
   rcases hd with h1 | h1
   ·exact ha.head d h1
   ·rcases ga.1 h1 with rfl | h1
    ·exact h
    ·have:=hb.head d h1;omega
  ·subst h
   exact⟨x,ta,tb,true,true,rfl,rfl, .inl rfl,fun d hd=>by rcases hd with h | h;exact ha.head d h;exact hb.head d h⟩
  ·refine⟨y,x::ta,tb,false,true,rfl,rfl, .inr rfl,fun d hd=>?_⟩
   rcases hd with h1 | h1
   ·rcases ga.1 h1 with rfl | h1
    ·exact h
    ·have:=ha.head d h1;omega
   ·exact hb.head d h1
theorem Ci {φ:Bool->Bool->Option Bool} {jo:Bool->Bool->Bool} (hφ: ∀p q,φ p q=some (jo p q)) (hk:jo false false=false) {a b:List Int} (ha:kY a) (hb:kY b) (hae:a.length % 2=0) (hbe:b.length % 2=0)
  (jy:a.length<=1099511627776) (hbl:b.length<=1099511627776) (hN:a.length+b.length<N):
  Ok (na N a b φ) (fun m=>kY m/\m.length % 2=0/\(∀x,lJ m x=jo (lJ a x) (lJ b x))/\∀c∈m,c∈a\/c∈b):=by
 unfold na
 refine Ok.bind (Ok.mZ (Go:=fun s=>kY s.2.2.1/\s.2.2.1.length % 2=0/\(∀x,lJ s.2.2.1 x=jo (lJ a x) (lJ b x))/\∀c∈s.2.2.1,c∈a\/c∈b) (Rt:=fun _=>True)
  (fun s=>∃pa pb,zF jo a b s.1 s.2.1 s.2.2.1 s.2.2.2.1 s.2.2.2.2.1 s.2.2.2.2.2 pa pb) (fun s=>s.1.length+s.2.1.length) ?_ ?_ hN) ?_
 ·rintro⟨a',b',out,inA,inB,is⟩ ⟨pa,pb,I⟩
  dsimp only at I ⊢
  have ha':kY a':=by have:=ha;rw [I.ea] at this;exact(List.pairwise_append.1 this).2.1
  have hb':kY b':=by have:=hb;rw [I.eb] at this;exact(List.pairwise_append.1 this).2.1
  have hle:pa.length+a'.length=a.length:=by rw [I.ea];simp
  have hlb:pb.length+b'.length=b.length:=by rw [I.eb];simp
  have hlo:=I.len
  by_cases hne:a'≠[]\/b'≠[]
  ·obtain⟨x,ta,tb,wa,wb,h1,h2,hw,hx⟩:=AI ha' hb' hne
   have J:=I.step ha hb x ta tb wa wb h1 h2 hw hx
   have fin: ∀(sa sb:List Int×Bool),sa= (ta,inA ^^ wa)->sb= (tb,inB ^^ wb)->
     Ok ((φ sa.2 sb.2).bind fun x220=>(bif (x220 != is) then ((app 8 out ([x]: (List Int))).bind fun x227=>some (x227,x220)) else (some (out,is))).bind fun s224=>some (Fl.nx (sa.1,sb.1,s224.1,sa.2,sb.2,s224.2)))
      (Fa (fun s':List Int×List Int×List Int×Bool×Bool×Bool=>(∃pa pb,zF jo a b s'.1 s'.2.1 s'.2.2.1 s'.2.2.2.1 s'.2.2.2.2.1 s'.2.2.2.2.2 pa pb)/\s'.1.length+s'.2.1.length<a'.length+b'.length) (fun s=>kY s.2.2.1/\s.2.2.1.length % 2=0/\(∀x,lJ s.2.2.1 x=jo (lJ a x) (lJ b x))/\∀c∈s.2.2.1,c∈a\/c∈b) (fun _:Empty=>True)):=by
    rintro _ _ rfl rfl
    refine Ok.eq (hφ _ _) ?_
    have hlt:ta.length+tb.length<a'.length+b'.length:=by
     rw [h1,h2]
     rcases hw with h | h
     ·subst h;cases wb <;> simp <;> omega
     ·subst h;cases wa <;> simp <;> omega
    by_cases he:jo (inA ^^ wa) (inB ^^ wb)=is
    ·rw [aC he] at J
     refine Ok.eq (x:=(out,is)) (by rw [he,show (is != is)=false by simp,aS]) ?_
     rw [he] at J
     exact Ok.nx ⟨⟨_,_,J⟩,hlt⟩
    ·rw [aD he] at J
     refine Ok.eq (x:=(out++[x],jo (inA ^^ wa) (inB ^^ wb))) (by rw [show (jo (inA ^^ wa) (inB ^^ wb) != is)=true by simp [he],aQ,il (by simp;omega),aB]) (Ok.nx ⟨⟨_,_,J⟩,hlt⟩)
   rcases hw with rfl | rfl
   ·rw [aC rfl] at h1
    subst h1
    refine Ok.eq (x:=true) (by rw [iO,aQ]) ?_
    rw [aQ]
    have hle2: (bif (((b'.length:Nat):Int)==0) then (some true) else (bif (decide ((((x::ta).length:Nat):Int)>0)) then ((idx (x::ta) 0).bind fun x181=>(idx b' 0).bind fun x183=>some (decide (x181<=x183))) else (some false)))=some true:=by
     cases b' with
     | nil=>rfl
     | cons y b''=>
      rw [q8,aS,iO,aQ,gU,aB,gU,aB]
      have:x<=y:=by
       cases wb with
       | true=>simp at h2;omega
       | false=>have:=hx y (.inr (by simp at h2;rw [<-h2];simp));omega
      rw [cB this]
    refine Ok.eq hle2 ?_
    rw [aQ]
    refine Ok.eq (x:=x) (by rw [gU,aB]) ?_
    refine Ok.eq (x:=true) (by rw [iO,aQ,gU,aB];simp) ?_
    refine Ok.eq (x:=(ta,!inA)) (by rw [aQ,oR,aB]) ?_
    cases wb with
    | true=>
     rw [aC rfl] at h2
     subst h2
     refine Ok.eq (x:=true) (by rw [iO,aQ,gU,aB];simp) ?_
     refine Ok.eq (x:=(tb,!inB)) (by rw [aQ,oR,aB]) ?_
     exact fin _ _ (by simp) (by simp)
    | false=>
     have h2:b'=tb:=h2
     subst h2
     refine Ok.eq (x:=false) ?_ ?_
     ·cases b' with
      | nil=>rfl
      | cons y b''=>
       have:=hx y (.inr (by simp))
       rw [iO,aQ,gU,aB,show (y==x)=false by rw [beq_eq_false_iff_ne];omega]
     ·refine Ok.eq (x:=(b',inB)) (by rw [aS]) ?_
      exact fin _ _ (by simp) (by simp)
   ·cases wa with
    | true=>
     rw [aC rfl] at h1 h2
     subst h1;subst h2
     refine Ok.eq (x:=true) (by rw [iO,aQ]) ?_
     rw [aQ]
     refine Ok.eq (x:=true) (by rw [q8,aS,iO,aQ,gU,aB,gU,aB];simp) ?_
     rw [aQ]
     refine Ok.eq (x:=x) (by rw [gU,aB]) ?_
     refine Ok.eq (x:=true) (by rw [iO,aQ,gU,aB];simp) ?_
     refine Ok.eq (x:=(ta,!inA)) (by rw [aQ,oR,aB]) ?_
     refine Ok.eq (x:=true) (by rw [iO,aQ,gU,aB];simp) ?_
     refine Ok.eq (x:=(tb,!inB)) (by rw [aQ,oR,aB]) ?_
     exact fin _ _ (by simp) (by simp)
    | false=>
     have h1:a'=ta:=h1
     rw [aC rfl] at h2
     subst h1;subst h2
     refine Ok.eq (x:=true) (by rw [iO,EH];simp) ?_
     rw [aQ]
     refine Ok.eq (x:=false) ?_ ?_
     ·rw [q8,aS]
      cases a' with
      | nil=>rfl
      | cons y a''=>
       have:=hx y (.inl (by simp))
       rw [iO,aQ,gU,aB,gU,aB,bC (by omega)]
     ·rw [aS]
      refine Ok.eq (x:=x) (by rw [gU,aB]) ?_
      refine Ok.eq (x:=false) ?_ ?_
      ·cases a' with
       | nil=>rfl
       | cons y a''=>
        have:=hx y (.inl (by simp))
        rw [iO,aQ,gU,aB,show (y==x)=false by rw [beq_eq_false_iff_ne];omega]
      ·refine Ok.eq (x:=(a',inA)) (by rw [aS]) ?_
       refine Ok.eq (x:=true) (by rw [iO,aQ,gU,aB];simp) ?_
       refine Ok.eq (x:=(tb,!inB)) (by rw [aQ,oR,aB]) ?_
       exact fin _ _ (by simp) (by simp)
  ·have ea:a'= []:=Classical.byContradiction fun h=>hne (.inl h)
   have eb:b'= []:=Classical.byContradiction fun h=>hne (.inr h)
   subst ea;subst eb
   refine Ok.eq (x:=false) rfl ?_
   refine Ok.br ⟨I.inc,?_,fun x=>?_,fun c hc=>?_⟩
   ·have h1:=I.ea;have h2:=I.eb
    rw [l7] at h1 h2
    have h3:Ch out=false:=by
     rw [<-I.oo,I.ok,I.oa,I.ob,<-h1,<-h2]
     unfold Ch;rw [hae,hbe];exact hk
    unfold Ch at h3
    rw [beq_eq_false_iff_ne] at h3
    dsimp only;omega
   ·have:=I.Hs x (fun d hd=>by rcases hd with h | h <;> cases h)
    have h1:=I.ea;have h2:=I.eb
    rw [l7] at h1 h2
    rw [h1,h2];exact this
   ·have h1:=I.ea;have h2:=I.eb
    rw [l7] at h1 h2
    rw [h1,h2];exact I.mem c hc
 ·exact⟨[],[],rfl,rfl,rfl,rfl,rfl,hk.symm,fun c hc=>(by rcases hc with h | h | h <;> cases h),kO,fun x _=>hk.symm,fun c hc=>(by cases hc),bI _⟩
 ·rintro o ho
  exact Ok.cs ho (fun s h=>Ok.ret h) (fun r=>r.elim)
theorem dS.app {s t:List Bd} (h:dS (s++t)):dS t:=⟨fun b hb=>h.each b (List.mem_append_right _ hb),(List.pairwise_append.1 h.ord).2.1⟩
theorem dS.low {b:Bd} {s:List Bd} (h:dS (b::s)): ∀c∈b::s,b.y0<=c.y0:=fun c hc=>by
 rcases ga.1 hc with rfl | hc
 ·exact Int.le_refl _
 ·have:=h.vN c hc;have:=(h.each b (by simp)).1;omega
theorem dS.high {s:List Bd} {b:Bd} (h:dS (s++[b])): ∀c∈s++[b],c.y1<=b.y1:=fun c hc=>by
 rcases cJ.1 hc with hc | hc
 ·have:=((List.pairwise_append.1 h.ord).2.2 c hc b (by simp)).1
  have:=(h.each b (by simp)).1;omega
 ·simp at hc;subst hc;exact Int.le_refl _
def z8 (s:List aA) (y e:Int):List Int×Int:=match s with
 | []=>([],e)
 | b::_=>if y<b.Y0 then ([],if b.Y0<e then b.Y0 else e) else (b.Xs,if b.Y1<e then b.Y1 else e)
theorem DC {α:Type} (x:α) (l:List α):idx (x::l) 0=some x:=rfl
theorem Fb (s:List aA) (y e:Int):kn N s y e=some (z8 s y e):=by
 unfold kn z8
 cases s with
 | nil=>rfl
 | cons b s=>
  dsimp only
  rw [q8,aS,DC,aB,aB,aB,aB]
  by_cases h:y<b.Y0
  ·rw [cB h,aQ,aC h]
  ·rw [bC h,aS,aD h]
theorem Bs {s:List aA} {y e:Int} {X Y:List Int} (hc:dS (s.map bH)) (hl:sD X Y (s.map bH)) (hh: ∀b t,s=b::t->y<b.Y1) (hy:y<e):
  y< (z8 s y e).2/\(z8 s y e).2<=e/\(∀y',y<=y'->y'< (z8 s y e).2->rowAt (s.map bH) y'= (z8 s y e).1)/\kY (z8 s y e).1/\(z8 s y e).1.length % 2=0/\((z8 s y e).2=e\/(z8 s y e).2∈Y)/\∀c∈(z8 s y e).1,c∈X:=by
 cases s with
 | nil=>exact⟨hy,Int.le_refl _,fun y' _ _=>rfl,kO,rfl, .inl rfl,fun c hc=>(by cases hc)⟩
 | cons b t=>
  have hb:=hc.each (bH b) (by simp)
  have hlb:=hl (bH b) (by simp)
  have h1:=hh b t rfl
  unfold z8
  dsimp only
  by_cases h:y<b.Y0
  ·rw [aC h]
   dsimp only
   refine⟨by split <;> omega,by split <;> omega,fun y' h2 h3=>?_,kO,rfl,?_,fun c hc=>(by cases hc)⟩
   ·exact hc.qY (by show y'<b.Y0;split at h3 <;> omega)
   ·split
    ·exact .inr hlb.1
    ·exact .inl rfl
  ·rw [aD h]
   dsimp only
   refine⟨by split <;> omega,by split <;> omega,fun y' h2 h3=>?_,hb.2.2.1,hb.2.2.2,?_,hlb.2.2⟩
   ·exact dS.j9 (b:=bH b) (by show b.Y0<=y';omega) (by show y'<b.Y1;split at h3 <;> omega)
   ·split
    ·exact .inr hlb.2.1
    ·exact .inl rfl
theorem xp {y:Int} {a:List aA} (hN:a.length<N) {body:List aA->Option (Fl (List aA) Empty)}
  (hb:body=fun(s373: (List aA))=>((bif (decide ((s373.length:Int)>0)) then ((idx s373 0).bind fun x407=>some (decide (x407.Y1<=y))) else (some false)).bind fun s405=>bif s405 then ((rG s373 1 (s373.length:Int)).bind fun x410=>some (.nx x410)) else (some (.br s373)):Option (Fl ((List aA)) Empty))):
  Ok (mZ body N a) (Hp (fun a'=>∃p,a=p++a'/\(∀c∈p,c.Y1<=y)/\∀b t,a'=b::t->y<b.Y1) (fun _=>True)):=by
 subst hb
 refine Ok.mZ (fun a'=>∃p,a=p++a'/\∀c∈p,c.Y1<=y) List.length ?_ ⟨[],rfl,fun c hc=>(by cases hc)⟩ hN
 rintro a' ⟨p,e,hp⟩
 cases a' with
 | nil=>exact Ok.eq (x:=false) rfl (Ok.br ⟨p,e,hp,fun b t h=>(by cases h)⟩)
 | cons b t=>
  refine Ok.eq (x:=decide (b.Y1<=y)) (by rw [iO,aQ,DC,aB]) ?_
  refine Ok.bif (fun h=>?_) (fun h=>Ok.br ⟨p,e,hp,fun b' t' h'=>?_⟩)
  ·have h:=of_decide_eq_true h
   refine Ok.eq (oR b t) (Ok.nx ⟨⟨p++[b],by rw [e];simp,fun c hc=>?_⟩,by simp⟩)
   rcases cJ.1 hc with hc | hc
   ·exact hp c hc
   ·simp at hc;subst hc;exact h
  ·have h:=of_decide_eq_false h
   injection h' with h1 h2;subst h1;omega
theorem zG {p a':List Bd} {y y':Int} (hp: ∀c∈p,c.y1<=y) (h:y<=y'):rowAt (p++a') y'=rowAt a' y':=by
 rw [mV,aD]
 rintro⟨b,hb,h1⟩
 have:=hp b hb;omega
structure yk (jo:Bool->Bool->Bool) (X Y:List Int) (a b s:List aA):Prop where
 can:dS (s.map bH)
 cover: ∀x y,tq (s.map bH) x y=jo (tq (a.map bH) x y) (tq (b.map bH) x y)
 lim:sD X Y (s.map bH)
theorem vY {s:List aA} (hs:s≠[]) (hl:s.length<=1099511627776) (hc:dS (s.map bH)): ∃f l,idx s 0=some f/\idx s (IntKind.wrap .i64 (((s.length:Nat):Int) - 1))=some l/\f∈s/\l∈s/\∀c∈s,f.Y0<=c.Y0/\c.Y1<=l.Y1:=by
 cases s with
 | nil=>exact absurd rfl hs
 | cons f t=>
  rw [k8 (by simp) (by omega)]
  have hlt: (f::t).length - 1< (f::t).length:=by simp
  refine⟨f,(f::t)[(f::t).length - 1],rfl,iV _ _ hlt,by simp,cM _,fun c hcm=>⟨?_,?_⟩⟩
  ·exact hc.low (bH c) (cL.2 ⟨c,hcm,rfl⟩)
  ·have e: (f::t)= (f::t).dropLast++[(f::t)[(f::t).length - 1]]:=by
    have:=List.dropLast_concat_getLast (show f::t≠[] by simp)
    rw [<-List.getLast_eq_getElem (h:=by simp)];exact this.symm
   generalize (f::t)[(f::t).length - 1]=l at e
   have hc2:=hc
   rw [e,fu] at hc2
   have hm:bH c∈(List.map bH (f::t).dropLast++[bH l]):=by
    have:bH c∈(f::t).map bH:=cL.2 ⟨c,hcm,rfl⟩
    rw [e,fu] at this;exact this
   exact dS.high hc2 (bH c) hm
theorem AJ {φ:Bool->Bool->Option Bool} {jo:Bool->Bool->Bool} (hφ: ∀p q,φ p q=some (jo p q)) (hk:jo false false=false) {a b:List aA} {X Y:List Int} (ca:dS (a.map bH)) (cb:dS (b.map bH))
  (la:sD X Y (a.map bH)) (lb:sD X Y (b.map bH)) (hX:X.length<=1048576000) (hY:Y.length<=1048576000) (hs: ∀c∈Y,small c) (hN:4398046511104<=N):Ok (mf N a b φ) (yk jo X Y a b):=by
 have jy:a.length<=Y.length:=by have:=la.len ca;rwa [gM] at this
 have hbl:b.length<=Y.length:=by have:=lb.len cb;rwa [gM] at this
 unfold mf
 rw [wrap_add (by omega)]
 refine Ok.bif (fun h=>Ok.ret ?_) (fun h=>?_)
 ·have h:a.length+b.length=0:=by have:=beq_iff_eq.1 h;omega
  have e1:a= []:=List.eq_nil_of_length_eq_zero (by omega)
  have e2:b= []:=List.eq_nil_of_length_eq_zero (by omega)
  subst e1;subst e2
  exact⟨dS.nil,fun x y=>hk.symm,fun c hc=>(by cases hc)⟩
 have h0:a≠[]\/b≠[]:=by
  rw [beq_eq_false_iff_ne] at h
  by_cases e:a= []
  ·right;intro e2;subst e;subst e2;exact h rfl
  ·exact .inl e
 refine Ok.bind (Ok.jS (fun k s=>match k with | 0=>True | 1=>a= []\/((∀c∈a,s.1<=c.Y0/\c.Y1<=s.2)/\s.1∈Y/\s.2∈Y) | _=>((∀c∈a,s.1<=c.Y0/\c.Y1<=s.2)/\(∀c∈b,s.1<=c.Y0/\c.Y1<=s.2)/\s.1∈Y/\s.2∈Y)) (by simp) trivial (fun k s hk hI=>?_)) ?_
 ·obtain⟨y,e⟩:=s
  have hk:k=0\/k=1:=by simp at hk;omega
  rcases hk with rfl | rfl
  ·refine Ok.ix (x:=a) rfl ?_
   by_cases ea:a= []
   ·subst ea
    exact Ok.eq (x:=(y,e)) rfl (Ok.ret (.inl rfl))
   ·obtain⟨f,l,f1,f2,f3,f4,f5⟩:=vY ea (by omega) ca
    have hpos:decide (((a.length:Nat):Int)>0)=true:=cB (by have:=List.length_pos_iff.2 ea;omega)
    refine Ok.eq (x:=(f.Y0,l.Y1)) ?_ (Ok.ret (.inr ⟨f5,(la _ (cL.2 ⟨f,f3,rfl⟩)).1,(la _ (cL.2 ⟨l,f4,rfl⟩)).2.1⟩))
    rw [hpos,aQ]
    show ((some true).bind _)=_
    rw [aB,aQ,f1,aB,f2,aB,aB,aB,aB]
    simp
  ·refine Ok.ix (x:=b) rfl ?_
   have hI:a= []\/((∀c∈a,y<=c.Y0/\c.Y1<=e)/\y∈Y/\e∈Y):=hI
   by_cases eb:b= []
   ·subst eb
    refine Ok.eq (x:=(y,e)) rfl (Ok.ret ?_)
    rcases hI with h | ⟨h1,h2,h3⟩
    ·rcases h0 with h' | h'
     ·exact absurd h h'
     ·exact absurd rfl h'
    ·exact⟨h1,fun c hc=>(by cases hc),h2,h3⟩
   ·obtain⟨f,l,f1,f2,f3,f4,f5⟩:=vY eb (by omega) cb
    have hpos:decide (((b.length:Nat):Int)>0)=true:=cB (by have:=List.length_pos_iff.2 eb;omega)
    have g1:f.Y0∈Y:=(lb _ (cL.2 ⟨f,f3,rfl⟩)).1
    have g2:l.Y1∈Y:=(lb _ (cL.2 ⟨l,f4,rfl⟩)).2.1
    by_cases ea:a= []
    ·subst ea
     refine Ok.eq (x:=(f.Y0,l.Y1)) ?_ (Ok.ret ⟨fun c hc=>(by cases hc),f5,g1,g2⟩)
     rw [hpos,aQ]
     show ((some true).bind _)=_
     rw [aB,aQ,f1,aB,f2,aB,aB,aB,aB]
     simp
    ·obtain⟨h1,h2,h3⟩:=hI.resolve_left ea
     refine Ok.eq (x:=(if f.Y0<y then f.Y0 else y,if e<l.Y1 then l.Y1 else e)) ?_ (Ok.ret ⟨fun c hc=>?_,fun c hc=>?_,?_,?_⟩)
     ·rw [hpos,aQ]
      have ez: (((a.length:Nat):Int)==0)=false:=by rw [beq_eq_false_iff_ne];have:=List.length_pos_iff.2 ea;omega
      rw [ez]
      show ((some false).bind _)=_
      rw [aB,aS,aB,f1,aB,f2,aB]
     ·have:=h1 c hc;dsimp only;split <;> split <;> omega
     ·have:=f5 c hc;dsimp only;split <;> split <;> omega
     ·dsimp only;split
      ·exact g1
      ·exact h2
     ·dsimp only;split
      ·exact g2
      ·exact h3
 ·rintro⟨y0,e0⟩ hI
  have hI: (∀c∈a,y0<=c.Y0/\c.Y1<=e0)/\(∀c∈b,y0<=c.Y0/\c.Y1<=e0)/\y0∈Y/\e0∈Y:=hI
  obtain⟨ia,ib,iy,ie⟩:=hI
  have sy:=hs _ iy
  have se:=hs _ ie
  unfold small at sy se
  dsimp only
  refine Ok.bind (Ok.mZ (Go:=fun s=>yk jo X Y a b s.2.2.1) (Rt:=fun _=>True)
   (fun s=>∃pa pb,a=pa++s.1/\b=pb++s.2.1/\(∀c∈pa,c.Y1<=s.2.2.2)/\(∀c∈pb,c.Y1<=s.2.2.2)/\y0<=s.2.2.2/\s.2.2.2<=max y0 e0/\s.2.2.2∈Y/\dS (s.2.2.1.map bH)/\sD X Y (s.2.2.1.map bH)/\(∀c∈s.2.2.1,c.Y1<=s.2.2.2)/\
    ∀x y,tq (s.2.2.1.map bH) x y= (jo (tq (a.map bH) x y) (tq (b.map bH) x y)&&decide (y<s.2.2.2)))
   (fun s=>(e0 - s.2.2.2).toNat) ?_ ?_ (by dsimp only;omega)) ?_
  ·rintro⟨a',b',out,y⟩ ⟨pa,pb,ea,eb,hpa,hpb,hy0,hye,hyY,hcan,hlim,htop,hcov⟩
   dsimp only at ea eb hpa hpb hy0 hye hyY hcan hlim htop hcov ⊢
   refine Ok.bif (fun h=>?_) (fun h=>Ok.br ?_)
   ·have hlt:y<e0:=of_decide_eq_true h
    have hsl: ∀(p s t:List aA),t=p++s->s.length<=t.length:=fun p s t e=>by rw [e];simp
    have hal':=hsl _ _ _ ea
    have hbl':=hsl _ _ _ eb
    refine Ok.bind (xp (y:=y) (a:=a') (by omega) rfl) (fun o ho=>Ok.cs ho ?_ (fun r=>r.elim))
    rintro a2 ⟨qa,ea2,hqa,hha⟩
    refine Ok.bind (xp (y:=y) (a:=b') (by omega) rfl) (fun o ho=>Ok.cs ho ?_ (fun r=>r.elim))
    rintro b2 ⟨qb,eb2,hqb,hhb⟩
    have ea3:a= (pa++qa)++a2:=by rw [ea,ea2];simp
    have eb3:b= (pb++qb)++b2:=by rw [eb,eb2];simp
    have hPa: ∀c∈pa++qa,c.Y1<=y:=fun c hc=>by rcases cJ.1 hc with h | h;exact hpa c h;exact hqa c h
    have hPb: ∀c∈pb++qb,c.Y1<=y:=fun c hc=>by rcases cJ.1 hc with h | h;exact hpb c h;exact hqb c h
    have ca2:dS (a2.map bH):=by have:=ca;rw [ea3,fu] at this;exact this.app
    have cb2:dS (b2.map bH):=by have:=cb;rw [eb3,fu] at this;exact this.app
    have la2:sD X Y (a2.map bH):=fun c hc=>la c (by rw [ea3,fu];exact List.mem_append_right _ hc)
    have lb2:sD X Y (b2.map bH):=fun c hc=>lb c (by rw [eb3,fu];exact List.mem_append_right _ hc)
    refine Ok.eq (Fb a2 y e0) (Ok.eq (Fb b2 y e0) ?_)
    obtain⟨a1,a3,a4,a5,a6,a7,a8⟩:=Bs ca2 la2 hha hlt
    obtain⟨b1,b3,b4,b5,b6,b7,b8⟩:=Bs cb2 lb2 hhb hlt
    have hal2: (z8 a2 y e0).1.length<=X.length:=dW a5.nodup a8
    have hbl2: (z8 b2 y e0).1.length<=X.length:=dW b5.nodup b8
    generalize z8 a2 y e0=pa2 at *
    generalize z8 b2 y e0=pb2 at *
    obtain⟨xa,n⟩:=pa2
    obtain⟨xb,m⟩:=pb2
    dsimp only at *
    refine Ok.bind (Ci hφ hk a5 b5 a6 b6 (by omega) (by omega) (by omega)) ?_
    rintro row ⟨r1,r2,r3,r4⟩
    have hnx: ∃nx,nx= (if m<n then m else n)/\y<nx/\nx<=e0/\nx<=n/\nx<=m/\nx∈Y:=by
     refine⟨_,rfl,by split <;> omega,by split <;> omega,by split <;> omega,by split <;> omega,?_⟩
     split
     ·rcases b7 with h | h
      ·rw [h];exact ie
      ·exact h
     ·rcases a7 with h | h
      ·rw [h];exact ie
      ·exact h
    obtain⟨nx,hnx,n1,n2,n3,n4,n5⟩:=hnx
    rw [<-hnx]
    have hol:out.length<=Y.length:=by have:=hlim.len hcan;rwa [gM] at this
    obtain⟨out',p1,p2⟩:=Bq (N:=N) (s:=out) (b:=⟨y,nx,row⟩) (by omega) (fun c hc=>by
     have:=hlim.row hcan (b:=bH c) (cL.2 ⟨c,hc,rfl⟩)
     have e: (bH c).xs=c.Xs:=rfl
     rw [e] at this;omega)
    refine Ok.eq p1 ?_
    have htop': ∀c∈out.map bH,c.y1<=(bH ⟨y,nx,row⟩).y0:=fun c hc=>by
     obtain⟨d,hd,rfl⟩:=cL.1 hc
     exact htop d hd
    refine Ok.nx ⟨⟨pa++qa,pb++qb,ea3,eb3,fun c hc=>by have:=hPa c hc;dsimp only;omega,fun c hc=>by have:=hPb c hc;dsimp only;omega,by dsimp only;omega,by dsimp only;omega,n5,by dsimp only;rw [p2];exact uk hcan htop' r1 r2,?_,fun c hc=>?_,fun x y'=>?_⟩,by dsimp only;omega⟩
    ·dsimp only;rw [p2]
     refine hlim.push hyY n5 (fun c hc=>?_)
     rcases r4 c hc with h | h
     ·exact a8 c h
     ·exact b8 c h
    ·have hm':bH c∈ld (out.map bH) (bH ⟨y,nx,row⟩):=by rw [<-p2];exact cL.2 ⟨c,hc,rfl⟩
     exact um htop' (by show y<=nx;omega) _ hm'
    ·show lJ (rowAt (out'.map bH) y') x=_
     rw [p2,uj htop' (fun c hc=>(hcan.each c hc).1) (fun h=>absurd h (by show ¬nx<=y;omega))]
     by_cases hyy:y<=y'/\y'<nx
     ·rw [aC (show (bH ⟨y,nx,row⟩).y0<=y'/\y'< (bH ⟨y,nx,row⟩).y1 from hyy),cB hyy.2,Bool.and_true]
      show lJ row x=_
      have mp: ∀p q:List aA,(∀c∈p++q,c.Y1<=y)->∀c∈(p++q).map bH,c.y1<=y:=fun p q h c hc=>by
       obtain⟨d,hd,rfl⟩:=cL.1 hc
       exact h d hd
      have q1:tq (a.map bH) x y'=lJ xa x:=by
       unfold tq
       rw [ea3,fu,zG (mp _ _ hPa) hyy.1,a4 y' hyy.1 (by omega)]
      have q2:tq (b.map bH) x y'=lJ xb x:=by
       unfold tq
       rw [eb3,fu,zG (mp _ _ hPb) hyy.1,b4 y' hyy.1 (by omega)]
      rw [r3,q1,q2]
     ·rw [aD (show ¬((bH ⟨y,nx,row⟩).y0<=y'/\y'< (bH ⟨y,nx,row⟩).y1) from hyy)]
      show tq (out.map bH) x y'=_
      rw [hcov]
      by_cases h1:y'<y
      ·rw [cB h1,cB (show y'<nx by omega)]
      ·rw [bC h1,bC (show ¬y'<nx by omega)]
   ·have hge:e0<=y:=by have:=of_decide_eq_false h;omega
    refine⟨hcan,fun x y'=>?_,hlim⟩
    dsimp only
    rw [hcov]
    by_cases h1:y'<y
    ·rw [cB h1,Bool.and_true]
    ·have z: ∀s:List aA,(∀c∈s,y0<=c.Y0/\c.Y1<=e0)->tq (s.map bH) x y'=false:=fun s h=>by
      unfold tq
      rw [jr fun c hc=>?_]
      ·rfl
      ·obtain⟨d,hd,rfl⟩:=cL.1 hc
       exact .inr (by have:=(h d hd).2;show d.Y1<=y';omega)
     rw [z a ia,z b ib,hk];rfl
  ·refine⟨[],[],rfl,rfl,fun c hc=>(by cases hc),fun c hc=>(by cases hc),Int.le_refl _,by dsimp only;omega,iy,dS.nil,fun c hc=>(by cases hc),fun c hc=>(by cases hc),fun x y=>?_⟩
   dsimp only
   show false=_
   by_cases h1:y<y0
   ·have z: ∀s:List aA,(∀c∈s,y0<=c.Y0/\c.Y1<=e0)->tq (s.map bH) x y=false:=fun s h=>by
     unfold tq
     rw [jr fun c hc=>?_]
     ·rfl
     ·obtain⟨d,hd,rfl⟩:=cL.1 hc
      exact .inl (by have:=(h d hd).1;show y<d.Y0;omega)
    rw [z a ia,z b ib,hk];rfl
   ·rw [bC h1,Bool.and_false]
  ·rintro o ho
   exact Ok.cs ho (fun s h=>Ok.ret h) (fun r=>r.elim)
theorem Cj {a b:List aA} {X Y:List Int} (ca:dS (a.map bH)) (cb:dS (b.map bH)) (la:sD X Y (a.map bH)) (lb:sD X Y (b.map bH)) (hX:X.length<=1048576000) (hY:Y.length<=1048576000) (hs: ∀c∈Y,small c) (hN:4398046511104<=N):
  Ok (i7 N a b) (yk (fun p q=>p&& !q) X Y a b):=by
 unfold i7
 exact Ok.bind (AJ (jo:=fun p q=>p&& !q) (fun p q=>rfl) rfl ca cb la lb hX hY hs hN) (fun s h=>Ok.ret h)
end
end Go.Gk
namespace Go.Gk
open Go
section
variable {N:Nat}
structure UF (n:Nat) (up:List Int) (r:Nat->Nat):Prop where
 len:up.length=n
 rt: ∀i,i<n->∃u:Nat,up[i]? =some ((u:Nat):Int)/\u<=i/\r u=r i/\(u=i↔r i=i)
theorem UF.le {n:Nat} {up:List Int} {r:Nat->Nat} (h:UF n up r): ∀i,i<n->r i<=i:=by
 intro i
 induction i using Nat.strongRecOn with
 | ind i ih=>
  intro hi
  obtain⟨u,_,h2,h3,h4⟩:=h.rt i hi
  by_cases e:u=i
  ·rw [h4.1 e];exact bI _
  ·rw [<-h3];have:=ih u (by omega) (by omega);omega
theorem UF.rr {n:Nat} {up:List Int} {r:Nat->Nat} (h:UF n up r): ∀i,i<n->r (r i)=r i:=by
 intro i
 induction i using Nat.strongRecOn with
 | ind i ih=>
  intro hi
  obtain⟨u,_,h2,h3,h4⟩:=h.rt i hi
  by_cases e:u=i
  ·rw [h4.1 e,h4.1 e]
  ·rw [<-h3];exact ih u (by omega) (by omega)
theorem kT {l:List Int} {j:Nat} {v:Int} {i:Nat} (hj:j<l.length): (l.set j v)[i]? =if i=j then some v else l[i]? :=by
 rw [eO]
 by_cases e:j=i
 ·rw [aC e,aC e.symm,aC hj]
 ·rw [aD e,aD (fun h=>e h.symm)]
theorem UF.init (n:Nat) (up:List Int) (h1:up.length=n) (h2: ∀i,i<n->up[i]? =some ((i:Nat):Int)):UF n up (fun i=>i):=
 ⟨h1,fun i hi=>⟨i,h2 i hi,bI _,rfl,by simp⟩⟩
theorem qB {n:Nat} (hn:n<=1048576000): ∃up,gY N ((n:Nat):Int)=some up/\UF n up (fun i=>i):=by
 unfold gY
 rw [pd 0 (by omega),aB]
 have h0: (List.replicate n (0:Int)).length=n:=by simp
 obtain⟨s',h1,h2⟩:=u5 (m:=(List.replicate n (0:Int)).length) (s:=List.replicate n (0:Int)) (body:=fun(k34:Nat) (s35: (List Int))=>((idx s35 (k34:Int)).bind fun x38=>some (s35.set (Int.toNat (k34:Int)) (k34:Int)):Option ((List Int))))
  (fun k s=>s.length=n/\∀i,i<k->s[i]? =some ((i:Nat):Int)) (by omega) ⟨h0,fun i hi=>by omega⟩ (fun k s hk ⟨hs,hi⟩=>by
   refine⟨s.set k ((k:Nat):Int),?_,by simp [hs],fun i hi'=>?_⟩
   ·rw [iV _ _ (by omega),aB,bP]
   ·rw [kT (by omega)]
    split
    ·rename_i e;rw [e]
    ·exact hi i (by omega))
 rw [h1,aB]
 exact⟨s',rfl,UF.init n s' h2.1 (fun i hi=>h2.2 i (by omega))⟩
theorem mB {n:Nat} {up:List Int} {r:Nat->Nat} (h:UF n up r) {i:Nat} (hi:i<n) (hn:n<N): ∃up',dC N up ((i:Nat):Int)=some (((r i:Nat):Int),up')/\UF n up' r:=by
 unfold dC
 obtain⟨o,h1,h2⟩:=sX (R:=Empty) (body:=fun(s32: (List Int)×Int)=>((idx s32.1 s32.2).bind fun x43=>bif (x43 != s32.2) then ((idx s32.1 s32.2).bind fun x44=>(idx s32.1 x44).bind fun x45=>(idx s32.1 s32.2).bind fun x46=>(idx (s32.1.set (Int.toNat s32.2) x45) s32.2).bind fun x47=>some (.nx ((s32.1.set (Int.toNat s32.2) x45),x47))) else (some (.br (s32.1,s32.2))):Option (Fl ((List Int)×Int) Empty)))
  (fun s=>UF n s.1 r/\∃j:Nat,s.2= ((j:Nat):Int)/\j<n/\r j=r i) (fun s=>s.2.toNat) (fun s=>s.2= ((r i:Nat):Int)/\UF n s.1 r) (fun _=>True) (fun s ⟨hu,j,hj,hjn,hr⟩=>by
   obtain⟨l,y⟩:=s
   dsimp only at hu hj ⊢
   subst hj
   obtain⟨u,a1,a2,a3,a4⟩:=hu.rt j hjn
   rw [dK a1,aB]
   by_cases e:u=j
   ·subst e
    refine⟨.br (l,((u:Nat):Int)),by rw [show (((u:Nat):Int) != ((u:Nat):Int))=false by simp,aS],?_,hu⟩
    show ((u:Nat):Int)=_
    rw [<-hr,a4.1 rfl]
   ·obtain⟨v,b1,b2,b3,b4⟩:=hu.rt u (by omega)
    have hl:=hu.len
    refine⟨.nx (l.set j ((v:Nat):Int),((v:Nat):Int)),by
     rw [show (((u:Nat):Int) != ((j:Nat):Int))=true by simp;omega,aQ,aB,dK b1,aB,aB,bP,
      dK (x:=((v:Nat):Int)) (by rw [kT (by omega),aC rfl]),aB],⟨⟨by simp [hl],fun k hk=>?_⟩,v,rfl,by omega,?_⟩,?_⟩
    ·rw [kT (by omega)]
     by_cases e2:k=j
     ·subst e2
      rw [aC rfl]
      refine⟨v,rfl,by omega,by rw [b3,a3],?_⟩
      constructor
      ·intro h;omega
      ·intro h;exact absurd (a4.2 h) e
     ·rw [aD e2];exact hu.rt k hk
    ·rw [b3,a3,hr]
    ·simp only [bP];omega)
  N (up,((i:Nat):Int)) ⟨h,i,rfl,hi,rfl⟩ (by simp only [bP];omega)
 rw [h1,aB]
 cases o with
 | go s'=>exact⟨s'.1,by rw [<-h2.1];rfl,h2.2⟩
 | rt r=>exact r.elim
def lP (r:Nat->Nat) (a b:Nat):Nat->Nat:=fun x=>if r x=max a b then min a b else r x
theorem DD (a b:Nat): (if ((a:Nat):Int)< ((b:Nat):Int) then ((b:Nat):Int) else ((a:Nat):Int))= ((max a b:Nat):Int):=by
 rw [Nat.max_def];split <;> split <;> omega
theorem DE (a b:Nat): (if ((b:Nat):Int)< ((a:Nat):Int) then ((b:Nat):Int) else ((a:Nat):Int))= ((min a b:Nat):Int):=by
 rw [Nat.min_def];split <;> split <;> omega
theorem Bt {n:Nat} {up:List Int} {r:Nat->Nat} (h:UF n up r) {i k:Nat} (hi:i<n) (hk:k<n) (hn:n<N):
  ∃up',cV N up ((i:Nat):Int) ((k:Nat):Int)=some up'/\UF n up' (lP r (r i) (r k)):=by
 obtain⟨u1,a1,a2⟩:=mB h hi hn
 obtain⟨u2,b1,b2⟩:=mB a2 hk hn
 have hri:=h.le i hi
 have hrk:=h.le k hk
 have rri:=h.rr i hi
 have rrk:=h.rr k hk
 unfold cV
 rw [a1,aB,b1,aB]
 dsimp only
 rw [DD,DE]
 have hm:max (r i) (r k)<n:=by omega
 have hl:=b2.len
 rw [iV _ _ (by omega),aB,bP]
 refine⟨_,rfl,by simp [hl],fun x hx=>?_⟩
 have rmax:r (max (r i) (r k))=max (r i) (r k):=by rcases Nat.le_total (r i) (r k) with e | e <;> simp [Nat.max_def] <;> split <;> omega
 have rmin:r (min (r i) (r k))=min (r i) (r k):=by rcases Nat.le_total (r i) (r k) with e | e <;> simp [Nat.min_def] <;> split <;> omega
 rw [kT (by omega)]
 by_cases e:x=max (r i) (r k)
 ·subst e
  rw [aC rfl]
  refine⟨min (r i) (r k),rfl,by omega,?_,?_⟩
  ·unfold lP;rw [rmin,rmax,aC rfl];split <;> rfl
  ·unfold lP;rw [rmax,aC rfl]
 ·rw [aD e]
  obtain⟨u,c1,c2,c3,c4⟩:=b2.rt x hx
  refine⟨u,c1,c2,?_,?_⟩
  ·unfold lP;rw [c3]
  ·unfold lP
   split
   ·rename_i e2
    constructor
    ·intro hu;have:=c4.1 hu;omega
    ·intro hu
     have h1:=b2.le x hx
     have:min (r i) (r k)=max (r i) (r k)\/x<max (r i) (r k):=by omega
     have h3:x=max (r i) (r k):=by omega
     exact absurd h3 e
   ·exact c4
def l3 (r:Nat->Nat) (E:List (Nat×Nat)):Prop:=∀p∈E,r p.1=r p.2
def uv (n:Nat) (r:Nat->Nat) (E:List (Nat×Nat)):Prop:=∀S:Nat->Prop,(∀p∈E,S p.1↔S p.2)->∀i j,i<n->j<n->r i=r j->S i->S j
theorem l3.join {r:Nat->Nat} {E:List (Nat×Nat)} (h:l3 r E) (i k:Nat) (_h2:r (r i)=r i):l3 (lP r (r i) (r k)) (E++[(i,k)]):=fun p hp=>by
 rcases cJ.1 hp with hp | hp
 ·unfold lP;rw [h p hp]
 ·simp at hp;subst hp
  unfold lP
  dsimp only
  split <;> split <;> omega
theorem uv.join {n:Nat} {r:Nat->Nat} {E:List (Nat×Nat)} (h:uv n r E) {i k:Nat} (hi:i<n) (hk:k<n):uv n (lP r (r i) (r k)) (E++[(i,k)]):=fun S hS x y hx hy hr hSx=>by
 have hE: ∀p∈E,S p.1↔S p.2:=fun p hp=>hS p (List.mem_append_left _ hp)
 have hik:S i↔S k:=hS (i,k) (by simp)
 have key:=h S hE
 unfold lP at hr
 by_cases h1:r x=r y
 ·exact key x y hx hy h1 hSx
 ·have: (r x=r i/\r y=r k)\/(r x=r k/\r y=r i):=by
   split at hr <;> split at hr <;> omega
  rcases this with ⟨e1,e2⟩ | ⟨e1,e2⟩
  ·exact key k y hk hy e2.symm (hik.1 (key x i hx hi e1 hSx))
  ·exact key i y hi hy e2.symm (hik.2 (key x k hx hk e1 hSx))
theorem uv.id (n:Nat):uv n (fun i=>i) []:=fun S _ i j _ _ h hs=>by
 have h:i=j:=h
 subst h;exact hs
theorem l3.id:l3 (fun i=>i) []:=fun p hp=>by simp at hp
def bR (n:Nat) (r:Nat->Nat):List Nat:=(List.range n).filter (fun k=>decide (r k=k))
def cls (n:Nat) (r:Nat->Nat) (k:Nat):List Nat:=(List.range n).filter (fun i=>decide (r i=k))
theorem iS (n:Nat) (r:Nat->Nat):bR (n+1) r=if r n=n then bR n r++[n] else bR n r:=by
 unfold bR
 rw [List.range_succ,iU]
 by_cases h:r n=n
 ·rw [aC h];simp [h]
 ·rw [aD h];simp [h]
theorem qC (n:Nat) (r:Nat->Nat) (k:Nat):cls (n+1) r k=if r n=k then cls n r k++[n] else cls n r k:=by
 unfold cls
 rw [List.range_succ,iU]
 by_cases h:r n=k
 ·rw [aC h];simp [h]
 ·rw [aD h];simp [h]
theorem m9 (n:Nat) (r:Nat->Nat): (bR n r).length<=n:=by
 have:=l8 (fun k=>decide (r k=k)) (List.range n)
 rw [List.length_range] at this;exact this
theorem yl (n:Nat) (r:Nat->Nat) (k:Nat): (cls n r k).length<=n:=by
 have:=l8 (fun i=>decide (r i=k)) (List.range n)
 rw [List.length_range] at this;exact this
theorem iH {n k:Nat} {r:Nat->Nat}:k∈bR n r↔k<n/\r k=k:=by unfold bR;simp
theorem lj (n:Nat) (r:Nat->Nat): (bR n r).Nodup:=List.Nodup.sublist List.filter_sublist List.nodup_range
def nz (n:Nat) (r:Nat->Nat):List (List Int):=(bR n r).map (fun k=>(cls n r k).map (fun i=>((i:Nat):Int)))
theorem Bu {n k:Nat} {r:Nat->Nat} (h: ∀i,i<n->r i<=i) (hk:n<=k):cls n r k= []:=by
 unfold cls
 rw [List.filter_eq_nil_iff]
 intro i hi
 have h1:=mM.1 hi
 have:=h i h1
 simp;omega
theorem qD {α β:Type} (f g:α->β) (l:List α) (j:Nat) (a:α) (hn:l.Nodup) (hj:l[j]? =some a) (hf: ∀b,b∈l->b≠a->f b=g b): (l.map f).set j (g a)=l.map g:=by
 apply List.ext_getElem?
 intro i
 have hjl:=(aW.1 hj).1
 rw [eO,gM,gz,gz]
 by_cases e:j=i
 ·subst e;rw [aC rfl,aC hjl,hj];rfl
 ·rw [aD e]
  cases hb:l[i]? with
  | none=>rfl
  | some b=>
   have hne:b≠a:=fun he=>by
    subst he
    have hil:=(aW.1 hb).1
    exact e ((List.getElem_inj hn).1 (by rw [(aW.1 hb).2,(aW.1 hj).2]) |>.symm)
   show some (f b)=some (g b)
   rw [hf b (gN hb) hne]
def Ht (n:Nat) (r:Nat->Nat) (m:List (Int×Int)):Prop:=∀(j k:Nat),(bR n r)[j]? =some k->cZ m ((k:Nat):Int) 0= ((j:Nat):Int)
theorem ER {n:Nat} {up:List Int} {r:Nat->Nat} (h:UF n up r) (hn:n<N) (hn2:n<=1048576000): ∃up',hZ N up=some (nz n r,up')/\UF n up' r:=by
 unfold hZ
 have hlen:=h.len
 have hle:=h.le
 have hrr:=h.rr
 obtain⟨s',h1,h2⟩:=u5 (m:=up.length) (s:=(up,([]: (List (List Int))),([]: (List (Int×Int)))))
  (body:=fun(k32:Nat) (s33: (List Int)×(List (List Int))×(List (Int×Int)))=>((dC N s33.1 (k32:Int)).bind fun x117=>(bif (x117.1==(k32:Int)) then ((app 24 s33.2.1 [([]: (List Int))]).bind fun x126=>some (x126,(n0 s33.2.2 (k32:Int) (s33.2.1.length:Int)))) else (some (s33.2.1,s33.2.2))).bind fun s122=>(idx s122.1 (cZ s122.2 x117.1 (0:Int))).bind fun iR=>(app 8 iR ([(k32:Int)]: (List Int))).bind fun x134=>(idx s122.1 (cZ s122.2 x117.1 (0:Int))).bind fun x136=>some (x117.2,(s122.1.set (Int.toNat (cZ s122.2 x117.1 (0:Int))) x134),s122.2):Option ((List Int)×(List (List Int))×(List (Int×Int)))))
  (fun k s=>UF n s.1 r/\s.2.1=nz k r/\Ht k r s.2.2) (by omega) ⟨h,rfl,fun j k hj=>by simp [bR] at hj⟩ (fun k s hk ⟨hu,hs,hm⟩=>by
   obtain⟨l,ss,m⟩:=s
   dsimp only at hu hs hm ⊢
   subst hs
   rw [hlen] at hk
   obtain⟨u',a1,a2⟩:=mB hu hk hn
   rw [a1,aB]
   dsimp only
   have hhl:=m9 k r
   have hsl: (nz k r).length= (bR k r).length:=by unfold nz;simp
   have hrk:=hle k hk
   by_cases e:r k=k
   ·
    rw [show (((r k:Nat):Int)==((k:Nat):Int))=true by rw [e];simp,aQ,il (by rw [hsl];simp;omega),aB,aB]
    dsimp only
    rw [e,iG,aC rfl,hsl]
    have hi: (nz k r++[([]:List Int)])[(bR k r).length]? =some []:=by rw [<-hsl,eW (bI _),Nat.sub_self];rfl
    rw [dK hi,aB,il (by simp),aB,aB,bP]
    refine⟨_,rfl,a2,?_,fun j q hj=>?_⟩
    ·dsimp only
     rw [<-hsl,List.set_append_right _ _ (bI _),Nat.sub_self]
     unfold nz
     rw [iS,aC e,fu]
     congr 1
     ·apply List.map_congr_left
      intro a ha
      have:=(iH.1 ha).1
      rw [qC,aD (by omega)]
     ·simp only [List.set_cons_zero,eB,List.map_nil,List.nil_append]
      rw [qC,aC e,Bu (fun i hi=>hle i (by omega)) (bI _)];rfl
    ·dsimp only
     rw [iS,aC e] at hj
     rw [iG]
     by_cases e2:j< (bR k r).length
     ·rw [fx e2] at hj
      have:=(iH.1 (gN hj)).1
      rw [aD (by omega)];exact hm j q hj
     ·rw [eW (by omega)] at hj
      have hj0:j - (bR k r).length=0:=by
       have:=(aW.1 hj).1;simp at this;omega
      rw [hj0] at hj;simp at hj;subst hj
      rw [aC rfl];congr 1;omega
   ·rw [show (((r k:Nat):Int)==((k:Nat):Int))=false by simp;omega,aS,aB]
    dsimp only
    have hh:r k∈bR k r:=iH.2 ⟨by omega,hrr k hk⟩
    obtain⟨j,hj⟩:=fS hh
    rw [hm j (r k) hj]
    have hcl:=yl k r (r k)
    have hi: (nz k r)[j]? =some ((cls k r (r k)).map (fun i=>((i:Nat):Int))):=by unfold nz;rw [gz,hj];rfl
    rw [dK hi,aB,il (by simp;omega),aB,aB,bP]
    refine⟨_,rfl,a2,?_,fun j' q hj'=>?_⟩
    ·unfold nz
     rw [iS,aD e]
     have:=qD (fun a=>(cls k r a).map (fun i=>((i:Nat):Int))) (fun a=>(cls (k+1) r a).map (fun i=>((i:Nat):Int))) (bR k r) j (r k) (lj k r) hj (fun b hb hne=>by
      rw [qC,aD (fun h=>hne h.symm)])
     rw [qC,aC rfl,fu] at this
     exact this
    ·rw [iS,aD e] at hj';exact hm j' q hj')
 rw [h1,aB]
 obtain⟨l,ss,m⟩:=s'
 dsimp only at h2
 rw [hlen] at h2
 refine⟨l,?_,h2.1⟩
 rw [<-h2.2.1]
end
end Go.Gk
namespace Go.Gk
open Go
section
variable {N:Nat}
theorem ym {n:Nat} {up:List Int} {r:Nat->Nat} (h:UF n up r) {i:Nat} (hi:i<n) (hn:n<N): ∃up',dR N ((i:Nat):Int) up=some (((r i:Nat):Int),up')/\UF n up' r:=by
 unfold dR
 have:=Ok.bind (β:=Int×List Int) (Q:=fun x=>x.1= ((r i:Nat):Int)/\UF n x.2 r) (Ok.mZ (body:=fun(s32:Int×(List Int))=>((idx s32.2 s32.1).bind fun x43=>bif (x43 != s32.1) then ((idx s32.2 s32.1).bind fun x44=>(idx s32.2 x44).bind fun x45=>(idx s32.2 s32.1).bind fun x46=>(idx (s32.2.set (Int.toNat s32.1) x45) s32.1).bind fun x47=>some (.nx (x47,(s32.2.set (Int.toNat s32.1) x45)))) else (some (.br (s32.1,s32.2))):Option (Fl (Int×(List Int)) Empty)))
  (N:=N) (s:=(((i:Nat):Int),up)) (Go:=fun s=>s.1= ((r i:Nat):Int)/\UF n s.2 r) (Rt:=fun _=>True) (fun s=>UF n s.2 r/\∃j:Nat,s.1= ((j:Nat):Int)/\j<n/\r j=r i) (fun s=>s.1.toNat) (by
   rintro⟨y,l⟩ ⟨hu,j,hj,hjn,hr⟩
   dsimp only at hu hj ⊢
   subst hj
   obtain⟨u,a1,a2,a3,a4⟩:=hu.rt j hjn
   refine Ok.ix a1 ?_
   by_cases e:u=j
   ·subst e
    rw [show (((u:Nat):Int) != ((u:Nat):Int))=false by simp,aS]
    refine Ok.br ⟨?_,hu⟩
    show ((u:Nat):Int)=_
    rw [<-hr,a4.1 rfl]
   ·obtain⟨v,b1,b2,b3,b4⟩:=hu.rt u (by omega)
    have hl:=hu.len
    rw [show (((u:Nat):Int) != ((j:Nat):Int))=true by simp;omega,aQ]
    refine Ok.ix a1 (Ok.ix b1 (Ok.ix a1 (Ok.ix (x:=((v:Nat):Int)) (by rw [bP,kT (by omega),aC rfl]) (Ok.nx ⟨⟨⟨by simp [hl],fun k hk=>?_⟩,v,rfl,by omega,?_⟩,?_⟩))))
    ·rw [bP,kT (by omega)]
     by_cases e2:k=j
     ·subst e2
      rw [aC rfl]
      refine⟨v,rfl,by omega,by rw [b3,a3],?_⟩
      constructor
      ·intro h;omega
      ·intro h;exact absurd (a4.2 h) e
     ·rw [aD e2];exact hu.rt k hk
    ·rw [b3,a3,hr]
    ·simp only [bP];omega)
  ⟨h,i,rfl,hi,rfl⟩ (by simp only [bP];omega))
  (fun o ho=>Ok.cs (f:=fun(s32:Int×(List Int))=>some (s32.1,s32.2)) (g:=fun r:Empty=>r.elim) ho (fun s h=>Ok.ret h) (fun r=>r.elim))
 obtain⟨⟨x,up'⟩,h1,h2,h3⟩:=this
 exact⟨up',by rw [<-h2];exact h1,h3⟩
theorem DF {n:Nat} {up:List Int} {r:Nat->Nat} (h:UF n up r) {i k:Nat} (hi:i<n) (hk:k<n) {f:List Int->Option (List Int)} (hn:n<N):
  ∃up',((dR N ((i:Nat):Int) up).bind fun x840=>(dR N ((k:Nat):Int) x840.2).bind fun x842=>(idx x842.2 (if x840.1<x842.1 then x842.1 else x840.1)).bind fun x844=>some (x842.2.set (Int.toNat (if x840.1<x842.1 then x842.1 else x840.1)) (if x842.1<x840.1 then x842.1 else x840.1)))=some up'/\UF n up' (lP r (r i) (r k)):=by
 obtain⟨u1,a1,a2⟩:=ym h hi hn
 obtain⟨u2,b1,b2⟩:=ym a2 hk hn
 obtain⟨v1,c1,c2⟩:=mB h hi hn
 have hri:=h.le i hi
 have hrk:=h.le k hk
 have rri:=h.rr i hi
 have rrk:=h.rr k hk
 rw [a1,aB,b1,aB]
 dsimp only
 rw [DD,DE]
 have hm:max (r i) (r k)<n:=by omega
 have hl:=b2.len
 rw [iV _ _ (by omega),aB,bP]
 refine⟨_,rfl,by simp [hl],fun x hx=>?_⟩
 have rmax:r (max (r i) (r k))=max (r i) (r k):=by rcases Nat.le_total (r i) (r k) with e | e <;> simp [Nat.max_def] <;> split <;> omega
 have rmin:r (min (r i) (r k))=min (r i) (r k):=by rcases Nat.le_total (r i) (r k) with e | e <;> simp [Nat.min_def] <;> split <;> omega
 rw [kT (by omega)]
 by_cases e:x=max (r i) (r k)
 ·subst e
  rw [aC rfl]
  refine⟨min (r i) (r k),rfl,by omega,?_,?_⟩
  ·unfold lP;rw [rmin,rmax,aC rfl];split <;> rfl
  ·unfold lP;rw [rmax,aC rfl]
 ·rw [aD e]
  obtain⟨u,c1,c2,c3,c4⟩:=b2.rt x hx
  refine⟨u,c1,c2,?_,?_⟩
  ·unfold lP;rw [c3]
  ·unfold lP
   split
   ·rename_i e2
    constructor
    ·intro hu;have:=c4.1 hu;omega
    ·intro hu
     have h1:=b2.le x hx
     have h3:x=max (r i) (r k):=by omega
     exact absurd h3 e
   ·exact c4
def gl (s:List aA) (k:Nat):Nat:=(aL (s.take k)).length
theorem uw {s:List aA} {k:Nat} (h:k<s.length):gl s (k+1)=gl s k+s[k].Xs.length / 2:=by
 unfold gl
 rw [fA h,kJ,eA]
 show _+ (aL [s[k]]).length=_
 rw [show aL [s[k]]=lf s[k] by simp [aL],ku]
theorem ux {s:List aA} {k m:Nat} (h:k<=m):gl s k<=gl s m:=by
 unfold gl
 have:=uq (s.take m) k
 rwa [List.take_take,Nat.min_eq_left h] at this
theorem zH (s:List aA):gl s s.length= (aL s).length:=by unfold gl;rw [fy]
theorem ES {s:List aA} {k t:Nat} (h:k<s.length) (ht:2*t+1<s[k].Xs.length): (aL s)[gl s k+t]? =some ⟨s[k].Xs[2*t],s[k].Y0,s[k].Xs[2*t+1],s[k].Y1⟩:=by
 have e:aL s=aL (s.take k)++(lf s[k]++aL (s.drop (k+1))):=by
  conv=>lhs;rw [<-List.take_append_drop k s,qQ h]
  rw [kJ,lh]
 rw [e]
 unfold gl
 rw [eW (by omega),Nat.add_sub_cancel_left,fx (by rw [ku];omega)]
 unfold lf
 rw [gz,tt _ _ ht];rfl
theorem Bv {s:List aA} {i:Nat} (h:i< (aL s).length): ∃k,k<s.length/\gl s k<=i/\i<gl s (k+1):=by
 have key: ∀m,m<=s.length->i<gl s m->∃k,k<m/\gl s k<=i/\i<gl s (k+1):=by
  intro m
  induction m with
  | zero=>intro _ h;unfold gl at h;simp [aL] at h
  | succ m ih=>
   intro hm hi
   by_cases h1:i<gl s m
   ·obtain⟨k,hk,h2⟩:=ih (by omega) h1
    exact⟨k,by omega,h2⟩
   ·exact⟨m,by omega,by omega,hi⟩
 exact key s.length (bI _) (by rw [zH];exact h)
def F1 (a c:aI):Prop:=a.Y1=c.Y0/\a.X0<c.X1/\c.X0<a.X1
def Ck (all:List aI) (i j:Nat):Prop:=∃a c,all[i]? =some a/\all[j]? =some c/\F1 a c
theorem q9 {s:List aA} (he: ∀b∈s,b.Xs.length % 2=0) {k i:Nat} (hk:k<s.length) (h1:gl s k<=i) (h2:i<gl s (k+1)): ∃t,i=gl s k+t/\∃h:2*t+1<s[k].Xs.length,(aL s)[i]? =some ⟨s[k].Xs[2*t],s[k].Y0,s[k].Xs[2*t+1],s[k].Y1⟩:=by
 rw [uw hk] at h2
 have:=he _ (cM hk)
 refine⟨i - gl s k,by omega,by omega,?_⟩
 have h3:=ES (t:=i - gl s k) hk (by omega)
 rwa [show gl s k+ (i - gl s k)=i by omega] at h3
theorem vZ {s:List aA} (hc:dS (s.map bH)) {p q:Nat} (hp:p<s.length) (hq:q<s.length) (h:p<q):s[p].Y1<=s[q].Y0:=by
 have:=mO.1 hc.ord p q (by simp;omega) (by simp;omega) h
 simp only [List.getElem_map] at this
 exact this.1
theorem v7 {s:List aA} (hc:dS (s.map bH)) {p:Nat} (hp:p<s.length):s[p].Y0<s[p].Y1:=(hc.each (bH s[p]) (cL.2 ⟨_,cM hp,rfl⟩)).1
theorem oS {s:List aA} (hc:dS (s.map bH)): ∀b∈s,b.Xs.length % 2=0:=fun b hb=>(hc.each (bH b) (cL.2 ⟨b,hb,rfl⟩)).2.2.2
theorem Bw {s:List aA} (hc:dS (s.map bH)): ∀b∈s,kY b.Xs:=fun b hb=>(hc.each (bH b) (cL.2 ⟨b,hb,rfl⟩)).2.2.1
theorem zI {s:List aA} (hc:dS (s.map bH)) {i j q:Nat} (hq:q<s.length) (h1:gl s q<=j) (h2:j<gl s (q+1)) (ht:Ck (aL s) i j): ∃hq0:0<q,s[q - 1].Y1=s[q].Y0/\gl s (q - 1)<=i/\i<gl s q:=by
 obtain⟨a,c,ha,hb,e1,e2,e3⟩:=ht
 obtain⟨t,e4,ht,hj⟩:=q9 (oS hc) hq h1 h2
 rw [hj] at hb;injection hb with hb;subst hb
 have hil:=(aW.1 ha).1
 obtain⟨p,hp,p1,p2⟩:=Bv hil
 obtain⟨u,e5,hu,hi⟩:=q9 (oS hc) hp p1 p2
 rw [hi] at ha;injection ha with ha;subst ha
 have e1:s[p].Y1=s[q].Y0:=e1
 have hpp:=v7 hc hp
 have hqq:=v7 hc hq
 have hpq:p+1=q:=by
  rcases Nat.lt_trichotomy p q with h | h | h
  ·by_cases h':p+1=q
   ·exact h'
   ·have h3:=vZ hc hp (show p+1<s.length by omega) (by omega)
    have h4:=vZ hc (show p+1<s.length by omega) hq (by omega)
    have h5:=v7 hc (show p+1<s.length by omega)
    omega
  ·subst h;omega
  ·have:=vZ hc hq hp h;omega
 subst hpq
 exact⟨by omega,e1,p1,p2⟩
structure PJ (all:List aI) (n:Nat) (up:List Int) (r:Nat->Nat) (E:List (Nat×Nat)):Prop where
 uf:UF n up r
 co:l3 r E
 fi:uv n r E
 so: ∀p∈E,Ck all p.1 p.2
theorem PJ.join {all:List aI} {n:Nat} {up up':List Int} {r:Nat->Nat} {E:List (Nat×Nat)} (h:PJ all n up r E) {i j:Nat} (hi:i<n) (hj:j<n) (hu:UF n up' (lP r (r i) (r j))) (ht:Ck all i j):PJ all n up' (lP r (r i) (r j)) (E++[(i,j)]):=
 ⟨hu,h.co.join i j (h.uf.rr i hi),h.fi.join hi hj,fun p hp=>by
  rcases cJ.1 hp with hp | hp
  ·exact h.so p hp
  ·simp at hp;subst hp;exact ht⟩
structure Joined (all:List aI) (r:Nat->Nat):Prop where
 le: ∀i,i<all.length->r i<=i
 rr: ∀i,i<all.length->r (r i)=r i
 co: ∀i j,Ck all i j->r i=r j
 fi: ∀S:Nat->Prop,(∀i j,Ck all i j->(S i↔S j))->∀i j,i<all.length->j<all.length->r i=r j->S i->S j
def lr (all:List aI) (n:Nat) (r:Nat->Nat) (h:Nat):List aI:=(cls n r h).filterMap (fun i=>all[i]?)
theorem v8 (all:List aI) (n:Nat) (r:Nat->Nat) (h:Nat): (lr all n r h).length<=n:=by
 have h1:=List.length_filterMap_le (fun i=>all[i]?) (cls n r h)
 have h2:=yl n r h
 unfold lr;omega
theorem ra {all:List aI} {n:Nat} {r:Nat->Nat} (h:Nat) {x:aI} (hx:all[n]? =some x):lr all (n+1) r h=if r n=h then lr all n r h++[x] else lr all n r h:=by
 unfold lr
 rw [qC]
 split
 ·rw [List.filterMap_append];simp [hx]
 ·rfl
theorem mo {all:List aI} {n:Nat} {r:Nat->Nat} {h:Nat} {x:aI}:x∈lr all n r h↔∃i,i<n/\r i=h/\all[i]? =some x:=by
 unfold lr cls
 rw [List.mem_filterMap]
 constructor
 ·rintro⟨i,hi,h⟩
  have:=iT.1 hi
  exact⟨i,mM.1 this.1,by simpa using this.2,h⟩
 ·rintro⟨i,h1,h2,h3⟩
  exact⟨i,iT.2 ⟨mM.2 h1,by simpa using h2⟩,h3⟩
structure pj (s:List aA) (r:Nat->Nat) (ps:List (List aA)):Prop where
 join:Joined (aL s) r
 len:ps.length= (bR (aL s).length r).length
 each: ∀(j h:Nat) (p:List aA),(bR (aL s).length r)[j]? =some h->ps[j]? =some p->nV (lr (aL s) (aL s).length r h) p
def Jg (n:Nat) (r:Nat->Nat) (m:List (Int×Int)):Prop:=(∀(j k:Nat),(bR n r)[j]? =some k->cZ m ((k:Nat):Int) 0= ((j:Nat):Int))/\∀k:Nat,iu m ((k:Nat):Int)=decide (k∈bR n r)
theorem AK {s:List aA} {X Y:List Int} (hc:dS (s.map bH)) (hl:sD X Y (s.map bH)) (hX: ∀c∈X,small c) (hY: ∀c∈Y,small c) (h1:s.length<=1073741824) (h2: ∀b∈s,b.Xs.length<=1073741824) (h3: (aL s).length<=134217728) (hN:4398046511104<=N):
  Ok (jz N s) (fun ps=>∃r,pj s r ps):=by
 unfold jz
 have hev:=oS hc
 have hinc:=Bw hc
 refine Ok.eq (vV hev (by omega) (fun b hb=>by have:=h2 b hb;omega) (by omega)) ?_
 have hok:=vW hc hl hX hY
 have hall:gl s s.length= (aL s).length:=zH s
 generalize hn: (aL s).length=n at *
 refine Ok.eq (pd 0 (by omega)) ?_
 rw [show ((List.replicate n (0:Int)).length)=n by simp]
 refine Ok.bind (Ok.jS (fun k up=>up.length=n/\∀i,i<k->up[i]? =some ((i:Nat):Int)) (by omega) ⟨by simp,fun i hi=>by omega⟩ (fun k up hk hI=>?_)) ?_
 ·obtain⟨hs,hi⟩:=hI
  refine Ok.idx (by omega) (Ok.ret ⟨by simp [hs],fun i hi'=>?_⟩)
  rw [bP,kT (by omega)]
  split
  ·rename_i e;rw [e]
  ·exact hi i (by omega)
 rintro up0 ⟨hu1,hu2⟩
 refine Ok.bind (Ok.jS (fun k st=>st.2.1= ((gl s k:Nat):Int)/\(0<k->st.2.2= ((gl s (k - 1):Nat):Int))/\∃r E,PJ (aL s) n st.1 r E/\∀q,q<k->∀i j,gl s q<=j->j<gl s (q+1)->Ck (aL s) i j->(i,j)∈E) (by omega)
  ⟨rfl,fun h=>by omega,_,_,⟨UF.init n up0 hu1 hu2,l3.id,uv.id n,fun p hp=>(by cases hp)⟩,fun q hq=>by omega⟩ (fun k st hk hI=>?_)) ?_
 ·obtain⟨up,a,b⟩:=st
  obtain⟨e1,e2,r,E,hP,hE⟩:=hI
  dsimp only at e1 e2 hP ⊢
  subst e1
  refine Ok.idx hk ?_
  have hoff:=uw hk
  have hoffle:gl s (k+1)<=n:=by rw [<-hall];exact ux hk
  have hkm:=cM hk
  have hlen:IntKind.wrap .i64 (Int.tdiv ((s[k].Xs.length:Nat):Int) 2)= ((s[k].Xs.length / 2:Nat):Int):=by
   have:=h2 _ hkm
   rw [show (2:Int)= ((2:Nat):Int) by rfl,<-Int.ofNat_tdiv,zD (by omega)]
  rw [hlen,wrap_add (by omega),<-hoff]
  refine Ok.bind (P:=fun c=>c=true↔∃h0:0<k,s[k - 1].Y1=s[k].Y0) ?_ (fun c hcc=>?_)
  ·refine Ok.bif (fun h=>?_) (fun h=>Ok.ret ?_)
   ·have hpos:0<k:=by have:=of_decide_eq_true h;omega
    rw [k8 hpos (by omega)]
    refine Ok.idx (by omega) (Ok.ret ?_)
    rw [beq_iff_eq]
    exact⟨fun h=>⟨hpos,h⟩,fun⟨_,h⟩=>h⟩
   ·have:=of_decide_eq_false h
    constructor
    ·intro h;cases h
    ·rintro⟨h0,_⟩;omega
  refine Ok.bind (P:=fun up'=>∃r E,PJ (aL s) n up' r E/\∀q,q<k+1->∀i j,gl s q<=j->j<gl s (q+1)->Ck (aL s) i j->(i,j)∈E) ?_ (fun up' hI=>Ok.ret ⟨rfl,fun _=>rfl,hI⟩)
  refine Ok.bif (fun h=>?_) (fun h=>Ok.ret ⟨r,E,hP,fun q hq i j q1 q2 ht=>?_⟩)
  ·obtain⟨hpos,hyy⟩:=hcc.1 h
   rw [e2 hpos]
   have hoffp:=uw (show k - 1<s.length by omega)
   rw [show k - 1+1=k by omega] at hoffp
   refine Ok.bind (Ok.mZ (Go:=fun st=>∃r E,PJ (aL s) n st.1 r E/\∀q,q<k+1->∀i j,gl s q<=j->j<gl s (q+1)->Ck (aL s) i j->(i,j)∈E) (Rt:=fun _=>True)
    (fun st=>∃i j:Nat,st.2.1= ((i:Nat):Int)/\st.2.2= ((j:Nat):Int)/\gl s (k - 1)<=i/\i<=gl s k/\gl s k<=j/\j<=gl s (k+1)/\∃r E,PJ (aL s) n st.1 r E/\(∀q,q<k->∀i j,gl s q<=j->j<gl s (q+1)->Ck (aL s) i j->(i,j)∈E)/\
     ∀i' j',gl s (k - 1)<=i'->i'<gl s k->gl s k<=j'->j'<gl s (k+1)->(i'<i\/j'<j)->Ck (aL s) i' j'->(i',j')∈E)
    (fun st=>(n - st.2.1.toNat)+ (n - st.2.2.toNat)) ?_ ?_ (by simp only [bP];omega)) (fun o ho=>Ok.cs ho (fun st h=>Ok.ret h) (fun r=>r.elim))
   ·rintro⟨up,a,b⟩ ⟨i,j,e3,e4,i1,i2,j1,j2,r,E,hP,hE,hE2⟩
    dsimp only at e3 e4 hP ⊢
    subst e3;subst e4
    refine Ok.bif (fun h=>?_) (fun h=>Ok.br ?_)
    ·rw [bN,bQ,bQ] at h
     have hi:i<gl s k:=by omega
     have hj:j<gl s (k+1):=by omega
     obtain⟨t,et,_,hri⟩:=q9 hev (show k - 1<s.length by omega) i1 (by rw [show k - 1+1=k by omega];exact hi)
     obtain⟨u,eu,_,hrj⟩:=q9 hev hk j1 hj
     have xi:=hinc _ (cM (show k - 1<s.length by omega))
     have xj:=hinc _ hkm
     have farI: ∀i' a,i<i'->i'<gl s k->(aL s)[i']? =some a->s[k - 1].Xs[2*t+1]<a.X0:=fun i' a h4 h5 h6=>by
      obtain⟨t',et',ht',hr'⟩:=q9 hev (show k - 1<s.length by omega) (show gl s (k - 1)<=i' by omega) (by rw [show k - 1+1=k by omega];exact h5)
      rw [hr'] at h6;injection h6 with h6;subst h6
      exact xi.lt (show 2*t+1<2*t' by omega) (aK _) (aK _)
     have farJ: ∀j' a,j<j'->j'<gl s (k+1)->(aL s)[j']? =some a->s[k].Xs[2*u+1]<a.X0:=fun j' a h4 h5 h6=>by
      obtain⟨u',eu',hu',hr'⟩:=q9 hev hk (show gl s k<=j' by omega) h5
      rw [hr'] at h6;injection h6 with h6;subst h6
      exact xj.lt (show 2*u+1<2*u' by omega) (aK _) (aK _)
     refine Ok.bind (P:=fun c=>c=true↔Ck (aL s) i j) ?_ (fun c hct=>?_)
     ·refine Ok.ix hri (Ok.ix hrj (Ok.bif (fun h=>Ok.ix hrj (Ok.ix hri (Ok.ret ?_))) (fun h=>Ok.ret ?_)))
      ·rw [bQ] at h ⊢
       constructor
       ·intro h';exact⟨_,_,hri,hrj,hyy,h,h'⟩
       ·rintro⟨a,c,ha,hc',_,_,h'⟩
        rw [hri] at ha;injection ha with ha;subst ha
        rw [hrj] at hc';injection hc' with hc';subst hc'
        exact h'
      ·constructor
       ·intro h;cases h
       ·rintro⟨a,c,ha,hc',_,h',_⟩
        rw [hri] at ha;injection ha with ha;subst ha
        rw [hrj] at hc';injection hc' with hc';subst hc'
        rw [decide_eq_false_iff_not] at h;exact absurd h' h
     refine Ok.bind (P:=fun up'=>∃r E',PJ (aL s) n up' r E'/\(∀p∈E,p∈E')/\(Ck (aL s) i j->(i,j)∈E')) ?_ ?_
     ·refine Ok.bif (fun h=>?_) (fun h=>Ok.ret ⟨r,E,hP,fun p hp=>hp,fun ht=>by rw [hct.2 ht] at h;cases h⟩)
      obtain⟨up',u1,u2⟩:=DF (N:=N) (f:=fun x=>some x) hP.uf (i:=i) (k:=j) (by omega) (by omega) (by omega)
      refine⟨up',u1,_,_,hP.join (by omega) (by omega) u2 (hct.1 h),fun p hp=>List.mem_append_left _ hp,fun _=>by simp⟩
     ·rintro up' ⟨r',E',hP',hsub,hij⟩
      refine Ok.ix hri (Ok.ix hrj ?_)
      dsimp only
      by_cases hx:s[k - 1].Xs[2*t+1]<s[k].Xs[2*u+1]
      ·rw [cB hx,aQ]
       refine Ok.eq (x:=(((i+1:Nat):Int),((j:Nat):Int))) (by rw [gT (by omega)]) (Ok.nx ⟨⟨i+1,j,rfl,rfl,by omega,by omega,j1,j2,r',E',hP',fun q hq i j q1 q2 ht=>hsub _ (hE q hq i j q1 q2 ht),fun i' j' g1 g2 g3 g4 g5 ht=>?_⟩,by simp only [bP];omega⟩)
       by_cases h5:i'<i\/j'<j
       ·exact hsub _ (hE2 i' j' g1 g2 g3 g4 h5 ht)
       ·have:i'=i:=by omega
        subst this
        by_cases h6:j'=j
        ·subst h6;exact hij ht
        ·exfalso
         obtain⟨a,c,ha,hc',_,_,h'⟩:=ht
         rw [hri] at ha;injection ha with ha;subst ha
         have:=farJ j' c (by omega) g4 hc'
         dsimp only at h';omega
      ·rw [bC hx,aS]
       refine Ok.eq (x:=(((i:Nat):Int),((j+1:Nat):Int))) (by rw [gT (by omega)]) (Ok.nx ⟨⟨i,j+1,rfl,rfl,i1,i2,by omega,by omega,r',E',hP',fun q hq i j q1 q2 ht=>hsub _ (hE q hq i j q1 q2 ht),fun i' j' g1 g2 g3 g4 g5 ht=>?_⟩,by simp only [bP];omega⟩)
       by_cases h5:i'<i\/j'<j
       ·exact hsub _ (hE2 i' j' g1 g2 g3 g4 h5 ht)
       ·have:j'=j:=by omega
        subst this
        by_cases h6:i'=i
        ·subst h6;exact hij ht
        ·exfalso
         obtain⟨a,c,ha,hc',_,h',_⟩:=ht
         rw [hrj] at hc';injection hc' with hc';subst hc'
         have:=farI i' a (by omega) g2 ha
         dsimp only at h';omega
    ·refine⟨r,E,hP,fun q hq i' j' q1 q2 ht=>?_⟩
     by_cases hqk:q<k
     ·exact hE q hqk i' j' q1 q2 ht
     ·have:q=k:=by omega
      subst this
      obtain⟨_,_,g1,g2⟩:=zI hc hk q1 q2 ht
      refine hE2 i' j' g1 g2 q1 q2 ?_ ht
      rw [Bool.and_eq_false_iff,decide_eq_false_iff_not,decide_eq_false_iff_not] at h
      omega
   ·exact⟨gl s (k - 1),gl s k,rfl,rfl,bI _,ux (by omega),bI _,ux (by omega),r,E,hP,hE,fun i' j' g1 g2 g3 g4 g5=>by omega⟩
  ·by_cases hqk:q<k
   ·exact hE q hqk i j q1 q2 ht
   ·have:q=k:=by omega
    subst this
    obtain⟨g0,g1,_⟩:=zI hc hk q1 q2 ht
    rw [hcc.2 ⟨g0,g1⟩] at h;cases h
 ·rintro⟨up,a,b⟩ ⟨_,_,r,E,hP,hE⟩
  dsimp only at hP ⊢
  have hEq: ∀i j,Ck (aL s) i j->(i,j)∈E:=fun i j ht=>by
   have hjl:j< (aL s).length:=by obtain⟨a,c,_,hb,_⟩:=ht;exact(aW.1 hb).1
   obtain⟨q,hq,q1,q2⟩:=Bv hjl
   exact hE q hq i j q1 q2 ht
  have hJ:Joined (aL s) r:=⟨by rw [hn];exact hP.uf.le,by rw [hn];exact hP.uf.rr,fun i j ht=>hP.co (i,j) (hEq i j ht),fun S hS i j hi hj=>by
   rw [hn] at hi hj
   exact hP.fi S (fun p hp=>hS p.1 p.2 (hP.so p hp)) i j hi hj⟩
  refine Ok.bind (Ok.jS (fun k st=>UF n st.1 r/\Jg k r st.2.1/\st.2.2= (bR k r).map (lr (aL s) k r)) (by omega) ⟨hP.uf,⟨fun j k hj=>by simp [bR] at hj,fun k=>rfl⟩,rfl⟩ (fun k st hk hI=>?_)) ?_
  ·obtain⟨l,m,ls⟩:=st
   obtain⟨hu,⟨hm1,hm2⟩,hs⟩:=hI
   dsimp only at hu hm1 hm2 hs ⊢
   subst hs
   have hkx: (aL s)[k]? =some ((aL s)[k]'(by omega)):=aK (by omega)
   refine Ok.ix hkx ?_
   obtain⟨u',a1,a2⟩:=ym (N:=N) hu hk (by omega)
   refine Ok.eq a1 ?_
   dsimp only
   have hhl:=m9 k r
   have hrk:=hP.uf.le k hk
   have hrr:=hP.uf.rr k hk
   have hcl:=v8 (aL s) k r (r k)
   have hmap: ((bR k r).map (lr (aL s) k r)).length= (bR k r).length:=by simp
   rw [hm2]
   by_cases e:r k=k
   ·have hnot:r k∉bR k r:=fun h=>by have:=(iH.1 h).1;omega
    refine Ok.eq (x:=(n0 m ((r k:Nat):Int) (((bR k r).length:Nat):Int),(bR k r).map (lr (aL s) k r)++[([]:List aI)],(((bR k r).length:Nat):Int))) ?_ ?_
    ·rw [bC hnot,mP,aQ,il (by simp;omega),aB,hmap]
    ·dsimp only
     have hi: ((bR k r).map (lr (aL s) k r)++[([]:List aI)])[(bR k r).length]? =some []:=by rw [<-hmap,eW (bI _),Nat.sub_self];rfl
     refine Ok.ix hi (Ok.app (by simp) (Ok.ix hi (Ok.ret ⟨a2,⟨fun j q hj=>?_,fun q=>?_⟩,?_⟩)))
     ·dsimp only
      rw [iS,aC e] at hj
      rw [iG]
      by_cases e2:j< (bR k r).length
      ·rw [fx e2] at hj
       have:=(iH.1 (gN hj)).1
       rw [aD (by omega)];exact hm1 j q hj
      ·rw [eW (by omega)] at hj
       have hj0:j - (bR k r).length=0:=by
        have:=(aW.1 hj).1;simp at this;omega
       rw [hj0] at hj;simp at hj;subst hj
       rw [aC (by rw [e])];congr 1;omega
     ·dsimp only
      rw [kr,hm2,iS,aC e,fQ]
      rw [dM,bQ,bQ,bQ,cJ,List.mem_singleton,e]
      constructor
      ·rintro(h | h)
       ·exact .inr (by omega)
       ·exact .inl h
      ·rintro(h | h)
       ·exact .inr h
       ·exact .inl (by omega)
     ·dsimp only
      rw [bP,<-hmap,List.set_append_right _ _ (bI _),Nat.sub_self,iS,aC e,fu]
      congr 1
      ·apply List.map_congr_left
       intro a ha
       have:=(iH.1 ha).1
       rw [ra a hkx,aD (by omega)]
      ·simp only [List.set_cons_zero,eB,List.map_nil,List.nil_append]
       rw [ra k hkx,aC e]
       have:lr (aL s) k r k= []:=by unfold lr;rw [Bu (fun i hi=>hP.uf.le i (by omega)) (bI _)];rfl
       rw [this];rfl
   ·have hh:r k∈bR k r:=iH.2 ⟨by omega,hrr⟩
    obtain⟨j,hj⟩:=fS hh
    refine Ok.eq (x:=(m,(bR k r).map (lr (aL s) k r),((j:Nat):Int))) ?_ ?_
    ·rw [cB hh,l9,aS,hm1 j (r k) hj]
    ·dsimp only
     have hi: ((bR k r).map (lr (aL s) k r))[j]? =some (lr (aL s) k r (r k)):=by rw [gz,hj];rfl
     refine Ok.ix hi (Ok.app (by simp;omega) (Ok.ix hi (Ok.ret ⟨a2,⟨fun j' q hj'=>?_,fun q=>?_⟩,?_⟩)))
     ·rw [iS,aD e] at hj';exact hm1 j' q hj'
     ·rw [iS,aD e];exact hm2 q
     ·dsimp only
      rw [bP,iS,aD e]
      have:=qD (lr (aL s) k r) (lr (aL s) (k+1) r) (bR k r) j (r k) (lj k r) hj (fun b hb hne=>by
       rw [ra b hkx,aD (fun h=>hne h.symm)])
      rw [ra (r k) hkx,aC rfl] at this
      exact this
  ·rintro⟨l,m,ls⟩ ⟨_,_,hs⟩
   dsimp only at hs ⊢
   subst hs
   have hhl:=m9 n r
   refine Ok.bind (Ok.jS (fun k ps=>ps.length=k/\∀(j h:Nat) (p:List aA),j<k->(bR n r)[j]? =some h->ps[j]? =some p->nV (lr (aL s) n r h) p) (by simp;omega) ⟨rfl,fun j h p hj=>by omega⟩ (fun k ps hk hI=>?_)) ?_
   ·obtain⟨hp1,hp2⟩:=hI
    have hk':k< (bR n r).length:=by simpa using hk
    refine Ok.ix (x:=lr (aL s) n r (bR n r)[k]) (by rw [gz,aK hk'];rfl) ?_
    have hcl:=v8 (aL s) n r (bR n r)[k]
    refine Ok.bind (ph (N:=N) (by omega) (fun x hx=>?_) (by omega)) ?_
    ·obtain⟨i,_,_,h⟩:=mo.1 hx
     exact(hok x (gN h)).1
    ·intro p hp
     refine Ok.app (by rw [hp1];simp;omega) (Ok.ret ⟨by simp [hp1],fun j h q hj hh hq=>?_⟩)
     by_cases hjk:j<k
     ·rw [fx (by omega)] at hq
      exact hp2 j h q hjk hh hq
     ·have:j=k:=by omega
      subst this
      rw [eW (by omega),hp1,Nat.sub_self] at hq
      simp at hq;subst hq
      rw [aK hk'] at hh;injection hh with hh;subst hh
      exact hp
   ·rintro ps ⟨hp1,hp2⟩
    refine Ok.ret ⟨r,hJ,?_,fun j h p hh hp=>?_⟩
    ·rw [hp1,hn];simp
    ·rw [hn] at hh ⊢
     exact hp2 j h p (by have:=(aW.1 hp).1;omega) hh hp
end
end Go.Gk
namespace Go.Gk
open Go
section
variable {N:Nat}
theorem tv {n:Int} (h: -9223372036854775808<=n/\n<=9223372036854775807):IntKind.wrap .i64 n=n:=by rw [IntKind.wrap_i64];omega
def gL (n lo hi:Int):Bool:=decide (n>=lo)&&decide (n<=hi)
def nA (n:Int):Bool:=gL n (-1000000) 1000000
def rJ (p:je):Bool:=nA p.X&&nA p.Y
def eJ (r:aI):Bool:=nA r.X0&&(nA r.Y0&&(nA r.X1&&nA r.Y1))
theorem v9 (n:Int):ji N n=some (nA n):=rfl
theorem uI (p:je):gW N p=some (rJ p):=by
 unfold gW rJ
 rw [v9,aB,v9]
 cases nA p.X <;> rfl
theorem wc (r:aI):ki N r=some (eJ r):=by
 unfold ki eJ
 simp only [v9,aB]
 cases nA r.X0 <;> cases nA r.Y0 <;> cases nA r.X1 <;> rfl
theorem zJ {a b:Int} (h:a≠b):fC (N+4) [a,b]=some [a,b]:=by
 have e: (b==a)=false:=by rw [beq_eq_false_iff_ne];exact fun e=>h e.symm
 have w1:IntKind.wrap .i64 ((1:Int) - 1)=0:=by decide
 have w2:IntKind.wrap .i64 ((1:Int)+1)=2:=by decide
 unfold fC
 have e1:idx [a,b] 1=some b:=rfl
 have e2:idx [a,b] 0=some a:=rfl
 have l2: (([a,b]:List Int).length:Int)=2:=rfl
 rw [l2,show decide ((2:Int)<2)=false by decide,aS]
 rw [mZ.eq_def]
 dsimp only
 rw [show decide ((1:Int)<2)=true by decide,aQ,e1,aB,w1,e2,aB,e,aS,aB,w2]
 dsimp only
 rw [mZ.eq_def]
 dsimp only
 rw [show decide ((2:Int)<2)=false by decide,aS,aB]
 rfl
theorem Fc (x:Int):IntKind.wrap .i64 (x - x)=0:=by rw [Int.sub_self];decide
theorem Cl {r:aI} (hx:r.X0<r.X1) (hy:r.Y0<r.Y1):fG (N+16) [r]=some [⟨r.Y0,r.Y1,[r.X0,r.X1]⟩]:=by
 have s1:sJ (hG (N+16)) [r]=some [r]:=xl (by unfold hG;rw [Fc])
 have s2:sJ (fD (N+16)) [r]=some [r]:=xl (by unfold fD;rw [Fc])
 have s3:pS [r.Y0,r.Y1]=some [r.Y0,r.Y1]:=wL (by simp;omega) (by simp)
 have c1:gI (N+16) [r]=some [r]:=rfl
 have f1: ∀φ,fV (N+16) [] φ=some []:=fun φ=>rfl
 have st:gO (N+16) [r]=some ([r.X0,r.X1],[r]):=by
  unfold gO
  rw [s2,aB]
  rfl
 have pu: ∀b:aA,b.Xs= [r.X0,r.X1]->b.Y0<b.Y1->gF (N+16) [] b=some [b]:=fun b h1 h2=>by
  unfold gF
  rw [h1,bC (show ¬b.Y1<=b.Y0 by omega)]
  rfl
 unfold fG
 rw [c1,aB,s1,aB]
 have ys: (jS ([r]:List aI).length (fun(k35:Nat) (s36: (List Int))=>((idx [r] (k35:Int)).bind fun x54=>(app 8 s36 ([x54.Y0,x54.Y1]: (List Int))).bind fun x58=>some x58:Option ((List Int)))) ([]: (List Int)))=some [r.Y0,r.Y1]:=rfl
 rw [ys,aB,s3,aB,zJ (N:=N+12) (by omega),aB]
 have l2: (([r.Y0,r.Y1]:List Int).length:Int)=2:=rfl
 have l1: (([r]:List aI).length:Int)=1:=rfl
 have w1:IntKind.wrap .i64 ((0:Int)+1)=1:=by decide
 have w2:IntKind.wrap .i64 ((1:Int)+1)=2:=by decide
 have i0:idx [r.Y0,r.Y1] 0=some r.Y0:=rfl
 have i1:idx [r.Y0,r.Y1] 1=some r.Y1:=rfl
 have j0:idx [r] 0=some r:=rfl
 have a1:app 32 ([]:List aI) [r]=some [r]:=rfl
 rw [l2,l1]
 rw [mZ.eq_def]
 dsimp only
 rw [w1,show decide ((1:Int)<2)=true by decide,aQ,f1,aB]
 rw [mZ.eq_def]
 dsimp only
 rw [show decide ((0:Int)<1)=true by decide,aQ,j0,aB,i0,aB,aB,show decide (r.Y0<=r.Y0)=true by simp,aQ,aB,a1,aB,w1,aB]
 dsimp only
 rw [mZ.eq_def]
 dsimp only
 rw [show decide ((1:Int)<1)=false by decide,aS,aB,aS,aB,aB]
 unfold Fo.cs
 dsimp only
 rw [aB,i1,aB,st,aB,pu _ rfl hy,aB,aB]
 dsimp only
 rw [mZ.eq_def]
 dsimp only
 rw [w2,show decide ((2:Int)<2)=false by decide,aS,aB]
 rfl
theorem DG {r:aI} (hx:r.X0<r.X1):jX N [⟨r.Y0,r.Y1,[r.X0,r.X1]⟩]=some (eJ r):=by
 have ar:kl N [⟨r.Y0,r.Y1,[r.X0,r.X1]⟩]=some r:=by
  have e1: (if r.X0<r.X0 then r.X0 else r.X0)=r.X0:=by split <;> rfl
  have e2: (if r.X1<r.X1 then r.X1 else r.X1)=r.X1:=by split <;> rfl
  show some ({X0:=(if r.X0<r.X0 then r.X0 else r.X0),Y0:=r.Y0,X1:=(if r.X1<r.X1 then r.X1 else r.X1),Y1:=r.Y1}:aI)=some r
  rw [e1,e2]
 unfold jX
 rw [ar,aB,wc]
 rfl
def u7 (b:bM):aI:=⟨b.At.X - b.eN / 2,b.At.Y - b.eN / 2,b.At.X - b.eN / 2+b.eN,b.At.Y - b.eN / 2+b.eN⟩
def qE (b:bM):Bool:=gL b.eN 1 10000&&rJ b.At
def mc (b:bM):aI×Int:=if qE b&&eJ (u7 b) then (u7 b,0) else (⟨0,0,0,0⟩,1)
theorem qF {b:bM} (h:qE b=true): (1<=b.eN/\b.eN<=10000)/\(-1000000<=b.At.X/\b.At.X<=1000000)/\(-1000000<=b.At.Y/\b.At.Y<=1000000):=by
 simp only [qE,gL,rJ,nA,bN,decide_eq_true_iff] at h
 omega
theorem lk {b:bM} (h:qE b=true):eM N b=some (u7 b):=by
 obtain⟨h1,h2,h3⟩:=qF h
 have t:Int.tdiv b.eN 2=b.eN / 2:=Int.tdiv_eq_ediv_of_nonneg (by omega)
 unfold eM u7
 rw [t,tv (n:=b.eN / 2) (by omega),tv (n:=b.At.X - b.eN / 2) (by omega),tv (n:=b.At.Y - b.eN / 2) (by omega),tv (by omega),tv (by omega)]
theorem uy {b:bM}:jE (N+16) b=some (mc b):=by
 have e0:fP (N+16) b.eN 1 10000=some (gL b.eN 1 10000):=rfl
 have e1: (bif (!(gL b.eN 1 10000)) then (some true) else (some (!(rJ b.At))))=some (!qE b):=by unfold qE;cases gL b.eN 1 10000 <;> rfl
 unfold jE mc
 rw [e0,aB,uI,aB,e1,aB]
 cases hf:qE b with
 | false=>rfl
 | true=>
  obtain⟨h1,h2,h3⟩:=qF hf
  have hx: (u7 b).X0< (u7 b).X1:=by simp only [u7];omega
  have hy: (u7 b).Y0< (u7 b).Y1:=by simp only [u7];omega
  rw [l9,aS,lk hf,aB,Cl hx hy,aB,DG hx,aB]
  cases eJ (u7 b) <;> rfl
end
end Go.Gk
namespace Go.Gk
open Go
section
variable {N:Nat}
def F2 (c:UInt8):Bool:=
 ((((decide (((c.toNat:Nat):Int)<65))||(decide (((c.toNat:Nat):Int)>90)))&&((decide (((c.toNat:Nat):Int)<97))||(decide (((c.toNat:Nat):Int)>122))))&&((decide (((c.toNat:Nat):Int)<48))||(decide (((c.toNat:Nat):Int)>57))))&&decide (Lib.indexByte [95,43,45,35] c<0)
def isWord (s:cX):Bool:= !s.cG.any F2&&(decide (1<=s.cG.length)&&decide (s.cG.length<=40))
theorem tw (s:cX) (c:UInt8):gK N s ((c.toNat:Nat):Int)=some (Lib.indexByte s.cG c):=by
 show some (Lib.indexByte s.cG (Int.toNat ((c.toNat:Nat):Int)).toUInt8)=_
 rw [bP];simp
theorem AL {R:Type} (b1:Bool) (c:UInt8) (r:R):
  ((bif b1 then ((gK N (⟨[95,43,45,35]⟩) ((c.toNat:Nat):Int)).bind fun x14=>some (decide (x14<0))) else (some false)).bind fun s12=>bif s12 then (some (.rt r)) else (some (.nx ())):Option (Fl Unit R))=some (if (b1&&decide (Lib.indexByte [95,43,45,35] c<0))=true then .rt r else .nx ()):=by
 rw [tw,aB]
 cases b1
 ·rfl
 ·rw [aQ,aB,Bool.true_and]
  cases decide (Lib.indexByte [95,43,45,35] c<0) <;> rfl
theorem nW {s:cX} (h:s.cG.length<=1048576):gG N s=some (isWord s):=by
 unfold gG
 rw [Bi F2 false (by omega) (fun k x hx=>by
  have hk:=(aW.1 hx).1
  have e:BK s ((k:Nat):Int)=some x:=by rw [Di s k hk,<-aK hk,hx]
  rw [e,aB]
  exact AL (R:=Bool) _ x false),aB]
 unfold isWord
 cases s.cG.any F2
 ·simp only [Fo.cs,mP,Bool.true_and,Bool.false_eq_true,if_false,Option.some.injEq]
  rw [fQ,bN,bN]
  simp only [bQ]
  omega
 ·simp [Fo.cs]
def cutAt (c:UInt8):List UInt8->List (List UInt8)
 | []=>[[]]
 | b::l=>if b==c then []::cutAt c l else match cutAt c l with | h::t=>(b::h)::t | []=>[[b]]
theorem we {c:UInt8}: ∀{l:List UInt8},c∉l->cutAt c l= [l]
 | [],_=>rfl
 | b::l,h=>by
  unfold cutAt
  have hb: (b==c)=false:=by rw [beq_eq_false_iff_ne];rintro rfl;exact h (by simp)
  rw [hb,we (fun h'=>h (by simp [h']))];rfl
theorem zK {c:UInt8}: ∀{a b:List UInt8},c∉a->cutAt c (a++c::b)=a::cutAt c b
 | [],b,_=>by rw [List.nil_append];show (if (c==c)=true then _ else _)=_;simp
 | x::a,b,h=>by
  have hb: (x==c)=false:=by rw [beq_eq_false_iff_ne];rintro rfl;exact h (by simp)
  have ih:=zK (c:=c) (a:=a) (b:=b) (fun h'=>h (by simp [h']))
  show (if (x==c)=true then []::cutAt c (a++c::b) else match cutAt c (a++c::b) with | h::t=>(x::h)::t | []=>[[x]])=_
  rw [hb,ih];rfl
theorem qG: ∀(l:List UInt8) (c:UInt8),(Lib.indexByte l c = -1/\c∉l)\/∃a b,l=a++c::b/\c∉a/\Lib.indexByte l c= ((a.length:Nat):Int)
 | [],c=> .inl ⟨rfl,by simp⟩
 | x::l,c=>by
  unfold Lib.indexByte
  by_cases hx:x=c
  ·subst hx;exact .inr ⟨[],l,rfl,by simp,by simp⟩
  ·have hb: (x==c)=false:=by rw [beq_eq_false_iff_ne];exact hx
   rcases qG l c with ⟨h1,h2⟩ | ⟨a,b,h1,h2,h3⟩
   ·left;rw [hb,h1];refine⟨by simp,?_⟩;simp [h2];exact fun h=>hx h.symm
   ·right
    refine⟨x::a,b,by rw [h1];rfl,by simp [h2];exact fun h=>hx h.symm,?_⟩
    rw [hb,h3]
    have: (((a.length:Nat):Int)== -1)=false:=by rw [beq_eq_false_iff_ne];omega
    rw [this];simp
theorem DH (s:cX) (c:UInt8):jF N s ⟨[c]⟩=some (Lib.indexByte s.cG c):=by
 show (iL N s ⟨[c]⟩).bind _=_
 unfold iL
 by_cases h:cX.Ac ⟨[c]⟩ s=true
 ·have:s= ⟨[c]⟩:=(EG.1 h).symm
  subst this
  rw [h];simp [Lib.indexByte]
 ·rw [nM] at h
  rw [h]
  show ((gk N s ((c.toNat:Nat):Int)).bind _).bind _=_
  have:=tw (N:=N) s c
  simp only [gK] at this
  rw [this];rfl
theorem DI (s:cX) (c:UInt8):kB N s ⟨[c]⟩=some ((s.cG.count c:Nat):Int):=by
 unfold kB
 show (some _:Option Int)=_
 simp [Lib.countByte]
theorem Cm {s:cX} {k:Nat} (h:k<=s.cG.length):rQ s 0 ((k:Nat):Int)=some ⟨s.cG.take k⟩:=by
 unfold rQ;rw [aC ⟨by omega,by omega,by omega⟩]
 simp only [Int.toNat_zero,List.drop_zero,Int.sub_zero,bP]
theorem Cn {s:cX} {k:Nat} (h:k<=s.cG.length):rQ s ((k:Nat):Int) ((s.cG.length:Nat):Int)=some ⟨s.cG.drop k⟩:=by
 unfold rQ;rw [aC ⟨by omega,by omega,by omega⟩]
 simp only [bP]
 rw [nN];rw [gA];omega
def po (s:cX) (c:UInt8):List cX:=(cutAt c s.cG).map cX.mk
theorem DJ {s:cX} (c:UInt8) (h:s.cG.length<=1048576) (hN:4194304<=N):kC N s ⟨[c]⟩=some (po s c):=by
 have hc:s.cG.count c<=s.cG.length:=List.count_le_length
 unfold kC km
 rw [show ((-1:Int)==0)=false by decide,aS,show cX.Ac ⟨[c]⟩ ⟨[]⟩=false by simp [cX.Ac],aS,DI,aB]
 rw [eI (x:=((s.cG.count c:Nat):Int)+1) (by omega) (by omega),show decide ((-1:Int)<0)=true by decide,aQ,aB]
 rw [eI (x:=((s.cG.length:Nat):Int)+1) (by omega) (by omega)]
 have e1: (if ((s.cG.length:Nat):Int)+1< ((s.cG.count c:Nat):Int)+1 then ((s.cG.length:Nat):Int)+1 else ((s.cG.count c:Nat):Int)+1)= ((s.cG.count c+1:Nat):Int):=by
  rw [aD (by omega)];omega
 rw [e1,pd _ (by omega),aB]
 rw [eI (x:=((s.cG.count c+1:Nat):Int) - 1) (by omega) (by omega)]
 have key:=sX (S:=cX×List cX×Int) (R:=Empty) (body:=(fun(s7:cX×(List cX)×Int)=>(bif (decide (s7.2.2< ((s.cG.count c+1:Nat):Int) - 1)) then ((jF N s7.1 ⟨[c]⟩).bind fun x23=>bif (decide (x23<0)) then (some (.br (s7.1,s7.2.1,s7.2.2))) else ((rQ s7.1 0 (IntKind.wrap .i64 (x23+0))).bind fun x24=>(idx s7.2.1 s7.2.2).bind fun x25=>(rQ s7.1 (IntKind.wrap .i64 (x23+ (((⟨[c]⟩:cX).cG.length:Nat):Int))) ((s7.1.cG.length:Nat):Int)).bind fun x27=>some (.nx (x27,(s7.2.1.set (Int.toNat s7.2.2) x24),(IntKind.wrap .i64 (s7.2.2+1)))))) else (some (.br (s7.1,s7.2.1,s7.2.2))):Option (Fl (cX×(List cX)×Int) Empty))))
  (fun st=>∃ws:List (List UInt8),st.2.2= ((ws.length:Nat):Int)/\cutAt c s.cG=ws++cutAt c st.1.cG/\ws.length+st.1.cG.count c=s.cG.count c/\st.1.cG.length<=s.cG.length/\st.2.1=ws.map cX.mk++List.replicate (s.cG.count c+1 - ws.length) ⟨[]⟩)
  (fun st=>s.cG.count c+1 - st.2.2.toNat)
  (fun st=>∃ws:List (List UInt8),st.2.2= ((ws.length:Nat):Int)/\cutAt c s.cG=ws++[st.1.cG]/\ws.length=s.cG.count c/\st.2.1=ws.map cX.mk++[⟨[]⟩])
  (fun _=>True) (by
   rintro⟨r,arr,i⟩ ⟨ws,h1,h2,h3,h4,h5⟩
   simp only at h1 h2 h3 h4 h5
   subst h1 h5
   by_cases hlt:ws.length<s.cG.count c
   ·have hd:decide (((ws.length:Nat):Int)< ((s.cG.count c+1:Nat):Int) - 1)=true:=by rw [bQ];omega
    simp only [hd,aQ,DH,aB]
    rcases qG r.cG c with ⟨_,hn⟩ | ⟨a,b,hr,ha,hi⟩
    ·rw [List.count_eq_zero_of_not_mem hn] at h3;omega
    ·have hrl:r.cG.length=a.length+ (b.length+1):=by rw [hr];simp
     rw [hi,bC (by omega),aS]
     rw [show ((a.length:Nat):Int)+0= ((a.length:Nat):Int) by omega,eI (x:=((a.length:Nat):Int)) (by omega) (by omega),Cm (by omega),aB]
     rw [iV _ _ (by simp;omega),aB]
     rw [show ((a.length:Nat):Int)+ (((⟨[c]⟩:cX).cG.length:Nat):Int)= ((a.length+1:Nat):Int) by simp,eI (x:=((a.length+1:Nat):Int)) (by omega) (by omega),Cn (by omega),aB]
     refine⟨_,rfl,⟨ws++[a],?_,?_,?_,?_,?_⟩,?_⟩
     ·simp only;rw [eI (by omega) (by omega)];simp
     ·simp only
      rw [h2,hr,zK ha];simp
     ·simp only
      rw [hr] at h3 ⊢
      simp [List.count_eq_zero_of_not_mem ha] at h3 ⊢;omega
     ·simp;omega
     ·simp only [bP]
      rw [List.set_append_right _ _ (by simp)]
      simp only [gM,Nat.sub_self]
      obtain⟨d,hd'⟩: ∃d,s.cG.count c+1 - ws.length=d+1:=⟨s.cG.count c - ws.length,by omega⟩
      rw [hd',List.replicate_succ,List.set_cons_zero,show s.cG.count c+1 - (ws++[a]).length=d by simp;omega]
      simp [hr]
     ·simp only;rw [eI (by omega) (by omega)];omega
   ·have hd:decide (((ws.length:Nat):Int)< ((s.cG.count c+1:Nat):Int) - 1)=false:=by rw [decide_eq_false_iff_not];omega
    simp only [hd,aS]
    refine⟨_,rfl,ws,rfl,?_,by omega,?_⟩
    ·have h0:r.cG.count c=0:=by omega
     rw [h2,we (List.count_eq_zero.1 h0)]
    ·rw [show s.cG.count c+1 - ws.length=1 by omega];rfl)
  N (s,List.replicate (s.cG.count c+1) ⟨[]⟩,0) ⟨[],rfl,rfl,by simp,bI _,by simp⟩ (by simp only;omega)
 obtain⟨o,ho,hgo⟩:=key
 rw [ho,aB]
 cases o with
 | rt r=>exact r.elim
 | go st=>
  obtain⟨r,arr,i⟩:=st
  obtain⟨ws,h1,h2,h3,h4⟩:=hgo
  simp only at h1 h2 h3 h4
  subst h1 h4
  simp only [Fo.cs]
  rw [iV _ _ (by simp),aB,eI (by omega) (by omega)]
  rw [show ((ws.length:Nat):Int)+1= ((ws.length+1:Nat):Int) by omega,sY _ _ (by simp),aB,aB]
  unfold po
  rw [h2]
  rw [bP,List.set_append_right _ _ (by simp),nN (by simp)]
  simp
def ot (s:cX):Bool:=decide (s.cG.length<=200)&&(po s 47).all isWord
theorem re {c:UInt8}: ∀{l x:List UInt8},x∈cutAt c l->x.length<=l.length
 | [],x,h=>by simp [cutAt] at h;subst h;simp
 | b::l,x,h=>by
  unfold cutAt at h
  split at h
  ·rcases ga.1 h with h | h
   ·subst h;simp
   ·have:=re h;simp;omega
  ·split at h
   ·rename_i t e
    rcases ga.1 h with h | h
    ·subst h;have:=re (c:=c) (l:=l) (by rw [e];exact List.mem_cons_self);simp;omega
    ·have:=re (c:=c) (l:=l) (by rw [e];exact jM _ h);simp;omega
   ·simp at h;subst h;simp
theorem xq (c:UInt8): ∀(l:List UInt8),(cutAt c l).length<=l.length+1
 | []=>by simp [cutAt]
 | b::l=>by
  have:=xq c l
  unfold cutAt
  split
  ·simp;omega
  ·split
   ·rename_i e;rw [e] at this;simp at this ⊢;omega
   ·simp
theorem Co {s x:cX} {c:UInt8} (h:x∈po s c):x.cG.length<=s.cG.length:=by
 obtain⟨y,hy,rfl⟩:=cL.1 h
 exact re hy
theorem Cp (s:cX) (c:UInt8): (po s c).length<=s.cG.length+1:=by unfold po;rw [gM];exact xq c _
theorem tx {s:cX} (h:s.cG.length<=1048576) (hN:4194304<=N):jY N s=some (ot s):=by
 unfold jY ot
 by_cases hl:s.cG.length<=200
 ·rw [cB (by omega),aQ,DJ 47 h hN,aB]
  have e:=oH (l:=po s 47) (φ:=fX N) (fun x=> !isWord x) (by have:=Cp s 47;omega) (fun x hx=>by
   unfold fX
   rw [nW (by have:=Co hx;omega)];rfl)
  have e2:fW N (po s 47) (fX N)=oe (po s 47) (fX N):=rfl
  rw [e2,e,aB,aB,cB hl,Bool.true_and]
  congr 1
  rw [fQ]
  simp
 ·rw [bC (by omega),aS,aB,bC hl,Bool.false_and]
end
end Go.Gk
namespace Go.Gk
open Go Classical
section
variable {N:Nat}
theorem DK {a b:aA} (h:bH a=bH b):a=b:=by cases a;cases b;unfold bH at h;simp at h;obtain⟨h1,h2,h3⟩:=h;subst h1;subst h2;subst h3;rfl
theorem tz: ∀{s t:List aA},s.map bH=t.map bH->s=t
 | [],[],_=>rfl
 | [],_::_,h=>by cases h
 | _::_,[],h=>by cases h
 | a::s,b::t,h=>by
  rw [eB,eB] at h
  injection h with h1 h2
  rw [DK h1,tz h2]
theorem zL {s t:List aA} (hs:dS (s.map bH)) (ht:dS (t.map bH)) (h: ∀x y,tq (s.map bH) x y=tq (t.map bH) x y):s=t:=tz (vP hs ht h)
theorem nV.unique {l:List aI} {s t:List aA} (hs:nV l s) (ht:nV l t):s=t:=zL hs.can ht.can fun x y=>by rw [hs.cover,ht.cover]
theorem nV.DL {l:List aI} {s:List aA} (h:nV l s):s.length<=2*l.length/\(∀b∈s,b.Xs.length<=2*l.length)/\(aL s).length<=2*l.length* (2*l.length):=by
 have h1:s.length<=2*l.length:=by have:=h.lim.len h.can;rwa [gM,jc] at this
 have h2: ∀b∈s,b.Xs.length<=2*l.length:=fun b hb=>by
  have:=h.lim.row h.can (b:=bH b) (cL.2 ⟨b,hb,rfl⟩)
  rwa [kI] at this
 exact⟨h1,h2,vU h1 h2⟩
theorem rf {n:Int} (h:nA n=true): -1000000<=n/\n<=1000000:=by
 unfold nA gL at h
 rw [bN,bQ,bQ] at h;omega
theorem kb {r:aI} (h:eJ r=true): (-1000000<=r.X0/\r.X0<=1000000)/\(-1000000<=r.Y0/\r.Y0<=1000000)/\(-1000000<=r.X1/\r.X1<=1000000)/\(-1000000<=r.Y1/\r.Y1<=1000000):=by
 unfold eJ at h
 simp only [bN] at h
 exact⟨rf h.1,rf h.2.1,rf h.2.2.1,rf h.2.2.2⟩
theorem wg {r:aI} (h: (-1000000<=r.X0/\r.X0<=1000000)/\(-1000000<=r.Y0/\r.Y0<=1000000)/\(-1000000<=r.X1/\r.X1<=1000000)/\(-1000000<=r.Y1/\r.Y1<=1000000)):eJ r=true:=by
 unfold eJ nA gL
 simp only [bN,bQ]
 omega
theorem DM {r:aI} (h:eJ r=true) (hx:r.X0<r.X1) (hy:r.Y0<r.Y1):z7 r:=by
 have:=kb h
 refine⟨hx,hy,?_,?_,?_,?_⟩ <;> unfold small <;> omega
def mW (r:aI):Option Int:=if eJ r=true then (if r.X1<=r.X0\/r.Y1<=r.Y0 then some 13 else none) else some 1
def kK (l:List aI):Int:=if 2000<l.length then 2 else (l.findSome? mW).getD 0
theorem wN {l:List aI} (hl:l.length<=4611686018427387904):iZ N l=some (kK l):=by
 unfold iZ kK
 by_cases h:2000<l.length
 ·rw [cB (by omega),aQ,aC h]
 ·rw [bC (by omega),aS,aD h,s8 mW hl (fun k x hx=>by
   rw [dK hx,aB,wc,aB]
   unfold mW
   cases hr:eJ x with
   | false=>rfl
   | true=>
    rw [l9,aS,aC rfl]
    by_cases h2:x.X1<=x.X0\/x.Y1<=x.Y0
    ·rw [aC h2,show (decide (x.X1<=x.X0)||decide (x.Y1<=x.Y0))=true by rw [dM,bQ,bQ];exact h2];rfl
    ·rw [aD h2,show (decide (x.X1<=x.X0)||decide (x.Y1<=x.Y0))=false by rw [<-nM,dM,bQ,bQ];exact h2];rfl),aB]
  cases l.findSome? mW <;> rfl
theorem tA {r:aI}:mW r=none↔eJ r=true/\r.X0<r.X1/\r.Y0<r.Y1:=by
 unfold mW
 by_cases h:eJ r=true
 ·rw [aC h]
  by_cases h2:r.X1<=r.X0\/r.Y1<=r.Y0
  ·rw [aC h2]
   constructor
   ·intro h;cases h
   ·rintro⟨_,h3,h4⟩;omega
  ·rw [aD h2]
   exact⟨fun _=>⟨h,by omega,by omega⟩,fun _=>rfl⟩
 ·rw [aD h]
  constructor
  ·intro h;cases h
  ·rintro⟨h3,_⟩;exact absurd h3 h
theorem zM {r:aI} {e:Int} (h:mW r=some e):e≠0:=by
 unfold mW at h
 split at h
 ·split at h
  ·injection h with h;omega
  ·cases h
 ·injection h with h;omega
theorem rK {l:List aI}:kK l=0↔l.length<=2000/\∀r∈l,eJ r=true/\r.X0<r.X1/\r.Y0<r.Y1:=by
 unfold kK
 by_cases h:2000<l.length
 ·rw [aC h];constructor
  ·intro h;omega
  ·intro h;omega
 ·rw [aD h]
  cases hf:l.findSome? mW with
  | none=>
   rw [List.findSome?_eq_none_iff] at hf
   exact⟨fun _=>⟨by omega,fun r hr=>tA.1 (hf r hr)⟩,fun _=>rfl⟩
  | some e=>
   obtain⟨r,hr,he⟩:=List.exists_of_findSome?_eq_some hf
   constructor
   ·intro h0;exact absurd h0 (zM he)
   ·rintro⟨_,h2⟩
    rw [tA.2 (h2 r hr)] at he;cases he
def Hu (l:List aI):Prop:=∀(k:Nat) a b,l[k]? =some a->l[k+1]? =some b->¬(b.Y0<a.Y0\/(b.Y0=a.Y0/\b.X0<=a.X0))
def yn (l:List aI):Prop:=∃s,nV l s/\aL s=l
noncomputable def iB (l:List aI):Int:=if kK l≠0 then kK l else if Hu l then (if yn l then 0 else 3) else 8
theorem DN {l:List aI} (h:kK l=0):l.length<=2000/\∀r∈l,z7 r:=⟨(rK.1 h).1,fun r hr=>by have:=(rK.1 h).2 r hr;exact DM this.1 this.2.1 this.2.2⟩
theorem AM {l m:List aI} (hl:l.length<=4611686018427387904):iJ N l m=some (decide (l=m)):=by
 have:=xh (l:=l) (m:=m) hl
 unfold AA at this
 unfold iJ
 rw [show (decide (l=m)) = @decide (l=m) (instDecidableEqList l m) from decide_eq_decide.2 Iff.rfl]
 exact this
theorem qH {l:List aI} (hl:l.length<=1073741824) (hN:4398046511104<=N):gJ N l=some (iB l):=by
 refine Ok.get ?_
 unfold gJ
 refine Ok.eq (wN (by omega)) ?_
 unfold iB
 refine Ok.bif (fun h=>Ok.ret ?_) (fun h=>?_)
 ·rw [aC (by simpa using h)]
 ·have h0:kK l=0:=by simpa using h
  rw [aD (by simpa using h0)]
  obtain⟨hlen,hok⟩:=DN h0
  refine Ok.bind (Ok.mZ (Go:=fun _=>Hu l) (Rt:=fun r=>r=8/\¬Hu l) (fun s=>∃k:Nat,s= ((k:Nat):Int)/\1<=k/\∀(j:Nat) a b,j+1<k->l[j]? =some a->l[j+1]? =some b->¬(b.Y0<a.Y0\/(b.Y0=a.Y0/\b.X0<=a.X0))) (fun s=>l.length - s.toNat) ?_ ⟨1,rfl,bI _,fun j a b hj=>by omega⟩ (by simp;omega)) ?_
  ·rintro s ⟨k,rfl,hk,hI⟩
   refine Ok.bif (fun h=>?_) (fun h=>Ok.br fun j a b ha hb=>hI j a b ?_ ha hb)
   ·have hk2:k<l.length:=by have:=of_decide_eq_true h;omega
    rw [k8 hk (by omega)]
    refine Ok.idx (by omega) (Ok.idx hk2 (Ok.bif (fun hb=>Ok.rt ⟨rfl,fun hu=>?_⟩) (fun hb=>Ok.nx ⟨⟨k+1,by rw [gT (by omega)],by omega,fun j a b hj ha hb'=>?_⟩,by rw [gT (by omega)];simp only [bP];omega⟩)))
    ·refine hu (k - 1) l[k - 1] l[k] (aK _) (by rw [show k - 1+1=k by omega];exact aK _) ?_
     rw [dM,bN,bQ,bQ,beq_iff_eq] at hb;exact hb
    ·by_cases e:j+1<k
     ·exact hI j a b e ha hb'
     ·have:j+1=k:=by omega
      subst this
      rw [aK (by omega)] at ha hb'
      injection ha with ha;injection hb' with hb'
      subst ha;subst hb'
      rw [<-nM,dM,bN,bQ,bQ,beq_iff_eq] at hb;exact hb
   ·have:=of_decide_eq_false h
    have:=(aW.1 hb).1;omega
  ·rintro o ho
   refine Ok.cs ho (fun s hu=>?_) (fun r hr=>Ok.ret (by rw [hr.1,aD hr.2]))
   rw [aC hu]
   refine Ok.bind (ph (N:=N) (by omega) hok (by omega)) ?_
   intro s hs
   obtain⟨z1,z2,z3⟩:=hs.DL
   have z4:2*l.length* (2*l.length)<=4000*4000:=Nat.mul_le_mul (by omega) (by omega)
   refine Ok.eq (vV (oS hs.can) (by omega) (fun b hb=>by have:=z2 b hb;omega) (by omega)) (Ok.eq (AM (by omega)) ?_)
   have hiff:yn l↔aL s=l:=⟨fun⟨t,h1,h2⟩=>by rw [hs.unique h1];exact h2,fun h=>⟨s,hs,h⟩⟩
   refine Ok.bif (fun h=>Ok.ret ?_) (fun h=>Ok.ret ?_)
   ·have h: ¬aL s=l:=by simpa using h
    rw [aD (fun h'=>h (hiff.1 h'))]
   ·have h:aL s=l:=by simpa using h
    rw [aC (hiff.2 h)]
theorem qI {l:List aI}:iB l=0↔kK l=0/\Hu l/\yn l:=by
 unfold iB
 by_cases h:kK l=0
 ·rw [aD (by simpa using h)]
  by_cases h2:Hu l
  ·rw [aC h2]
   by_cases h3:yn l
   ·rw [aC h3];exact⟨fun _=>⟨h,h2,h3⟩,fun _=>rfl⟩
   ·rw [aD h3];constructor
    ·intro h;omega
    ·rintro⟨_,_,h4⟩;exact absurd h4 h3
  ·rw [aD h2];constructor
   ·intro h;omega
   ·rintro⟨_,h4,_⟩;exact absurd h4 h2
 ·rw [aC h]
  constructor
  ·intro h2;exact absurd h2 h
  ·rintro⟨h2,_⟩;exact absurd h2 h
theorem si (n lo hi:Int):fP N n lo hi=some (gL n lo hi):=rfl
theorem Cq {b:bM} (hN:16<=N):jE N b=some (mc b):=by
 have:=uy (N:=N - 16) (b:=b)
 rwa [show N - 16+16=N by omega] at this
def nX (n:Nat) (b:bM):Option Int:=if (mc b).2≠0 then some (mc b).2 else if gL b.cQ 0 (((n:Nat):Int) - 1)=true/\gL b.To b.cQ (((n:Nat):Int) - 1)=true then none else some 1
def kL (a:iD):Int:=if 500<a.aU.length then 2 else (a.aU.findSome? (nX a.aJ.length)).getD 0
theorem wO {a:iD} (h1:a.aJ.length<=4611686018427387904) (h2:a.aU.length<=4611686018427387904) (hN:16<=N):iK N a=some (kL a):=by
 unfold iK kL
 by_cases h:500<a.aU.length
 ·rw [cB (by omega),aQ,aC h]
 ·have hw:IntKind.wrap .i64 (((a.aJ.length:Nat):Int) - 1)= ((a.aJ.length:Nat):Int) - 1:=eI (by omega) (by omega)
  rw [bC (by omega),aS,aD h,s8 (nX a.aJ.length) h2 (fun k x hx=>by
   rw [dK hx,aB,Cq hN,aB]
   unfold nX
   by_cases h0: (mc x).2=0
   ·rw [aD (by simpa using h0),h0,show ((0:Int) != 0)=false by rfl,aS,hw,si,aB,si,aB]
    cases h3:gL x.cQ 0 (((a.aJ.length:Nat):Int) - 1) <;> cases h4:gL x.To x.cQ (((a.aJ.length:Nat):Int) - 1) <;> rfl
   ·rw [aC h0,show ((mc x).2 != 0)=true by simpa using h0];rfl),aB]
  cases a.aU.findSome? (nX a.aJ.length) <;> rfl
theorem zN {b:bM} (h: (mc b).2=0):qE b=true/\eJ (u7 b)=true:=by
 unfold mc at h
 split at h
 ·rename_i h';rwa [bN] at h'
 ·cases h
theorem ou {a:iD} (h:kL a=0):a.aU.length<=500/\∀b∈a.aU,qE b=true/\eJ (u7 b)=true/\0<=b.cQ/\b.cQ<=b.To/\b.To< ((a.aJ.length:Nat):Int):=by
 unfold kL at h
 split at h
 ·omega
 ·refine⟨by omega,fun b hb=>?_⟩
  have hn:nX a.aJ.length b=none:=by
   cases hf:a.aU.findSome? (nX a.aJ.length) with
   | none=>exact List.findSome?_eq_none_iff.1 hf b hb
   | some e=>
    rw [hf] at h
    obtain⟨c,hc,he⟩:=List.exists_of_findSome?_eq_some hf
    have h:e=0:=h
    subst h
    unfold nX at he
    split at he
    ·rename_i h';injection he with he;exact absurd he h'
    ·split at he
     ·cases he
     ·injection he with he;omega
  unfold nX at hn
  split at hn
  ·cases hn
  ·rename_i h0
   split at hn
   ·rename_i h1
    have h0: (mc b).2=0:=by simpa using h0
    have:=zN h0
    unfold gL at h1
    simp only [bN,bQ] at h1
    exact⟨this.1,this.2,by omega,by omega,by omega⟩
   ·cases hn
theorem Hv {b:bM} (h1:qE b=true) (h2:eJ (u7 b)=true):z7 (u7 b):=by
 have hf:=qF h1
 refine DM h2 ?_ ?_
 ·show b.At.X - b.eN / 2<b.At.X - b.eN / 2+b.eN;omega
 ·show b.At.Y - b.eN / 2<b.At.Y - b.eN / 2+b.eN;omega
def gh (p q:fB):Int:=if Lib.compareBytes p.Part.cG q.Part.cG≠0 then Lib.compareBytes p.Part.cG q.Part.cG else Lib.compareBytes p.fB.cG q.fB.cG
theorem jB (p q:fB):cY N p q=some (gh p q):=by
 unfold cY gh
 show (bif (Lib.compareBytes p.Part.cG q.Part.cG != 0) then _ else _)=_
 by_cases h:Lib.compareBytes p.Part.cG q.Part.cG=0
 ·rw [h,aD (by simp)];rfl
 ·rw [aC h,show (Lib.compareBytes p.Part.cG q.Part.cG != 0)=true by simpa using h];rfl
def kc (l:cK):fB:=⟨l.Part,l.fB⟩
theorem uz (l:cK):jk N l=some (kc l):=rfl
def kx (a:iD) (k:Nat):Option Int:=(a.aZ[k]?).bind fun x=>
 if (ot x.Part&&isWord x.fB)=true then
  if (gL x.eK 0 (((a.aJ.length:Nat):Int) - 1)&&rJ x.At)=true then
   if 0<k/\(∃y,a.aZ[k - 1]? =some y/\gh (kc x) (kc y)<=0) then some 8 else none
  else some 1
 else some 5
noncomputable def kd (a:iD):Int:=if 1000<a.aZ.length then 2 else (mz a.aZ.length (kx a)).getD 0
end
end Go.Gk
namespace Go.Gk
open Go Classical
section
variable {N:Nat}
def wh (a:iD):Prop:=∀x∈a.aZ,x.Part.cG.length<=1048576/\x.fB.cG.length<=1048576
theorem wP {a:iD} (h1:a.aJ.length<=1073741824) (h2:a.aZ.length<=1073741824) (h3:wh a) (hN:4194304<=N):iM N a=some (kd a):=by
 unfold iM kd
 by_cases h:1000<a.aZ.length
 ·rw [cB (by omega),aQ,aC h]
 ·have hw:IntKind.wrap .i64 (((a.aJ.length:Nat):Int) - 1)= ((a.aJ.length:Nat):Int) - 1:=eI (by omega) (by omega)
  rw [bC (by omega),aS,aD h,mh (kx a) (by omega) (fun k hk _=>by
   have hx:a.aZ[k]? =some a.aZ[k]:=aK hk
   have hs:=h3 _ (cM hk)
   rw [dK hx,aB,tx hs.1 hN,aB]
   have hle:kx a k= (if (ot a.aZ[k].Part&&isWord a.aZ[k].fB)=true then
     if (gL a.aZ[k].eK 0 (((a.aJ.length:Nat):Int) - 1)&&rJ a.aZ[k].At)=true then
      if 0<k/\(∃y,a.aZ[k - 1]? =some y/\gh (kc a.aZ[k]) (kc y)<=0) then some 8 else none
     else some 1
    else some 5):=by unfold kx;rw [hx];rfl
   rw [hle]
   have e1: ((bif (!ot a.aZ[k].Part) then (some true) else ((gG N a.aZ[k].fB).bind fun x225=>some (!x225))):Option Bool)=some (!(ot a.aZ[k].Part&&isWord a.aZ[k].fB)):=by
    rw [nW hs.2,aB]
    cases ot a.aZ[k].Part <;> rfl
   have e2: ((fP N a.aZ[k].eK 0 (IntKind.wrap .i64 (((a.aJ.length:Nat):Int) - 1))).bind fun x318=>bif (!x318) then (some true) else ((gW N a.aZ[k].At).bind fun x321=>some (!x321)))=some (!(gL a.aZ[k].eK 0 (((a.aJ.length:Nat):Int) - 1)&&rJ a.aZ[k].At)):=by
    rw [hw,si,aB,uI,aB]
    cases gL a.aZ[k].eK 0 (((a.aJ.length:Nat):Int) - 1) <;> rfl
   show ((bif (!ot a.aZ[k].Part) then (some true) else ((gG N a.aZ[k].fB).bind fun x225=>some (!x225))):Option Bool).bind _=_
   rw [e1,aB]
   cases h4: (ot a.aZ[k].Part&&isWord a.aZ[k].fB) with
   | false=>rfl
   | true=>
    rw [l9,aS,aC rfl]
    show (((fP N a.aZ[k].eK 0 (IntKind.wrap .i64 (((a.aJ.length:Nat):Int) - 1))).bind fun x318=>bif (!x318) then (some true) else ((gW N a.aZ[k].At).bind fun x321=>some (!x321)))).bind _=_
    rw [e2,aB]
    cases h5: (gL a.aZ[k].eK 0 (((a.aJ.length:Nat):Int) - 1)&&rJ a.aZ[k].At) with
    | false=>rfl
    | true=>
     rw [l9,aS,aC rfl]
     by_cases h0:0<k
     ·rw [cB (by omega),aQ,k8 h0 (by omega),iV _ _ (by omega:k - 1<a.aZ.length)]
      simp only [uz,aB,jB]
      by_cases h6:gh (kc a.aZ[k]) (kc a.aZ[k - 1])<=0
      ·rw [cB h6,aC ⟨h0,_,aK (by omega:k - 1<a.aZ.length),h6⟩];rfl
      ·rw [bC h6,aD (by
        rintro⟨_,y,hy,h7⟩
        rw [aK (by omega:k - 1<a.aZ.length)] at hy;injection hy with hy
        rw [<-hy] at h7;exact h6 h7)];rfl
     ·rw [bC (by omega),aD (fun h=>h0 h.1)];rfl),aB]
  cases mz a.aZ.length (kx a) <;> rfl
def kM (b:bM) (k:Int):Bool:=decide (b.cQ<=k)&&decide (k<=b.To)
theorem wi (b:bM) (k:Int):i6 N b k=some (kM b k):=rfl
def nB (bs:List bM) (k:Int):List aI:=(bs.filter (fun b=>kM b k)).map u7
structure l4 (bs:List bM):Prop where
 len:bs.length<=500
 ok: ∀b∈bs,qE b=true/\eJ (u7 b)=true
structure rh (r hs:List aI) (s:List aA):Prop where
 can:dS (s.map bH)
 cover: ∀x y,tq (s.map bH) x y= (vQ r x y&& !vQ hs x y)
 lim:sD (oO r++oO hs) (kH r++kH hs) (s.map bH)
theorem xt {bs:List bM} (h:l4 bs) (k:Int): (nB bs k).length<=500:=by
 unfold nB
 rw [gM]
 have:=l8 (fun b=>kM b k) bs
 have:=h.len;omega
theorem zO {bs:List bM} (h:l4 bs) (k:Int): ∀r∈nB bs k,z7 r/\eJ r=true:=by
 intro r hr
 unfold nB at hr
 obtain⟨b,hb,rfl⟩:=cL.1 hr
 have:=h.ok b (iT.1 hb).1
 exact⟨Hv this.1 this.2,this.2⟩
theorem rh.small {r hs:List aI} {s:List aA} (h:rh r hs s) (h1: ∀x∈r,z7 x) (h2: ∀x∈hs,z7 x): (∀c∈oO r++oO hs,small c)/\∀c∈kH r++kH hs,small c:=by
 constructor
 ·intro c hc
  rcases cJ.1 hc with h | h
  ·obtain⟨x,hx,rfl | rfl⟩:=oQ.1 h
   ·exact(h1 x hx).s1
   ·exact(h1 x hx).s2
  ·obtain⟨x,hx,rfl | rfl⟩:=oQ.1 h
   ·exact(h2 x hx).s1
   ·exact(h2 x hx).s2
 ·intro c hc
  rcases cJ.1 hc with h | h
  ·obtain⟨x,hx,rfl | rfl⟩:=ka.1 h
   ·exact(h1 x hx).s3
   ·exact(h1 x hx).s4
  ·obtain⟨x,hx,rfl | rfl⟩:=ka.1 h
   ·exact(h2 x hx).s3
   ·exact(h2 x hx).s4
theorem uA {s:List aA} {X Y:List Int} {A:Nat} (hc:dS (s.map bH)) (h:sD X Y (s.map bH)) (hX:X.length<=A) (hY:Y.length<=A):s.length<=A/\(∀b∈s,b.Xs.length<=A)/\(aL s).length<=A*A:=by
 have h1:s.length<=A:=by have:=h.len hc;rw [gM] at this;omega
 have h2: ∀b∈s,b.Xs.length<=A:=fun b hb=>by
  have:=h.row hc (b:=bH b) (cL.2 ⟨b,hb,rfl⟩)
  have e: (bH b).xs=b.Xs:=rfl
  rw [e] at this;omega
 exact⟨h1,h2,vU h1 h2⟩
theorem wQ {r hs:List aI} (h1:r.length<=2000) (h2: ∀x∈r,z7 x) (h3:hs.length<=500) (h4: ∀x∈hs,z7 x) (hN:4398046511104<=N) {β:Type} {f:List aA->Option β} {Q:β->Prop} (k: ∀s,rh r hs s->Ok (f s) Q):
  Ok ((fG N r).bind fun x378=>(fG N hs).bind fun x380=>(i7 N x378 x380).bind f) Q:=by
 refine Ok.bind (ph (N:=N) (by omega) h2 (by omega)) (fun s hs1=>?_)
 refine Ok.bind (ph (N:=N) (by omega) h4 (by omega)) (fun t ht=>?_)
 have hz: ∀c∈kH r++kH hs,small c:=by
  intro c hc
  rcases cJ.1 hc with h | h
  ·obtain⟨x,hx,rfl | rfl⟩:=ka.1 h
   ·exact(h2 x hx).s3
   ·exact(h2 x hx).s4
  ·obtain⟨x,hx,rfl | rfl⟩:=ka.1 h
   ·exact(h4 x hx).s3
   ·exact(h4 x hx).s4
 refine Ok.bind (Cj (X:=oO r++oO hs) (Y:=kH r++kH hs) hs1.can ht.can (hs1.lim.mono (fun c h=>List.mem_append_left _ h) (fun c h=>List.mem_append_left _ h)) (ht.lim.mono (fun c h=>List.mem_append_right _ h) (fun c h=>List.mem_append_right _ h))
  (by rw [eA,kI,kI];omega) (by rw [eA,jc,jc];omega) hz hN) (fun u hu=>?_)
 exact k u ⟨hu.can,fun x y=>by rw [hu.cover,hs1.cover,ht.cover],hu.lim⟩
def bY:Nat->List (List (List aA))->List aH
 | _,[]=>[]
 | k,ps::r=>ps.map (fun p=>⟨((k:Nat):Int),p,aL p⟩)++bY (k+1) r
theorem sj (ps:List (List aA)): ∀(r:List (List (List aA))) (k:Nat),bY k (r++[ps])=bY k r++ps.map (fun p=>⟨((k+r.length:Nat):Int),p,aL p⟩)
 | [],k=>by unfold bY;simp [bY]
 | q::r,k=>by
  show _++bY (k+1) (r++[ps])= (_++bY (k+1) r)++_
  rw [sj ps r (k+1),kf]
  congr 3
  simp only [kN]
  rw [show k+ (r.length+1)=k+1+r.length by omega]
theorem wj {s p:List aA} {ps:List (List aA)} {r:Nat->Nat} {X Y:List Int} (h:pj s r ps) (hc:dS (s.map bH)) (hl:sD X Y (s.map bH)) (hX: ∀c∈X,small c) (hY: ∀c∈Y,small c) (hp:p∈ps):
  ∃j k:Nat,ps[j]? =some p/\(bR (aL s).length r)[j]? =some k/\nV (lr (aL s) (aL s).length r k) p/\sD X Y (p.map bH):=by
 obtain⟨j,hj⟩:=fS hp
 have hjl:=(aW.1 hj).1
 rw [h.len] at hjl
 have hh: (bR (aL s).length r)[j]? =some (bR (aL s).length r)[j]:=aK hjl
 have hs:=h.each j _ p hh hj
 refine⟨j,_,hj,hh,hs,hs.lim.mono (fun c hcx=>?_) (fun c hcx=>?_)⟩
 ·obtain⟨x,hx,hxc⟩:=oQ.1 hcx
  obtain⟨i,_,_,hi⟩:=mo.1 hx
  have:=vW hc hl hX hY x (gN hi)
  rcases hxc with rfl | rfl
  ·exact this.2.1.1
  ·exact this.2.1.2
 ·obtain⟨x,hx,hxc⟩:=ka.1 hcx
  obtain⟨i,_,_,hi⟩:=mo.1 hx
  have:=vW hc hl hX hY x (gN hi)
  rcases hxc with rfl | rfl
  ·exact this.2.2.1
  ·exact this.2.2.2
structure sm (cs:List (List aI)) (bs:List bM) (k:Nat) (ke:List (List aA)) (eE:List (List (List aA))):Prop where
 len:ke.length=k
 AN:eE.length=k
 dr: ∀(i:Nat) r s,i<k->cs[i]? =some r->ke[i]? =some s->rh r (nB bs ((i:Nat):Int)) s
 pt: ∀(i:Nat) s ps,i<k->ke[i]? =some s->eE[i]? =some ps->∃u,pj s u ps
 yo: (bY 0 eE).length<=k*25000000
theorem pj.yo {s:List aA} {u:Nat->Nat} {ps:List (List aA)} (h:pj s u ps):ps.length<=(aL s).length:=by
 rw [h.len];exact m9 _ _
theorem AO {cs:List (List aI)} {bs:List bM} (hcs:cs.length<=16) (hc: ∀r∈cs,r.length<=2000/\∀x∈r,z7 x) (hb:l4 bs) (hN:4398046511104<=N):
  Ok (hQ N cs bs [] []) (fun x=>∃eE,sm cs bs cs.length x.2.1 eE/\x.2.2=bY 0 eE/\(x.1=true↔(∀s∈x.2.1,(aL s).length<=2000)/\x.2.2.length<=2000)):=by
 unfold hQ
 refine Ok.bind (P:=fun(st:List (List aA)×List aH×Bool)=>∃eE,sm cs bs cs.length st.1 eE/\st.2.1=bY 0 eE/\(st.2.2=true↔∀s∈st.1,(aL s).length<=2000)) (Ok.jS (fun(k:Nat) (st:List (List aA)×List aH×Bool)=>∃eE,sm cs bs k st.1 eE/\st.2.1=bY 0 eE/\(st.2.2=true↔∀s∈st.1,(aL s).length<=2000)) (by omega)
  ⟨[],⟨rfl,rfl,fun i r s hi=>by omega,fun i s ps hi=>by omega,by simp [bY]⟩,rfl,by simp⟩ (fun k st hk hI=>?_)) ?_
 ·obtain⟨ke,pcs,okk⟩:=st
  obtain⟨eE,D,e1,e2⟩:=hI
  dsimp only at D e1 e2 ⊢
  subst e1
  have hkx:cs[k]? =some cs[k]:=aK hk
  obtain⟨hr1,hr2⟩:=hc _ (cM hk)
  refine Ok.ix hkx ?_
  refine Ok.bind (P:=fun t=>t=nB bs ((k:Nat):Int)) (Ok.mono (Ok.jS (fun j t=>t=nB (bs.take j) ((k:Nat):Int)) (by have:=hb.len;omega) rfl (fun j t hj e=>?_)) (fun t e=>by rw [e,fy])) (fun t e=>?_)
  ·subst e
   refine Ok.idx hj (Ok.eq (wi _ _) ?_)
   have hts:bs.take (j+1)=bs.take j++[bs[j]]:=fA hj
   have hgb:=hb.ok _ (cM hj)
   have hl: (nB (bs.take j) ((k:Nat):Int)).length<=500:=by
    unfold nB
    rw [gM]
    have:=l8 (fun b=>kM b ((k:Nat):Int)) (bs.take j)
    rw [cP] at this
    have:=hb.len;omega
   cases ht:kM bs[j] ((k:Nat):Int) with
   | false=>
    rw [aS]
    refine Ok.eq rfl (Ok.ret ?_)
    unfold nB
    rw [hts,iU];simp [ht]
   | true=>
    rw [aQ]
    refine Ok.eq (x:=nB (bs.take j) ((k:Nat):Int)++[u7 bs[j]]) (by rw [lk hgb.1,aB,il (by simp;omega),aB]) (Ok.ret ?_)
    unfold nB
    rw [hts,iU,fu];simp [ht]
  ·subst e
   have hho:=zO hb ((k:Nat):Int)
   have hhl:=xt hb ((k:Nat):Int)
   refine wQ hr1 hr2 hhl (fun x hx=>(hho x hx).1) hN (fun s hs=>?_)
   obtain⟨sx,sy⟩:=hs.small hr2 (fun x hx=>(hho x hx).1)
   obtain⟨z1,z2,z3⟩:=uA (A:=5000) hs.can hs.lim (by rw [eA,kI,kI];omega) (by rw [eA,jc,jc];omega)
   have hmany:=EP (N:=N) (s:=s) (by omega) (fun b hb=>by have:=z2 b hb;omega) (by omega)
   refine Ok.eq (x:=(okk&&decide ((aL s).length<=2000),s)) ?_ ?_
   ·cases okk with
    | false=>rfl
    | true=>
     rw [aQ,hmany,aB,Bool.true_and]
     rw [show decide ((((aL s).length:Nat):Int)<=2000)=decide ((aL s).length<=2000) from decide_eq_decide.2 (by omega)]
   dsimp only
   refine Ok.app (by rw [D.len];simp;omega) ?_
   refine Ok.bind (AK (N:=N) hs.can hs.lim sx sy (by omega) (fun b hb=>by have:=z2 b hb;omega) (by omega) hN) ?_
   rintro ps ⟨u,hu⟩
   have hfew:=hu.yo
   have hk16:k*25000000<=16*25000000:=Nat.mul_le_mul_right _ (by omega)
   have hDf:=D.yo
   refine Ok.bind (P:=fun t=>t=bY 0 eE++ps.map (fun p=>(⟨((k:Nat):Int),p,aL p⟩:aH))) (Ok.mono (Ok.jS (fun j t=>t=bY 0 eE++(ps.take j).map (fun p=>(⟨((k:Nat):Int),p,aL p⟩:aH))) (by omega) (by simp) (fun j t hj e=>?_)) (fun t e=>by rw [e,fy])) (fun t e=>Ok.ret ?_)
   ·subst e
    have hjx:ps[j]? =some ps[j]:=aK hj
    refine Ok.ix hjx ?_
    obtain⟨_,_,_,_,kV,hpl⟩:=wj hu hs.can hs.lim sx sy (cM hj)
    obtain⟨y1,y2,y3⟩:=uA (A:=5000) kV.can hpl (by rw [eA,kI,kI];omega) (by rw [eA,jc,jc];omega)
    refine Ok.eq (vV (oS kV.can) (by omega) (fun b hb=>by have:=y2 b hb;omega) (by omega)) (Ok.app ?_ (Ok.ret ?_))
    ·simp only [eA,gM,cP,List.length_singleton];omega
    ·rw [fA hj,fu,kf];rfl
   ·subst e
    refine⟨eE++[ps],⟨by simp [D.len],by simp [D.AN],fun i r s' hi hr hs'=>?_,fun i s' ps' hi hs' hps'=>?_,?_⟩,?_,?_⟩
    ·dsimp only at hs'
     by_cases hik:i<k
     ·rw [fx (by rw [D.len];exact hik)] at hs'
      exact D.dr i r s' hik hr hs'
     ·have:i=k:=by omega
      subst this
      rw [eW (by rw [D.len];omega),D.len,Nat.sub_self] at hs'
      simp at hs';subst hs'
      rw [hkx] at hr;injection hr with hr;subst hr
      exact hs
    ·dsimp only at hs'
     by_cases hik:i<k
     ·rw [fx (by rw [D.len];exact hik)] at hs'
      rw [fx (by rw [D.AN];exact hik)] at hps'
      exact D.pt i s' ps' hik hs' hps'
     ·have:i=k:=by omega
      subst this
      rw [eW (by rw [D.len];omega),D.len,Nat.sub_self] at hs'
      rw [eW (by rw [D.AN];omega),D.AN,Nat.sub_self] at hps'
      simp at hs' hps';subst hs';subst hps'
      exact⟨u,hu⟩
    ·rw [sj,eA,gM];omega
    ·dsimp only
     rw [sj,D.AN,fR]
    ·dsimp only
     rw [bN,e2,bQ]
     constructor
     ·rintro⟨h1,h2⟩ s' hs'
      rcases cJ.1 hs' with h | h
      ·exact h1 s' h
      ·simp at h;subst h;exact h2
     ·intro h
      exact⟨fun s' hs'=>h s' (List.mem_append_left _ hs'),h s (by simp)⟩
 ·rintro⟨ke,pcs,okk⟩ ⟨eE,D,e1,e2⟩
  dsimp only at D e1 e2 ⊢
  subst e1
  refine Ok.bind (P:=fun b=>b=true↔(∀s∈ke,(aL s).length<=2000)/\(bY 0 eE).length<=2000) (Ok.bif (fun h=>Ok.ret ?_) (fun h=>Ok.ret ?_)) (fun b hb=>Ok.ret ⟨eE,D,rfl,hb⟩)
  ·rw [bQ]
   constructor
   ·intro h';exact⟨e2.1 h,by omega⟩
   ·rintro⟨_,h'⟩;omega
  ·constructor
   ·intro h';cases h'
   ·rintro⟨h',_⟩;rw [e2.2 h'] at h;cases h
end
end Go.Gk
namespace Go.Gk
open Go Classical
section
variable {N:Nat}
section
variable {α:Type}
def qJ (P:α->Bool) (l:List α) (n:Nat):List Nat:=(List.range n).filter (fun k=>(l[k]?).any P)
theorem AP {P:α->Bool} {l:List α} {n:Nat} {x:α} (h:l[n]? =some x):qJ P l (n+1)=if P x=true then qJ P l n++[n] else qJ P l n:=by
 unfold qJ
 rw [List.range_succ,iU]
 by_cases hp:P x=true
 ·rw [aC hp];simp [h,hp]
 ·rw [aD hp];simp [h,hp]
theorem xu (P:α->Bool) (l:List α) (n:Nat): (qJ P l n).length<=n:=by
 have:=l8 (fun k=>(l[k]?).any P) (List.range n)
 rw [List.length_range] at this;exact this
theorem Cr {P:α->Bool} {l:List α} {n k:Nat}:k∈qJ P l n↔k<n/\(l[k]?).any P=true:=by unfold qJ;simp
theorem tB {β:Type} {l:List α} (P:α->Bool) (g:Nat->β):mz l.length (fun k=>(l[k]?).bind fun x=>if P x=true then some (g k) else none)= (l.findIdx? P).map g:=by
 cases h:l.findIdx? P with
 | none=>
  rw [List.findIdx?_eq_none_iff] at h
  refine iF.2 fun k hk=>?_
  rw [aK hk]
  have:=h _ (cM hk)
  simp [this]
 | some j=>
  obtain⟨hj,hp,hn⟩:=List.findIdx?_eq_some_iff_getElem.1 h
  refine ja.2 ⟨j,hj,by rw [aK hj];simp [hp],fun i hi=>?_⟩
  rw [aK (by omega)]
  have:=hn i hi
  simp [this]
end
def ints (l:List Nat):List Int:=l.map fun i=>((i:Nat):Int)
theorem qK (l m:List Nat):ints (l++m)=ints l++ints m:=fu
theorem lG (l:List Nat): (ints l).length=l.length:=gM _
theorem wk {l:List Nat} {x:Int}:x∈ints l↔∃i∈l,x= ((i:Nat):Int):=by
 unfold ints;rw [cL]
 constructor
 ·rintro⟨i,h1,h2⟩;exact⟨i,h1,h2.symm⟩
 ·rintro⟨i,h1,h2⟩;exact⟨i,h1,h2.symm⟩
def Bx (p0 p1:aI):Bool:=((((decide (p0.X0<p1.X1))&&(decide (p1.X0<p0.X1)))&&((p0.Y1==p1.Y0)||(p1.Y1==p0.Y0)))||(((decide (p0.Y0<p1.Y1))&&(decide (p1.Y0<p0.Y1)))&&((p0.X1==p1.X0)||(p1.X1==p0.X0))))
def lH (b:bM) (p:aH):Bool:=b.gE&&(kM b p.eK&&p.mG.any (fun r=>Bx r (u7 b)))
def dZ (bs:List bM) (pcs:List aH):List (List Int):=bs.map fun b=>ints (qJ (lH b) pcs pcs.length)
theorem nY {l:List aI} {φ:aI->Option Bool} (p:aI->Bool) (hl:l.length<=4611686018427387904) (h: ∀x∈l,φ x=some (p x)):eZ N l φ=some (l.any p):=
 oH p hl h
theorem DO {bs:List bM} {pcs:List aH} (hb:l4 bs) (hp:pcs.length<=1073741824) (hr: ∀p∈pcs,p.mG.length<=1073741824):hU N bs pcs []=some (dZ bs pcs):=by
 refine Ok.get ?_
 have hbl:=hb.len
 unfold hU
 refine Ok.bind (Ok.jS (fun k st=>st=dZ (bs.take k) pcs) (by omega) rfl (fun k st hk e=>?_)) (fun st e=>Ok.ret (by rw [e,fy]))
 subst e
 have hg:=hb.ok _ (cM hk)
 refine Ok.idx hk ?_
 refine Ok.bind (P:=fun t=>t=ints (qJ (lH bs[k]) pcs pcs.length)) (Ok.jS (fun j t=>t=ints (qJ (lH bs[k]) pcs j)) (by omega) rfl (fun j t hj e=>?_)) (fun t e=>?_)
 ·subst e
  have hjx:pcs[j]? =some pcs[j]:=aK hj
  have hl:=xu (lH bs[k]) pcs j
  refine Ok.ix hjx ?_
  refine Ok.eq (x:=lH bs[k] pcs[j]) ?_ ?_
  ·unfold lH
   cases bs[k].gE with
   | false=>rfl
   | true=>
    rw [aQ,wi,aB,Bool.true_and]
    cases kM bs[k] pcs[j].eK with
    | false=>rfl
    | true=>
     rw [aQ,nY (fun r=>Bx r (u7 bs[k])) (by have:=hr _ (cM hj);omega) (fun r _=>by
      unfold ir;rw [lk hg.1];rfl),aB,Bool.true_and]
  ·rw [AP hjx]
   cases ht:lH bs[k] pcs[j] with
   | false=>rw [aS,aD (by simp)];exact Ok.eq rfl (Ok.ret rfl)
   | true=>
    rw [aQ,aC rfl]
    refine Ok.eq (x:=ints (qJ (lH bs[k]) pcs j)++[((j:Nat):Int)]) (by rw [il (by rw [lG];simp;omega),aB]) (Ok.ret ?_)
    rw [qK];rfl
 ·subst e
  refine Ok.app ?_ (Ok.ret ?_)
  ·unfold dZ;simp;omega
  ·unfold dZ
   rw [fA hk,fu];rfl
def zP (r:List aI) (p:je):Bool:=r.any (fun x=>decide (p.X>=x.X0)&&(decide (p.X<x.X1)&&(decide (p.Y>=x.Y0)&&decide (p.Y<x.Y1))))
theorem tC {r:List aI} {p:je} (hl:r.length<=4611686018427387904):iE N r p=some (zP r p):=by
 unfold iE
 rw [nY (fun x=>decide (p.X>=x.X0)&&(decide (p.X<x.X1)&&(decide (p.Y>=x.Y0)&&decide (p.Y<x.Y1)))) hl (fun x _=>by
  unfold jl
  cases decide (p.X>=x.X0) <;> cases decide (p.X<x.X1) <;> cases decide (p.Y>=x.Y0) <;> rfl)];rfl
def sq (l:cK) (b:bM):Bool:=b.gE&&(kM b l.eK&&zP [u7 b] l.At)
def tD (l:cK) (p:aH):Bool:=(p.eK==l.eK)&&zP p.mG l.At
def mC (bs:List bM) (pcs:List aH) (l:cK):Option dO:=match bs.findIdx? (sq l) with
 | some k=>some ⟨true,((k:Nat):Int)⟩
 | none=>(pcs.findIdx? (tD l)).map fun k=>⟨false,((k:Nat):Int)⟩
theorem DQ {bs:List bM} {pcs:List aH} (hb:l4 bs) (hp:pcs.length<=1073741824) (hr: ∀p∈pcs,p.mG.length<=1073741824) (l:cK):
  ig N bs pcs l=some ((mC bs pcs l).getD ⟨false,0⟩,(mC bs pcs l).isSome):=by
 have hbl:=hb.len
 unfold ig
 rw [mh (fun k=>(bs[k]?).bind fun x=>if sq l x=true then some ((⟨true,((k:Nat):Int)⟩:dO),true) else none) (by omega) (fun k hk _=>by
  have hkx:bs[k]? =some bs[k]:=aK hk
  have hg:=hb.ok _ (cM hk)
  rw [dK hkx,aB,hkx,lk hg.1,aB,aB,tC (by simp)]
  unfold sq
  cases bs[k].gE with
  | false=>rfl
  | true=>
   show (((bif kM bs[k] l.eK then _ else _:Option Bool)).bind _)=_
   cases kM bs[k] l.eK with
   | false=>rfl
   | true=>
    cases zP [u7 bs[k]] l.At <;> rfl),aB,tB (sq l) (fun k=>((⟨true,((k:Nat):Int)⟩:dO),true))]
 unfold mC
 cases bs.findIdx? (sq l) with
 | some k=>rfl
 | none=>
  show ((oW pcs.length _ ()).bind _)=_
  rw [mh (fun k=>(pcs[k]?).bind fun x=>if tD l x=true then some ((⟨false,((k:Nat):Int)⟩:dO),true) else none) (by omega) (fun k hk _=>by
   have hkx:pcs[k]? =some pcs[k]:=aK hk
   rw [dK hkx,aB,hkx,aB,tC (by have:=hr _ (cM hk);omega)]
   unfold tD
   cases pcs[k].eK==l.eK with
   | false=>rfl
   | true=>cases zP pcs[k].mG l.At <;> rfl),aB,tB (tD l) (fun k=>((⟨false,((k:Nat):Int)⟩:dO),true))]
  cases pcs.findIdx? (tD l) <;> rfl
def Lk (n:Nat) (tch:List (List Int)) (i j:Nat):Prop:=∃(k:Nat) (l:List Int),tch[k]? =some l/\((i:Nat):Int)∈l/\j=n+k
structure wR (n m:Nat) (tch:List (List Int)) (r:Nat->Nat):Prop where
 le: ∀i,i<n+m->r i<=i
 rr: ∀i,i<n+m->r (r i)=r i
 co: ∀i j,Lk n tch i j->r i=r j
 fi: ∀S:Nat->Prop,(∀i j,Lk n tch i j->(S i↔S j))->∀i j,i<n+m->j<n+m->r i=r j->S i->S j
theorem xv {n m:Nat} {tch:List (List Int)} (hm:tch.length=m) (ht: ∀l∈tch,l.length<=1073741824/\∀x∈l,∃i:Nat,i<n/\x= ((i:Nat):Int)) (hn:n<=1073741824) (hm2:m<=1073741824) {up:List Int} (hu:UF (n+m) up (fun i=>i)) (hN:4398046511104<=N):
  Ok (jS tch.length (fun(k34:Nat) (s35: (List Int))=>((idx tch (k34:Int)).bind fun x89=>(jS x89.length (fun(k92:Nat) (s93: (List Int))=>((idx x89 (k92:Int)).bind fun x107=>(cV N s93 x107 (IntKind.wrap .i64 ((n:Int)+ (k34:Int)))).bind fun x109=>some x109:Option ((List Int)))) s35).bind fun s93=>some s93:Option ((List Int)))) up)
   (fun up'=>∃r,UF (n+m) up' r/\wR n m tch r):=by
 have base:Ok (jS tch.length (fun(k34:Nat) (s35: (List Int))=>((idx tch (k34:Int)).bind fun x89=>(jS x89.length (fun(k92:Nat) (s93: (List Int))=>((idx x89 (k92:Int)).bind fun x107=>(cV N s93 x107 (IntKind.wrap .i64 ((n:Int)+ (k34:Int)))).bind fun x109=>some x109:Option ((List Int)))) s35).bind fun s93=>some s93:Option ((List Int)))) up)
   (fun up'=>∃r E,UF (n+m) up' r/\l3 r E/\uv (n+m) r E/\(∀p∈E,Lk n tch p.1 p.2)/\∀(k:Nat) l (i:Nat),k<tch.length->tch[k]? =some l->((i:Nat):Int)∈l->(i,n+k)∈E):=by
  refine Ok.jS (fun q up'=>∃r E,UF (n+m) up' r/\l3 r E/\uv (n+m) r E/\(∀p∈E,Lk n tch p.1 p.2)/\∀(k:Nat) l (i:Nat),k<q->tch[k]? =some l->((i:Nat):Int)∈l->(i,n+k)∈E) (by omega)
   ⟨_,_,hu,l3.id,uv.id _,fun p hp=>(by cases hp),fun k l i hk=>by omega⟩ (fun q up' hq hI=>?_)
  obtain⟨r,E,h1,h2,h3,h4,h5⟩:=hI
  have hqx:tch[q]? =some tch[q]:=aK hq
  obtain⟨hl1,hl2⟩:=ht _ (cM hq)
  refine Ok.ix hqx ?_
  rw [wrap_add (by omega)]
  refine Ok.bind (Ok.jS (fun t up'=>∃r E,UF (n+m) up' r/\l3 r E/\uv (n+m) r E/\(∀p∈E,Lk n tch p.1 p.2)/\(∀(k:Nat) l (i:Nat),k<q->tch[k]? =some l->((i:Nat):Int)∈l->(i,n+k)∈E)/\∀i:Nat,((i:Nat):Int)∈tch[q].take t->(i,n+q)∈E) (by omega)
   ⟨r,E,h1,h2,h3,h4,h5,fun i hi=>by simp at hi⟩ (fun t up' htl hI=>?_)) (fun up' hI=>Ok.ret ?_)
  ·obtain⟨r,E,h1,h2,h3,h4,h5,h6⟩:=hI
   refine Ok.idx htl ?_
   obtain⟨i,hi,e⟩:=hl2 _ (cM htl)
   rw [e]
   obtain⟨u2,a1,a2⟩:=Bt (N:=N) h1 (i:=i) (k:=n+q) (by omega) (by omega) (by omega)
   refine Ok.eq a1 (Ok.ret ⟨_,_,a2,h2.join i (n+q) (h1.rr i (by omega)),h3.join (by omega) (by omega),fun p hp=>?_,fun k l j hk hl hj=>List.mem_append_left _ (h5 k l j hk hl hj),fun j hj=>?_⟩)
   ·rcases cJ.1 hp with hp | hp
    ·exact h4 p hp
    ·simp at hp;subst hp
     exact⟨q,tch[q],hqx,by rw [<-e];exact cM htl,rfl⟩
   ·rw [fA htl,cJ] at hj
    rcases hj with hj | hj
    ·exact List.mem_append_left _ (h6 j hj)
    ·rw [List.mem_singleton,e] at hj
     have:j=i:=by omega
     subst this;simp
  ·obtain⟨r,E,h1,h2,h3,h4,h5,h6⟩:=hI
   refine⟨r,E,h1,h2,h3,h4,fun k l i hk hl hi=>?_⟩
   by_cases hkq:k<q
   ·exact h5 k l i hkq hl hi
   ·have:k=q:=by omega
    subst this
    rw [hqx] at hl;injection hl with hl;subst hl
    exact h6 i (by rw [fy];exact hi)
 obtain⟨up',e,r,E,h1,h2,h3,h4,h5⟩:=base
 have hE: ∀i j,Lk n tch i j->(i,j)∈E:=fun i j ⟨k,l,hl,hi,hj⟩=>by
  rw [hj];exact h5 k l i (aW.1 hl).1 hl hi
 exact⟨up',e,r,h1,h1.le,h1.rr,fun i j h=>h2 (i,j) (hE i j h),fun S hS i j hi hj=>h3 S (fun p hp=>hS p.1 p.2 (h4 p hp)) i j hi hj⟩
def uX (bs:List bM) (j:Nat):Bool:=(bs[j]?).any (fun b=>b.gE)
def gP (n:Nat) (c:List Nat):List Nat:=c.filter (fun i=>decide (i<n))
def gB (bs:List bM) (n:Nat) (c:List Nat):List Nat:=(c.filter (fun i=> !decide (i<n)&&uX bs (i - n))).map (fun i=>i - n)
def DR (bs:List bM) (n:Nat) (c:List Nat):Bool:=decide (0< (gP n c).length+ (gB bs n c).length)
def Jw (bs:List bM) (n:Nat) (c:List Nat):cI:=⟨ints (gP n c),ints (gB bs n c),[]⟩
theorem By (n:Nat) (c:List Nat) (i:Nat):gP n (c++[i])=if i<n then gP n c++[i] else gP n c:=by
 unfold gP;rw [iU];split <;> rename_i h <;> simp [h]
theorem Bz (bs:List bM) (n:Nat) (c:List Nat) (i:Nat):gB bs n (c++[i])=if i<n then gB bs n c else if uX bs (i - n)=true then gB bs n c++[i - n] else gB bs n c:=by
 unfold gB;rw [iU,fu]
 split
 ·rename_i h;simp [h]
 ·rename_i h
  split <;> rename_i h2 <;> simp [h,h2]
theorem DS (n:Nat) (c:List Nat): (gP n c).length<=c.length:=l8 _ _
theorem DT (bs:List bM) (n:Nat) (c:List Nat): (gB bs n c).length<=c.length:=by unfold gB;rw [gM];exact l8 _ _
def live (bs:List bM) (n t:Nat) (r:Nat->Nat) (hs:List Nat):List Nat:=hs.filter (fun h=>DR bs n (cls t r h))
def pq (bs:List bM) (n t:Nat) (r:Nat->Nat) (hs:List Nat):List cI:=(live bs n t r hs).map (fun h=>Jw bs n (cls t r h))
theorem Cs (bs:List bM) (n t:Nat) (r:Nat->Nat) (hs:List Nat) (h:Nat):live bs n t r (hs++[h])=if DR bs n (cls t r h)=true then live bs n t r hs++[h] else live bs n t r hs:=by
 unfold live;rw [iU];split <;> rename_i h2 <;> simp [h2]
theorem tE (bs:List bM) (n t:Nat) (r:Nat->Nat) (hs:List Nat): (pq bs n t r hs).length= (live bs n t r hs).length:=by unfold pq;rw [gM]
def gi (bs:List bM) (n t:Nat) (r:Nat->Nat) (h:Nat):Nat:=(live bs n t r ((bR t r).takeWhile (fun x=>decide (x≠h)))).length
theorem rL {l:List Nat} (hn:l.Nodup) {k h:Nat} (hk:l[k]? =some h):l.takeWhile (fun x=>decide (x≠h))=l.take k:=by
 induction l generalizing k with
 | nil=>simp at hk
 | cons a l ih=>
  cases k with
  | zero=>simp at hk;subst hk;simp
  | succ k=>
   have hk:l[k]? =some h:=by simpa using hk
   have hne:a≠h:=fun e=>(List.nodup_cons.1 hn).1 (by rw [e];exact gN hk)
   rw [List.takeWhile_cons,aC (by simpa using hne),List.take_succ_cons,ih (List.nodup_cons.1 hn).2 hk]
theorem tF (bs:List bM) (n t:Nat) (r:Nat->Nat) (hs:List Nat): (live bs n t r hs).length<=hs.length:=l8 _ _
theorem DU {bs:List bM} {n t:Nat} {r:Nat->Nat} {h:Nat} (hh:h∈bR t r) (hne:DR bs n (cls t r h)=true):gi bs n t r h< (live bs n t r (bR t r)).length/\(live bs n t r (bR t r))[gi bs n t r h]? =some h:=by
 obtain⟨k,hk⟩:=fS hh
 have hkl:=(aW.1 hk).1
 unfold gi
 rw [rL (lj t r) hk]
 have e:bR t r= (bR t r).take k++h::(bR t r).drop (k+1):=by
  have h1:=(List.take_append_drop k (bR t r)).symm
  rw [qQ hkl,(aW.1 hk).2] at h1;exact h1
 have e2:live bs n t r (bR t r)=live bs n t r ((bR t r).take k)++h::live bs n t r ((bR t r).drop (k+1)):=by
  conv=>lhs;rw [e]
  unfold live
  rw [iU,List.filter_cons,aC hne]
 constructor
 ·rw [e2];simp
 ·rw [e2]
  simp
end
end Go.Gk
namespace Go.Gk
open Go Classical
section
variable {N:Nat}
theorem xw {l:List Nat} (h:l.Nodup) {i j a:Nat} (hi:l[i]? =some a) (hj:l[j]? =some a):i=j:=
 (List.getElem_inj (h₀:=(aW.1 hi).1) (h₁:=(aW.1 hj).1) h).1 (by rw [(aW.1 hi).2,(aW.1 hj).2])
theorem ri {n i k:Nat} {r:Nat->Nat}:i∈cls n r k↔i<n/\r i=k:=by unfold cls;simp
theorem Ct (n:Nat) (r:Nat->Nat) (k:Nat): (cls n r k).Nodup:=List.Nodup.sublist List.filter_sublist List.nodup_range
structure Hx (bs:List bM) (n m:Nat) (r:Nat->Nat) (hs:List Nat) (ofP ofB:List Int):Prop where
 lp:ofP.length=n
 lb:ofB.length=m
 pc: ∀i,i<n->r i∈hs->ofP[i]? =some ((gi bs n (n+m) r (r i):Nat):Int)
 bo: ∀j,j<m->r (n+j)∈hs->ofB[j]? =some (if uX bs j=true then ((gi bs n (n+m) r (r (n+j)):Nat):Int) else -1)
theorem zQ {bs:List bM} {n m:Nat} {r:Nat->Nat} (hm:bs.length=m) (hn:n<=1073741824) (hm2:m<=1073741824) {op ob:List Int} (hop:op.length=n) (hob:ob.length=m)
  {body:Nat->List cI×List Int×List Int->Option (List cI×List Int×List Int)}
  (hbody:body= (fun(k123:Nat) (s124: (List cI)×(List Int)×(List Int))=>((idx (nz (n+m) r) (k123:Int)).bind fun x455=>(jS x455.length (fun(k458:Nat) (s459: (List Int)×(List Int)×(List Int)×(List Int))=>((idx x455 (k458:Int)).bind fun x556=>(bif (decide (x556< (n:Int))) then ((idx s459.1 x556).bind fun x580=>(app 8 s459.2.2.1 ([x556]: (List Int))).bind fun x582=>some ((s459.1.set (Int.toNat x556) (s124.1.length:Int)),s459.2.1,x582,s459.2.2.2)) else ((idx bs (IntKind.wrap .i64 (x556 - (n:Int)))).bind fun x584=>(bif x584.gE then ((idx s459.2.1 (IntKind.wrap .i64 (x556 - (n:Int)))).bind fun x594=>(app 8 s459.2.2.2 ([(IntKind.wrap .i64 (x556 - (n:Int)))]: (List Int))).bind fun x596=>some ((s459.2.1.set (Int.toNat (IntKind.wrap .i64 (x556 - (n:Int)))) (s124.1.length:Int)),x596)) else ((idx s459.2.1 (IntKind.wrap .i64 (x556 - (n:Int)))).bind fun x598=>some ((s459.2.1.set (Int.toNat (IntKind.wrap .i64 (x556 - (n:Int)))) (-1)),s459.2.2.2))).bind fun s592=>some (s459.1,s592.1,s459.2.2.1,s592.2))).bind fun s577=>some (s577.1,s577.2.1,s577.2.2.1,s577.2.2.2):Option ((List Int)×(List Int)×(List Int)×(List Int)))) (s124.2.1,s124.2.2,([]: (List Int)),([]: (List Int)))).bind fun s459=>(bif (decide ((IntKind.wrap .i64 ((s459.2.2.1.length:Int)+ (s459.2.2.2.length:Int)))>0)) then ((app 72 s124.1 [(⟨s459.2.2.1,s459.2.2.2,([]: (List fB))⟩:cI)]).bind fun x610=>some x610) else (some s124.1)).bind fun s606=>some (s606,s459.1,s459.2.1):Option ((List cI)×(List Int)×(List Int))))):
  Ok (jS (nz (n+m) r).length body ([],op,ob)) (fun st=>st.1=pq bs n (n+m) r (bR (n+m) r)/\Hx bs n m r (bR (n+m) r) st.2.1 st.2.2):=by
 subst hbody
 have hsl: (nz (n+m) r).length= (bR (n+m) r).length:=by unfold nz;simp
 have hhl:=m9 (n+m) r
 refine Ok.mono (Ok.jS (fun(k:Nat) (st:List cI×List Int×List Int)=>st.1=pq bs n (n+m) r ((bR (n+m) r).take k)/\Hx bs n m r ((bR (n+m) r).take k) st.2.1 st.2.2) (by omega) ⟨rfl,hop,hob,fun i hi h=>by simp at h,fun j hj h=>by simp at h⟩ (fun k st hk hI=>?_)) (fun st h=>by rw [hsl,fy] at h;exact h)
 obtain⟨gs,ofP,ofB⟩:=st
 obtain⟨e1,I⟩:=hI
 dsimp only at e1 I ⊢
 subst e1
 rw [hsl] at hk
 have hkx: (bR (n+m) r)[k]? =some (bR (n+m) r)[k]:=aK hk
 have hts: (bR (n+m) r).take (k+1)= (bR (n+m) r).take k++[(bR (n+m) r)[k]]:=fA hk
 have hgk:gi bs n (n+m) r (bR (n+m) r)[k]= (pq bs n (n+m) r ((bR (n+m) r).take k)).length:=by
  unfold gi;rw [rL (lj _ _) hkx,tE]
 generalize hh: (bR (n+m) r)[k]=h at *
 have hsx: (nz (n+m) r)[k]? =some (ints (cls (n+m) r h)):=by unfold nz;rw [gz,hkx];rfl
 refine Ok.ix hsx ?_
 have hcl:=yl (n+m) r h
 rw [lG]
 have hgl: (pq bs n (n+m) r ((bR (n+m) r).take k)).length<=n+m:=by
  rw [tE]
  have:=tF bs n (n+m) r ((bR (n+m) r).take k)
  rw [cP] at this;omega
 have hold: ∀i∈cls (n+m) r h,∀i',r i'∈(bR (n+m) r).take k->i≠i':=fun i hi i' hi' e=>by
  subst e
  rw [(ri.1 hi).2] at hi'
  obtain⟨j,hj⟩:=fS hi'
  have hjk:j<k:=by have:=(aW.1 hj).1;rw [cP] at this;omega
  rw [List.getElem?_take_of_lt hjk] at hj
  have:=xw (lj (n+m) r) hj hkx
  omega
 refine Ok.bind (P:=fun s'=>Hx bs n m r ((bR (n+m) r).take (k+1)) s'.1 s'.2.1/\s'.2.2.1=ints (gP n (cls (n+m) r h))/\s'.2.2.2=ints (gB bs n (cls (n+m) r h))) (Ok.mono (Ok.jS
  (fun(t:Nat) (s':List Int×List Int×List Int×List Int)=>Hx bs n m r ((bR (n+m) r).take k) s'.1 s'.2.1/\s'.2.2.1=ints (gP n ((cls (n+m) r h).take t))/\s'.2.2.2=ints (gB bs n ((cls (n+m) r h).take t))/\
   (∀i∈(cls (n+m) r h).take t,i<n->s'.1[i]? =some ((gi bs n (n+m) r h:Nat):Int))/\∀i∈(cls (n+m) r h).take t,¬i<n->s'.2.1[i - n]? =some (if uX bs (i - n)=true then ((gi bs n (n+m) r h:Nat):Int) else -1)) (by omega)
   ⟨I,rfl,rfl,fun i hi=>by simp at hi,fun i hi=>by simp at hi⟩ (fun t s' ht hI'=>?_)) ?_) ?_
 ·obtain⟨oP,oB,pp,bb⟩:=s'
  obtain⟨J,e2,e3,J1,J2⟩:=hI'
  dsimp only at J e2 e3 J1 J2 ⊢
  subst e2;subst e3
  have htx: (ints (cls (n+m) r h))[t]? =some (((cls (n+m) r h)[t]:Nat):Int):=by unfold ints;rw [gz,aK ht];rfl
  refine Ok.ix htx ?_
  have htt: (cls (n+m) r h).take (t+1)= (cls (n+m) r h).take t++[(cls (n+m) r h)[t]]:=fA ht
  have hcm:=cM ht
  have hdist: ∀i∈(cls (n+m) r h).take t,i≠(cls (n+m) r h)[t]:=fun i hi e=>by
   obtain⟨j,hj⟩:=fS hi
   have hjt:j<t:=by have:=(aW.1 hj).1;rw [cP] at this;omega
   rw [List.getElem?_take_of_lt hjt] at hj
   have:=xw (Ct (n+m) r h) hj (by rw [e];exact aK ht)
   omega
  generalize (cls (n+m) r h)[t]=c at *
  obtain⟨hc1,hc2⟩:=ri.1 hcm
  have hgp:=DS n ((cls (n+m) r h).take t)
  have hgb:=DT bs n ((cls (n+m) r h).take t)
  rw [cP] at hgp hgb
  by_cases hcn:c<n
  ·rw [cB (by omega: ((c:Nat):Int)< ((n:Nat):Int)),aQ]
   refine Ok.bind (P:=fun x=>x= (oP.set c ((gi bs n (n+m) r h:Nat):Int),oB,ints (gP n ((cls (n+m) r h).take t))++[((c:Nat):Int)],ints (gB bs n ((cls (n+m) r h).take t)))) ?_ ?_
   ·refine Ok.idx (by rw [J.lp];exact hcn) (Ok.app (by rw [lG];simp;omega) (Ok.ret ?_))
    rw [bP,hgk]
   ·rintro _ rfl
    refine Ok.ret ⟨⟨by simp [J.lp],J.lb,fun i hi hr=>?_,J.bo⟩,?_,?_,fun i hi hin=>?_,fun i hi hin=>?_⟩
    ·dsimp only
     rw [kT (by rw [J.lp];exact hcn),aD (fun e=>hold c hcm i hr e.symm)];exact J.pc i hi hr
    ·dsimp only;rw [htt,By,aC hcn,qK];rfl
    ·dsimp only;rw [htt,Bz,aC hcn]
    ·dsimp only
     rw [kT (by rw [J.lp];exact hcn)]
     split
     ·rfl
     ·rename_i hne
      rw [htt] at hi
      rcases cJ.1 hi with hi | hi
      ·exact J1 i hi hin
      ·exact absurd (by simpa using hi) hne
    ·rw [htt] at hi
     rcases cJ.1 hi with hi | hi
     ·exact J2 i hi hin
     ·have:i=c:=by simpa using hi
      subst this;exact absurd hcn hin
  ·rw [bC (by omega: ¬((c:Nat):Int)< ((n:Nat):Int)),aS]
   have hw:IntKind.wrap .i64 (((c:Nat):Int) - ((n:Nat):Int))= ((c - n:Nat):Int):=by rw [eI (by omega) (by omega)];omega
   have hcm2:c - n<bs.length:=by omega
   have hpl:uX bs (c - n)=bs[c - n].gE:=by unfold uX;rw [aK hcm2];rfl
   rw [hw]
   refine Ok.bind (P:=fun x=>x= (oP,oB.set (c - n) (if uX bs (c - n)=true then ((gi bs n (n+m) r h:Nat):Int) else -1),ints (gP n ((cls (n+m) r h).take t)),ints (gB bs n ((cls (n+m) r h).take t++[c])))) ?_ ?_
   ·refine Ok.idx hcm2 ?_
    rw [Bz,aD hcn,hpl]
    cases hp:bs[c - n].gE with
    | true=>
     rw [aQ,aC rfl,aC rfl]
     refine Ok.eq (x:=(oB.set (c - n) ((gi bs n (n+m) r h:Nat):Int),ints (gB bs n ((cls (n+m) r h).take t)++[c - n]))) ?_ (Ok.ret rfl)
     rw [iV _ _ (by rw [J.lb];omega),aB,il (by rw [lG];simp;omega),aB,bP,hgk,qK];rfl
    | false=>
     rw [aS,aD (by simp),aD (by simp)]
     refine Ok.eq (x:=(oB.set (c - n) (-1),ints (gB bs n ((cls (n+m) r h).take t)))) ?_ (Ok.ret rfl)
     rw [iV _ _ (by rw [J.lb];omega),aB,bP]
   ·rintro _ rfl
    refine Ok.ret ⟨⟨J.lp,by simp [J.lb],J.pc,fun j hj hr=>?_⟩,?_,?_,fun i hi hin=>?_,fun i hi hin=>?_⟩
    ·dsimp only
     rw [kT (by rw [J.lb];omega),aD (fun e=>hold c hcm (n+j) hr (by omega))];exact J.bo j hj hr
    ·dsimp only;rw [htt,By,aD hcn]
    ·dsimp only;rw [htt]
    ·rw [htt] at hi
     rcases cJ.1 hi with hi | hi
     ·exact J1 i hi hin
     ·have:i=c:=by simpa using hi
      subst this;exact absurd hin hcn
    ·dsimp only
     rw [kT (by rw [J.lb];omega)]
     split
     ·rename_i e;rw [e]
     ·rename_i hne
      rw [htt] at hi
      rcases cJ.1 hi with hi | hi
      ·exact J2 i hi hin
      ·exact absurd (by have:i=c:=(by simpa using hi);rw [this]) hne
 ·rintro⟨oP,oB,pp,bb⟩ ⟨J,e2,e3,J1,J2⟩
  dsimp only at J e2 e3 J1 J2 ⊢
  rw [fy] at e2 e3 J1 J2
  refine⟨⟨J.lp,J.lb,fun i hi hr=>?_,fun j hj hr=>?_⟩,e2,e3⟩
  ·rw [hts] at hr
   rcases cJ.1 hr with hr | hr
   ·exact J.pc i hi hr
   ·have hr:r i=h:=by simpa using hr
    rw [hr];exact J1 i (ri.2 ⟨by omega,hr⟩) hi
  ·rw [hts] at hr
   rcases cJ.1 hr with hr | hr
   ·exact J.bo j hj hr
   ·have hr:r (n+j)=h:=by simpa using hr
    rw [hr]
    have:=J2 (n+j) (ri.2 ⟨by omega,hr⟩) (by omega)
    rwa [Nat.add_sub_cancel_left] at this
 ·rintro⟨oP,oB,pp,bb⟩ ⟨J,e2,e3⟩
  dsimp only at J e2 e3 ⊢
  subst e2;subst e3
  have hgp:=DS n (cls (n+m) r h)
  have hgb:=DT bs n (cls (n+m) r h)
  rw [lG,lG,wrap_add (by omega)]
  have hgs:pq bs n (n+m) r ((bR (n+m) r).take (k+1))=if DR bs n (cls (n+m) r h)=true then pq bs n (n+m) r ((bR (n+m) r).take k)++[Jw bs n (cls (n+m) r h)] else pq bs n (n+m) r ((bR (n+m) r).take k):=by
   unfold pq
   rw [hts,Cs]
   split
   ·rw [fu];rfl
   ·rfl
  refine Ok.bind (P:=fun x=>x=pq bs n (n+m) r ((bR (n+m) r).take (k+1))) (Ok.bif (fun hb=>?_) (fun hb=>Ok.ret ?_)) (fun x e=>Ok.ret ⟨e,J⟩)
  ·have hne:DR bs n (cls (n+m) r h)=true:=cB (by have:=of_decide_eq_true hb;omega)
   refine Ok.app (by simp;omega) (Ok.ret ?_)
   rw [hgs,aC hne];rfl
  ·have hne: ¬DR bs n (cls (n+m) r h)=true:=fun h'=>by
    have h1:=of_decide_eq_true h'
    have h2:=of_decide_eq_false hb
    omega
   rw [hgs,aD hne]
end
end Go.Gk
namespace Go.Gk
open Go Classical
section
variable {N:Nat}
def eH (n:Nat) (h:dO):Nat:=if h.bM=true then n+h.Number.toNat else h.Number.toNat
structure DV (bs:List bM) (n m:Nat) (h:dO):Prop where
 num: ∃k:Nat,h.Number= ((k:Nat):Int)/\(h.bM=true->k<m/\uX bs k=true)/\(h.bM=false->k<n)
theorem AQ {bs:List bM} {pcs:List aH} {l:cK} {h:dO} (hh:mC bs pcs l=some h):DV bs pcs.length bs.length h:=by
 unfold mC at hh
 cases hf:bs.findIdx? (sq l) with
 | some k=>
  rw [hf] at hh
  injection hh with hh;subst hh
  obtain⟨hk,hp,_⟩:=List.findIdx?_eq_some_iff_getElem.1 hf
  refine⟨k,rfl,fun _=>⟨hk,?_⟩,fun h=>by cases h⟩
  unfold sq at hp
  unfold uX
  rw [aK hk]
  rw [bN] at hp
  exact hp.1
 | none=>
  rw [hf] at hh
  dsimp only at hh
  rw [Option.map_eq_some_iff] at hh
  obtain⟨k,hk,rfl⟩:=hh
  obtain⟨hk,_⟩:=List.findIdx?_eq_some_iff_getElem.1 hk
  exact⟨k,rfl,fun h=>(by cases h),fun _=>hk⟩
def su (bs:List bM) (pcs:List aH) (r:Nat->Nat) (l:cK):Option Nat:=(mC bs pcs l).map fun h=>gi bs pcs.length (pcs.length+bs.length) r (r (eH pcs.length h))
def yC (bs:List bM) (pcs:List aH) (r:Nat->Nat) (l:cK):Int:=match su bs pcs r l with | some g=>((g:Nat):Int) | none=> -1
def iq (gs:List cI) (lg:cK->Option Nat) (ls:List cK):List cI:=gs.mapIdx (fun g x=>{x with iw:=(ls.filter (fun l=>decide (lg l=some g))).map kc})
theorem ju {gs:List cI} {lg:cK->Option Nat} {ls:List cK} {g:Nat}: (iq gs lg ls)[g]? = (gs[g]?).map fun x=>{x with iw:=(ls.filter (fun l=>decide (lg l=some g))).map kc}:=by
 unfold iq;rw [List.getElem?_mapIdx]
theorem yp (gs:List cI) (lg:cK->Option Nat) (ls:List cK): (iq gs lg ls).length=gs.length:=by unfold iq;rw [List.length_mapIdx]
theorem wS {gs:List cI} {lg:cK->Option Nat} {ls:List cK} {l:cK} (h:lg l=none):iq gs lg (ls++[l])=iq gs lg ls:=by
 apply List.ext_getElem?
 intro g
 rw [ju,ju]
 congr 2
 funext x
 rw [iU]
 simp [h]
theorem yq {gs:List cI} {lg:cK->Option Nat} {ls:List cK} {l:cK} {k:Nat} {x:cI} (h:lg l=some k) (hx: (iq gs lg ls)[k]? =some x):
  (iq gs lg ls).set k {x with iw:=x.iw++[kc l]}=iq gs lg (ls++[l]):=by
 apply List.ext_getElem?
 intro g
 have hk:=(aW.1 hx).1
 rw [eO]
 by_cases e:k=g
 ·subst e
  rw [aC rfl,aC hk,ju]
  rw [ju,Option.map_eq_some_iff] at hx
  obtain⟨y,hy,rfl⟩:=hx
  rw [hy,iU]
  simp [h]
 ·rw [aD e,ju,ju]
  congr 2
  funext x
  rw [iU]
  have: ¬(lg l=some g):=by rw [h];intro h';injection h' with h';exact e h'
  simp [this]
theorem Fe {bs:List bM} {n t:Nat} {r:Nat->Nat} {i:Nat} (hi:i<n) (ht:i<t):DR bs n (cls t r (r i))=true:=by
 unfold DR
 rw [bQ]
 have:i∈gP n (cls t r (r i)):=iT.2 ⟨ri.2 ⟨ht,rfl⟩,by simpa using hi⟩
 have:=List.length_pos_of_mem this
 omega
theorem Ff {bs:List bM} {n t:Nat} {r:Nat->Nat} {j:Nat} (hp:uX bs j=true) (ht:n+j<t):DR bs n (cls t r (r (n+j)))=true:=by
 unfold DR
 rw [bQ]
 have:j∈gB bs n (cls t r (r (n+j))):=cL.2 ⟨n+j,iT.2 ⟨ri.2 ⟨ht,rfl⟩,by simp [hp]⟩,by omega⟩
 have:=List.length_pos_of_mem this
 omega
structure AR (bs:List bM) (ls:List cK) (pcs:List aH) (r:Nat->Nat) (gs:List cI) (ofP ofB kU:List Int) (kA:List dO):Prop where
 conn:wR pcs.length bs.length (dZ bs pcs) r
 gs:gs=iq (pq bs pcs.length (pcs.length+bs.length) r (bR (pcs.length+bs.length) r)) (su bs pcs r) ls
 of:Hx bs pcs.length bs.length r (bR (pcs.length+bs.length) r) ofP ofB
 kU:kU=ls.map (yC bs pcs r)
 kA:kA=ls.map (fun l=>(mC bs pcs l).getD ⟨false,0⟩)
theorem wm {bs:List bM} {pcs:List aH} (hp:pcs.length<=1073741824): ∀l∈dZ bs pcs,l.length<=1073741824/\∀x∈l,∃i:Nat,i<pcs.length/\x= ((i:Nat):Int):=by
 intro l hl
 unfold dZ at hl
 obtain⟨b,_,rfl⟩:=cL.1 hl
 have:=xu (lH b) pcs pcs.length
 refine⟨by rw [lG];omega,fun x hx=>?_⟩
 obtain⟨i,hi,rfl⟩:=wk.1 hx
 exact⟨i,(Cr.1 hi).1,rfl⟩
theorem yr {bs:List bM} {ls:List cK} {pcs:List aH} (hb:l4 bs) (hp:pcs.length<=1000000000) (hr: ∀p∈pcs,p.mG.length<=1073741824) (hl:ls.length<=1073741824) (hN:4398046511104<=N):
  Ok (eL N bs ls pcs (dZ bs pcs) [] [] [] []) (fun x=>∃r,AR bs ls pcs r x.1 x.2.1 x.2.2.1 x.2.2.2.1 x.2.2.2.2):=by
 have hbl:=hb.len
 unfold eL
 rw [wrap_add (by omega)]
 obtain⟨up0,u1,u2⟩:=qB (N:=N) (n:=pcs.length+bs.length) (by omega)
 refine Ok.eq u1 ?_
 refine Ok.bind (xv (n:=pcs.length) (m:=bs.length) (by unfold dZ;simp) (wm (by omega)) (by omega) (by omega) u2 hN) ?_
 rintro up1 ⟨r,v1,v2⟩
 refine Ok.eq (pd 0 (by omega)) (Ok.eq (pd 0 (by omega)) ?_)
 obtain⟨up2,w1,_⟩:=ER (N:=N) v1 (by omega) (by omega)
 refine Ok.eq w1 ?_
 refine Ok.bind (zQ (bs:=bs) (n:=pcs.length) (m:=bs.length) (r:=r) rfl (by omega) (by omega) (op:=List.replicate pcs.length 0) (ob:=List.replicate bs.length 0) (by simp) (by simp) rfl) ?_
 rintro⟨gs,ofP,ofB⟩ ⟨e1,I⟩
 dsimp only at e1 I ⊢
 subst e1
 have hgl: (pq bs pcs.length (pcs.length+bs.length) r (bR (pcs.length+bs.length) r)).length<=pcs.length+bs.length:=by
  rw [tE]
  have:=tF bs pcs.length (pcs.length+bs.length) r (bR (pcs.length+bs.length) r)
  have:=m9 (pcs.length+bs.length) r
  omega
 refine Ok.bind (Ok.jS (fun(k:Nat) (st:List cI×List Int×List Int×List Int×List dO)=>st= (iq (pq bs pcs.length (pcs.length+bs.length) r (bR (pcs.length+bs.length) r)) (su bs pcs r) (ls.take k),ofP,ofB,(ls.take k).map (yC bs pcs r),(ls.take k).map (fun l=>(mC bs pcs l).getD ⟨false,0⟩))) (by omega) ?_ (fun k st hk e=>?_)) ?_
 ·congr 1
  unfold iq
  apply List.ext_getElem?
  intro g
  rw [List.getElem?_mapIdx]
  unfold pq
  rw [gz]
  cases (live bs pcs.length (pcs.length+bs.length) r (bR (pcs.length+bs.length) r))[g]? <;> rfl
 ·subst e
  dsimp only
  have hts:ls.take (k+1)=ls.take k++[ls[k]]:=fA hk
  refine Ok.idx hk (Ok.eq (DQ hb (by omega) hr _) ?_)
  dsimp only
  refine Ok.bind (P:=fun x=>x= (iq (pq bs pcs.length (pcs.length+bs.length) r (bR (pcs.length+bs.length) r)) (su bs pcs r) (ls.take k++[ls[k]]),yC bs pcs r ls[k])) ?_ ?_
  ·cases hh:mC bs pcs ls[k] with
   | none=>
    refine Ok.ret ?_
    have h1:su bs pcs r ls[k]=none:=by unfold su;rw [hh];rfl
    rw [wS h1]
    unfold yC;rw [h1]
   | some h=>
    have h1:su bs pcs r ls[k]=some (gi bs pcs.length (pcs.length+bs.length) r (r (eH pcs.length h))):=by unfold su;rw [hh];rfl
    have h2:yC bs pcs r ls[k]= ((gi bs pcs.length (pcs.length+bs.length) r (r (eH pcs.length h)):Nat):Int):=by unfold yC;rw [h1]
    obtain⟨q,q1,q2,q3⟩:=(AQ hh).num
    have hix:eH pcs.length h<pcs.length+bs.length/\DR bs pcs.length (cls (pcs.length+bs.length) r (r (eH pcs.length h)))=true/\fH N ofP ofB h=some ((gi bs pcs.length (pcs.length+bs.length) r (r (eH pcs.length h)):Nat):Int):=by
     unfold fH eH
     rw [q1,bP]
     cases hbo:h.bM with
     | true=>
      obtain⟨q4,q5⟩:=q2 hbo
      rw [aQ,aC rfl]
      refine⟨by omega,Ff q5 (by omega),?_⟩
      have:=I.bo q q4 (iH.2 ⟨by have:=v2.le (pcs.length+q) (by omega);omega,v2.rr _ (by omega)⟩)
      rw [aC q5] at this
      rw [dK this,aB]
     | false=>
      have q4:=q3 hbo
      rw [aS,aD (by simp)]
      refine⟨by omega,Fe q4 (by omega),?_⟩
      have:=I.pc q q4 (iH.2 ⟨by have:=v2.le q (by omega);omega,v2.rr _ (by omega)⟩)
      rw [dK this,aB]
    obtain⟨i1,i2,i3⟩:=hix
    have hgi:=DU (r:=r) (t:=pcs.length+bs.length) (bs:=bs) (n:=pcs.length) (h:=r (eH pcs.length h)) (iH.2 ⟨by have:=v2.le _ i1;omega,v2.rr _ i1⟩) i2
    have hgx:gi bs pcs.length (pcs.length+bs.length) r (r (eH pcs.length h))< (iq (pq bs pcs.length (pcs.length+bs.length) r (bR (pcs.length+bs.length) r)) (su bs pcs r) (ls.take k)).length:=by
     rw [yp,tE];exact hgi.1
    rw [h2]
    dsimp only [Option.getD,Option.isSome]
    rw [aQ]
    refine Ok.eq i3 ?_
    generalize gi bs pcs.length (pcs.length+bs.length) r (r (eH pcs.length h))=g at *
    refine Ok.idx hgx (Ok.eq (uz _) ?_)
    have hpl: ((iq (pq bs pcs.length (pcs.length+bs.length) r (bR (pcs.length+bs.length) r)) (su bs pcs r) (ls.take k))[g]).iw.length<=ls.length:=by
     have:=ju (gs:=pq bs pcs.length (pcs.length+bs.length) r (bR (pcs.length+bs.length) r)) (lg:=su bs pcs r) (ls:=ls.take k) (g:=g)
     rw [aK hgx] at this
     have:=this.symm
     rw [Option.map_eq_some_iff] at this
     obtain⟨y,_,hy⟩:=this
     rw [<-hy,gM]
     have:=l8 (fun l=>decide (su bs pcs r l=some g)) (ls.take k)
     rw [cP] at this;omega
    refine Ok.app (by simp;omega) (Ok.idx hgx (Ok.ret ?_))
    rw [bP]
    congr 1
    exact yq h1 (aK hgx)
  ·rintro _ rfl
   dsimp only
   refine Ok.app (by simp;omega) (Ok.app (by simp;omega) (Ok.ret ?_))
   rw [hts,fu,fu];rfl
 ·rintro st rfl
  dsimp only
  rw [fy]
  exact Ok.ret ⟨r,v2,rfl,I,rfl,rfl⟩
end
end Go.Gk
namespace Go.Gk
open Go Classical
section
variable {N:Nat}
theorem xx {p:aH}: ∀{eE:List (List (List aA))} {k:Nat},p∈bY k eE->∃(i:Nat) (ps:List (List aA)) (q:List aA),eE[i]? =some ps/\q∈ps/\p= ⟨((k+i:Nat):Int),q,aL q⟩
 | [],k,h=>by cases h
 | ps::eE,k,h=>by
  rcases cJ.1 h with h | h
  ·obtain⟨q,hq,rfl⟩:=cL.1 h
   exact⟨0,ps,q,rfl,hq,rfl⟩
  ·obtain⟨i,ps',q,h1,h2,h3⟩:=xx h
   refine⟨i+1,ps',q,by simpa using h1,h2,?_⟩
   rw [h3,show k+1+i=k+ (i+1) by omega]
structure mX (a:iD):Prop where
 yo:0<a.aJ.length/\a.aJ.length<=16
 JJ: ∀r∈a.aJ,iB r=0
 out:iB a.cW=0
 many:a.cW.length+ (a.aJ.map List.length).sum<=2000
 tG:kL a=0
 qL:kd a=0
theorem mX.gb {a:iD} (h:mX a):l4 a.aU:=⟨(ou h.tG).1,fun b hb=>⟨((ou h.tG).2 b hb).1,((ou h.tG).2 b hb).2.1⟩⟩
theorem mX.cs {a:iD} (h:mX a): ∀r∈a.aJ,r.length<=2000/\∀x∈r,z7 x:=fun r hr=>DN (qI.1 (h.JJ r hr)).1
structure tH (a:iD) (ke:List (List aA)) (eE:List (List (List aA))) (p:aH) (i:Nat) (r:List aI) (s:List aA) (ps:List (List aA)) (u:Nat->Nat) (j k:Nat):Prop where
 JK:a.aJ[i]? =some r
 ke:ke[i]? =some s
 eE:eE[i]? =some ps
 dr:rh r (nB a.aU ((i:Nat):Int)) s
 pt:pj s u ps
 at_:ps[j]? =some p.Set
 head: (bR (aL s).length u)[j]? =some k
 set:nV (lr (aL s) (aL s).length u k) p.Set
 lim:sD (oO r++oO (nB a.aU ((i:Nat):Int))) (kH r++kH (nB a.aU ((i:Nat):Int))) (p.Set.map bH)
 Hy:p.eK= ((i:Nat):Int)
 Hz:p.mG=aL p.Set
theorem DW {a:iD} {ke:List (List aA)} {eE:List (List (List aA))} (hg:mX a) (hD:sm a.aJ a.aU a.aJ.length ke eE) {p:aH} (hp:p∈bY 0 eE): ∃i r s ps u j k,tH a ke eE p i r s ps u j k:=by
 obtain⟨i,ps,q,h1,h2,rfl⟩:=xx hp
 have hil:i<a.aJ.length:=by have:=(aW.1 h1).1;rw [hD.AN] at this;exact this
 have hc:a.aJ[i]? =some a.aJ[i]:=aK hil
 have hd:ke[i]? =some (ke[i]'(by rw [hD.len];exact hil)):=aK _
 have hdr:=hD.dr i _ _ hil hc hd
 obtain⟨u,hu⟩:=hD.pt i _ ps hil hd h1
 obtain⟨sx,sy⟩:=hdr.small (hg.cs _ (cM hil)).2 (fun x hx=>(zO hg.gb _ x hx).1)
 obtain⟨j,k,g1,g2,g3,g4⟩:=wj hu hdr.can hdr.lim sx sy h2
 exact⟨i,_,_,ps,u,j,k,hc,hd,h1,hdr,hu,g1,g2,g3,g4,by rw [fR],rfl⟩
theorem tH.DL {a:iD} {ke:List (List aA)} {eE:List (List (List aA))} (hg:mX a) {p:aH} {i:Nat} {r:List aI} {s:List aA} {ps:List (List aA)} {u:Nat->Nat} {j k:Nat} (h:tH a ke eE p i r s ps u j k):
  p.Set.length<=5000/\(∀b∈p.Set,b.Xs.length<=5000)/\p.mG.length<=5000*5000:=by
 have h1:=(hg.cs r (gN h.JK)).1
 have h2:=xt hg.gb ((i:Nat):Int)
 rw [h.Hz]
 exact uA (A:=5000) h.set.can h.lim (by rw [eA,kI,kI];omega) (by rw [eA,jc,jc];omega)
def BA (a0 a1 b0 b1:Int):Bool:=decide (b0<a1)&&decide (a0<b1)
def DX (a b:aI):Bool:=BA a.X0 a.X1 b.X0 b.X1&&BA a.Y0 a.Y1 b.Y0 b.Y1
theorem wo {a0 a1 b0 b1:Int} (h1: -1000000<=a0/\a0<=1000000) (h2: -1000000<=a1/\a1<=1000000) (h3: -1000000<=b0/\b0<=1000000) (h4: -1000000<=b1/\b1<=1000000): ∃n,jG N a0 a1 b0 b1=some n/\0<=n/\(n=0↔BA a0 a1 b0 b1=true):=by
 unfold jG BA
 have e1:IntKind.wrap .i64 (b0 - a1)=b0 - a1:=eI (by omega) (by omega)
 have e2:IntKind.wrap .i64 (a0 - b1)=a0 - b1:=eI (by omega) (by omega)
 have e3:IntKind.wrap .i64 (b0 - a1+1)=b0 - a1+1:=eI (by omega) (by omega)
 have e4:IntKind.wrap .i64 (a0 - b1+1)=a0 - b1+1:=eI (by omega) (by omega)
 rw [e1,e2,e3,e4]
 refine⟨_,rfl,?_,?_⟩
 ·repeat' split
  all_goals omega
 ·rw [bN,bQ,bQ]
  repeat' split
  all_goals omega
theorem F3 {a b:aI} (h1:eJ a=true) (h2:eJ b=true): ∃n,oy N a b=some n/\(n=0↔DX a b=true):=by
 have b1:=kb h1
 have b2:=kb h2
 obtain⟨n,n1,n2,n3⟩:=wo (N:=N) (a0:=a.X0) (a1:=a.X1) (b0:=b.X0) (b1:=b.X1) (by omega) (by omega) (by omega) (by omega)
 obtain⟨m,m1,m2,m3⟩:=wo (N:=N) (a0:=a.Y0) (a1:=a.Y1) (b0:=b.Y0) (b1:=b.Y1) (by omega) (by omega) (by omega) (by omega)
 unfold oy DX
 rw [n1,aB,m1,aB]
 refine⟨_,rfl,?_⟩
 rw [bN,<-n3,<-m3]
 split <;> omega
def uB (x y:bM):Bool:=(decide (x.cQ<=y.To)&&decide (y.cQ<=x.To))&&DX (u7 x) (u7 y)
def uJ (a:iD):Prop:=∃(i k:Nat) (x y:bM),k<i/\a.aU[i]? =some x/\a.aU[k]? =some y/\uB x y=true
noncomputable def wT (r:List aI):Option Int:=if iB r≠0 then some (iB r) else none
noncomputable def yt (a:iD):Int:=if 2000<a.cW.length+ (a.aJ.map List.length).sum then 2 else if kL a≠0 then kL a else if kd a≠0 then kd a else if uJ a then 12 else 0
noncomputable def DY (a:iD):Int:=match a.aJ.findSome? wT with | some e=>e | none=>if iB a.cW≠0 then iB a.cW else yt a
noncomputable def iP (a:iD):Int:=if a.aJ.length=0 then 9 else if 16<a.aJ.length then 2 else DY a
def HI (ke:List (List aA)) (eE:List (List (List aA))):Prop:=(∀s∈ke,(aL s).length<=2000)/\(bY 0 eE).length<=2000
abbrev wq:=(List (List aI))×(List aI)×(List bM)×(List cK)×(List (List aA))×(List aH)×(List (List Int))×(List cI)×(List Int)×(List Int)×(List Int)×(List dO)
def Fg (a:iD) (x:Option wq×Int):Prop:=
 (iP a≠0/\x= (none,iP a))\/(iP a=0/\mX a/\¬uJ a/\∃ke eE,sm a.aJ a.aU a.aJ.length ke eE/\
  ((¬HI ke eE/\x= (none,2))\/(HI ke eE/\∃r gs ofP ofB kU kA,AR a.aU a.aZ (bY 0 eE) r gs ofP ofB kU kA/\
   x= (some (a.aJ,a.cW,a.aU,a.aZ,ke,bY 0 eE,dZ a.aU (bY 0 eE),gs,ofP,ofB,kU,kA),0))))
structure qM (a:iD):Prop where
 cs:a.aJ.length<=1048576
 each: ∀r∈a.aJ,r.length<=1048576
 out:a.cW.length<=1048576
 bs:a.aU.length<=1048576
 ls:a.aZ.length<=1048576
 nm:wh a
theorem zR {a:iD} (h:bk a<=1048576):qM a:=by
 rw [Dv] at h
 have h1:=qe a.aJ
 have h2:=qe a.cW
 have h3:=qe a.aU
 have h4:=qe a.aZ
 refine⟨by omega,fun r hr=>?_,by omega,by omega,by omega,fun x hx=>?_⟩
 ·have:=Az hr
  have:=qe r;omega
 ·have:=Az hx
  rw [Bm,Dl,Dl] at this;omega
theorem xy {a:iD} (hs:qM a) (hN:4398046511104<=N):Ok (fI N a) (Fg a):=by
 unfold fI
 have pe: ∀e:Int,e≠0->iP a=e->Ok (some ((none:Option wq),e)) (Fg a):=fun e he h=>Ok.ret (.inl ⟨by rw [h];exact he,by rw [h]⟩)
 have c1:=hs.cs
 refine Ok.bif (fun h=>?_) (fun h=>?_)
 ·have:a.aJ.length=0:=by have:=beq_iff_eq.1 h;omega
  exact pe 9 (by omega) (by unfold iP;rw [aC this])
 have h0: ¬a.aJ.length=0:=by rw [beq_eq_false_iff_ne] at h;omega
 refine Ok.bif (fun h=>?_) (fun h=>?_)
 ·have h1:16<a.aJ.length:=by have:=of_decide_eq_true h;omega
  exact pe 2 (by omega) (by unfold iP;rw [aD h0,aC h1])
 have h1: ¬16<a.aJ.length:=by have:=of_decide_eq_false h;omega
 have pe1:iP a=DY a:=by unfold iP;rw [aD h0,aD h1]
 have hso:=hs.out
 have sumle: ∀k,k<=a.aJ.length->((a.aJ.take k).map List.length).sum<=k*1048576:=by
  intro k
  induction k with
  | zero=>intro _;simp
  | succ k ih=>
   intro hk
   have:=ih (by omega)
   have h2:=hs.each _ (cM (show k<a.aJ.length by omega))
   rw [fA (by omega),fu,List.sum_append]
   simp only [eB,List.map_nil,List.sum_cons,List.sum_nil]
   rw [Nat.add_mul];omega
 refine Ok.bind (Ok.oW (Go:=fun s:Int=>s= ((a.cW.length+ (a.aJ.map List.length).sum:Nat):Int)/\∀r∈a.aJ,iB r=0) (Rt:=fun x:Option wq×Int=>∃e,e≠0/\x= (none,e)/\a.aJ.findSome? wT=some e)
  (fun(k:Nat) (s:Int)=>s= ((a.cW.length+ ((a.aJ.take k).map List.length).sum:Nat):Int)/\∀r∈a.aJ.take k,iB r=0) (by omega) ⟨by simp,fun r hr=>by simp at hr⟩ (fun k s hk hI=>?_) (fun s hI=>by rw [fy] at hI;exact hI)) ?_
 ·obtain⟨e,hI⟩:=hI
  subst e
  have hkx:a.aJ[k]? =some a.aJ[k]:=aK hk
  have hts:a.aJ.take (k+1)=a.aJ.take k++[a.aJ[k]]:=fA hk
  have he:=hs.each _ (cM hk)
  refine Ok.ix hkx (Ok.eq (qH (by omega) hN) ?_)
  refine Ok.bif (fun h=>Ok.rt ?_) (fun h=>Ok.nx ?_)
  ·have h:iB a.aJ[k]≠0:=by simpa using h
   refine⟨_,h,rfl,?_⟩
   rw [List.findSome?_eq_some_iff]
   refine⟨a.aJ.take k,a.aJ[k],a.aJ.drop (k+1),?_,by unfold wT;rw [aC h],fun r hr=>by unfold wT;rw [aD (by simpa using hI r hr)]⟩
   rw [<-qQ hk,List.take_append_drop]
  ·have h:iB a.aJ[k]=0:=by simpa using h
   have:=sumle k (by omega)
   have hk16:k*1048576<=16*1048576:=Nat.mul_le_mul_right _ (by omega)
   refine⟨?_,fun r hr=>?_⟩
   ·rw [wrap_add (by omega),hts,fu,List.sum_append]
    simp only [eB,List.map_nil,List.sum_cons,List.sum_nil]
    congr 1
    omega
   ·rw [hts] at hr
    rcases cJ.1 hr with hr | hr
    ·exact hI r hr
    ·simp at hr;subst hr;exact h
 intro o ho
 refine Ok.cs ho ?_ ?_
 rotate_left
 ·rintro x ⟨e,he,rfl,hf⟩
  exact pe e he (by rw [pe1];unfold DY;rw [hf])
 rintro s ⟨rfl,hreg⟩
 have HE:a.aJ.findSome? wT=none:=List.findSome?_eq_none_iff.2 fun r hr=>by unfold wT;rw [aD (by simpa using hreg r hr)]
 have pe2:iP a=if iB a.cW≠0 then iB a.cW else yt a:=by rw [pe1];unfold DY;rw [HE]
 refine Ok.eq (qH (by omega) hN) ?_
 refine Ok.bif (fun h=>?_) (fun h=>?_)
 ·have h:iB a.cW≠0:=by simpa using h
  exact pe _ h (by rw [pe2,aC h])
 have hout:iB a.cW=0:=by simpa using h
 have pe3:iP a=yt a:=by rw [pe2,aD (by simpa using hout)]
 refine Ok.bif (fun h=>?_) (fun h=>?_)
 ·have h:2000<a.cW.length+ (a.aJ.map List.length).sum:=by have:=of_decide_eq_true h;omega
  exact pe 2 (by omega) (by rw [pe3];unfold yt;rw [aC h])
 have hmany: ¬2000<a.cW.length+ (a.aJ.map List.length).sum:=by have:=of_decide_eq_false h;omega
 have hbs:=hs.bs
 have hls:=hs.ls
 refine Ok.eq (wO (by omega) (by omega) (by omega)) ?_
 refine Ok.bif (fun h=>?_) (fun h=>?_)
 ·have h:kL a≠0:=by simpa using h
  exact pe _ h (by rw [pe3];unfold yt;rw [aD hmany,aC h])
 have hbo:kL a=0:=by simpa using h
 refine Ok.eq (wP (by omega) (by omega) hs.nm (by omega)) ?_
 refine Ok.bif (fun h=>?_) (fun h=>?_)
 ·have h:kd a≠0:=by simpa using h
  exact pe _ h (by rw [pe3];unfold yt;rw [aD hmany,aD (by simpa using hbo),aC h])
 have hla:kd a=0:=by simpa using h
 have hg:mX a:=⟨by omega,hreg,hout,by omega,hbo,hla⟩
 have pe4:iP a=if uJ a then 12 else 0:=by rw [pe3];unfold yt;rw [aD hmany,aD (by simpa using hbo),aD (by simpa using hla)]
 refine Ok.bind (Ok.oW (Go:=fun _:Unit=>¬uJ a) (Rt:=fun x:Option wq×Int=>x= (none,12)/\uJ a)
  (fun(k:Nat) (_:Unit)=>∀(i j:Nat) (x y:bM),i<k->j<i->a.aU[i]? =some x->a.aU[j]? =some y->¬uB x y=true) (by omega) (fun i j x y h=>by omega) (fun k s hk hI=>?_) (fun s hI=>?_)) ?_
 ·have hkx:a.aU[k]? =some a.aU[k]:=aK hk
  refine Ok.ix hkx (Ok.eq (sY _ k (by omega)) ?_)
  have hgk:=hg.gb.ok _ (cM hk)
  refine Ok.bind (Ok.oW (Go:=fun _:Unit=>∀(j:Nat) (y:bM),j<k->a.aU[j]? =some y->¬uB a.aU[k] y=true) (Rt:=fun x:Option wq×Int=>x= (none,12)/\uJ a)
   (fun(t:Nat) (_:Unit)=>∀(j:Nat) (y:bM),j<t->a.aU[j]? =some y->¬uB a.aU[k] y=true) (by rw [cP];omega) (fun j y h=>by omega) (fun t s ht hI2=>?_) (fun s hI2 j y hj hy=>hI2 j y (by rw [cP];omega) hy)) ?_
  ·have htk:t<k:=by rw [cP] at ht;omega
   have htx: (a.aU.take k)[t]? =some a.aU[t]:=by rw [List.getElem?_take_of_lt htk];exact aK (by omega)
   have hgt:=hg.gb.ok _ (cM (show t<a.aU.length by omega))
   refine Ok.ix htx ?_
   refine Ok.eq (x:=uB a.aU[k] a.aU[t]) ?_ ?_
   ·unfold uB
    cases hc: (decide (a.aU[k].cQ<=a.aU[t].To)&&decide (a.aU[t].cQ<=a.aU[k].To)) with
    | false=>rfl
    | true=>
     obtain⟨n,n1,n2⟩:=F3 (N:=N) hgk.2 hgt.2
     rw [aQ,lk hgk.1,aB,lk hgt.1,aB,n1,aB,Bool.true_and]
     congr 1
     rw [fQ,beq_iff_eq];exact n2
   ·refine Ok.bif (fun h=>Ok.rt ⟨rfl,k,t,_,_,htk,hkx,aK (by omega),h⟩) (fun h=>Ok.nx fun j y hj hy=>?_)
    by_cases e:j<t
    ·exact hI2 j y e hy
    ·have:j=t:=by omega
     subst this
     rw [aK (by omega)] at hy;injection hy with hy
     rw [<-hy,h];simp
  ·intro o ho
   refine Ok.cs ho (fun s hI2=>Ok.nx fun i j x y hi hj hx hy=>?_) (fun x hx=>Ok.rt hx)
   by_cases e:i<k
   ·exact hI i j x y e hj hx hy
   ·have:i=k:=by omega
    subst this
    rw [hkx] at hx;injection hx with hx
    rw [<-hx];exact hI2 j y hj hy
 ·rintro⟨i,j,x,y,hj,hx,hy,hc⟩
  exact hI i j x y (aW.1 hx).1 hj hx hy hc
 intro o ho
 refine Ok.cs ho ?_ ?_
 rotate_left
 ·rintro x ⟨rfl,hc⟩
  exact pe 12 (by omega) (by rw [pe4,aC hc])
 intro _ hncl
 have pe5:iP a=0:=by rw [pe4,aD hncl]
 refine Ok.bind (AO (N:=N) (by omega) hg.cs hg.gb hN) ?_
 rintro⟨okk,ke,pcs⟩ ⟨eE,D,e1,e2⟩
 dsimp only at D e1 e2 ⊢
 subst e1
 refine Ok.bif (fun h=>Ok.ret (.inr ⟨pe5,hg,hncl,ke,eE,D, .inl ⟨fun hf=>?_,rfl⟩⟩)) (fun h=>?_)
 ·have:=e2.2 hf
  rw [this] at h;cases h
 ·have hf:HI ke eE:=e2.1 (by cases okk <;> simp_all)
  have hpr: ∀p∈bY 0 eE,p.mG.length<=1073741824:=fun p hp=>by
   obtain⟨i,r,s,ps,u,j,k,hP⟩:=DW hg D hp
   have:=(hP.DL hg).2.2;omega
  have hf2:=hf.2
  refine Ok.eq (DO hg.gb (by omega) hpr) ?_
  refine Ok.bind (yr (N:=N) hg.gb (by omega) hpr (by omega) hN) ?_
  rintro⟨gs,ofP,ofB,kU,kA⟩ ⟨r,hC⟩
  exact Ok.ret (.inr ⟨pe5,hg,hncl,ke,eE,D, .inr ⟨hf,r,gs,ofP,ofB,kU,kA,hC,rfl⟩⟩)
end
end Go.Gk
