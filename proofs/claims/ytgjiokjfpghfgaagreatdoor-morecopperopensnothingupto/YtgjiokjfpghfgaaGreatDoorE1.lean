/-
  Helping texts: plain functions and plain laws. No statement of the seed is proved here.
-/
import Derived.Test.YtgjiokjfpghfgaaGreatDoorA1
import Derived.ChangeShapes
import Derived.ChangeSame
import Derived.Carry
import Derived.RowKit
import Derived.Test.YtgjiokjfpghfgaaGreatDoorA2
set_option linter.unusedVariables false
set_option linter.unusedSimpArgs false
set_option linter.unusedSectionVars false
namespace Go.Gk
open Go
noncomputable section
structure aG where
 X0:Int
 Y0:Int
 X1:Int
 Y1:Int
 deriving DecidableEq,Inhabited
structure iU where
 X:Int
 Y:Int
 deriving DecidableEq,Inhabited
structure bH where
 At:iU
 eD:Int
 cM:Int
 To:Int
 iF:Bool
 deriving DecidableEq,Inhabited
structure bW where
 Part:dA
 fH:dA
 cY:Int
 At:iU
 deriving DecidableEq,Inhabited
structure eL where
 aH: (List (List aG))
 cI: (List aG)
 aU: (List bH)
 bC: (List bW)
 deriving DecidableEq,Inhabited
structure fH where
 Part:dA
 fH:dA
 deriving DecidableEq,Inhabited
structure aA where
 Y0:Int
 Y1:Int
 Xs: (List Int)
 deriving DecidableEq,Inhabited
structure aI where
 cY:Int
 Set: (List aA)
 gk: (List aG)
 deriving DecidableEq,Inhabited
structure cL where
 l5: (List Int)
 aU: (List Int)
 hU: (List fH)
 deriving DecidableEq,Inhabited
structure iN where
 bH:Bool
 Number:Int
 deriving DecidableEq,Inhabited
def oL (N:Nat) (p0 p1 p2:Int):Option (Bool):=
 some ((decide (p0>=p1))&&(decide (p0<=p2)))
def jm (N:Nat) (p0:Int):Option (Bool):=
 (oL N p0 (-1000000) 1000000).bind fun j=>some j
def kl (N:Nat) (p0:aG):Option (Bool):=
 ((jm N p0.X0).bind fun j=>bif j then ((jm N p0.Y0).bind fun o=>bif o then ((jm N p0.X1).bind fun aa=>bif aa then ((jm N p0.Y1).bind fun ab=>some ab) else (some false)) else (some false)) else (some false)).bind fun ad=>some ad
def iV (N:Nat) (p0: (List aG)):Option (Int):=
 bif (decide ((p0.length:Int)>2000)) then (some 2) else ((qR p0.length (fun(o:Nat) (aa:Unit)=>((idx p0 (o:Int)).bind fun j=>(kl N j).bind fun ab=>bif (!ab) then (some (.rt 1)) else (bif ((decide (j.X1<=j.X0))||(decide (j.Y1<=j.Y0))) then (some (.rt 13)) else (some (.nx ()))):Option (Fl (Unit) Int))) ()).bind fun ad=>ad.cs (fun(aa:Unit)=>some 0) (fun r=>some r))
def eN (N:Nat) (p0: (List aG)):Option ((List aG)):=
 (app 32 ([]: (List aG)) p0).bind fun j=>some j
def gM (N:Nat) (p0 p1:aG):Option (Int):=
 some (IntKind.wrap .i64 (p0.Y0 - p1.Y0))
def eY (N:Nat) (p0: (List Int)):Option ((List Int)):=
 bif (decide ((p0.length:Int)<2)) then (some p0) else ((mC (fun(o:Int)=>(bif (decide (o< (p0.length:Int))) then ((idx p0 o).bind fun ab=>(idx p0 (IntKind.wrap .i64 (o - 1))).bind fun ad=>bif (ab==ad) then ((r7 p0 o (p0.length:Int)).bind fun ak=>(mC (fun(j: (List Int)×Int×Int)=>(bif (decide (j.2.2< (((j.1.length - Int.toNat o):Nat):Int))) then ((zg j.1 o j.2.2).bind fun ae=>(zg j.1 o (IntKind.wrap .i64 (j.2.2 - 1))).bind fun af=>(bif (ae != af) then ((zg j.1 o j.2.2).bind fun ag=>(idx j.1 j.2.1).bind fun al=>some ((j.1.set (Int.toNat j.2.1) ag),(IntKind.wrap .i64 (j.2.1+1)))) else (some (j.1,j.2.1))).bind fun aa=>some (.nx (aa.1,aa.2,(IntKind.wrap .i64 (j.2.2+1))))) else (some (.br (j.1,j.2.1,j.2.2))):Option (Fl ((List Int)×Int×Int) Empty))) N (p0,o,1)).bind fun ah=>ah.cs (fun(j: (List Int)×Int×Int)=>(r7 j.1 j.2.1 (j.1.length:Int)).bind fun an=>(r7 (j.1.take (Int.toNat j.2.1)++List.replicate (j.1.length - Int.toNat j.2.1) (0:Int)) 0 j.2.1).bind fun ai=>some (.rt ai)) (fun r=>r.elim)) else (some (.nx (IntKind.wrap .i64 (o+1))))) else (some (.br o)):Option (Fl (Int) (List Int)))) N 1).bind fun aj=>aj.cs (fun(o:Int)=>some p0) (fun r=>some r))
def ld (N:Nat) (p0:aG) (p1: (List Int)) (p2:Int):Option (Bool):=
 (idx p1 p2).bind fun j=>some (decide (p0.Y1<=j))
def jH (N:Nat) (p0: (List aG)) (p1:aG->Option Bool):Option (Int):=
 (qR p0.length (fun(j:Nat) (o:Unit)=>((idx p0 (j:Int)).bind fun aa=>(p1 aa).bind fun ab=>bif ab then (some (.rt (j:Int))) else (some (.nx ())):Option (Fl (Unit) Int))) ()).bind fun ad=>ad.cs (fun(o:Unit)=>some (-1)) (fun r=>some r)
def iG (N:Nat) (p0: (List aG)) (p1:aG->Option Bool):Option (Int):=
 (qR p0.length (fun(j:Nat) (o:Unit)=>((idx p0 (j:Int)).bind fun aa=>(p1 aa).bind fun ab=>bif ab then (some (.rt (j:Int))) else (some (.nx ())):Option (Fl (Unit) Int))) ()).bind fun ad=>ad.cs (fun(o:Unit)=>some (-1)) (fun r=>some r)
def fK (N:Nat) (p0: (List aG)) (p1:aG->Option Bool):Option ((List aG)):=
 (iG N p0 p1).bind fun o=>bif (o==(-1)) then (some p0) else ((mC (fun(j: (List aG)×Int×Int)=>(bif (decide (j.2.2< (j.1.length:Int))) then ((idx j.1 j.2.2).bind fun aa=>(p1 aa).bind fun ad=>(bif (!ad) then ((idx j.1 j.2.1).bind fun ag=>some ((j.1.set (Int.toNat j.2.1) aa),(IntKind.wrap .i64 (j.2.1+1)))) else (some (j.1,j.2.1))).bind fun ab=>some (.nx (ab.1,ab.2,(IntKind.wrap .i64 (j.2.2+1))))) else (some (.br (j.1,j.2.1,j.2.2))):Option (Fl ((List aG)×Int×Int) Empty))) N (p0,o,(IntKind.wrap .i64 (o+1)))).bind fun ae=>ae.cs (fun(j: (List aG)×Int×Int)=>(r7 j.1 j.2.1 (j.1.length:Int)).bind fun ah=>(r7 (j.1.take (Int.toNat j.2.1)++List.replicate (j.1.length - Int.toNat j.2.1) (⟨0,0,0,0⟩:aG)) 0 j.2.1).bind fun af=>some af) (fun r=>r.elim))
def eZ (N:Nat) (p0 p1:aG):Option (Int):=
 some (IntKind.wrap .i64 (p0.X0 - p1.X0))
def gC (N:Nat) (p0: (List aG)):Option ((List Int)×(List aG)):=
 (sf (eZ N) p0).bind fun aa=>(kM aa.length (fun(ad:Nat) (j: (List Int))=>((idx aa (ad:Int)).bind fun o=>(bif (decide ((IntKind.wrap .i64 ((j.length:Int) - 1))>=0)) then ((idx j (IntKind.wrap .i64 ((j.length:Int) - 1))).bind fun ae=>some (decide (o.X0<=ae))) else (some false)).bind fun af=>(bif af then ((idx j (IntKind.wrap .i64 ((j.length:Int) - 1))).bind fun ab=>(idx j (IntKind.wrap .i64 ((j.length:Int) - 1))).bind fun ai=>some (j.set (Int.toNat (IntKind.wrap .i64 ((j.length:Int) - 1))) (if ab<o.X1 then o.X1 else ab))) else ((app 8 j ([o.X0,o.X1]: (List Int))).bind fun ag=>some ag)).bind fun ah=>some ah:Option ((List Int)))) ([]: (List Int))).bind fun j=>some (j,aa)
def km (N:Nat) (p0: (List Int)) (p1: (List Int)):Option (Bool):=
 bif ((p0.length:Int) != (p1.length:Int)) then (some false) else ((qR p0.length (fun(j:Nat) (o:Unit)=>((idx p0 (j:Int)).bind fun aa=>(idx p1 (j:Int)).bind fun ab=>bif (aa != ab) then (some (.rt false)) else (some (.nx ())):Option (Fl (Unit) Bool))) ()).bind fun ad=>ad.cs (fun(o:Unit)=>some true) (fun r=>some r))
def gl (N:Nat) (p0: (List aA)) (p1:aA):Option ((List aA)):=
 bif (((p1.Xs.length:Int)==0)||(decide (p1.Y1<=p1.Y0))) then (some p0) else ((bif (decide ((IntKind.wrap .i64 ((p0.length:Int) - 1))>=0)) then ((idx p0 (IntKind.wrap .i64 ((p0.length:Int) - 1))).bind fun j=>bif (j.Y1==p1.Y0) then ((idx p0 (IntKind.wrap .i64 ((p0.length:Int) - 1))).bind fun o=>(km N o.Xs p1.Xs).bind fun aa=>some aa) else (some false)) else (some false)).bind fun ab=>bif ab then ((idx p0 (IntKind.wrap .i64 ((p0.length:Int) - 1))).bind fun ad=>some (p0.set (Int.toNat (IntKind.wrap .i64 ((p0.length:Int) - 1))) ({ad with Y1:=p1.Y1}))) else ((app 40 p0 ([p1]: (List aA))).bind fun ae=>some ae))
def cO (N:Nat) (p0: (List aG)):Option ((List aA)):=
 (eN N p0).bind fun ag=>(sf (gM N) ag).bind fun aa=>(kM aa.length (fun(ah:Nat) (ad: (List Int))=>((idx aa (ah:Int)).bind fun ae=>(app 8 ad ([ae.Y0,ae.Y1]: (List Int))).bind fun ai=>some ai:Option ((List Int)))) ([]: (List Int))).bind fun ad=>(pN ad).bind fun aj=>(eY N aj).bind fun ab=>(mC (fun(j: (List aA)×(List aG)×Int×Int)=>(bif (decide ((IntKind.wrap .i64 (j.2.2.2+1))< (ab.length:Int))) then ((fK N j.2.1 (fun y0=>ld N y0 ab j.2.2.2)).bind fun ak=>(mC (fun(o: (List aG)×Int)=>((bif (decide (o.2< (aa.length:Int))) then ((idx aa o.2).bind fun al=>(idx ab j.2.2.2).bind fun an=>some (decide (al.Y0<=an))) else (some false)).bind fun ao=>bif ao then ((idx aa o.2).bind fun aq=>(app 32 o.1 ([aq]: (List aG))).bind fun ar=>some (.nx (ar,(IntKind.wrap .i64 (o.2+1))))) else (some (.br (o.1,o.2))):Option (Fl ((List aG)×Int) Empty))) N (ak,j.2.2.1)).bind fun au=>au.cs (fun(o: (List aG)×Int)=>(idx ab j.2.2.2).bind fun av=>(idx ab (IntKind.wrap .i64 (j.2.2.2+1))).bind fun aw=>(gC N o.1).bind fun af=>(gl N j.1 (⟨av,aw,af.1⟩:aA)).bind fun ax=>some (.nx (ax,af.2,o.2,(IntKind.wrap .i64 (j.2.2.2+1))))) (fun r=>r.elim)) else (some (.br (j.1,j.2.1,j.2.2.1,j.2.2.2))):Option (Fl ((List aA)×(List aG)×Int×Int) Empty))) N (([]: (List aA)),([]: (List aG)),0,0)).bind fun ay=>ay.cs (fun(j: (List aA)×(List aG)×Int×Int)=>some j.1) (fun r=>r.elim)
def fR (N:Nat) (p0: (List aA)):Option ((List aG)):=
 (kM p0.length (fun(aa:Nat) (o: (List aG))=>((idx p0 (aa:Int)).bind fun iH=>(mC (fun(j: (List aG)×Int)=>(bif (decide (j.2< (iH.Xs.length:Int))) then ((idx iH.Xs j.2).bind fun ab=>(idx iH.Xs (IntKind.wrap .i64 (j.2+1))).bind fun ad=>(app 32 j.1 ([(⟨ab,iH.Y0,ad,iH.Y1⟩:aG)]: (List aG))).bind fun ae=>some (.nx (ae,(IntKind.wrap .i64 (j.2+2))))) else (some (.br (j.1,j.2))):Option (Fl ((List aG)×Int) Empty))) N (o,0)).bind fun af=>af.cs (fun(j: (List aG)×Int)=>some j.1) (fun r=>r.elim):Option ((List aG)))) ([]: (List aG))).bind fun o=>some o
def iq (N:Nat) (p0: (List aG)) (p1: (List aG)):Option (Bool):=
 bif ((p0.length:Int) != (p1.length:Int)) then (some false) else ((qR p0.length (fun(j:Nat) (o:Unit)=>((idx p0 (j:Int)).bind fun aa=>(idx p1 (j:Int)).bind fun ab=>bif (!(decide (aa=ab))) then (some (.rt false)) else (some (.nx ())):Option (Fl (Unit) Bool))) ()).bind fun ad=>ad.cs (fun(o:Unit)=>some true) (fun r=>some r))
def dZ (N:Nat) (p0: (List aG)):Option (Int):=
 (iV N p0).bind fun ab=>bif (ab != 0) then (some ab) else ((mC (fun(j:Int)=>(bif (decide (j< (p0.length:Int))) then ((idx p0 (IntKind.wrap .i64 (j - 1))).bind fun o=>(idx p0 j).bind fun aa=>bif ((decide (aa.Y0<o.Y0))||((aa.Y0==o.Y0)&&(decide (aa.X0<=o.X0)))) then (some (.rt 8)) else (some (.nx (IntKind.wrap .i64 (j+1))))) else (some (.br j)):Option (Fl (Int) Int))) N 1).bind fun ad=>ad.cs (fun(j:Int)=>(cO N p0).bind fun ae=>(fR N ae).bind fun af=>(iq N af p0).bind fun ag=>bif (!ag) then (some 3) else (some 0)) (fun r=>some r))
def dL (N:Nat) (p0 p1 p2:Int):Option (Bool):=
 some ((decide (p0>=p1))&&(decide (p0<=p2)))
def gH (N:Nat) (p0:iU):Option (Bool):=
 ((jm N p0.X).bind fun j=>bif j then ((jm N p0.Y).bind fun o=>some o) else (some false)).bind fun aa=>some aa
def eK (N:Nat) (p0:bH):Option (aG):=
 some (⟨(IntKind.wrap .i64 (p0.At.X - (IntKind.wrap .i64 (Int.tdiv p0.eD 2)))),(IntKind.wrap .i64 (p0.At.Y - (IntKind.wrap .i64 (Int.tdiv p0.eD 2)))),(IntKind.wrap .i64 ((IntKind.wrap .i64 (p0.At.X - (IntKind.wrap .i64 (Int.tdiv p0.eD 2))))+p0.eD)),(IntKind.wrap .i64 ((IntKind.wrap .i64 (p0.At.Y - (IntKind.wrap .i64 (Int.tdiv p0.eD 2))))+p0.eD))⟩:aG)
def kn (N:Nat) (p0: (List aA)):Option (aG):=
 (idx p0 0).bind fun ad=>(idx ad.Xs 0).bind fun ae=>(idx p0 0).bind fun af=>(idx p0 0).bind fun ag=>(idx ag.Xs 1).bind fun ah=>(idx p0 (IntKind.wrap .i64 ((p0.length:Int) - 1))).bind fun ai=>(kM p0.length (fun(aj:Nat) (j:aG)=>((idx p0 (aj:Int)).bind fun o=>(idx o.Xs 0).bind fun aa=>(idx o.Xs (IntKind.wrap .i64 ((o.Xs.length:Int) - 1))).bind fun ab=>some ({{j with X0:=(if aa<j.X0 then aa else j.X0)} with X1:=(if j.X1<ab then ab else j.X1)}):Option (aG))) (⟨ae,af.Y0,ah,ai.Y1⟩:aG)).bind fun j=>some j
def jY (N:Nat) (p0: (List aA)):Option (Bool):=
 (bif ((p0.length:Int)==0) then (some true) else ((kn N p0).bind fun j=>(kl N j).bind fun o=>some o)).bind fun aa=>some aa
def iI (N:Nat) (p0:bH):Option (aG×Int):=
 ((dL N p0.eD 1 10000).bind fun o=>bif (!o) then (some true) else ((gH N p0.At).bind fun aa=>some (!aa))).bind fun ab=>bif ab then (some ((⟨0,0,0,0⟩:aG),1)) else ((eK N p0).bind fun j=>(cO N ([j]: (List aG))).bind fun ad=>(jY N ad).bind fun ae=>bif (!ae) then (some ((⟨0,0,0,0⟩:aG),1)) else (some (j,0)))
def ir (N:Nat) (p0:eL):Option (Int):=
 bif (decide ((p0.aU.length:Int)>500)) then (some 2) else ((qR p0.aU.length (fun(aa:Nat) (ab:Unit)=>((idx p0.aU (aa:Int)).bind fun j=>(iI N j).bind fun o=>bif (o.2 != 0) then (some (.rt o.2)) else (((dL N j.cM 0 (IntKind.wrap .i64 ((p0.aH.length:Int) - 1))).bind fun ad=>bif (!ad) then (some true) else ((dL N j.To j.cM (IntKind.wrap .i64 ((p0.aH.length:Int) - 1))).bind fun ae=>some (!ae))).bind fun af=>bif af then (some (.rt 1)) else (some (.nx ()))):Option (Fl (Unit) Int))) ()).bind fun ag=>ag.cs (fun(ab:Unit)=>some 0) (fun r=>some r))
def fV (N:Nat) (p0:dA) (p1:Int):Option (Int):=
 some (Lib.indexByte p0.bY (Int.toNat p1).toUInt8)
def iu (N:Nat) (p0 p1:dA):Option (Int):=
 bif (((p1.bY.length:Int)==0)||(p1.y7 p0)) then (some 0) else (bif ((p1.bY.length:Int)==1) then ((AY p1 0).bind fun j=>(fV N p0 (j.toNat:Int)).bind fun o=>some o) else (bif (decide ((p1.bY.length:Int)>=(p0.bY.length:Int))) then (some (-1)) else (none)))
def jD (N:Nat) (p0 p1:dA):Option (Int):=
 (iu N p0 p1).bind fun j=>some j
def kA (N:Nat) (p0 p1:dA):Option (Int):=
 bif ((p1.bY.length:Int)==0) then (none) else (bif ((p1.bY.length:Int)==1) then ((AY p1 0).bind fun aa=>some ((Lib.countByte p0.bY (Int.toNat (aa.toNat:Int)).toUInt8:Nat):Int)) else ((mC (fun(j:dA×Int)=>((jD N j.1 p1).bind fun o=>bif (o==(-1)) then (some (.rt j.2)) else ((rD j.1 (IntKind.wrap .i64 (o+ (p1.bY.length:Int))) (j.1.bY.length:Int)).bind fun ab=>some (.nx (ab,(IntKind.wrap .i64 (j.2+1))))):Option (Fl (dA×Int) Int))) N (p0,0)).bind fun ad=>ad.cs (fun(j:dA×Int)=>some 0) (fun r=>some r)))
def ko (N:Nat) (p0 p1:dA) (p2 p3:Int):Option ((List dA)):=
 bif (p3==0) then (some ([]: (List dA))) else (bif (p1.y7 (⟨[]⟩)) then (none) else ((bif (decide (p3<0)) then ((kA N p0 p1).bind fun ab=>some (IntKind.wrap .i64 (ab+1))) else (some p3)).bind fun o=>(mk 16 (⟨[]⟩:dA) (if (IntKind.wrap .i64 ((p0.bY.length:Int)+1))<o then (IntKind.wrap .i64 ((p0.bY.length:Int)+1)) else o)).bind fun ad=>(mC (fun(j:dA×(List dA)×Int)=>(bif (decide (j.2.2< (IntKind.wrap .i64 ((if (IntKind.wrap .i64 ((p0.bY.length:Int)+1))<o then (IntKind.wrap .i64 ((p0.bY.length:Int)+1)) else o) - 1)))) then ((jD N j.1 p1).bind fun aa=>bif (decide (aa<0)) then (some (.br (j.1,j.2.1,j.2.2))) else ((rD j.1 0 (IntKind.wrap .i64 (aa+p2))).bind fun ae=>(idx j.2.1 j.2.2).bind fun ai=>(rD j.1 (IntKind.wrap .i64 (aa+ (p1.bY.length:Int))) (j.1.bY.length:Int)).bind fun af=>some (.nx (af,(j.2.1.set (Int.toNat j.2.2) ae),(IntKind.wrap .i64 (j.2.2+1)))))) else (some (.br (j.1,j.2.1,j.2.2))):Option (Fl (dA×(List dA)×Int) Empty))) N (p0,ad,0)).bind fun ag=>ag.cs (fun(j:dA×(List dA)×Int)=>(idx j.2.1 j.2.2).bind fun aj=>(r7 (j.2.1.set (Int.toNat j.2.2) j.1) 0 (IntKind.wrap .i64 (j.2.2+1))).bind fun ah=>some ah) (fun r=>r.elim)))
def kB (N:Nat) (p0 p1:dA):Option ((List dA)):=
 (ko N p0 p1 0 (-1)).bind fun j=>some j
def iW (N:Nat) (p0: (List dA)) (p1:dA->Option Bool):Option (Int):=
 (qR p0.length (fun(j:Nat) (o:Unit)=>((idx p0 (j:Int)).bind fun aa=>(p1 aa).bind fun ab=>bif ab then (some (.rt (j:Int))) else (some (.nx ())):Option (Fl (Unit) Int))) ()).bind fun ad=>ad.cs (fun(o:Unit)=>some (-1)) (fun r=>some r)
def fL (N:Nat) (p0: (List dA)) (p1:dA->Option Bool):Option (Bool):=
 (iW N p0 p1).bind fun j=>some (decide (j>=0))
def gx (N:Nat) (p0:dA) (p1:Int):Option (Int):=
 (fV N p0 p1).bind fun j=>some j
def gm (N:Nat) (p0:dA):Option (Bool):=
 (qR p0.bY.length (fun(o:Nat) (aa:Unit)=>((AY p0 (o:Int)).bind fun j=>(bif ((((decide ((j.toNat:Int)<65))||(decide ((j.toNat:Int)>90)))&&((decide ((j.toNat:Int)<97))||(decide ((j.toNat:Int)>122))))&&((decide ((j.toNat:Int)<48))||(decide ((j.toNat:Int)>57)))) then ((gx N (⟨[95,43,45,35]⟩) (j.toNat:Int)).bind fun ab=>some (decide (ab<0))) else (some false)).bind fun ad=>bif ad then (some (.rt false)) else (some (.nx ())):Option (Fl (Unit) Bool))) ()).bind fun ae=>ae.cs (fun(aa:Unit)=>some ((decide ((p0.bY.length:Int)>=1))&&(decide ((p0.bY.length:Int)<=40)))) (fun r=>some r)
def fM (N:Nat) (p0:dA):Option (Bool):=
 (gm N p0).bind fun j=>some (!j)
def jZ (N:Nat) (p0:dA):Option (Bool):=
 (bif (decide ((p0.bY.length:Int)<=200)) then ((kB N p0 (⟨[47]⟩)).bind fun j=>(fL N j (fM N)).bind fun o=>some (!o)) else (some false)).bind fun aa=>some aa
def jo (N:Nat) (p0:bW):Option (fH):=
 some (⟨p0.Part,p0.fH⟩:fH)
def jI (N:Nat) (p0 p1:dA):Option (Int):=
 some (Lib.compareBytes p0.bY p1.bY)
def kN (N:Nat) (p0 p1:dA):Option (Int):=
 (jI N p0 p1).bind fun j=>some j
def fP (N:Nat) (p0 p1:fH):Option (Int):=
 (kN N p0.Part p1.Part).bind fun j=>bif (j != 0) then (some j) else ((kN N p0.fH p1.fH).bind fun o=>some o)
def iv (N:Nat) (p0:eL):Option (Int):=
 bif (decide ((p0.bC.length:Int)>1000)) then (some 2) else ((qR p0.bC.length (fun(o:Nat) (aa:Unit)=>((idx p0.bC (o:Int)).bind fun j=>((jZ N j.Part).bind fun ab=>bif (!ab) then (some true) else ((gm N j.fH).bind fun ad=>some (!ad))).bind fun ae=>bif ae then (some (.rt 5)) else (((dL N j.cY 0 (IntKind.wrap .i64 ((p0.aH.length:Int) - 1))).bind fun af=>bif (!af) then (some true) else ((gH N j.At).bind fun ag=>some (!ag))).bind fun ah=>bif ah then (some (.rt 1)) else ((bif (decide ((o:Int)>0)) then ((idx p0.bC (IntKind.wrap .i64 ((o:Int) - 1))).bind fun ai=>(jo N j).bind fun aj=>(jo N ai).bind fun ak=>(fP N aj ak).bind fun al=>some (decide (al<=0))) else (some false)).bind fun an=>bif an then (some (.rt 8)) else (some (.nx ())))):Option (Fl (Unit) Int))) ()).bind fun ao=>ao.cs (fun(aa:Unit)=>some 0) (fun r=>some r))
def jE (N:Nat) (p0 p1:Int) (p2 p3:Int):Option (Int):=
 some (if (if 0< (IntKind.wrap .i64 ((IntKind.wrap .i64 (p2 - p1))+1)) then (IntKind.wrap .i64 ((IntKind.wrap .i64 (p2 - p1))+1)) else 0)< (IntKind.wrap .i64 ((IntKind.wrap .i64 (p0 - p3))+1)) then (IntKind.wrap .i64 ((IntKind.wrap .i64 (p0 - p3))+1)) else (if 0< (IntKind.wrap .i64 ((IntKind.wrap .i64 (p2 - p1))+1)) then (IntKind.wrap .i64 ((IntKind.wrap .i64 (p2 - p1))+1)) else 0))
def nX (N:Nat) (p0 p1:aG):Option (Int):=
 (jE N p0.X0 p0.X1 p1.X0 p1.X1).bind fun j=>(jE N p0.Y0 p0.Y1 p1.Y0 p1.Y1).bind fun o=>some (if j<o then o else j)
def iX (N:Nat) (p0:bH) (p1:Int):Option (Bool):=
 some ((decide (p0.cM<=p1))&&(decide (p1<=p0.To)))
def kp (N:Nat) (p0: (List aA)) (p1 p2:Int):Option ((List Int)×Int):=
 bif ((p0.length:Int)==0) then (some (([]: (List Int)),p2)) else ((idx p0 0).bind fun aa=>bif (decide (p1<aa.Y0)) then ((idx p0 0).bind fun j=>some (([]: (List Int)),(if j.Y0<p2 then j.Y0 else p2))) else ((idx p0 0).bind fun ab=>(idx p0 0).bind fun o=>some (ab.Xs,(if o.Y1<p2 then o.Y1 else p2))))
def mG (N:Nat) (p0: (List Int)) (p1: (List Int)) (p2:Bool->Bool->Option Bool):Option ((List Int)):=
 (mC (fun(j: (List Int)×(List Int)×(List Int)×Bool×Bool×Bool)=>((bif (decide ((j.1.length:Int)>0)) then (some true) else (some (decide ((j.2.1.length:Int)>0)))).bind fun af=>bif af then ((bif ((j.2.1.length:Int)==0) then (some true) else (bif (decide ((j.1.length:Int)>0)) then ((idx j.1 0).bind fun ag=>(idx j.2.1 0).bind fun ah=>some (decide (ag<=ah))) else (some false))).bind fun ai=>(bif ai then ((idx j.1 0).bind fun aj=>some aj) else ((idx j.2.1 0).bind fun ak=>some ak)).bind fun o=>(bif (decide ((j.1.length:Int)>0)) then ((idx j.1 0).bind fun al=>some (al==o)) else (some false)).bind fun an=>(bif an then ((r7 j.1 1 (j.1.length:Int)).bind fun ao=>some (ao,(!j.2.2.2.1))) else (some (j.1,j.2.2.2.1))).bind fun aa=>(bif (decide ((j.2.1.length:Int)>0)) then ((idx j.2.1 0).bind fun aq=>some (aq==o)) else (some false)).bind fun ar=>(bif ar then ((r7 j.2.1 1 (j.2.1.length:Int)).bind fun au=>some (au,(!j.2.2.2.2.1))) else (some (j.2.1,j.2.2.2.2.1))).bind fun ab=>(p2 aa.2 ab.2).bind fun ad=>(bif (ad != j.2.2.2.2.2) then ((app 8 j.2.2.1 ([o]: (List Int))).bind fun av=>some (av,ad)) else (some (j.2.2.1,j.2.2.2.2.2))).bind fun ae=>some (.nx (aa.1,ab.1,ae.1,aa.2,ab.2,ae.2))) else (some (.br (j.1,j.2.1,j.2.2.1,j.2.2.2.1,j.2.2.2.2.1,j.2.2.2.2.2))):Option (Fl ((List Int)×(List Int)×(List Int)×Bool×Bool×Bool) Empty))) N (p0,p1,([]: (List Int)),false,false,false)).bind fun aw=>aw.cs (fun(j: (List Int)×(List Int)×(List Int)×Bool×Bool×Bool)=>some j.2.2.1) (fun r=>r.elim)
def jf (N:Nat) (p0: (List aA)) (p1: (List aA)) (p2:Bool->Bool->Option Bool):Option ((List aA)):=
 bif ((IntKind.wrap .i64 ((p0.length:Int)+ (p1.length:Int)))==0) then (some ([]: (List aA))) else ((kM (([p0,p1]: (List (List aA))).length) (fun(ag:Nat) (o:Int×Int)=>((idx ([p0,p1]: (List (List aA))) (ag:Int)).bind fun iH=>(bif (decide ((iH.length:Int)>0)) then ((bif ((ag:Int)==0) then (some true) else (some ((p0.length:Int)==0))).bind fun ak=>(bif ak then ((idx iH 0).bind fun al=>(idx iH (IntKind.wrap .i64 ((iH.length:Int) - 1))).bind fun an=>some (al.Y0,an.Y1)) else (some (o.1,o.2))).bind fun af=>(idx iH 0).bind fun ah=>(idx iH (IntKind.wrap .i64 ((iH.length:Int) - 1))).bind fun ai=>some ((if ah.Y0<af.1 then ah.Y0 else af.1),(if af.2<ai.Y1 then ai.Y1 else af.2))) else (some (o.1,o.2))).bind fun aj=>some (aj.1,aj.2):Option (Int×Int))) (0,0)).bind fun o=>(mC (fun(j: (List aA)×(List aA)×(List aA)×Int)=>(bif (decide (j.2.2.2<o.2)) then ((mC (fun(aa: (List aA))=>((bif (decide ((aa.length:Int)>0)) then ((idx aa 0).bind fun ao=>some (decide (ao.Y1<=j.2.2.2))) else (some false)).bind fun aq=>bif aq then ((r7 aa 1 (aa.length:Int)).bind fun ar=>some (.nx ar)) else (some (.br aa)):Option (Fl ((List aA)) Empty))) N j.1).bind fun au=>au.cs (fun(aa: (List aA))=>(mC (fun(ab: (List aA))=>((bif (decide ((ab.length:Int)>0)) then ((idx ab 0).bind fun av=>some (decide (av.Y1<=j.2.2.2))) else (some false)).bind fun aw=>bif aw then ((r7 ab 1 (ab.length:Int)).bind fun ax=>some (.nx ax)) else (some (.br ab)):Option (Fl ((List aA)) Empty))) N j.2.1).bind fun ay=>ay.cs (fun(ab: (List aA))=>(kp N aa j.2.2.2 o.2).bind fun ad=>(kp N ab j.2.2.2 o.2).bind fun ae=>(mG N ad.1 ae.1 p2).bind fun az=>(gl N j.2.2.1 (⟨j.2.2.2,(if ae.2<ad.2 then ae.2 else ad.2),az⟩:aA)).bind fun a0=>some (.nx (aa,ab,a0,(if ae.2<ad.2 then ae.2 else ad.2)))) (fun r=>r.elim)) (fun r=>r.elim)) else (some (.br (j.1,j.2.1,j.2.2.1,j.2.2.2))):Option (Fl ((List aA)×(List aA)×(List aA)×Int) Empty))) N (p0,p1,([]: (List aA)),o.1)).bind fun a1=>a1.cs (fun(j: (List aA)×(List aA)×(List aA)×Int)=>some j.2.2.1) (fun r=>r.elim))
def jM (N:Nat) (p0 p1:Bool):Option (Bool):=
 some (p0&&(!p1))
def gq (N:Nat) (p0: (List aA)) (p1: (List aA)):Option ((List aA)):=
 (jf N p0 p1 (jM N)).bind fun j=>some j
def iY (N:Nat) (p0: (List aA)):Option (Int):=
 (kM p0.length (fun(o:Nat) (j:Int)=>((idx p0 (o:Int)).bind fun aa=>some (IntKind.wrap .i64 (j+ (IntKind.wrap .i64 (Int.tdiv (aa.Xs.length:Int) 2)))):Option (Int))) 0).bind fun j=>some j
def dQ (N:Nat) (p0:Int) (p1_0: (List Int)):Option (Int×(List Int)):=
 (mC (fun(j:Int×(List Int))=>((idx j.2 j.1).bind fun aa=>bif (aa != j.1) then ((idx j.2 j.1).bind fun ab=>(idx j.2 ab).bind fun o=>(idx j.2 j.1).bind fun af=>(idx (j.2.set (Int.toNat j.1) o) j.1).bind fun ad=>some (.nx (ad,(j.2.set (Int.toNat j.1) o)))) else (some (.br (j.1,j.2))):Option (Fl (Int×(List Int)) Empty))) N (p0,p1_0)).bind fun ae=>ae.cs (fun(j:Int×(List Int))=>some (j.1,j.2)) (fun r=>r.elim)
def jz (N:Nat) (p0: (List aA)):Option ((List (List aA))):=
 (fR N p0).bind fun ab=>(mk 8 (0:Int) (ab.length:Int)).bind fun an=>(kM an.length (fun(ai:Nat) (ag: (List Int))=>((idx ag (ai:Int)).bind fun bd=>some (ag.set (Int.toNat (ai:Int)) (ai:Int)):Option ((List Int)))) an).bind fun ag=>(kM p0.length (fun(aj:Nat) (aa: (List Int)×Int×Int)=>((idx p0 (aj:Int)).bind fun ak=>(bif (decide ((aj:Int)>0)) then ((idx p0 (IntKind.wrap .i64 ((aj:Int) - 1))).bind fun ar=>some (ar.Y1==ak.Y0)) else (some false)).bind fun au=>(bif au then ((mC (fun(j: (List Int)×Int×Int)=>(bif ((decide (j.2.1<aa.2.1))&&(decide (j.2.2< (IntKind.wrap .i64 (aa.2.1+ (IntKind.wrap .i64 (Int.tdiv (ak.Xs.length:Int) 2))))))) then (((idx ab j.2.1).bind fun av=>(idx ab j.2.2).bind fun aw=>bif (decide (av.X0<aw.X1)) then ((idx ab j.2.2).bind fun ax=>(idx ab j.2.1).bind fun ay=>some (decide (ax.X0<ay.X1))) else (some false)).bind fun az=>(bif az then ((dQ N j.2.1 j.1).bind fun ae=>(dQ N j.2.2 ae.2).bind fun ad=>(idx ad.2 (if ae.1<ad.1 then ad.1 else ae.1)).bind fun bf=>some (ad.2.set (Int.toNat (if ae.1<ad.1 then ad.1 else ae.1)) (if ad.1<ae.1 then ad.1 else ae.1))) else (some j.1)).bind fun a0=>(idx ab j.2.1).bind fun a1=>(idx ab j.2.2).bind fun a2=>(bif (decide (a1.X1<a2.X1)) then (some ((IntKind.wrap .i64 (j.2.1+1)),j.2.2)) else (some (j.2.1,(IntKind.wrap .i64 (j.2.2+1))))).bind fun ao=>some (.nx (a0,ao.1,ao.2))) else (some (.br (j.1,j.2.1,j.2.2))):Option (Fl ((List Int)×Int×Int) Empty))) N (aa.1,aa.2.2,aa.2.1)).bind fun a3=>a3.cs (fun(j: (List Int)×Int×Int)=>some j.1) (fun r=>r.elim)) else (some aa.1)).bind fun a4=>some (a4,(IntKind.wrap .i64 (aa.2.1+ (IntKind.wrap .i64 (Int.tdiv (ak.Xs.length:Int) 2)))),aa.2.1):Option ((List Int)×Int×Int))) (ag,0,0)).bind fun aa=>(kM ab.length (fun(aq:Nat) (o: (List Int)×(List (Int×Int))×(List (List aG)))=>((idx ab (aq:Int)).bind fun a5=>(dQ N (aq:Int) o.1).bind fun ah=>(bif (!(mY o.2.1 ah.1)) then ((app 24 o.2.2 [([]: (List aG))]).bind fun a6=>some ((qS o.2.1 ah.1 (o.2.2.length:Int)),a6,(o.2.2.length:Int))) else (some (o.2.1,o.2.2,(fT o.2.1 ah.1 (0:Int))))).bind fun af=>(idx af.2.1 af.2.2).bind fun a7=>(app 32 a7 ([a5]: (List aG))).bind fun a8=>(idx af.2.1 af.2.2).bind fun bg=>some (ah.2,af.1,(af.2.1.set (Int.toNat af.2.2) a8)):Option ((List Int)×(List (Int×Int))×(List (List aG))))) (aa.1,([]: (List (Int×Int))),([]: (List (List aG))))).bind fun o=>(kM o.2.2.length (fun(a9:Nat) (al: (List (List aA)))=>((idx o.2.2 (a9:Int)).bind fun ba=>(cO N ba).bind fun bb=>(app 24 al ([bb]: (List (List aA)))).bind fun bc=>some bc:Option ((List (List aA))))) ([]: (List (List aA)))).bind fun al=>some al
def gN (N:Nat) (p0_0: (List (List aG))) (p0_2: (List bH)) (p0_4: (List (List aA))) (p0_5: (List aI)):Option (Bool×(List (List aA))×(List aI)):=
 (kM p0_0.length (fun(aa:Nat) (j: (List (List aA))×(List aI)×Bool)=>((idx p0_0 (aa:Int)).bind fun ai=>(kM p0_2.length (fun(aj:Nat) (o: (List aG))=>((idx p0_2 (aj:Int)).bind fun af=>(iX N af (aa:Int)).bind fun ak=>(bif ak then ((eK N af).bind fun al=>(app 32 o ([al]: (List aG))).bind fun an=>some an) else (some o)).bind fun ao=>some ao:Option ((List aG)))) ([]: (List aG))).bind fun o=>(cO N ai).bind fun aq=>(cO N o).bind fun ar=>(gq N aq ar).bind fun ab=>(bif j.2.2 then ((iY N ab).bind fun au=>some ((decide (au<=2000)),ab)) else (some (false,ab))).bind fun ad=>(app 24 j.1 ([ad.2]: (List (List aA)))).bind fun av=>(jz N ad.2).bind fun ag=>(kM ag.length (fun(aw:Nat) (ae: (List aI))=>((idx ag (aw:Int)).bind fun ah=>(fR N ah).bind fun ax=>(app 56 ae ([(⟨(aa:Int),ah,ax⟩:aI)]: (List aI))).bind fun ay=>some ay:Option ((List aI)))) j.2.1).bind fun ae=>some (av,ae,ad.1):Option ((List (List aA))×(List aI)×Bool))) (p0_4,p0_5,true)).bind fun j=>(bif j.2.2 then (some (decide ((j.2.1.length:Int)<=2000))) else (some false)).bind fun az=>some (az,j.1,j.2.1)
def nJ (N:Nat) (p0 p1:aG):Option (Bool):=
 some ((((decide (p0.X0<p1.X1))&&(decide (p1.X0<p0.X1)))&&((p0.Y1==p1.Y0)||(p1.Y1==p0.Y0)))||(((decide (p0.Y0<p1.Y1))&&(decide (p1.Y0<p0.Y1)))&&((p0.X1==p1.X0)||(p1.X1==p0.X0))))
def g8 (N:Nat) (p0:aG) (p1:bH):Option (Bool):=
 (eK N p1).bind fun j=>(nJ N p0 j).bind fun o=>some o
def eR (N:Nat) (p0: (List aG)) (p1:aG->Option Bool):Option (Bool):=
 (jH N p0 p1).bind fun j=>some (decide (j>=0))
def gO (N:Nat) (p0_2: (List bH)) (p0_5: (List aI)) (p0_6: (List (List Int))):Option ((List (List Int))):=
 (kM p0_2.length (fun(ae:Nat) (o: (List (List Int)))=>((idx p0_2 (ae:Int)).bind fun aa=>(kM p0_5.length (fun(ab:Nat) (j: (List Int))=>((idx p0_5 (ab:Int)).bind fun ad=>(bif aa.iF then ((iX N aa ad.cY).bind fun af=>bif af then ((eR N ad.gk (fun y0=>g8 N y0 aa)).bind fun ag=>some ag) else (some false)) else (some false)).bind fun ah=>(bif ah then ((app 8 j ([(ab:Int)]: (List Int))).bind fun ai=>some ai) else (some j)).bind fun aj=>some aj:Option ((List Int)))) ([]: (List Int))).bind fun j=>(app 24 o ([j]: (List (List Int)))).bind fun ak=>some ak:Option ((List (List Int))))) p0_6).bind fun o=>some o
def iZ (N:Nat) (p0:Int):Option (((List Int))):=
 (mk 8 (0:Int) p0).bind fun aa=>(kM aa.length (fun(o:Nat) (j: (List Int))=>((idx j (o:Int)).bind fun ab=>some (j.set (Int.toNat (o:Int)) (o:Int)):Option ((List Int)))) aa).bind fun j=>some j
def eO (N:Nat) (p0_0: (List Int)) (p1:Int):Option (Int×(List Int)):=
 (mC (fun(j: (List Int)×Int)=>((idx j.1 j.2).bind fun aa=>bif (aa != j.2) then ((idx j.1 j.2).bind fun ab=>(idx j.1 ab).bind fun o=>(idx j.1 j.2).bind fun af=>(idx (j.1.set (Int.toNat j.2) o) j.2).bind fun ad=>some (.nx ((j.1.set (Int.toNat j.2) o),ad))) else (some (.br (j.1,j.2))):Option (Fl ((List Int)×Int) Empty))) N (p0_0,p1)).bind fun ae=>ae.cs (fun(j: (List Int)×Int)=>some (j.2,j.1)) (fun r=>r.elim)
def fu (N:Nat) (p0_0: (List Int)) (p1 p2:Int):Option ((List Int)):=
 (eO N p0_0 p1).bind fun o=>(eO N o.2 p2).bind fun j=>(idx j.2 (if o.1<j.1 then j.1 else o.1)).bind fun aa=>some (j.2.set (Int.toNat (if o.1<j.1 then j.1 else o.1)) (if j.1<o.1 then j.1 else o.1))
def gQ (N:Nat) (p0_0: (List Int)):Option ((List (List Int))×(List Int)):=
 (kM p0_0.length (fun(ab:Nat) (j: (List Int)×(List (List Int))×(List (Int×Int)))=>((eO N j.1 (ab:Int)).bind fun aa=>(bif (aa.1==(ab:Int)) then ((app 24 j.2.1 [([]: (List Int))]).bind fun ad=>some (ad,(qS j.2.2 (ab:Int) (j.2.1.length:Int)))) else (some (j.2.1,j.2.2))).bind fun o=>(idx o.1 (fT o.2 aa.1 (0:Int))).bind fun iH=>(app 8 iH ([(ab:Int)]: (List Int))).bind fun ae=>(idx o.1 (fT o.2 aa.1 (0:Int))).bind fun af=>some (aa.2,(o.1.set (Int.toNat (fT o.2 aa.1 (0:Int))) ae),o.2):Option ((List Int)×(List (List Int))×(List (Int×Int))))) (p0_0,([]: (List (List Int))),([]: (List (Int×Int))))).bind fun j=>some (j.2.1,j.1)
def jq (N:Nat) (p0:aG) (p1:iU):Option (Bool):=
 (bif (decide (p1.X>=p0.X0)) then (bif (decide (p1.X<p0.X1)) then (bif (decide (p1.Y>=p0.Y0)) then (some (decide (p1.Y<p0.Y1))) else (some false)) else (some false)) else (some false)).bind fun j=>some j
def ik (N:Nat) (p0: (List aG)) (p1:iU):Option (Bool):=
 (eR N p0 (fun y0=>jq N y0 p1)).bind fun j=>some j
def gR (N:Nat) (p0_2: (List bH)) (p0_5: (List aI)) (p1:bW):Option (iN×Bool):=
 (qR p0_2.length (fun(o:Nat) (ad:Unit)=>((idx p0_2 (o:Int)).bind fun j=>(bif j.iF then ((iX N j p1.cY).bind fun ae=>bif ae then ((eK N j).bind fun af=>(ik N ([af]: (List aG)) p1.At).bind fun ag=>some ag) else (some false)) else (some false)).bind fun ah=>bif ah then (some (.rt ((⟨true,(o:Int)⟩:iN),true))) else (some (.nx ())):Option (Fl (Unit) (iN×Bool)))) ()).bind fun ai=>ai.cs (fun(ad:Unit)=>(qR p0_5.length (fun(aa:Nat) (aj:Unit)=>((idx p0_5 (aa:Int)).bind fun ab=>(bif (ab.cY==p1.cY) then ((ik N ab.gk p1.At).bind fun ak=>some ak) else (some false)).bind fun al=>bif al then (some (.rt ((⟨false,(aa:Int)⟩:iN),true))) else (some (.nx ())):Option (Fl (Unit) (iN×Bool)))) ()).bind fun an=>an.cs (fun(aj:Unit)=>some ((⟨false,0⟩:iN),false)) (fun r=>some r)) (fun r=>some r)
def fA (N:Nat) (p0_8: (List Int)) (p0_9: (List Int)) (p1:iN):Option (Int):=
 bif p1.bH then ((idx p0_9 p1.Number).bind fun j=>some j) else ((idx p0_8 p1.Number).bind fun o=>some o)
def eI (N:Nat) (p0_2: (List bH)) (p0_3: (List bW)) (p0_5: (List aI)) (p0_6: (List (List Int))) (p0_8: (List Int)) (p0_9: (List Int)) (p0_10: (List Int)) (p0_11: (List iN)):Option ((List cL)×(List Int)×(List Int)×(List Int)×(List iN)):=
 (iZ N (IntKind.wrap .i64 ((p0_5.length:Int)+ (p0_2.length:Int)))).bind fun ar=>(kM p0_6.length (fun(ai:Nat) (af: (List Int))=>((idx p0_6 (ai:Int)).bind fun aj=>(kM aj.length (fun(au:Nat) (ag: (List Int))=>((idx aj (au:Int)).bind fun av=>(fu N ag av (IntKind.wrap .i64 ((p0_5.length:Int)+ (ai:Int)))).bind fun aw=>some aw:Option ((List Int)))) af).bind fun ag=>some ag:Option ((List Int)))) ar).bind fun af=>(mk 8 (0:Int) (p0_5.length:Int)).bind fun ax=>(mk 8 (0:Int) (p0_2.length:Int)).bind fun ay=>(gQ N af).bind fun ak=>(kM ak.1.length (fun(az:Nat) (aa: (List cL)×(List Int)×(List Int))=>((idx ak.1 (az:Int)).bind fun al=>(kM al.length (fun(a0:Nat) (j: (List Int)×(List Int)×(List Int)×(List Int))=>((idx al (a0:Int)).bind fun ab=>(bif (decide (ab< (p0_5.length:Int))) then ((idx j.1 ab).bind fun bd=>(app 8 j.2.2.1 ([ab]: (List Int))).bind fun a1=>some ((j.1.set (Int.toNat ab) (aa.1.length:Int)),j.2.1,a1,j.2.2.2)) else ((idx p0_2 (IntKind.wrap .i64 (ab - (p0_5.length:Int)))).bind fun a2=>(bif a2.iF then ((idx j.2.1 (IntKind.wrap .i64 (ab - (p0_5.length:Int)))).bind fun bf=>(app 8 j.2.2.2 ([(IntKind.wrap .i64 (ab - (p0_5.length:Int)))]: (List Int))).bind fun a3=>some ((j.2.1.set (Int.toNat (IntKind.wrap .i64 (ab - (p0_5.length:Int)))) (aa.1.length:Int)),a3)) else ((idx j.2.1 (IntKind.wrap .i64 (ab - (p0_5.length:Int)))).bind fun bg=>some ((j.2.1.set (Int.toNat (IntKind.wrap .i64 (ab - (p0_5.length:Int)))) (-1)),j.2.2.2))).bind fun an=>some (j.1,an.1,j.2.2.1,an.2))).bind fun ad=>some (ad.1,ad.2.1,ad.2.2.1,ad.2.2.2):Option ((List Int)×(List Int)×(List Int)×(List Int)))) (aa.2.1,aa.2.2,([]: (List Int)),([]: (List Int)))).bind fun j=>(bif (decide ((IntKind.wrap .i64 ((j.2.2.1.length:Int)+ (j.2.2.2.length:Int)))>0)) then ((app 72 aa.1 [(⟨j.2.2.1,j.2.2.2,([]: (List fH))⟩:cL)]).bind fun a4=>some a4) else (some aa.1)).bind fun a5=>some (a5,j.1,j.2.1):Option ((List cL)×(List Int)×(List Int)))) (([]: (List cL)),ax,ay)).bind fun aa=>(kM p0_3.length (fun(a6:Nat) (o: (List cL)×(List Int)×(List Int)×(List Int)×(List iN))=>((idx p0_3 (a6:Int)).bind fun ao=>(gR N p0_2 p0_5 ao).bind fun ah=>(bif ah.2 then ((fA N o.2.1 o.2.2.1 ah.1).bind fun ae=>(idx o.1 ae).bind fun a7=>(jo N ao).bind fun a8=>(app 32 a7.hU ([a8]: (List fH))).bind fun a9=>(idx o.1 ae).bind fun ba=>some ((o.1.set (Int.toNat ae) {ba with hU:=a9}),ae)) else (some (o.1,(-1)))).bind fun aq=>(app 8 o.2.2.2.1 ([aq.2]: (List Int))).bind fun bb=>(app 16 o.2.2.2.2 ([ah.1]: (List iN))).bind fun bc=>some (aq.1,o.2.1,o.2.2.1,bb,bc):Option ((List cL)×(List Int)×(List Int)×(List Int)×(List iN)))) (aa.1,aa.2.1,aa.2.2,p0_10,p0_11)).bind fun o=>some (o.1,o.2.1,o.2.2.1,o.2.2.2.1,o.2.2.2.2)
def eJ (N:Nat) (p0:eL):Option (Option ((List (List aG))×(List aG)×(List bH)×(List bW)×(List (List aA))×(List aI)×(List (List Int))×(List cL)×(List Int)×(List Int)×(List Int)×(List iN))×Int):=
 bif ((p0.aH.length:Int)==0) then (some (none,9)) else (bif (decide ((p0.aH.length:Int)>16)) then (some (none,2)) else ((qR p0.aH.length (fun(an:Nat) (aa:Int)=>((idx p0.aH (an:Int)).bind fun ae=>(dZ N ae).bind fun af=>bif (af != 0) then (some (.rt (none,af))) else (some (.nx (IntKind.wrap .i64 (aa+ (ae.length:Int))))):Option (Fl (Int) (Option ((List (List aG))×(List aG)×(List bH)×(List bW)×(List (List aA))×(List aI)×(List (List Int))×(List cL)×(List Int)×(List Int)×(List Int)×(List iN))×Int)))) (p0.cI.length:Int)).bind fun ao=>ao.cs (fun(aa:Int)=>(dZ N p0.cI).bind fun ag=>bif (ag != 0) then (some (none,ag)) else (bif (decide (aa>2000)) then (some (none,2)) else ((ir N p0).bind fun ah=>bif (ah != 0) then (some (none,ah)) else ((iv N p0).bind fun ai=>bif (ai != 0) then (some (none,ai)) else ((qR p0.aU.length (fun(aj:Nat) (aq:Unit)=>((idx p0.aU (aj:Int)).bind fun ab=>(r7 p0.aU 0 (aj:Int)).bind fun ak=>(qR ak.length (fun(ar:Nat) (au:Unit)=>((idx ak (ar:Int)).bind fun ad=>(bif ((decide (ab.cM<=ad.To))&&(decide (ad.cM<=ab.To))) then ((eK N ab).bind fun av=>(eK N ad).bind fun aw=>(nX N av aw).bind fun ax=>some (ax==0)) else (some false)).bind fun ay=>bif ay then (some (.rt (none,12))) else (some (.nx ())):Option (Fl (Unit) (Option ((List (List aG))×(List aG)×(List bH)×(List bW)×(List (List aA))×(List aI)×(List (List Int))×(List cL)×(List Int)×(List Int)×(List Int)×(List iN))×Int)))) ()).bind fun az=>az.cs (fun(au:Unit)=>some (.nx ())) (fun r=>some (.rt r)):Option (Fl (Unit) (Option ((List (List aG))×(List aG)×(List bH)×(List bW)×(List (List aA))×(List aI)×(List (List Int))×(List cL)×(List Int)×(List Int)×(List Int)×(List iN))×Int)))) ()).bind fun a0=>a0.cs (fun(aq:Unit)=>(gN N p0.aH p0.aU ([]: (List (List aA))) ([]: (List aI))).bind fun j=>bif (!j.1) then (some (none,2)) else ((gO N p0.aU j.2.2 ([]: (List (List Int)))).bind fun al=>(eI N p0.aU p0.bC j.2.2 al ([]: (List Int)) ([]: (List Int)) ([]: (List Int)) ([]: (List iN))).bind fun o=>some (some (p0.aH,p0.cI,p0.aU,p0.bC,j.2.1,j.2.2,al,o.1,o.2.1,o.2.2.1,o.2.2.2.1,o.2.2.2.2),0))) (fun r=>some r)))))) (fun r=>some r)))
def dH (N:Nat) (p0:eL):Option (Int):=
 (eJ N p0).bind fun j=>DF j.1 (some j.2) (fun(o: ((List (List aG))×(List aG)×(List bH)×(List bW)×(List (List aA))×(List aI)×(List (List Int))×(List cL)×(List Int)×(List Int)×(List Int)×(List iN)))=>some j.2)
def kO (N:Nat) (p0 p1:Bool):Option (Bool):=
 some (p0||p1)
def ml (N:Nat) (p0: (List aA)) (p1: (List aA)):Option ((List aA)):=
 (jf N p0 p1 (kO N)).bind fun j=>some j
def gS (N:Nat) (p0: (List aA)):Option ((List aG)×Int):=
 (iY N p0).bind fun j=>bif (decide (j>2000)) then (some (([]: (List aG)),2)) else ((fR N p0).bind fun o=>some (o,0))
def j3 (N:Nat) (p0: (List (List aG))):Option ((List (List aG))):=
 (app 24 ([]: (List (List aG))) p0).bind fun j=>some j
def jN (N:Nat) (p0: (List bH)):Option ((List bH)):=
 (app 48 ([]: (List bH)) p0).bind fun j=>some j
def jO (N:Nat) (p0: (List bW)):Option ((List bW)):=
 (app 56 ([]: (List bW)) p0).bind fun j=>some j
def kT (N:Nat) (p0:eL):Option (((List (List aG))×(List aG)×(List bH)×(List bW))):=
 (j3 N p0.aH).bind fun aa=>(kM aa.length (fun(o:Nat) (j: (List (List aG)))=>((idx j (o:Int)).bind fun ab=>(eN N ab).bind fun ad=>(idx j (o:Int)).bind fun ah=>some (j.set (Int.toNat (o:Int)) ad):Option ((List (List aG))))) aa).bind fun j=>(eN N p0.cI).bind fun ae=>(jN N p0.aU).bind fun af=>(jO N p0.bC).bind fun ag=>some (j,ae,af,ag)
def iQ (N:Nat) (p0:eL) (p1:Int) (p2: (List aG)):Option (eL×Int):=
 (dH N p0).bind fun aa=>bif (aa != 0) then (some ((⟨([]: (List (List aG))),([]: (List aG)),([]: (List bH)),([]: (List bW))⟩:eL),aa)) else ((dL N p1 0 (IntKind.wrap .i64 ((p0.aH.length:Int) - 1))).bind fun ae=>bif (!ae) then (some ((⟨([]: (List (List aG))),([]: (List aG)),([]: (List bH)),([]: (List bW))⟩:eL),9)) else ((dZ N p2).bind fun ab=>bif (ab != 0) then (some ((⟨([]: (List (List aG))),([]: (List aG)),([]: (List bH)),([]: (List bW))⟩:eL),ab)) else ((idx p0.aH p1).bind fun af=>(cO N af).bind fun ag=>(cO N p2).bind fun ah=>(ml N ag ah).bind fun ai=>(gS N ai).bind fun o=>bif (o.2 != 0) then (some ((⟨([]: (List (List aG))),([]: (List aG)),([]: (List bH)),([]: (List bW))⟩:eL),o.2)) else ((kT N p0).bind fun j=>(idx j.1 p1).bind fun aj=>(dH N (⟨(j.1.set (Int.toNat p1) o.1),j.2.1,j.2.2.1,j.2.2.2⟩:eL)).bind fun ad=>bif (ad != 0) then (some ((⟨([]: (List (List aG))),([]: (List aG)),([]: (List bH)),([]: (List bW))⟩:eL),ad)) else (some ((⟨(j.1.set (Int.toNat p1) o.1),j.2.1,j.2.2.1,j.2.2.2⟩:eL),0))))))
def lQ (N:Nat) (p0:eL) (p1:Int) (p2: (List aG)):Option (eL×Int):=
 (iQ N p0 p1 p2).bind fun j=>some (j.1,j.2)
def cU (N:Nat):Option (Bool):=
 (iI N (⟨⟨0,0⟩,2,0,0,false⟩:bH)).bind fun j=>(bif (j.2==0) then (some (decide (j.1= (⟨(-1),(-1),1,1⟩:aG)))) else (some false)).bind fun o=>some o
def iw (N:Nat) (p0:eL) (p1:Int) (p2: (List aG)):Option (eL×Int):=
 (dH N p0).bind fun aa=>bif (aa != 0) then (some ((⟨([]: (List (List aG))),([]: (List aG)),([]: (List bH)),([]: (List bW))⟩:eL),aa)) else ((dL N p1 0 (IntKind.wrap .i64 ((p0.aH.length:Int) - 1))).bind fun ae=>bif (!ae) then (some ((⟨([]: (List (List aG))),([]: (List aG)),([]: (List bH)),([]: (List bW))⟩:eL),9)) else ((dZ N p2).bind fun ab=>bif (ab != 0) then (some ((⟨([]: (List (List aG))),([]: (List aG)),([]: (List bH)),([]: (List bW))⟩:eL),ab)) else ((idx p0.aH p1).bind fun af=>(cO N af).bind fun ag=>(cO N p2).bind fun ah=>(gq N ag ah).bind fun ai=>(gS N ai).bind fun o=>bif (o.2 != 0) then (some ((⟨([]: (List (List aG))),([]: (List aG)),([]: (List bH)),([]: (List bW))⟩:eL),o.2)) else ((kT N p0).bind fun j=>(idx j.1 p1).bind fun aj=>(dH N (⟨(j.1.set (Int.toNat p1) o.1),j.2.1,j.2.2.1,j.2.2.2⟩:eL)).bind fun ad=>bif (ad != 0) then (some ((⟨([]: (List (List aG))),([]: (List aG)),([]: (List bH)),([]: (List bW))⟩:eL),ad)) else (some ((⟨(j.1.set (Int.toNat p1) o.1),j.2.1,j.2.2.1,j.2.2.2⟩:eL),0))))))
def j4 (N:Nat) (p0:eL) (p1:Int) (p2: (List aG)):Option (eL×Int):=
 (iw N p0 p1 p2).bind fun j=>some (j.1,j.2)
def eA (N:Nat) (p0: (List bW)) (p1:fH) (p2:bW->fH->Option Int):Option (Int×Bool):=
 (mC (fun(j:Int×Int)=>(bif (decide (j.1<j.2)) then ((idx p0 (IntKind.wrap .i64 (Int.fdiv (IntKind.wrap .u64 (IntKind.wrap .i64 (j.1+j.2))) 2))).bind fun aa=>(p2 aa p1).bind fun ab=>(bif (decide (ab<0)) then (some ((IntKind.wrap .i64 ((IntKind.wrap .i64 (Int.fdiv (IntKind.wrap .u64 (IntKind.wrap .i64 (j.1+j.2))) 2))+1)),j.2)) else (some (j.1,(IntKind.wrap .i64 (Int.fdiv (IntKind.wrap .u64 (IntKind.wrap .i64 (j.1+j.2))) 2))))).bind fun o=>some (.nx (o.1,o.2))) else (some (.br (j.1,j.2))):Option (Fl (Int×Int) Empty))) N (0,(p0.length:Int))).bind fun ad=>ad.cs (fun(j:Int×Int)=>(bif (decide (j.1< (p0.length:Int))) then ((idx p0 j.1).bind fun ae=>(p2 ae p1).bind fun af=>some (af==0)) else (some false)).bind fun ag=>some (j.1,ag)) (fun r=>r.elim)
def fX (N:Nat) (p0:bW) (p1:fH):Option (Int):=
 (jo N p0).bind fun j=>(fP N j p1).bind fun o=>some o
def jF (N:Nat) (p0:eL) (p1:fH):Option (Int):=
 (eA N p0.bC p1 (fX N)).bind fun j=>bif (!j.2) then (some (-1)) else (some j.1)
def cE (N:Nat) (p0:eL) (p1:fH):Option (Int×Bool×Int):=
 (eJ N p0).bind fun j=>DF j.1 (bif (j.2 != 0) then (some (0,false,j.2)) else ((jF N p0 p1).bind fun ab=>bif (decide (ab<0)) then (some (0,false,9)) else (none))) (fun(aa: ((List (List aG))×(List aG)×(List bH)×(List bW)×(List (List aA))×(List aI)×(List (List Int))×(List cL)×(List Int)×(List Int)×(List Int)×(List iN)))=>bif (j.2 != 0) then (some (0,false,j.2)) else ((jF N p0 p1).bind fun o=>bif (decide (o<0)) then (some (0,false,9)) else ((idx aa.2.2.2.2.2.2.2.2.2.2.1 o).bind fun ad=>bif (decide (ad<0)) then (some (0,false,0)) else ((idx aa.2.2.2.2.2.2.2.2.2.2.1 o).bind fun ae=>some (ae,true,0)))))
def cN (N:Nat) (p0:eL) (p1 p2:fH):Option (Bool):=
 (cE N p0 p1).bind fun j=>(cE N p0 p2).bind fun o=>some (((((j.2.2==0)&&(o.2.2==0))&&j.2.1)&&o.2.1)&&(j.1==o.1))
def dG (N:Nat) (p0:eL) (p1:Int) (p2: (List aG)) (p3 p4:fH):Option (Bool):=
 (lQ N p0 p1 p2).bind fun j=>bif (j.2 != 0) then ((bif ((j.1.aH.length:Int)==0) then ((cU N).bind fun ab=>some ab) else (some false)).bind fun ad=>some ad) else ((j4 N p0 p1 p2).bind fun o=>(cN N p0 p3 p4).bind fun aa=>(bif aa then ((cN N j.1 p3 p4).bind fun ae=>some (!ae)) else (some false)).bind fun af=>bif af then (some false) else ((bif ((o.2 != 0)||aa) then ((cU N).bind fun ag=>some ag) else (bif (decide (p3=p4)) then ((cU N).bind fun ah=>some ah) else ((cN N o.1 p3 p4).bind fun ai=>bif (!ai) then ((cU N).bind fun aj=>some aj) else (some false)))).bind fun ak=>some ak))
end
end Go.Gk
namespace Go.Gk
open Go
def sF {R:Type} (m:Nat) (e:Nat->Option R):Option R:=(List.range m).findSome? e
theorem lH {R:Type} {m:Nat} {e:Nat->Option R}:sF m e=none↔∀k,k<m->e k=none:=by
 simp [sF]
theorem mz {R:Type} {m:Nat} {e:Nat->Option R} {r:R}:sF m e=some r↔∃k,k<m/\e k=some r/\∀j,j<k->e j=none:=by
 constructor
 ·intro h
  obtain⟨l1,a,l2,hl,ha,hn⟩:=List.findSome?_eq_some_iff.1 h
  have hlen:l1.length<m:=by have:=congrArg List.length hl;simp at this;omega
  have hget: ∀i,i<l1.length->l1[i]? =some i:=fun i hi=>by
   have:=congrArg (·[i]?) hl
   simp only [eU hi,List.getElem?_range (show i<m by omega)] at this
   exact this.symm
  have hat:a=l1.length:=by
   have:=congrArg (·[l1.length]?) hl
   simp [List.getElem?_range hlen] at this
   exact this.symm
  refine⟨a,by omega,ha,fun j hj=>hn j ?_⟩
  exact dV (hget j (by omega))
 ·rintro⟨k,hk,he,hn⟩
  refine List.findSome?_eq_some_iff.2 ⟨List.range k,k,(List.range (m - k - 1)).map (· + (k+1)),?_,he,fun x hx=>hn x (mh.1 hx)⟩
  refine List.ext_getElem? fun i=>?_
  by_cases h1:i<k
  ·rw [eU (by simpa using h1),List.getElem?_range (by omega),List.getElem?_range h1]
  ·rw [eM (by simpa using h1),List.length_range]
   by_cases h2:i=k
   ·subst h2;simp [List.getElem?_range hk]
   ·obtain⟨d,rfl⟩: ∃d,i=k+1+d:=⟨i - (k+1),by omega⟩
    rw [show k+1+d - k=d+1 by omega,List.getElem?_cons_succ,gZ]
    by_cases h3:k+1+d<m
    ·rw [List.getElem?_range h3,List.getElem?_range (by omega)];simp;omega
    ·rw [List.getElem?_eq_none (by simp;omega),List.getElem?_eq_none (by simp;omega)];rfl
section
variable {S R:Type}
def Bl (o:Option R) (s:S):Fl S R:=match o with | some r=> .rt r | none=> .nx s
def zx (o:Option R) (s:S):Fo S R:=match o with | some r=> .rt r | none=> .go s
theorem yy {body:Nat->S->Option (Fl S R)} (F:Nat->S) (e:Nat->Option R) (m:Nat): ∀(n k:Nat),k+n=m->
  (∀j,k<=j->j<m->(∀i,k<=i->i<j->e i=none)->body j (F j)=some (Bl (e j) (F (j+1))))->
  ∃o,wQ body n k (F k)=some o/\((∀j,k<=j->j<m->e j=none)/\o = .go (F m)\/∃j r,k<=j/\j<m/\e j=some r/\(∀i,k<=i->i<j->e i=none)/\o = .rt r)
 | 0,k,hk,_=>⟨_,rfl, .inl ⟨fun j h1 h2=>by omega,by rw [show k=m by omega]⟩⟩
 | n+1,k,hk,h=>by
  have hb:=h k (bJ _) (by omega) (fun i h1 h2=>by omega)
  unfold wQ
  rw [hb]
  cases hx:e k with
  | some r=>exact⟨_,rfl, .inr ⟨k,r,bJ _,by omega,hx,fun i h1 h2=>by omega,rfl⟩⟩
  | none=>
   obtain⟨o,ho,hc⟩:=yy F e m n (k+1) (by omega) (fun j h1 h2 h3=>h j (by omega) h2 fun i h4 h5=>by
    by_cases h6:i=k
    ·subst h6;exact hx
    ·exact h3 i (by omega) h5)
   refine⟨o,ho,?_⟩
   rcases hc with ⟨h1,h2⟩ | ⟨j,r,h1,h2,h3,h4,h5⟩
   ·refine .inl ⟨fun j h3 h4=>?_,h2⟩
    by_cases h6:j=k
    ·subst h6;exact hx
    ·exact h1 j (by omega) h4
   ·refine .inr ⟨j,r,by omega,h2,h3,fun i h6 h7=>?_,h5⟩
    by_cases h8:i=k
    ·subst h8;exact hx
    ·exact h4 i (by omega) h7
theorem DR {body:Nat->S->Option (Fl S R)} {m:Nat} {s:S} (F:Nat->S) (e:Nat->Option R) (hm:m<=4611686018427387904) (hs:F 0=s)
  (h: ∀k,k<m->(∀i,i<k->e i=none)->body k (F k)=some (Bl (e k) (F (k+1)))):qR m body s=some (zx (sF m e) (F m)):=by
 subst hs
 unfold qR
 rw [aC hm]
 obtain⟨o,ho,hc⟩:=yy F e m m 0 (by omega) (fun j _ h2 h3=>h j h2 fun i hi=>h3 i (ni _) hi)
 rw [ho]
 rcases hc with ⟨h1,h2⟩ | ⟨j,r,_,h2,h3,h4,h5⟩
 ·rw [lH.2 fun k hk=>h1 k (ni _) hk,h2];rfl
 ·rw [mz.2 ⟨j,h2,h3,fun i hi=>h4 i (ni _) hi⟩,h5];rfl
theorem og {body:Nat->Unit->Option (Fl Unit R)} {m:Nat} (e:Nat->Option R) (hm:m<=4611686018427387904)
  (h: ∀k,k<m->(∀i,i<k->e i=none)->body k ()=some (Bl (e k) ())):qR m body ()=some (zx (sF m e) ()):=
 DR (fun _=>()) e hm rfl h
theorem sG {body:S->Option (Fl S R)} (Inv:S->Prop) (μ:S->Nat) (Go:S->Prop) (Rt:R->Prop)
  (h: ∀s,Inv s->∃fl,body s=some fl/\match fl with | .nx s'=>Inv s'/\μ s'<μ s | .br s'=>Go s' | .rt r=>Rt r):
  ∀(N:Nat) (s:S),Inv s->μ s<N->∃o,mC body N s=some o/\match o with | .go s'=>Go s' | .rt r=>Rt r
 | 0,s,_,hn=>by omega
 | N+1,s,hi,hn=>by
  obtain⟨fl,hb,hf⟩:=h s hi
  unfold mC
  rw [hb]
  cases fl with
  | nx s'=>exact sG Inv μ Go Rt h N s' hf.1 (by have:=hf.2;omega)
  | br s'=>exact⟨_,rfl,hf⟩
  | rt r=>exact⟨_,rfl,hf⟩
theorem yz {body:Nat->S->Option (Fl S R)} (Inv:Nat->S->Prop) (Go:S->Prop) (Rt:R->Prop) (m:Nat)
  (h: ∀k s,k<m->Inv k s->∃fl,body k s=some fl/\match fl with | .nx s'=>Inv (k+1) s' | .br s'=>Go s' | .rt r=>Rt r) (hg: ∀s,Inv m s->Go s):
  ∀(n k:Nat) (s:S),k+n=m->Inv k s->∃o,wQ body n k s=some o/\match o with | .go s'=>Go s' | .rt r=>Rt r
 | 0,k,s,hk,hi=>⟨_,rfl,hg s (by rw [<-hk];exact hi)⟩
 | n+1,k,s,hk,hi=>by
  obtain⟨fl,hb,hf⟩:=h k s (by omega) hi
  unfold wQ
  rw [hb]
  cases fl with
  | nx s'=>exact yz Inv Go Rt m h hg n (k+1) s' (by omega) hf
  | br s'=>exact⟨_,rfl,hf⟩
  | rt r=>exact⟨_,rfl,hf⟩
theorem DS {body:Nat->S->Option (Fl S R)} {m:Nat} {s:S} (Inv:Nat->S->Prop) (Go:S->Prop) (Rt:R->Prop) (hm:m<=4611686018427387904) (h0:Inv 0 s)
  (h: ∀k s,k<m->Inv k s->∃fl,body k s=some fl/\match fl with | .nx s'=>Inv (k+1) s' | .br s'=>Go s' | .rt r=>Rt r) (hg: ∀s,Inv m s->Go s):
  ∃o,qR m body s=some o/\match o with | .go s'=>Go s' | .rt r=>Rt r:=by
 unfold qR
 rw [aC hm]
 exact yz Inv Go Rt m h hg m 0 s (by omega) h0
theorem yA {body:Nat->S->Option S} (Inv:Nat->S->Prop) (m:Nat) (h: ∀k s,k<m->Inv k s->∃s',body k s=some s'/\Inv (k+1) s'):
  ∀(n k:Nat) (s:S),k+n=m->Inv k s->∃s',B4 body n k s=some s'/\Inv m s'
 | 0,k,s,hk,hi=>⟨_,rfl,by rw [<-hk];exact hi⟩
 | n+1,k,s,hk,hi=>by
  obtain⟨s',hb,hf⟩:=h k s (by omega) hi
  unfold B4
  rw [hb]
  exact yA Inv m h n (k+1) s' (by omega) hf
theorem uC {body:Nat->S->Option S} {m:Nat} {s:S} (Inv:Nat->S->Prop) (hm:m<=4611686018427387904) (h0:Inv 0 s)
  (h: ∀k s,k<m->Inv k s->∃s',body k s=some s'/\Inv (k+1) s'): ∃s',kM m body s=some s'/\Inv m s':=by
 unfold kM
 rw [aC hm]
 exact yA Inv m h m 0 s (by omega) h0
end
section
variable {α β:Type}
theorem aB (x:α) (f:α->Option β): (some x).bind f=f x:=rfl
theorem iR (l:List α) (k:Nat) (h:k<l.length):idx l ((k:Nat):Int)=some l[k]:=by
 unfold idx;rw [aC (by omega),bR,aL h]
theorem iL {l:List α} {k:Nat} {x:α} (h:l[k]? =some x):idx l ((k:Nat):Int)=some x:=by
 unfold idx;rw [aC (by omega),bR,h]
theorem CA (s:dA) (k:Nat) (h:k<s.bY.length):AY s ((k:Nat):Int)=some s.bY[k]:=by
 unfold AY;rw [aC (by omega),bR,aL h]
theorem lI {k:Nat} (h:0<k) (hk:k<=4611686018427387904):IntKind.wrap .i64 (((k:Nat):Int) - 1)= ((k - 1:Nat):Int):=by
 rw [eH (by omega) (by omega)];omega
theorem sH (l:List α) (k:Nat) (h:k<=l.length):r7 l 0 ((k:Nat):Int)=some (l.take k):=by
 unfold r7;rw [aC ⟨by omega,by omega,by omega⟩]
 simp only [Int.toNat_zero,List.drop_zero,Int.sub_zero,bR]
theorem sI (l:List α) (k:Nat) (h:k<=l.length):r7 l ((k:Nat):Int) ((l.length:Nat):Int)=some (l.drop k):=by
 unfold r7;rw [aC ⟨by omega,by omega,by omega⟩]
 simp only [bR,Option.some.injEq]
 rw [ng];rw [f0];omega
theorem gr {b:Nat} {l ys:List α} (h: (l.length+ys.length)*b<=140737488355328):app b l ys=some (l++ys):=by unfold app;rw [aC h]
theorem sJ {b:Nat} (z:α) {n:Nat} (h:n*b<=140737488355328):mk b z ((n:Nat):Int)=some (List.replicate n z):=by
 unfold mk
 have e: ((n:Nat):Int)* ((b:Nat):Int)= ((n*b:Nat):Int):=(Int.natCast_mul n b).symm
 rw [e]
 generalize n*b=q at h ⊢
 rw [aC ⟨by omega,by omega⟩,bR]
end
theorem dA.ext' {a b:dA} (h:a.bY=b.bY):a=b:=by cases a;cases b;simp at h;rw [h]
theorem DT {a b:dA}:a.y7 b=true↔a=b:=by
 unfold dA.y7;rw [beq_iff_eq];exact⟨dA.ext',fun h=>by rw [h]⟩
theorem t9: ∀(a:List UInt8),Op.bytesLess a a=false
 | []=>rfl
 | a::l=>by
  unfold Op.bytesLess
  rw [t9 l];simp
theorem uY: ∀{a b c:List UInt8},Op.bytesLess a b=true->Op.bytesLess b c=true->Op.bytesLess a c=true
 | [],[],_,h,_=>by simp [Op.bytesLess] at h
 | [],_::_,[],_,h=>by simp [Op.bytesLess] at h
 | [],_::_,_::_,_,_=>rfl
 | _::_,[],_,h,_=>by simp [Op.bytesLess] at h
 | _::_,_::_,[],_,h=>by simp [Op.bytesLess] at h
 | a::l,b::m,c::n,h1,h2=>by
  unfold Op.bytesLess at h1 h2 ⊢
  simp only [dC,bE,bT,beq_iff_eq] at h1 h2 ⊢
  rcases h1 with h1 | ⟨rfl,h1⟩
  ·rcases h2 with h2 | ⟨rfl,h2⟩
   ·exact .inl (UInt8.lt_trans h1 h2)
   ·exact .inl h1
  ·rcases h2 with h2 | ⟨rfl,h2⟩
   ·exact .inl h2
   ·exact .inr ⟨rfl,uY h1 h2⟩
theorem uZ: ∀(a b:List UInt8),Op.bytesLess a b=true\/a=b\/Op.bytesLess b a=true
 | [],[]=> .inr (.inl rfl)
 | [],_::_=> .inl rfl
 | _::_,[]=> .inr (.inr rfl)
 | a::l,b::m=>by
  unfold Op.bytesLess
  simp only [dC,bE,bT,beq_iff_eq]
  by_cases h1:a<b
  ·exact .inl (.inl h1)
  ·by_cases h2:b<a
   ·exact .inr (.inr (.inl h2))
   ·have e:a=b:=by
     simp only [UInt8.lt_iff_toNat_lt] at h1 h2
     exact UInt8.toNat_inj.1 (by omega)
    subst e
    rcases uZ l m with h | h | h
    ·exact .inl (.inr ⟨rfl,h⟩)
    ·exact .inr (.inl (by rw [h]))
    ·exact .inr (.inr (.inr ⟨rfl,h⟩))
theorem rJ: ∀(a b:List UInt8),Lib.compareBytes a b<0↔Op.bytesLess a b=true
 | [],[]=>by simp [Lib.compareBytes,Op.bytesLess]
 | [],_::_=>by simp [Lib.compareBytes,Op.bytesLess]
 | _::_,[]=>by simp [Lib.compareBytes,Op.bytesLess]
 | a::l,b::m=>by
  unfold Lib.compareBytes Op.bytesLess
  simp only [dC,bE,bT,beq_iff_eq]
  split
  ·simp_all
  ·rename_i h1
   split
   ·rename_i h2
    have h3:a≠b:=fun e=>by subst e;exact h1 h2
    simp [h1,h3]
   ·rename_i h2
    have e:a=b:=by
     simp only [UInt8.lt_iff_toNat_lt] at h1 h2
     exact UInt8.toNat_inj.1 (by omega)
    subst e
    rw [rJ l m];simp [h1]
theorem rK: ∀(a b:List UInt8),Lib.compareBytes a b=0↔a=b
 | [],[]=>by simp [Lib.compareBytes]
 | [],_::_=>by simp [Lib.compareBytes]
 | _::_,[]=>by simp [Lib.compareBytes]
 | a::l,b::m=>by
  unfold Lib.compareBytes
  split
  ·rename_i h1
   have h3:a≠b:=fun e=>by subst e;exact absurd h1 (by simp)
   simp [h3]
  ·rename_i h1
   split
   ·rename_i h2
    have h3:a≠b:=fun e=>by subst e;exact h1 h2
    simp [h3]
   ·rename_i h2
    have e:a=b:=by
     simp only [UInt8.lt_iff_toNat_lt] at h1 h2
     exact UInt8.toNat_inj.1 (by omega)
    subst e
    rw [rK l m];simp
def dA.lt (a b:dA):Prop:=a.Ey b=true
theorem dA.lt_irrefl (a:dA): ¬dA.lt a a:=by unfold dA.lt dA.Ey;rw [t9];decide
theorem dA.lt_trans {a b c:dA} (h1:dA.lt a b) (h2:dA.lt b c):dA.lt a c:=uY h1 h2
theorem dA.yB (a b:dA):dA.lt a b\/a=b\/dA.lt b a:=by
 rcases uZ a.bY b.bY with h | h | h
 ·exact .inl h
 ·exact .inr (.inl (dA.ext' h))
 ·exact .inr (.inr h)
theorem dA.Em {a b:dA} (h:dA.lt a b):a≠b:=fun e=>by subst e;exact dA.lt_irrefl a h
end Go.Gk
namespace Go.Gk
open Go
class Bk (α:Type) where
 bk:α->Nat
 pos: ∀x,1<=bk x
def bk {α:Type} [Bk α] (x:α):Nat:=Bk.bk x
theorem CB {α:Type} [Bk α] (x:α):1<=bk x:=Bk.pos x
instance:Bk dA:=⟨fun s=>s.bY.length+1,fun _=>by omega⟩
instance:Bk Int:=⟨fun _=>1,fun _=>by omega⟩
instance:Bk Bool:=⟨fun _=>1,fun _=>by omega⟩
instance {α:Type} [Bk α]:Bk (List α):=⟨fun l=>(l.map bk).sum+1,fun _=>by omega⟩
theorem CC {α:Type} [Bk α]:bk ([]:List α)=1:=rfl
theorem xp {α:Type} [Bk α] (x:α) (l:List α):bk (x::l)=bk x+bk l:=by
 show (List.map bk (x::l)).sum+1=bk x+ ((List.map bk l).sum+1)
 simp;omega
theorem zy {α:Type} [Bk α]: ∀{l:List α} {x:α},x∈l->bk x+1<=bk l
 | y::l,x,h=>by
  rw [xp]
  rcases eV.1 h with h | h
  ·subst h;have:=CB l;omega
  ·have:=zy h;omega
theorem rL {α:Type} [Bk α]: ∀(l:List α),l.length+1<=bk l
 | []=>by rw [CC];simp
 | x::l=>by rw [xp,kK];have:=rL l;have:=CB x;omega
theorem CD (s:dA):bk s=s.bY.length+1:=rfl
section
variable {α R:Type}
theorem Bm {l:List α} {e:Nat->Option R} (f:α->Option R) (h: ∀k x,l[k]? =some x->e k=f x):sF l.length e=l.findSome? f:=by
 cases hx:sF l.length e with
 | none=>
  refine(List.findSome?_eq_none_iff.2 fun x hm=>?_).symm
  obtain⟨k,hk⟩:=eG hm
  rw [<-h k x hk];exact lH.1 hx k (aT.1 hk).1
 | some r=>
  obtain⟨k,hk,he,hn⟩:=mz.1 hx
  refine(List.findSome?_eq_some_iff.2 ⟨l.take k,l[k],l.drop (k+1),?_,?_,fun y hy=>?_⟩).symm
  ·rw [<-qz hk,List.take_append_drop]
  ·rw [<-h k l[k] (aL hk)];exact he
  ·obtain⟨j,hj⟩:=eG hy
   have hjk:j<k:=by have:=(aT.1 hj).1;rw [cS] at this;omega
   rw [List.getElem?_take_of_lt hjk] at hj
   rw [<-h j y hj];exact hn j hjk
theorem xq (l:List α) (p:α->Bool) (r:R):l.findSome? (fun x=>if p x=true then some r else none)=if l.any p=true then some r else none:=by
 induction l with
 | nil=>simp
 | cons x l ih=>
  rw [List.findSome?_cons,List.any_cons]
  cases h:p x <;> simp [ih]
theorem u4 {l:List α} {body:Nat->Unit->Option (Fl Unit R)} (f:α->Option R) (hl:l.length<=4611686018427387904)
  (h: ∀k x,l[k]? =some x->body k ()=some (Bl (f x) ())):qR l.length body ()=some (zx (l.findSome? f) ()):=by
 have h2:=og (body:=body) (m:=l.length) (fun k=>(l[k]?).bind f) hl (fun k hk _=>by
  rw [h k l[k] (aL hk),aL hk];rfl)
 rw [h2,Bm f (fun k x hx=>by rw [hx];rfl)]
theorem DU {l:List α} {body:Nat->Unit->Option (Fl Unit R)} (p:α->Bool) (r:R) (hl:l.length<=4611686018427387904)
  (h: ∀k x,l[k]? =some x->body k ()=some (if p x=true then .rt r else .nx ())):qR l.length body ()=some (if l.any p=true then .rt r else .go ()):=by
 rw [u4 (fun x=>if p x=true then some r else none) hl (fun k x hx=>by rw [h k x hx];cases p x <;> rfl),xq]
 cases l.any p <;> rfl
end
theorem DV {β:Type} (b:Bool) (x y:β): (bif b then some x else some y)=some (bif b then x else y):=by cases b <;> rfl
section
variable {α β:Type}
def Bn (l:List α) (p:α->Bool):Int:=match l.findIdx? p with | some k=>((k:Nat):Int) | none=> -1
theorem CE {l:List α} {p:α->Bool} (h:l.any p=false):Bn l p = -1:=by
 unfold Bn
 rw [List.findIdx?_eq_none_iff.2]
 intro x hx
 rw [<-nc]
 intro hp
 rw [<-nc] at h
 exact h (jh.2 ⟨x,hx,hp⟩)
theorem CF {l:List α} {p:α->Bool} {k:Nat} {x:α} (hk:l[k]? =some x) (hp:p x=true) (hn: ∀j y,j<k->l[j]? =some y->p y=false):Bn l p= ((k:Nat):Int):=by
 unfold Bn
 have hlt:=(aT.1 hk).1
 have:l.findIdx? p=some k:=by
  rw [List.findIdx?_eq_some_iff_getElem]
  refine⟨hlt,?_,fun j hj=>?_⟩
  ·have:=aL hlt;rw [hk] at this;injection this with this;rw [<-this];exact hp
  ·have:=hn j l[j] hj (aL (by omega));simpa using this
 rw [this]
theorem qG (l:List α) (p:α->Bool): (Bn l p = -1/\∀x∈l,p x=false)\/∃k x,Bn l p= ((k:Nat):Int)/\l[k]? =some x/\p x=true/\∀j y,j<k->l[j]? =some y->p y=false:=by
 unfold Bn
 cases h:l.findIdx? p with
 | none=>exact .inl ⟨rfl,fun x hx=>by have:=List.findIdx?_eq_none_iff.1 h x hx;simpa using this⟩
 | some k=>
  obtain⟨hk,hp,hn⟩:=List.findIdx?_eq_some_iff_getElem.1 h
  refine .inr ⟨k,l[k],rfl,aL hk,hp,fun j y hj hy=>?_⟩
  have:=hn j hj
  rw [aL (by omega)] at hy
  injection hy with hy
  subst hy;simpa using this
theorem E3 (l:List α) (p:α->Bool):decide (Bn l p>=0)=l.any p:=by
 rcases qG l p with ⟨h,hn⟩ | ⟨k,x,h,hx,hp,_⟩
 ·rw [h,List.any_eq_false.2 (fun x hx=>by rw [hn x hx];decide)];decide
 ·rw [h,jh.2 ⟨x,dV hx,hp⟩];simp
def oU (p0:List α) (p1:α->Option Bool):Option Int:=
 (qR p0.length (fun(k1:Nat) (_:Unit)=>((idx p0 ((k1:Nat):Int)).bind fun x7=>(p1 x7).bind fun x10=>bif x10 then (some (.rt ((k1:Nat):Int))) else (some (.nx ())):Option (Fl (Unit) Int))) ()).bind fun o11=>o11.cs (fun(_:Unit)=>some (-1)) (fun r=>some r)
theorem rl {l:List α} {φ:α->Option Bool} (p:α->Bool) (hl:l.length<=4611686018427387904) (h: ∀x∈l,φ x=some (p x)):oU l φ=some (Bn l p):=by
 unfold oU
 rw [og (fun k=>(l[k]?).bind fun x=>if p x=true then some ((k:Nat):Int) else none) hl (fun k hk _=>by
  rw [iR l k hk,aB,h _ (cT hk),aB,aL hk]
  cases hp:p l[k] <;> simp [Bl,hp]),aB]
 rcases qG l p with ⟨h1,h2⟩ | ⟨k,x,h1,h2,h3,h4⟩
 ·rw [lH.2 (fun k hk=>by rw [aL hk];simp [h2 _ (cT hk)])]
  simp [zx,Fo.cs,h1]
 ·rw [(mz (r:=((k:Nat):Int))).2 ⟨k,(aT.1 h2).1,by rw [h2];simp [h3],fun j hj=>by
   cases hy:l[j]? with
   | none=>rfl
   | some y=>simp [h4 j y hj hy]⟩]
  simp [zx,Fo.cs,h1]
def nM (p0:List α) (p1:α->Option Bool):Option Bool:=
 (oU p0 p1).bind fun x1=>some (decide (x1>=0))
theorem oh {l:List α} {φ:α->Option Bool} (p:α->Bool) (hl:l.length<=4611686018427387904) (h: ∀x∈l,φ x=some (p x)):nM l φ=some (l.any p):=by
 unfold nM
 rw [rl p hl h,aB,E3]
def zz [DecidableEq α] (p0 p1:List α):Option Bool:=
 bif (((p0.length:Nat):Int) != ((p1.length:Nat):Int)) then (some false) else ((qR p0.length (fun(k1:Nat) (_:Unit)=>((idx p0 ((k1:Nat):Int)).bind fun x13=>(idx p1 ((k1:Nat):Int)).bind fun x16=>bif (!(decide (x13=x16))) then (some (.rt false)) else (some (.nx ())):Option (Fl (Unit) Bool))) ()).bind fun o23=>o23.cs (fun(_:Unit)=>some true) (fun r=>some r))
theorem wz [DecidableEq α] {l m:List α} (hl:l.length<=4611686018427387904):zz l m=some (decide (l=m)):=by
 unfold zz
 by_cases h:l.length=m.length
 ·have e: (((l.length:Nat):Int) != ((m.length:Nat):Int))=false:=by rw [h];simp
  rw [e,bA]
  rw [og (fun k=>if l[k]? =m[k]? then none else some false) hl (fun k hk _=>by
   rw [iR l k hk,aB,iR m k (by omega),aB,aL hk,aL (by omega:k<m.length)]
   by_cases hx:l[k]=m[k] <;> simp [Bl,hx]),aB]
  by_cases hx:l=m
  ·subst hx;rw [lH.2 (fun k _=>aC rfl)];simp [zx,Fo.cs]
  ·have: ∃r,sF l.length (fun k=>if l[k]? =m[k]? then none else some false)=some r:=by
    cases hf:sF l.length (fun k=>if l[k]? =m[k]? then none else some false) with
    | some r=>exact⟨r,rfl⟩
    | none=>
     exfalso;refine hx (List.ext_getElem? fun i=>?_)
     by_cases hi:i<l.length
     ·have:=lH.1 hf i hi
      by_cases h6:l[i]? =m[i]?
      ·exact h6
      ·rw [aF h6] at this;cases this
     ·rw [List.getElem?_eq_none (by omega),List.getElem?_eq_none (by omega)]
   obtain⟨r,hr⟩:=this
   have hr2:r=false:=by
    obtain⟨k,_,hk,_⟩:=mz.1 hr
    split at hk
    ·cases hk
    ·injection hk with hk;exact hk.symm
   rw [hr,hr2];simp [zx,Fo.cs,hx]
 ·have e: (((l.length:Nat):Int) != ((m.length:Nat):Int))=true:=by simp;omega
  rw [e,aV,bU (fun h'=>h (by rw [h']))]
def CG (key:α->dA) (l:List α):Prop:=∀(i j:Nat) (x y:α),i<j->l[i]? =some x->l[j]? =some y->dA.lt (key x) (key y)
theorem CG.inj {key:α->dA} {l:List α} (h:CG key l) {i j:Nat} {x y:α} (hx:l[i]? =some x) (hy:l[j]? =some y) (e:key x=key y):i=j:=by
 rcases Nat.lt_trichotomy i j with h1 | h1 | h1
 ·exact absurd e (dA.Em (h i j x y h1 hx hy))
 ·exact h1
 ·exact absurd e.symm (dA.Em (h j i y x h1 hy hx))
def CH (N:Nat) (p0:List α) (p1:β) (p2:α->β->Option Int):Option (Int×Bool):=
 (mC (fun(s2:Int×Int)=>(bif (decide (s2.1<s2.2)) then ((idx p0 (IntKind.wrap .i64 (Int.fdiv (IntKind.wrap .u64 (IntKind.wrap .i64 (s2.1+s2.2))) 2))).bind fun x13=>(p2 x13 p1).bind fun x16=>(bif (decide (x16<0)) then (some ((IntKind.wrap .i64 ((IntKind.wrap .i64 (Int.fdiv (IntKind.wrap .u64 (IntKind.wrap .i64 (s2.1+s2.2))) 2))+1)),s2.2)) else (some (s2.1,(IntKind.wrap .i64 (Int.fdiv (IntKind.wrap .u64 (IntKind.wrap .i64 (s2.1+s2.2))) 2))))).bind fun s17=>some (.nx (s17.1,s17.2))) else (some (.br (s2.1,s2.2))):Option (Fl (Int×Int) Empty))) N (0,((p0.length:Nat):Int))).bind fun o29=>o29.cs (fun(s2:Int×Int)=>(bif (decide (s2.1< ((p0.length:Nat):Int))) then ((idx p0 s2.1).bind fun x25=>(p2 x25 p1).bind fun x28=>some (x28==0)) else (some false)).bind fun s23=>some (s2.1,s23)) (fun r=>r.elim)
theorem Bo {a b:Nat} (h:a<b) (hb:b<=4611686018427387904):IntKind.wrap .i64 (Int.fdiv (IntKind.wrap .u64 (IntKind.wrap .i64 (((a:Nat):Int)+ ((b:Nat):Int)))) 2)= (((a+b) / 2:Nat):Int):=by
 rw [eH (x:=((a:Nat):Int)+ ((b:Nat):Int)) (by omega) (by omega)]
 have e:IntKind.wrap .u64 (((a:Nat):Int)+ ((b:Nat):Int))= ((a+b:Nat):Int):=by
  show ((a:Int)+b) % 18446744073709551616=_
  omega
 rw [e,Int.fdiv_eq_ediv_of_nonneg _ (by omega),eH (by omega) (by omega)]
 omega
end
end Go.Gk
namespace Go.Gk
open Go Go.ChangeShapes Go.WideShapes Go.RowKit
structure UB (ub: (H:Type)->DataW H->Nat) (ua: (H:Type)->List (DataW H)->Nat):Prop where
 str: ∀(H:Type) (b:List UInt8),ub H (.lit (.string b))=b.length+1
 pos: ∀(H:Type) (d:DataW H),1<=ub H d
 sl: ∀(H:Type) (e s:List (DataW H)),ub H (.slice e s)=ua H e+ua H s+1
 ag: ∀(H:Type) (l:List (DataW H)),ub H (.agg l)=ua H l+1
 nil: ∀(H:Type),ua H []=0
 cons: ∀(H:Type) (x:DataW H) (l:List (DataW H)),ua H (x::l)=ub H x+ua H l
def Hw (w:World):cZ:=fun b=>w.heap[b]?
structure gV (ub: (H:Type)->DataW H->Nat) (P:Program) (T:TypeId) (α:Type) [GT α] [Bk α]:Prop where
 trod: ∀{H:Type} {enc:TypeId×Value->H} {w:World} {base:Nat} {spare:Nat->Bool} {held:Bool} {fuel:Nat} {cs:List Value} {d:DataW H×List MemPlace},
  DataW.trod enc P w base spare held fuel T cs=some d->∃x:α,GT.ok (Hw w) cs x/\bk x<=ub H d.1
 Gt: ∀{w:World} {r:Reach} {base:Nat} {v:Value},Value.okWide P w r base T v->v=rz α v.cells.toList
section
variable {ub: (H:Type)->DataW H->Nat} {ua: (H:Type)->List (DataW H)->Nat} {P:Program} {T e:TypeId}
theorem Bp (u:UB ub ua) (ht:P.underlying T=some (.int .i64)):gV ub P T Int where
 trod:=fun h=>by
  obtain⟨n,rfl,rfl,_⟩:=DataW.trod_int ht h
  exact⟨n,rfl,u.pos _ _⟩
 Gt:=fun h=>by obtain⟨n,rfl⟩:=okWide_int ht h;rfl
theorem zA (u:UB ub ua) (ht:P.underlying T=some .bool):gV ub P T Bool where
 trod:=fun h=>by
  obtain⟨n,rfl,rfl⟩:=DataW.trod_bool ht h
  exact⟨n,rfl,u.pos _ _⟩
 Gt:=fun h=>by obtain⟨n,rfl⟩:=okWide_bool ht h;rfl
theorem Bq (u:UB ub ua) (ht:P.underlying T=some .string):gV ub P T dA where
 trod:=fun h=>by
  obtain⟨s,rfl,rfl,_⟩:=DataW.trod_string ht h
  refine⟨⟨s.data.toList⟩,?_,?_⟩
  ·show [Value.string s]= [Gk.str ⟨s.data.toList⟩]
   cases s;rfl
  ·rw [u.str];exact bJ _
 Gt:=fun h=>by obtain⟨n,rfl⟩:=okWide_string ht h;rfl
theorem uc {α:Type} {R:Nat->α->Prop}: ∀(n:Nat),(∀i,i<n->∃x,R i x)->∃l:List α,l.length=n/\∀i x,l[i]? =some x->R i x
 | 0,_=>⟨[],rfl,fun i x h=>by simp at h⟩
 | n+1,h=>by
  obtain⟨l,h1,h2⟩:=uc n (fun i hi=>h i (by omega))
  obtain⟨x,hx⟩:=h n (by omega)
  refine⟨l++[x],by simp [h1],fun i y hy=>?_⟩
  by_cases hi:i<n
  ·rw [eU (by omega)] at hy;exact h2 i y hy
  ·have:=(aT.1 hy).1
   rw [dI] at this
   have:i=n:=by simp at this;omega
   subst this
   rw [eM (by omega),h1] at hy
   simp at hy;subst hy;exact hx
theorem wA {H α:Type} [Bk α] (u:UB ub ua): ∀{l:List α} {es:List (DataW H×List MemPlace)},l.length=es.length->
  (∀(i:Nat) (x:α) (y:DataW H×List MemPlace),l[i]? =some x->es[i]? =some y->bk x<=ub H y.1)->bk l<=ua H (es.map (·.1))+1
 | [],[],_,_=>by rw [CC];omega
 | x::l,y::es,hl,h=>by
  have h1:=h 0 x y rfl rfl
  have h2:=wA (H:=H) u (l:=l) (es:=es) (by simpa using hl) (fun i x y hx hy=>h (i+1) x y (by simpa using hx) (by simpa using hy))
  rw [xp,eF,u.cons];omega
theorem yC {w:World} {base:Nat} {a:Addr} {n:Nat} {cs:List Value} (h:w.cells? base a n=some cs):At (Hw w) a cs:=by
 intro j v hv
 obtain⟨_,hlen,hc⟩:=World.cells?_some h
 have hj:=(aT.1 hv).1
 have h2:=hc j (by omega)
 rw [hv] at h2
 unfold rZ Hw
 unfold World.cell? at h2
 exact h2
theorem oV {α:Type} [GT α] [Bk α] (u:UB ub ua) (he:gV ub P e α) (ht:P.underlying T=some (.slice e):=by kernel_rfl) (hc:P.cellsOf e=GT.sz α:=by kernel_rfl):gV ub P T (List α) where
 trod:=fun{H enc w base spare held fuel cs d} h=>by
  rcases DataW.trod_slice ht h with ⟨rfl,rfl⟩ | ⟨a,len,cap,elems,rest,n,_,rfl,rfl,_,hlc,hcm,hlen,hel,_⟩
  ·exact⟨[],⟨_,rfl,none,0,0,rfl,rfl,bJ _,by simp [maxLen],fun i x hx=>by simp at hx⟩,u.pos _ _⟩
  ·have each: ∀i,i<len->∃x:α,(∃c y,GT.ok (Hw w) c x/\At (Hw w) (a.add (i*GT.sz α)) c/\elems[i]? =some y/\bk x<=ub H y.1):=by
    intro i hi
    have h1:=hel i hi
    rw [aL (by omega:i<elems.length),Option.bind_eq_some_iff] at h1
    obtain⟨c,h2,h3⟩:=h1
    obtain⟨x,h4,h5⟩:=he.trod h3
    refine⟨x,c,_,h4,?_,aL (by omega),h5⟩
    rw [hc] at h2
    exact yC h2
   obtain⟨l,hl,hr⟩:=uc len each
   refine⟨l,⟨_,rfl,some a,len,cap,rfl,hl.symm,hlc,hcm,fun i x hx=>?_⟩,?_⟩
   ·obtain⟨c,y,h1,h2,_⟩:=hr i x hx
    exact⟨a,c,rfl,h1,h2⟩
   ·have:=wA (H:=H) u (l:=l) (es:=elems) (by omega) (fun i x y hx hy=>by
     obtain⟨c,y',_,_,h3,h4⟩:=hr i x hx
     rw [hy] at h3;injection h3 with h3;subst h3;exact h4)
    rw [u.sl];omega
 Gt:=fun h=>by obtain⟨a,n,c,rfl⟩:=okWide_slice ht h;rfl
def Aq (ub: (H:Type)->DataW H->Nat) (ua: (H:Type)->List (DataW H)->Nat) (P:Program) (off:Nat) (fs:List Field) (β:Type) [GT β] (m:β->Nat):Prop:=
 ∀{H:Type} {enc:TypeId×Value->H} {w:World} {base:Nat} {spare:Nat->Bool} {held:Bool} {n:Nat} {cs:List Value} {ys:List (DataW H×List MemPlace)},
  (∀(i:Nat) (f:Field),fs[i]? =some f->DataW.trod enc P w base spare held n f.type ((cs.drop f.offset).take (P.cellsOf f.type))=ys[i]?)->ys.length=fs.length->
  cs.length=off+GT.sz β->∃x:β,GT.ok (Hw w) (cs.drop off) x/\m x<=ua H (ys.map (·.1))
theorem mA {β:Type} [GT β] [Bk β] {off:Nat} {f:Field} (u:UB ub ua) (h:gV ub P f.type β) (ho:f.offset=off:=by exact rfl) (hc:P.cellsOf f.type=GT.sz β:=by kernel_rfl):Aq ub ua P off [f] β bk:=by
 intro H enc w base spare held n cs ys hf hl hcs
 match ys,hl with
 | [y],_=>
  have h1:=hf 0 f rfl
  rw [ho,hc,ng (by rw [f0];omega)] at h1
  obtain⟨x,h2,h3⟩:=h.trod (d:=y) h1
  exact⟨x,h2,by rw [eF,u.cons];omega⟩
theorem fy {α β:Type} [GT α] [GT β] [Bk α] {off off':Nat} {f:Field} {fs:List Field} {m:β->Nat} (u:UB ub ua) (h:gV ub P f.type α) (hr:Aq ub ua P off' fs β m) (ho:f.offset=off:=by exact rfl) (hc:P.cellsOf f.type=GT.sz α:=by kernel_rfl) (hoff:off'=off+GT.sz α:=by exact rfl):Aq ub ua P off (f::fs) (α×β) (fun x=>bk x.1+m x.2):=by
 intro H enc w base spare held n cs ys hf hl hcs
 have hsz:GT.sz (α×β)=GT.sz α+GT.sz β:=rfl
 match ys,hl with
 | y::ys,hl=>
  have h1:=hf 0 f rfl
  rw [ho,hc] at h1
  obtain⟨x,h2,h3⟩:=h.trod (d:=y) h1
  obtain⟨x',h4,h5⟩:=hr (n:=n) (cs:=cs) (ys:=ys) (fun i g hg=>hf (i+1) g hg) (by simpa using hl) (by omega)
  refine⟨(x,x'),⟨_,_,?_,h2,h4⟩,?_⟩
  ·rw [hoff,<-List.drop_drop,List.take_append_drop]
  ·rw [eF,u.cons];show bk x+m x'<=_;omega
theorem kq {γ β:Type} [GT β] [Bk γ] {fs:Array Field} {m:β->Nat} (u:UB ub ua) (f:γ->β) (g:β->γ) (hfg: ∀b,f (g b)=b) (ht:P.underlying T=some (.struct fs)) (h:Aq ub ua P 0 fs.toList β m) (hm: ∀b,bk (g b)<=m b+1) (hc:P.cellsOf T=GT.sz β:=by kernel_rfl): @gV ub P T γ (GT.via f) _:=
 @gV.mk ub P T γ (GT.via f) _
  (fun{H enc w base spare held fuel cs d} hd=>by
   obtain⟨xs,n,_,rfl,hl,hlen,hf⟩:=DataW.trod_struct ht hd
   obtain⟨b,h1,h2⟩:=h (n:=n) (cs:=cs) (ys:=xs) (fun i g hg=>hf i g (by rw [<-Array.getElem?_toList];exact hg)) (by rw [hlen];simp) (by omega)
   refine⟨g b,?_,?_⟩
   ·show GT.ok (Hw w) cs (f (g b))
    rw [hfg];exact h1
   ·rw [u.ag];have:=hm b;omega)
  (fun hv=>by
   obtain⟨cs,rfl,_⟩:=okWide_struct ht hv
   cases cs;rfl)
theorem gV.arg {H:Type} {enc:TypeId×Value->H} {w:World} {base:Nat} {spare:Nat->Bool} {held:Bool} {r:Reach} {b0:Nat} {v:Value} {d:DataW H} {ps:List MemPlace} {α:Type} [GT α] [Bk α] (o:gV ub P T α)
  (hv:Value.okWide P w r b0 T v) (hd:DataW.Trod enc P w base spare held T v d ps): ∃x:α,rA (Hw w) v x/\bk x<=ub H d:=by
 obtain⟨fuel,hf⟩:=hd
 obtain⟨x,h1,h2⟩:=o.trod hf
 exact⟨x,⟨_,o.Gt hv,h1⟩,h2⟩
theorem gV.HY {H:Type} {enc:TypeId×Value->H} {w:World} {base:Nat} {spare:Nat->Bool} {held:Bool} {r:Reach} {b0:Nat} {v:Value} {d:DataW H} {ps:List MemPlace} {α:Type} [Sc α] [Bk α] (o:gV ub P T α)
  (hv:Value.okWide P w r b0 T v) (hd:DataW.Trod enc P w base spare held T v d ps): ∃x:α,v=Sc.toV x/\bk x<=ub H d:=by
 obtain⟨x,h1,h2⟩:=o.arg hv hd
 exact⟨x,wO.1 h1,h2⟩
end
theorem Calls.fin {P:Program} {f:FuncId} {args:Array Value} {w:World} {R Q:Value->World->Prop} (h:Calls P f args w (gF R)) (k: ∀v w',R v w'->Q v w'):
  Calls P f args w (fun e W'=>∃v,e = .returned v/\Q v W'):=Calls.mono h fun _ w' ⟨v,e,hr⟩=>⟨v,e,k v w' hr⟩
def gD (W:World):HP:=⟨fun M h=>hle (Hw W) M/\h=mW,fun k ⟨a,b⟩=>⟨AR a k,b⟩⟩
theorem Holds.begin (W:World):Holds W W [gD W]:=by
 refine⟨Hw W,fun _=>mW,⟨rfl,rfl,rfl,bJ _,fun b o h=>h,fun i Pr hq=>?_,fun _ _ _ _ h=>(by cases h),fun _ _ _ _ h=>(by cases h),fun _ _ _ _ _ _ _ h=>(by cases h)⟩⟩
 match i,hq with
 | 0,hq=>simp at hq;subst hq;exact⟨B2 _,rfl⟩
theorem Holds.Ar {α:Type} [GT α] {W:World} {V:List HP} {v:Value} {x:α} (h:Holds W W (V++[gD W])) (hv:Gk.rA (Hw W) v x):Holds W W (rd v x::(V++[gD W])):=
 h.vR fun M hs g=>by
  have h1:=(g.sat V.length (gD W) (by simp)).1
  exact⟨hv.mono h1,rfl⟩
theorem Holds.kept {E W w:World} {V:List HP} (h:Holds E w (V++[gD W])) (he:E=W):Below W.heap.size W w:=by
 subst he
 obtain⟨M,hs,g⟩:=h
 have h1:=(g.sat V.length (gD E) (by simp)).1
 have h2: ∀k o,E.heap[k]? =some o->w.heap[k]? =some o:=fun k o ho=>g.im k o (h1 k o ho)
 refine⟨g.os,g.tape,g.out,?_,fun k hk=>?_⟩
 ·by_cases h0:E.heap.size=0
  ·omega
  ·have h3:=h2 (E.heap.size - 1) _ (eT (by omega))
   have:=(Array.getElem?_eq_some_iff.1 h3).1
   omega
 ·rw [eT hk];exact h2 k _ (eT hk)
section
variable {H:Type} {enc:TypeId×Value->H} {P:Program}
theorem Bs {f:Func} {s:ChangeSpec} {apart fresh handsOn again:Bool} {W W':World} {args:Array Value} {v:Value} {ds gs:List (DataW H)} {before pa pv:List MemPlace}
  (hW:DataW.Whole enc P f.params.toList s.vars apart W args.toList ds gs before)
  (hres: ∀(b:Nat) (sp:Nat->Bool) (hd:Bool),DataW.TrodAll enc P W' b sp hd f.resultTypes.toList (v.resultList f.resultTypes.size) (s.fn H (ds++gs)).results [])
  (hargs: ∀sp:Nat->Bool,(∀p∈before,sp p.block=true)->DataW.TrodAll enc P W' 0 sp true f.params.toList args.toList (s.fn H (ds++gs)).args pa)
  (hvars: ∀sp:Nat->Bool,(∀p∈before,sp p.block=true)->DataW.TrodVars enc P W' sp s.vars (s.fn H (ds++gs)).vars pv)
  (hps:before=pa++pv) (hb:Below W.heap.size W W')
  (hok: ∀(j:Nat) (t:TypeId) (r:Value),f.resultTypes[j]? =some t->(v.resultList f.resultTypes.size)[j]? =some r->Value.okWide P W' .any 0 t r):
  s.post enc P f apart fresh handsOn again W args v W':=by
 have hlt: ∀p∈before,p.block<W.heap.size:=fun p hp=>hW.lt p hp
 have hold: ∀p∈before,(fun b=>decide (b<W.heap.size)) p.block=true:=fun p hp=>by simpa using hlt p hp
 refine⟨ds,gs,before,[],pa,pv,hW,hres _ _ _,hargs _ hold,hvars _ hold,World.keptBut_mono (fun p hp=>⟨hp,?_⟩) (hb.frame (· ∈before)),fun _=>?_⟩
 ·rw [hps,cP] at hp
  exact Or.inr hp
 ·obtain⟨_,_,_,_,_,hz,hn⟩:=hW
  refine⟨hok,_,_,([]++pa)++pv,⟨[]++pa,pv,trodAll_append (hargs _ (fun _ _=>rfl)) (hres _ _ _),hvars _ (fun _ _=>rfl),rfl,?_,?_⟩,?_⟩
  ·intro b off hp
   have hin:MemPlace.cell b off∈before:=by rw [hps];simpa using hp
   rw [hb.frozen (hlt _ hin)]
   exact hz b off hin
  ·intro ha
   have:=hn ha
   rw [hps] at this
   simpa using this
  ·intro p hp _
   rw [hps]
   simpa using hp
theorem rm {W W':World} (hl:laidOutB P=true) (hb:Below W.heap.size W W') {sp:Nat->Bool}: ∀{ts:List TypeId} {vs:List Value} {ds:List (DataW H)} {ps:List MemPlace},
  (∀t∈ts,P.readableRec t=true/\t<P.types.size)->DataW.TrodAll enc P W 0 (fun _=>true) true ts vs ds ps->(∀p∈ps,p.block<W.heap.size)->(∀p∈ps,sp p.block=true)->DataW.TrodAll enc P W' 0 sp true ts vs ds ps
 | [],_,_,_,_,h,_,_=>by
  obtain⟨rfl,rfl,rfl⟩:=trodAll_nil h
  rfl
 | t::ts,_,_,_,ht,h,hlt,hsp=>by
  obtain⟨v,vs,d,ds,p,q,rfl,rfl,rfl,h1,h2⟩:=trodAll_cons h
  refine⟨p,q,?_,rm hl hb (fun t h=>ht t (by simp [h])) h2 (fun x hx=>hlt x (by simp [hx])) (fun x hx=>hsp x (by simp [hx])),rfl⟩
  exact WideElems.Trod_stays hl (ht t (by simp)).1 (ht t (by simp)).2 h1 (fun x hx=>hb.same (hlt x (by simp [hx]))) (fun x hx=>hsp x (by simp [hx]))
end
end Go.Gk
namespace Go.Gk
open Go
instance:Bk aG:=⟨fun x=>bk x.X0+bk x.Y0+bk x.X1+bk x.Y1+1,fun _=>by omega⟩
theorem DW (x:aG):bk x=bk x.X0+bk x.Y0+bk x.X1+bk x.Y1+1:=rfl
instance:Bk iU:=⟨fun x=>bk x.X+bk x.Y+1,fun _=>by omega⟩
theorem CI (x:iU):bk x=bk x.X+bk x.Y+1:=rfl
instance:Bk bH:=⟨fun x=>bk x.At+bk x.eD+bk x.cM+bk x.To+bk x.iF+1,fun _=>by omega⟩
theorem DX (x:bH):bk x=bk x.At+bk x.eD+bk x.cM+bk x.To+bk x.iF+1:=rfl
instance:Bk bW:=⟨fun x=>bk x.Part+bk x.fH+bk x.cY+bk x.At+1,fun _=>by omega⟩
theorem As (x:bW):bk x=bk x.Part+bk x.fH+bk x.cY+bk x.At+1:=rfl
instance:Bk eL:=⟨fun x=>bk x.aH+bk x.cI+bk x.aU+bk x.bC+1,fun _=>by omega⟩
theorem CJ (x:eL):bk x=bk x.aH+bk x.cI+bk x.aU+bk x.bC+1:=rfl
instance:Bk fH:=⟨fun x=>bk x.Part+bk x.fH+1,fun _=>by omega⟩
theorem E4 (x:fH):bk x=bk x.Part+bk x.fH+1:=rfl
instance:Bk aA:=⟨fun x=>bk x.Y0+bk x.Y1+bk x.Xs+1,fun _=>by omega⟩
instance:Bk aI:=⟨fun x=>bk x.cY+bk x.Set+bk x.gk+1,fun _=>by omega⟩
instance:Bk cL:=⟨fun x=>bk x.l5+bk x.aU+bk x.hU+1,fun _=>by omega⟩
instance:Bk iN:=⟨fun x=>bk x.bH+bk x.Number+1,fun _=>by omega⟩
end Go.Gk
namespace Go.Gk
open Go Go.Sort
section
variable {α:Type}
theorem ud {β:Type} (a:Array β) {n:Nat} (h:a.size=n):a.extract 0 n=a:=by subst h;exact Array.extract_size
theorem E6 {φ:α->α->Option Int} {l:List α} (cf:α->α->Int) (hφ: ∀x∈l,∀y∈l,φ x y=some (cf x y)) (h1: ∀x∈l,¬cf x x<0)
  (h2: ∀x∈l,∀y∈l,∀z∈l,cf x y<0->cf y z<0->cf x z<0) (h3: ∀x∈l,∀y∈l,∀z∈l,¬cf x y<0->¬cf y z<0->¬cf x z<0):SWO (Dp (yh φ l)):=by
 have hm: ∀i:Fin l.length,l[i]∈l:=fun i=>cT i.isLt
 have e: ∀i j:Fin l.length,yh φ l i j=cf l[i] l[j]:=fun i j=>by unfold yh;rw [hφ _ (hm i) _ (hm j)];rfl
 refine⟨fun x=>?_,fun x y z=>?_,fun x y z=>?_⟩
 ·simp only [Dp,e,decide_eq_false_iff_not];exact h1 _ (hm _)
 ·simp only [Dp,e,decide_eq_true_iff];exact h2 _ (hm _) _ (hm _) _ (hm _)
 ·simp only [Dp,e,decide_eq_false_iff_not];exact h3 _ (hm _) _ (hm _) _ (hm _)
theorem u9 {φ:α->α->Option Int} {l:List α} (cf:α->α->Int) (hφ: ∀x∈l,∀y∈l,φ x y=some (cf x y)) (h1: ∀x∈l,¬cf x x<0)
  (h2: ∀x∈l,∀y∈l,∀z∈l,cf x y<0->cf y z<0->cf x z<0) (h3: ∀x∈l,∀y∈l,∀z∈l,¬cf x y<0->¬cf y z<0->¬cf x z<0) (hl:l.length<4611686018427387904):
  ∃m,sf φ l=some m/\m.Perm l/\m.Pairwise (fun x y=>¬cf y x<0):=by
 have hO:=E6 cf hφ h1 h2 h3
 have hm: ∀i:Fin l.length,l[i]∈l:=fun i=>cT i.isLt
 have hc: (∀i j:Fin l.length,∃c,φ l[i] l[j]=some c):=fun i j=>⟨_,hφ _ (hm i) _ (hm j)⟩
 refine⟨Ae φ l,by unfold sf;rw [aC ⟨⟨hc,hO⟩,hl⟩],?_⟩
 unfold Ae
 by_cases hn:0<l.length
 ·rw [dif_pos hn]
  letI inh:Inhabited (Fin l.length):=⟨⟨0,hn⟩⟩
  have hds: (Array.ofFn fun i:Fin l.length=>i).size=l.length:=by simp
  obtain⟨hp,hs⟩:=pdq_sorts (Dp (yh φ l)) hO (Array.ofFn fun i:Fin l.length=>i) 0 l.length (Lib.bitLen l.length) true true (ni _) (by rw [hds];exact bJ _) (Or.inl rfl)
  show (List.map (fun i=>l[i]) (pdq (Dp (yh φ l)) (Array.ofFn fun i:Fin l.length=>i) 0 l.length (Lib.bitLen l.length) true true).toList).Perm l/\_
  generalize pdq (Dp (yh φ l)) (Array.ofFn fun i:Fin l.length=>i) 0 l.length (Lib.bitLen l.length) true true=d' at hp hs
  obtain⟨hz,_,hpm⟩:=hp
  have hz':d'.size=l.length:=hz.trans hds
  rw [ud d' hz',ud _ hds] at hpm
  have hof: (Array.ofFn fun i:Fin l.length=>i).toList.map (fun i=>l[i])=l:=by
   rw [Array.toList_ofFn,List.map_ofFn]
   exact List.ofFn_getElem
  refine⟨(hpm.map (fun i=>l[i])).trans (List.Perm.of_eq hof),?_⟩
  rw [List.pairwise_map,kL]
  intro i j hi hj hij
  rw [Array.length_toList] at hi hj
  have:=hs i j (ni _) hij (by rw [<-hz'];exact hj)
  rw [getElem!_pos d' i hi,getElem!_pos d' j hj] at this
  have hij2:=hφ _ (hm (d'[j])) _ (hm (d'[i]))
  have hij3:yh φ l d'[j] d'[i]=cf l[d'[j]] l[d'[i]]:=by unfold yh;rw [hij2];rfl
  unfold Dp at this
  rw [decide_eq_false_iff_not,hij3] at this
  exact this
 ·rw [dif_neg hn]
  have:l= []:=List.length_eq_zero_iff.1 (by omega)
  subst this
  exact⟨List.Perm.refl _,kg⟩
theorem wB {φ:α->α->Option Int} {x:α} (h:φ x x=some 0):sf φ [x]=some [x]:=by
 obtain⟨m,h1,h2,_⟩:=u9 (φ:=φ) (l:=[x]) (fun _ _=>0) (fun a ha b hb=>by simp at ha hb;rw [ha,hb];exact h) (fun _ _=>by decide) (fun _ _ _ _ _ _ h=>by simp at h) (fun _ _ _ _ _ _ _ _=>by decide) (by simp)
 rw [h1,List.perm_singleton.1 h2]
theorem v5 {l:List Int} (h:l.Pairwise (fun x y=>x<=y)) (hl:l.length<4611686018427387904):pN l=some l:=by
 unfold pN
 rw [aC hl,List.mergeSort_of_pairwise (by simpa using h)]
end
end Go.Gk
namespace Go.Gk
open Go
def zD (l:List Int) (x:Int):Nat:=l.countP (fun a=>decide (a<=x))
def lF (l:List Int) (x:Int):Bool:=zD l x % 2==1
def kX (l:List Int):Prop:=l.Pairwise (· < ·)
theorem Av (x:Int):zD [] x=0:=rfl
theorem lY (a:Int) (l:List Int) (x:Int):zD (a::l) x= (if a<=x then 1 else 0)+zD l x:=by
 unfold zD
 rw [List.countP_cons]
 by_cases h:a<=x <;> simp [h];omega
theorem va (l m:List Int) (x:Int):zD (l++m) x=zD l x+zD m x:=List.countP_append
theorem Aw {l:List Int} {x:Int} (h: ∀a∈l,a<=x):zD l x=l.length:=by
 unfold zD;rw [List.countP_eq_length];intro a ha;simpa using h a ha
theorem vc {l:List Int} {x:Int} (h: ∀a∈l,x<a):zD l x=0:=by
 unfold zD;rw [List.countP_eq_zero];intro a ha;have:=h a ha;simp;omega
theorem sR {l:List Int} {x:Int}:lF l x=true↔zD l x % 2=1:=by unfold lF;simp
theorem sS {l:List Int} {x:Int} (h: ∀a∈l,x<a):lF l x=false:=by unfold lF;rw [vc h];rfl
theorem kX.head {a:Int} {l:List Int} (h:kX (a::l)): ∀b∈l,a<b:=(List.pairwise_cons.1 h).1
theorem kX.tail {a:Int} {l:List Int} (h:kX (a::l)):kX l:=(List.pairwise_cons.1 h).2
theorem sT {a:Int} {l:List Int} (h:kX (a::l)):lF (a::l) a=true:=by
 rw [sR,lY,aC (Int.le_refl _),vc h.head]
theorem vd: ∀{l m:List Int},kX l->kX m->(∀x,lF l x=lF m x)->l=m
 | [],[],_,_,_=>rfl
 | [],b::m,_,hm,h=>by have:=h b;rw [sT hm] at this;cases this
 | a::l,[],hl,_,h=>by have:=h a;rw [sT hl] at this;cases this
 | a::l,b::m,hl,hm,h=>by
  have hab:a=b:=by
   rcases Int.lt_trichotomy a b with h1 | h1 | h1
   ·have h2:=h a
    rw [sT hl,sS (l:=b::m) (fun c hc=>by
     rcases eV.1 hc with rfl | hc
     ·exact h1
     ·have:=hm.head c hc;omega)] at h2
    cases h2
   ·exact h1
   ·have h2:=h b
    rw [sT hm,sS (l:=a::l) (fun c hc=>by
     rcases eV.1 hc with rfl | hc
     ·exact h1
     ·have:=hl.head c hc;omega)] at h2
    cases h2
  subst hab
  rw [vd hl.tail hm.tail (fun x=>?_)]
  by_cases hx:a<=x
  ·have h2:=h x
   unfold lF at h2 ⊢
   rw [lY,lY,aC hx] at h2
   rw [f9] at h2 ⊢
   simp only [beq_iff_eq] at h2 ⊢
   omega
  ·rw [sS (fun c hc=>by have:=hl.head c hc;omega),sS (fun c hc=>by have:=hm.head c hc;omega)]
theorem sU {l:List Int} {a b:Int} (hl: ∀c∈l,c<a) (he:l.length % 2=0) (hab:a<b) (x:Int):lF (l++[a,b]) x= (lF l x||(decide (a<=x)&&decide (x<b))):=by
 rw [f9,dC,bE,bT,bT,sR,sR,va,lY,lY,Av]
 by_cases h1:a<=x
 ·have h2:zD l x=l.length:=Aw fun c hc=>by have:=hl c hc;omega
  rw [h2,aC h1]
  by_cases h3:b<=x
  ·rw [aC h3];omega
  ·rw [aF h3];omega
 ·rw [aF h1,aF (by omega)];omega
theorem CN {l:List Int} {s e a b:Int} (hl: ∀c∈l,c<s) (he:l.length % 2=0) (hs:s<e) (h1:s<=a) (h2:a<=e) (hab:a<b) (x:Int):lF (l++[s,max e b]) x= (lF (l++[s,e]) x||(decide (a<=x)&&decide (x<b))):=by
 rw [sU hl he (by omega),sU hl he hs]
 rw [f9]
 simp only [dC,bE,bT]
 constructor
 ·rintro(h | h)
  ·exact .inl (.inl h)
  ·by_cases hx:x<e
   ·exact .inl (.inr ⟨h.1,hx⟩)
   ·exact .inr ⟨by omega,by omega⟩
 ·rintro((h | h) | h)
  ·exact .inl h
  ·exact .inr ⟨h.1,by omega⟩
  ·exact .inr ⟨by omega,by omega⟩
theorem kX.snoc {l:List Int} {a b:Int} (h:kX l) (hl: ∀c∈l,c<a) (hab:a<b):kX (l++[a,b]):=by
 unfold kX
 rw [List.pairwise_append]
 refine⟨h,by simp [hab],fun c hc d hd=>?_⟩
 have:=hl c hc
 simp at hd
 rcases hd with rfl | rfl <;> omega
structure Bd where
 y0:Int
 y1:Int
 xs:List Int
def rowAt:List Bd->Int->List Int
 | [],_=>[]
 | b::s,y=>if b.y0<=y/\y<b.y1 then b.xs else rowAt s y
theorem kb (b:Bd) (s:List Bd) (y:Int):rowAt (b::s) y=if b.y0<=y/\y<b.y1 then b.xs else rowAt s y:=rfl
structure cW (s:List Bd):Prop where
 each: ∀b∈s,b.y0<b.y1/\b.xs≠[]/\kX b.xs/\b.xs.length % 2=0
 ord:s.Pairwise (fun b c=>b.y1<=c.y0/\(b.y1=c.y0->b.xs≠c.xs))
theorem cW.nil:cW []:=⟨fun b h=>by simp at h,kg⟩
theorem cW.tail {b:Bd} {s:List Bd} (h:cW (b::s)):cW s:=⟨fun c hc=>h.each c (jg _ hc),(List.pairwise_cons.1 h.ord).2⟩
theorem jv {s:List Bd} {y:Int} (h: ∀b∈s,y<b.y0\/b.y1<=y):rowAt s y= []:=by
 induction s with
 | nil=>rfl
 | cons b s ih=>
  unfold rowAt
  have:=h b (by simp)
  rw [aF (by omega)]
  exact ih fun c hc=>h c (jg _ hc)
theorem mq (s t:List Bd) (y:Int):rowAt (s++t) y=if (∃b∈s,b.y0<=y/\y<b.y1) then rowAt s y else rowAt t y:=by
 induction s with
 | nil=>simp
 | cons b s ih=>
  rw [List.cons_append,kb,kb]
  by_cases h:b.y0<=y/\y<b.y1
  ·rw [aC h,aC ⟨b,by simp,h⟩,aC h]
  ·rw [aF h,ih]
   by_cases h2: ∃c∈s,c.y0<=y/\y<c.y1
   ·obtain⟨c,hc,hc2⟩:=h2
    rw [aC ⟨c,hc,hc2⟩,aC ⟨c,jg _ hc,hc2⟩,aF h]
   ·rw [aF h2,aF (show ¬∃c∈b::s,c.y0<=y/\y<c.y1 from ?_)]
    rintro⟨c,hc,hc2⟩
    rcases eV.1 hc with rfl | hc
    ·exact h hc2
    ·exact h2 ⟨c,hc,hc2⟩
theorem cW.kc {b:Bd} {s:List Bd} {y:Int} (h0:b.y0<=y) (h1:y<b.y1):rowAt (b::s) y=b.xs:=by unfold rowAt;rw [aC ⟨h0,h1⟩]
theorem cW.ve {b:Bd} {s:List Bd} (h:cW (b::s)): ∀c∈s,b.y1<=c.y0:=fun c hc=>((List.pairwise_cons.1 h.ord).1 c hc).1
theorem cW.qH {b:Bd} {s:List Bd} (h:cW (b::s)) {y:Int} (hy:y<b.y0):rowAt (b::s) y= []:=jv fun c hc=>by
 rcases eV.1 hc with rfl | hc
 ·exact .inl hy
 ·have:=h.ve c hc;have:=(h.each b (by simp)).1;exact .inl (by omega)
theorem cW.Ax {b:Bd} {s:List Bd} (h:cW (b::s)):rowAt (b::s) b.y1≠b.xs:=by
 rw [kb,aF (by omega)]
 cases s with
 | nil=>exact fun e=>(h.each b (by simp)).2.1 e.symm
 | cons c s=>
  have h1:=(List.pairwise_cons.1 h.ord).1 c (by simp)
  by_cases e:b.y1=c.y0
  ·rw [cW.kc (by omega) (by have:=(h.tail.each c (by simp)).1;omega)]
   exact fun h=>h1.2 e h.symm
  ·rw [h.tail.qH (by have:=h1.1;omega)]
   exact fun e=>(h.each b (by simp)).2.1 e.symm
theorem vf: ∀{s t:List Bd},cW s->cW t->(∀y,rowAt s y=rowAt t y)->s=t
 | [],[],_,_,_=>rfl
 | [],c::t,_,ht,h=>by
  have hc:=ht.each c (by simp)
  have:=h c.y0
  rw [cW.kc (Int.le_refl _) hc.1] at this
  exact absurd this.symm hc.2.1
 | b::s,[],hs,_,h=>by
  have hb:=hs.each b (by simp)
  have:=h b.y0
  rw [cW.kc (Int.le_refl _) hb.1] at this
  exact absurd this hb.2.1
 | b::s,c::t,hs,ht,h=>by
  have hb:=hs.each b (by simp)
  have hc:=ht.each c (by simp)
  have e0:b.y0=c.y0:=by
   rcases Int.lt_trichotomy b.y0 c.y0 with h1 | h1 | h1
   ·have h2:=h b.y0
    rw [cW.kc (Int.le_refl _) hb.1,ht.qH h1] at h2
    exact absurd h2 hb.2.1
   ·exact h1
   ·have h2:=h c.y0
    rw [cW.kc (Int.le_refl _) hc.1,hs.qH h1] at h2
    exact absurd h2.symm hc.2.1
  have ex:b.xs=c.xs:=by
   have h2:=h b.y0
   rw [cW.kc (Int.le_refl _) hb.1,cW.kc (by omega) (by omega)] at h2
   exact h2
  have e1:b.y1=c.y1:=by
   rcases Int.lt_trichotomy b.y1 c.y1 with h1 | h1 | h1
   ·have h2:=h b.y1
    rw [cW.kc (b:=c) (by omega) h1] at h2
    exact absurd (h2.trans ex.symm) hs.Ax
   ·exact h1
   ·have h2:=h c.y1
    rw [cW.kc (b:=b) (by omega) h1] at h2
    exact absurd (h2.symm.trans ex) ht.Ax
  have ebc:b=c:=by cases b;cases c;simp_all
  subst ebc
  rw [vf hs.tail ht.tail (fun y=>?_)]
  by_cases hy:b.y1<=y
  ·have h2:=h y
   unfold rowAt at h2
   rw [aF (by omega),aF (by omega)] at h2
   exact h2
  ·rw [jv (fun d hd=>by have:=hs.ve d hd;exact .inl (by omega)),jv (fun d hd=>by have:=ht.ve d hd;exact .inl (by omega))]
def nC (s:List Bd) (x y:Int):Bool:=lF (rowAt s y) x
theorem wC {s:List Bd} (h: ∀b∈s,kX b.xs) (y:Int):kX (rowAt s y):=by
 induction s with
 | nil=>exact kg
 | cons b s ih=>
  unfold rowAt
  split
  ·exact h b (by simp)
  ·exact ih fun c hc=>h c (jg _ hc)
theorem vg {s t:List Bd} (hs:cW s) (ht:cW t) (h: ∀x y,nC s x y=nC t x y):s=t:=
 vf hs ht fun y=>vd (wC (fun b hb=>(hs.each b hb).2.2.1) y) (wC (fun b hb=>(ht.each b hb).2.2.1) y) fun x=>h x y
def kY (s:List Bd) (b:Bd):List Bd:=
 if b.xs= []\/b.y1<=b.y0 then s else
  match s.getLast? with
  | some c=>if c.y1=b.y0/\c.xs=b.xs then s.dropLast++[⟨c.y0,b.y1,c.xs⟩] else s++[b]
  | none=>[b]
theorem oY {α:Type} {s:List α} {c:α} (h:s.getLast? =some c):s=s.dropLast++[c]:=by
 have hne:s≠[]:=fun e=>by rw [e] at h;cases h
 rw [List.getLast?_eq_some_getLast hne] at h
 injection h with h
 rw [<-h];exact(List.dropLast_concat_getLast hne).symm
theorem tO {s:List Bd} {b:Bd} (hs: ∀c∈s,c.y1<=b.y0) (hg: ∀c∈s,c.y0<c.y1) (hb:b.y1<=b.y0->b.y1=b.y0) (y:Int):rowAt (kY s b) y=if b.y0<=y/\y<b.y1 then b.xs else rowAt s y:=by
 have key: ∀(s:List Bd) (c:Bd),(∀d∈s,d.y1<=c.y0)->rowAt (s++[c]) y=if c.y0<=y/\y<c.y1 then c.xs else rowAt s y:=by
  intro s c h
  rw [mq]
  by_cases h1:c.y0<=y/\y<c.y1
  ·rw [aC h1,aF (by rintro⟨d,hd,hd2⟩;have:=h d hd;omega),cW.kc h1.1 h1.2]
  ·rw [aF h1]
   by_cases h2: ∃d∈s,d.y0<=y/\y<d.y1
   ·rw [aC h2]
   ·rw [aF h2,kb,aF h1]
    refine(show rowAt [] y=_ from (jv (s:=s) fun d hd=>?_).symm)
    by_cases h3:d.y0<=y
    ·exact .inr (by have: ¬(d.y0<=y/\y<d.y1):=fun h4=>h2 ⟨d,hd,h4⟩;omega)
    ·exact .inl (by omega)
 unfold kY
 by_cases h0:b.xs= []\/b.y1<=b.y0
 ·rw [aC h0]
  by_cases h1:b.y0<=y/\y<b.y1
  ·rw [aC h1]
   rcases h0 with h0 | h0
   ·rw [h0];exact jv fun c hc=> .inr (by have:=hs c hc;omega)
   ·omega
  ·rw [aF h1]
 ·rw [aF h0]
  cases hl:s.getLast? with
  | none=>
   have:s= []:=by simpa using hl
   subst this
   rfl
  | some c=>
   dsimp only
   have hsp:=oY hl
   have hcm:c∈s:=by rw [hsp];simp
   by_cases h1:c.y1=b.y0/\c.xs=b.xs
   ·rw [aC h1]
    have hd: ∀d∈s.dropLast,d.y1<=c.y0\/True:=fun _ _=> .inr trivial
    rw [mq]
    have hrow:rowAt s y=if (∃d∈s.dropLast,d.y0<=y/\y<d.y1) then rowAt s.dropLast y else (if c.y0<=y/\y<c.y1 then c.xs else []):=by
     conv=>lhs;rw [hsp]
     rw [mq];rfl
    rw [hrow]
    have hcg:=hg c hcm
    by_cases h2: ∃d∈s.dropLast,d.y0<=y/\y<d.y1
    ·obtain⟨d,hd,hd2⟩:=h2
     have:=hs d (List.dropLast_subset _ hd)
     have he: ∃d∈s.dropLast,d.y0<=y/\y<d.y1:=⟨d,hd,hd2⟩
     rw [aC he,aC he,aF (by omega)]
    ·rw [aF h2,aF h2]
     show (if c.y0<=y/\y<b.y1 then c.xs else [])=_
     by_cases h3:b.y0<=y/\y<b.y1
     ·rw [aC h3,aC ⟨by omega,h3.2⟩,h1.2]
     ·rw [aF h3]
      by_cases h4:c.y0<=y/\y<c.y1
      ·rw [aC h4,aC ⟨h4.1,by omega⟩]
      ·rw [aF h4,aF (by omega)]
   ·rw [aF h1]
    exact key s b hs
theorem tP {s:List Bd} {b:Bd} (h:cW s) (hs: ∀c∈s,c.y1<=b.y0) (hb:kX b.xs) (he:b.xs.length % 2=0):cW (kY s b):=by
 unfold kY
 by_cases h0:b.xs= []\/b.y1<=b.y0
 ·rw [aC h0];exact h
 ·rw [aF h0]
  have hbg:b.y0<b.y1/\b.xs≠[]/\kX b.xs/\b.xs.length % 2=0:=⟨by omega,fun e=>h0 (.inl e),hb,he⟩
  cases hl:s.getLast? with
  | none=>exact⟨fun c hc=>by simp at hc;subst hc;exact hbg,List.pairwise_singleton _ _⟩
  | some c=>
   dsimp only
   have hsp:=oY hl
   have hcm:c∈s:=by rw [hsp];simp
   have hc:=h.each c hcm
   have hord:=h.ord
   rw [hsp,List.pairwise_append] at hord
   by_cases h1:c.y1=b.y0/\c.xs=b.xs
   ·rw [aC h1]
    refine⟨fun d hd=>?_,?_⟩
    ·rcases cP.1 hd with hd | hd
     ·exact h.each d (List.dropLast_subset _ hd)
     ·simp at hd;subst hd;exact⟨by show c.y0<b.y1;omega,hc.2⟩
    ·rw [List.pairwise_append]
     refine⟨hord.1,List.pairwise_singleton _ _,fun d hd e he=>?_⟩
     simp at he;subst he
     exact hord.2.2 d hd c (by simp)
   ·rw [aF h1]
    refine⟨fun d hd=>?_,?_⟩
    ·rcases cP.1 hd with hd | hd
     ·exact h.each d hd
     ·simp at hd;subst hd;exact hbg
    ·rw [List.pairwise_append]
     refine⟨h.ord,List.pairwise_singleton _ _,fun d hd e he=>?_⟩
     simp at he;subst he
     refine⟨hs d hd,fun e1 e2=>?_⟩
     rw [hsp] at hd
     rcases cP.1 hd with hd | hd
     ·have h2:=(hord.2.2 d hd c (by simp)).1
      have:=hs c hcm
      omega
     ·simp at hd;subst hd;exact h1 ⟨e1,e2⟩
theorem tQ {s:List Bd} {b:Bd} (hs: ∀c∈s,c.y1<=b.y0) (hb:b.y0<=b.y1): ∀c∈kY s b,c.y1<=b.y1:=by
 intro c hc
 unfold kY at hc
 split at hc
 ·have:=hs c hc;omega
 ·split at hc
  ·split at hc
   ·rcases cP.1 hc with hc | hc
    ·have:=hs c (List.dropLast_subset _ hc);omega
    ·simp at hc;subst hc;exact Int.le_refl _
   ·rcases cP.1 hc with hc | hc
    ·have:=hs c hc;omega
    ·simp at hc;subst hc;exact Int.le_refl _
  ·simp at hc;subst hc;exact Int.le_refl _
end Go.Gk
namespace Go.Gk
open Go
section
variable {N:Nat}
def aW (b:aA):Bd:=⟨b.Y0,b.Y1,b.Xs⟩
def small (a:Int):Prop:= -1099511627776<=a/\a<=1099511627776
structure xv (r:aG):Prop where
 x:r.X0<r.X1
 y:r.Y0<r.Y1
 s1:small r.X0
 s2:small r.X1
 s3:small r.Y0
 s4:small r.Y1
def zF (l:List aG) (x:Int):Bool:=l.any (fun r=>decide (r.X0<=x)&&decide (x<r.X1))
def kz (l:List aG) (x y:Int):Bool:=l.any (fun r=>(decide (r.X0<=x)&&decide (x<r.X1))&&(decide (r.Y0<=y)&&decide (y<r.Y1)))
theorem vh {l:List aG} {x:Int}:zF l x=true↔∃r∈l,r.X0<=x/\x<r.X1:=by unfold zF;simp [jh]
theorem fF {l:List aG} {x y:Int}:kz l x y=true↔∃r∈l,(r.X0<=x/\x<r.X1)/\r.Y0<=y/\y<r.Y1:=by unfold kz;simp [jh]
theorem wrap_small {a b:Int} (ha:small a) (hb:small b):IntKind.wrap .i64 (a - b)=a - b:=by unfold small at *;exact eH (by omega) (by omega)
theorem yE {n:Nat} (h:0<n) (hn:n<=4611686018427387904):IntKind.wrap .i64 (((n:Nat):Int) - 1)= ((n - 1:Nat):Int):=lI h hn
structure H7 (out:List Int) (m:List aG) (k:Nat):Prop where
 row: (k=0/\out= [])\/∃A s e,out=A++[s,e]/\kX A/\(∀c∈A,c<s)/\A.length % 2=0/\s<e/\∃j r,j<k/\m[j]? =some r/\s=r.X0
 lF: ∀x,lF out x=zF (m.take k) x
 len:out.length<=2*k
 mem: ∀c∈out,∃r∈m,c=r.X0\/c=r.X1
theorem tR (l:List aG) (r:aG) (x:Int):zF (l++[r]) x= (zF l x||(decide (r.X0<=x)&&decide (x<r.X1))):=by unfold zF;rw [List.any_append];simp
theorem xw {l:List aG} (hl:l.length<=268435456) (hok: ∀r∈l,xv r): ∃row l',gC N l=some (row,l')/\l'.Perm l/\kX row/\row.length % 2=0/\(∀x,lF row x=zF l x)/\row.length<=2*l.length/\∀c∈row,∃r∈l,c=r.X0\/c=r.X1:=by
 unfold gC
 obtain⟨m,h1,h2,h3⟩:=u9 (φ:=eZ N) (l:=l) (fun a b=>a.X0 - b.X0) (fun a ha b hb=>by
  unfold eZ;rw [wrap_small (hok a ha).s1 (hok b hb).s1]) (fun a _=>by omega) (fun a _ b _ c _ h1 h2=>by omega) (fun a _ b _ c _ h1 h2=>by omega) (by omega)
 have hml:m.length=l.length:=h2.length_eq
 have hmok: ∀r∈m,xv r:=fun r hr=>hok r (h2.subset hr)
 rw [h1,aB]
 obtain⟨out,a1,a2⟩:=uC (m:=m.length) (s:=([]:List Int)) (body:=fun(k32:Nat) (s33: (List Int))=>((idx m (k32:Int)).bind fun x79=>(bif (decide ((IntKind.wrap .i64 ((s33.length:Int) - 1))>=0)) then ((idx s33 (IntKind.wrap .i64 ((s33.length:Int) - 1))).bind fun x86=>some (decide (x79.X0<=x86))) else (some false)).bind fun s84=>(bif s84 then ((idx s33 (IntKind.wrap .i64 ((s33.length:Int) - 1))).bind fun x94=>(idx s33 (IntKind.wrap .i64 ((s33.length:Int) - 1))).bind fun x95=>some (s33.set (Int.toNat (IntKind.wrap .i64 ((s33.length:Int) - 1))) (if x94<x79.X1 then x79.X1 else x94))) else ((app 8 s33 ([x79.X0,x79.X1]: (List Int))).bind fun x97=>some x97)).bind fun s92=>some s92:Option ((List Int))))
  (fun k out=>H7 out m k) (by omega) ⟨.inl ⟨rfl,rfl⟩,fun x=>rfl,by simp,fun c hc=>by cases hc⟩ (fun k out hk ⟨i1,i2,i3,i4⟩=>by
   have hx:m[k]? =some m[k]:=aL hk
   have hr:=hmok _ (cT hk)
   rw [iL hx,aB]
   have hts:m.take (k+1)=m.take k++[m[k]]:=gh hk
   rcases i1 with ⟨rfl,rfl⟩ | ⟨A,s,e,rfl,hA,hAs,hAe,hse,j,r,hj,hjr,hsr⟩
   ·rw [show decide (IntKind.wrap .i64 (((([]:List Int).length:Nat):Int) - 1)>=0)=false by decide,bA,aB,bA,gr (by simp),aB,aB]
    refine⟨_,rfl, .inr ⟨[],_,_,rfl,kg,fun c hc=>by simp at hc,rfl,hr.x,0,m[0],by omega,hx,rfl⟩,fun x=>?_,by simp,fun c hc=>⟨m[0],cT hk,by simpa using hc⟩⟩
    rw [hts,tR,<-i2 x]
    exact sU (l:=[]) (fun c hc=>by simp at hc) rfl hr.x x
   ·have hlen: (A++[s,e]).length=A.length+2:=by simp
    have hwp:IntKind.wrap .i64 ((((A++[s,e]).length:Nat):Int) - 1)= ((A.length+1:Nat):Int):=by rw [yE (by omega) (by omega),hlen];rfl
    have hlast: (A++[s,e])[A.length+1]? =some e:=by rw [eM (by omega)];simp
    have hs:s<=m[k].X0:=by
     have:=kL.1 h3 j k (by have:=(aT.1 hjr).1;omega) hk hj
     rw [hsr,<-(aT.1 hjr).2];omega
    rw [hwp,cJ (by omega),aV,iL hlast,aB,aB]
    by_cases hc:m[k].X0<=e
    ·rw [cJ hc,aV,aB,aB,aB,bR]
     have kR: (A++[s,e]).set (A.length+1) (if e<m[k].X1 then m[k].X1 else e)=A++[s,max e m[k].X1]:=by
      rw [List.set_append_right _ _ (by omega)]
      have:A.length+1 - A.length=1:=by omega
      rw [this,Int.max_def]
      simp only [List.set_cons_succ,List.set_cons_zero]
      congr 2
      split <;> split <;> simp <;> omega
     rw [kR]
     refine⟨_,rfl, .inr ⟨A,s,_,rfl,hA,hAs,hAe,by omega,j,r,by omega,hjr,hsr⟩,fun x=>?_,by simp at i3 ⊢;omega,fun c hc=>by
      rcases cP.1 hc with h | h
      ·exact i4 c (List.mem_append_left _ h)
      ·simp at h
       rcases h with h | h
       ·exact i4 c (by simp [h])
       ·rw [Int.max_def] at h
        split at h
        ·exact⟨_,cT hk, .inr h⟩
        ·exact i4 c (by simp [h])⟩
     rw [hts,tR,<-i2 x]
     exact CN hAs hAe hse hs hc hr.x x
    ·rw [bU hc,bA,gr (by rw [hlen];simp;omega),aB,aB]
     have hall: ∀c∈A++[s,e],c<m[k].X0:=fun c hc'=>by
      rcases cP.1 hc' with h | h
      ·have:=hAs c h;omega
      ·simp at h;omega
     refine⟨_,rfl, .inr ⟨A++[s,e],_,_,rfl,hA.snoc hAs hse,hall,by rw [hlen];omega,hr.x,k,m[k],by omega,hx,rfl⟩,fun x=>?_,by simp at i3 ⊢;omega,fun c hc=>by
      rcases cP.1 hc with h | h
      ·exact i4 c h
      ·exact⟨m[k],cT hk,by simpa using h⟩⟩
     rw [hts,tR,<-i2 x]
     exact sU hall (by rw [hlen];omega) hr.x x)
 rw [a1,aB]
 refine⟨out,m,rfl,h2,?_,?_,fun x=>?_,by rw [<-hml];exact a2.len,fun c hc=>by obtain⟨r,hr,h⟩:=a2.mem c hc;exact⟨r,h2.subset hr,h⟩⟩
 ·rcases a2.row with ⟨_,h⟩ | ⟨A,s,e,rfl,hA,hAs,hAe,hse,_⟩
  ·rw [h];exact kg
  ·exact hA.snoc hAs hse
 ·rcases a2.row with ⟨_,h⟩ | ⟨A,s,e,rfl,hA,hAs,hAe,hse,_⟩
  ·rw [h];rfl
  ·simp;omega
 ·rw [a2.lF x,gv,f9,vh,vh]
  constructor
  ·rintro⟨r,hr,h⟩;exact⟨r,h2.subset hr,h⟩
  ·rintro⟨r,hr,h⟩;exact⟨r,h2.symm.subset hr,h⟩
theorem Bt {l m:List Int} (hl:l.length<=4611686018427387904):km N l m=some (decide (l=m)):=wz hl
theorem Ay {s:List aA} {b:aA} (hs:s.length<=1048576000) (hx: ∀c∈s,c.Xs.length<=1048576000): ∃s',gl N s b=some s'/\s'.map aW=kY (s.map aW) (aW b):=by
 unfold gl kY
 by_cases h0:b.Xs= []\/b.Y1<=b.Y0
 ·have e: ((((b.Xs.length:Nat):Int)==0)||(decide (b.Y1<=b.Y0)))=true:=by
   rw [dC]
   rcases h0 with h | h
   ·left;rw [h];rfl
   ·right;exact cJ h
  rw [e,aV,aC (show (aW b).xs= []\/(aW b).y1<=(aW b).y0 from h0)]
  exact⟨s,rfl,rfl⟩
 ·have e: ((((b.Xs.length:Nat):Int)==0)||(decide (b.Y1<=b.Y0)))=false:=by
   rw [Bool.or_eq_false_iff]
   constructor
   ·rw [beq_eq_false_iff_ne];intro h;exact h0 (.inl (List.eq_nil_of_length_eq_zero (by omega)))
   ·exact bU fun h=>h0 (.inr h)
  rw [e,bA,aF (show ¬((aW b).xs= []\/(aW b).y1<=(aW b).y0) from h0)]
  rcases List.eq_nil_or_concat s with rfl | ⟨A,c,hA⟩
  ·rw [show decide (IntKind.wrap .i64 (((([]:List aA).length:Nat):Int) - 1)>=0)=false by decide,bA,aB,bA,gr (by simp),aB]
   exact⟨_,rfl,rfl⟩
  ·rw [List.concat_eq_append] at hA
   subst hA
   have hlen: (A++[c]).length=A.length+1:=by simp
   have hwp:IntKind.wrap .i64 ((((A++[c]).length:Nat):Int) - 1)= ((A.length:Nat):Int):=by rw [yE (by omega) (by omega),hlen];rfl
   have hlast: (A++[c])[A.length]? =some c:=by simp
   rw [hwp,cJ (by omega),aV,iL hlast,aB,aB,Bt (by have:=hx c (by simp);omega),aB,aB,bR,gr (by rw [hlen];simp;omega),aB]
   have hl2: ((A++[c]).map aW).getLast? =some (aW c):=by simp
   have hd2: ((A++[c]).map aW).dropLast=A.map aW:=by simp
   rw [hl2,hd2]
   dsimp only
   by_cases h1:c.Y1=b.Y0/\c.Xs=b.Xs
   ·rw [aC (show (aW c).y1= (aW b).y0/\(aW c).xs= (aW b).xs from h1),show (c.Y1==b.Y0)=true by rw [h1.1];simp,aV,cJ h1.2,aB,aV]
    refine⟨_,rfl,?_⟩
    rw [List.set_append_right _ _ (bJ _),Nat.sub_self]
    simp [aW]
   ·rw [aF (show ¬((aW c).y1= (aW b).y0/\(aW c).xs= (aW b).xs) from h1)]
    have e2: (bif (c.Y1==b.Y0) then (some (decide (c.Xs=b.Xs))) else (some false))=some false:=by
     by_cases h2:c.Y1=b.Y0
     ·rw [show (c.Y1==b.Y0)=true by rw [h2];simp,aV,bU (fun h=>h1 ⟨h2,h⟩)]
     ·rw [show (c.Y1==b.Y0)=false by simpa using h2,bA]
    rw [e2,aB,bA]
    exact⟨_,rfl,by simp⟩
end
end Go.Gk
namespace Go.Gk
open Go
def nD (l:List (Int×Int)):List Int:=l.flatMap fun s=>[s.1,s.2]
def Bu (l:List (Int×Int)) (x:Int):Bool:=l.any fun s=>decide (s.1<=x)&&decide (x<s.2)
theorem lJ (s:Int×Int) (l:List (Int×Int)):nD (s::l)=s.1::s.2::nD l:=rfl
theorem Bv (l:List (Int×Int)): (nD l).length=2*l.length:=by
 induction l with
 | nil=>rfl
 | cons s l ih=>rw [lJ,kK,kK,kK,ih];omega
theorem Bw (s:Int×Int) (l:List (Int×Int)) (x:Int):Bu (s::l) x= ((decide (s.1<=x)&&decide (x<s.2))||Bu l x):=rfl
theorem vj {l:List (Int×Int)} {x:Int}:Bu l x=true↔∃s∈l,s.1<=x/\x<s.2:=by
 unfold Bu;simp
theorem Bx {a b:Int} {m:List Int} (h:kX (a::b::m)) (x:Int):lF (a::b::m) x= ((decide (a<=x)&&decide (x<b))||lF m x):=by
 have hab:a<b:=h.head b (by simp)
 have hm:=h.tail.head
 rw [f9,dC,bE,bT,bT,sR,sR,lY,lY]
 by_cases h1:a<=x
 ·rw [aC h1]
  by_cases h2:b<=x
  ·rw [aC h2];omega
  ·rw [aF h2,vc (fun c hc=>by have:=hm c hc;omega)];omega
 ·rw [aF h1,aF (by omega)];omega
theorem sV: ∀{l:List (Int×Int)},kX (nD l)->∀x,lF (nD l) x=Bu l x
 | [],_,x=>rfl
 | s::l,h,x=>by
  rw [lJ] at h ⊢
  rw [Bx h,Bw,sV h.tail.tail]
end Go.Gk
namespace Go.Gk
open Go
end Go.Gk
namespace Go.Gk
open Go
def Ok {β:Type} (o:Option β) (P:β->Prop):Prop:=∃r,o=some r/\P r
section
variable {α β S R:Type} {P:α->Prop} {Q:β->Prop}
theorem Ok.ret {x:β} (h:Q x):Ok (some x) Q:=⟨x,rfl,h⟩
theorem Ok.of {o:Option β} {x:β} (h:o=some x) (hq:Q x):Ok o Q:=⟨x,h,hq⟩
theorem Ok.mono {o:Option α} {P':α->Prop} (h:Ok o P) (k: ∀x,P x->P' x):Ok o P':=by obtain⟨x,h1,h2⟩:=h;exact⟨x,h1,k x h2⟩
theorem Ok.bind {o:Option α} {f:α->Option β} (h:Ok o P) (k: ∀x,P x->Ok (f x) Q):Ok (o.bind f) Q:=by
 obtain⟨x,h1,h2⟩:=h;rw [h1];exact k x h2
theorem Ok.eq {o:Option α} {f:α->Option β} {x:α} (h:o=some x) (k:Ok (f x) Q):Ok (o.bind f) Q:=by rw [h];exact k
theorem Ok.bif {b:Bool} {x y:Option β} (ht:b=true->Ok x Q) (hf:b=false->Ok y Q):Ok (bif b then x else y) Q:=by
 cases b with
 | true=>exact ht rfl
 | false=>exact hf rfl
theorem Ok.get {o:Option β} {x:β} (h:Ok o (fun r=>r=x)):o=some x:=by obtain⟨r,h1,h2⟩:=h;rw [h1,h2]
def Gx (Go:S->Prop) (Rt:R->Prop):Fo S R->Prop | .go s=>Go s | .rt r=>Rt r
def En (Nx Br:S->Prop) (Rt:R->Prop):Fl S R->Prop | .nx s=>Nx s | .br s=>Br s | .rt r=>Rt r
theorem Ok.nx {Nx Br:S->Prop} {Rt:R->Prop} {s:S} (h:Nx s):Ok (some (Fl.nx s)) (En Nx Br Rt):=⟨_,rfl,h⟩
theorem Ok.br {Nx Br:S->Prop} {Rt:R->Prop} {s:S} (h:Br s):Ok (some (Fl.br s)) (En Nx Br Rt):=⟨_,rfl,h⟩
theorem Ok.rt {Nx Br:S->Prop} {Rt:R->Prop} {r:R} (h:Rt r):Ok (some (Fl.rt r:Fl S R)) (En Nx Br Rt):=⟨_,rfl,h⟩
theorem Ok.cs {Go:S->Prop} {Rt:R->Prop} {o:Fo S R} {f:S->Option β} {g:R->Option β} (h:Gx Go Rt o) (hf: ∀s,Go s->Ok (f s) Q) (hg: ∀r,Rt r->Ok (g r) Q):Ok (o.cs f g) Q:=by
 cases o with
 | go s=>exact hf s h
 | rt r=>exact hg r h
theorem Ok.kM {body:Nat->S->Option S} {m:Nat} {s:S} (Inv:Nat->S->Prop) (hm:m<=4611686018427387904) (h0:Inv 0 s) (h: ∀k s,k<m->Inv k s->Ok (body k s) (Inv (k+1))):Ok (kM m body s) (Inv m):=
 uC Inv hm h0 h
theorem Ok.qR {body:Nat->S->Option (Fl S R)} {m:Nat} {s:S} (Inv:Nat->S->Prop) {Go:S->Prop} {Rt:R->Prop} (hm:m<=4611686018427387904) (h0:Inv 0 s)
  (h: ∀k s,k<m->Inv k s->Ok (body k s) (En (Inv (k+1)) Go Rt)) (hg: ∀s,Inv m s->Go s):Ok (qR m body s) (Gx Go Rt):=by
 obtain⟨o,h1,h2⟩:=DS (R:=R) Inv Go Rt hm h0 (fun k s hk hi=>by
  obtain⟨fl,a1,a2⟩:=h k s hk hi
  exact⟨fl,a1,by cases fl <;> exact a2⟩) hg
 exact⟨o,h1,by cases o <;> exact h2⟩
theorem Ok.mC {body:S->Option (Fl S R)} {N:Nat} {s:S} (Inv:S->Prop) (μ:S->Nat) {Go:S->Prop} {Rt:R->Prop}
  (h: ∀s,Inv s->Ok (body s) (En (fun s'=>Inv s'/\μ s'<μ s) Go Rt)) (hi:Inv s) (hn:μ s<N):Ok (mC body N s) (Gx Go Rt):=by
 obtain⟨o,h1,h2⟩:=sG (R:=R) Inv μ Go Rt (fun s hi=>by
  obtain⟨fl,a1,a2⟩:=h s hi
  exact⟨fl,a1,by cases fl <;> exact a2⟩) N s hi hn
 exact⟨o,h1,by cases o <;> exact h2⟩
theorem Ok.app {b:Nat} {l ys:List α} {f:List α->Option β} (h: (l.length+ys.length)*b<=140737488355328) (k:Ok (f (l++ys)) Q):Ok ((Go.Gk.app b l ys).bind f) Q:=by rw [gr h];exact k
theorem Ok.idx {l:List α} {i:Nat} {f:α->Option β} (h:i<l.length) (k:Ok (f l[i]) Q):Ok ((Go.Gk.idx l ((i:Nat):Int)).bind f) Q:=by rw [iR l i h];exact k
theorem Ok.ix {l:List α} {i:Nat} {x:α} {f:α->Option β} (h:l[i]? =some x) (k:Ok (f x) Q):Ok ((Go.Gk.idx l ((i:Nat):Int)).bind f) Q:=by rw [iL h];exact k
end
theorem yF {n:Nat} (h:n<=4611686018427387904):IntKind.wrap .i64 ((n:Nat):Int)= ((n:Nat):Int):=eH (by omega) (by omega)
theorem wrap_add {n m:Nat} (h:n+m<=4611686018427387904):IntKind.wrap .i64 (((n:Nat):Int)+ ((m:Nat):Int))= ((n+m:Nat):Int):=by rw [eH (by omega) (by omega)];simp
theorem gW {n:Nat} (h:n+1<=4611686018427387904):IntKind.wrap .i64 (((n:Nat):Int)+1)= ((n+1:Nat):Int):=by rw [eH (by omega) (by omega)];simp
theorem wD {n:Nat} (h:n+2<=4611686018427387904):IntKind.wrap .i64 (((n:Nat):Int)+2)= ((n+2:Nat):Int):=by rw [eH (by omega) (by omega)];simp
theorem dT {α:Type} [DecidableEq α]: ∀{l m:List α},l.Nodup->(∀x∈l,x∈m)->l.length<=m.length
 | [],m,_,_=>ni _
 | a::l,m,hn,hs=>by
  have ha:a∈m:=hs a (by simp)
  have hn':=List.nodup_cons.1 hn
  have:=dT (l:=l) (m:=m.erase a) hn'.2 (fun x hx=>by
   rw [List.mem_erase_of_ne (fun e=>hn'.1 (by rw [<-e];exact hx))]
   exact hs x (jg _ hx))
  rw [List.length_erase_of_mem ha] at this
  have:=List.length_pos_of_mem ha
  simp;omega
section
variable {α:Type} {N:Nat}
def Gy (z:α) (N:Nat) (p0:List α) (p1:α->Option Bool):Option (List α):=
 (oU p0 p1).bind fun x31=>bif (x31==(-1)) then (some p0) else ((mC (fun(s33: (List α)×Int×Int)=>(bif (decide (s33.2.2< (s33.1.length:Int))) then ((idx s33.1 s33.2.2).bind fun x54=>(p1 x54).bind fun x58=>(bif (!x58) then ((idx s33.1 s33.2.1).bind fun x63=>some ((s33.1.set (Int.toNat s33.2.1) x54),(IntKind.wrap .i64 (s33.2.1+1)))) else (some (s33.1,s33.2.1))).bind fun s61=>some (.nx (s61.1,s61.2,(IntKind.wrap .i64 (s33.2.2+1))))) else (some (.br (s33.1,s33.2.1,s33.2.2))):Option (Fl ((List α)×Int×Int) Empty))) N (p0,x31,(IntKind.wrap .i64 (x31+1)))).bind fun o67=>o67.cs (fun(s33: (List α)×Int×Int)=>(r7 s33.1 s33.2.1 (s33.1.length:Int)).bind fun x64=>(r7 (s33.1.take (Int.toNat s33.2.1)++List.replicate (s33.1.length - Int.toNat s33.2.1) z) 0 s33.2.1).bind fun x65=>some x65) (fun r=>r.elim))
theorem CO {z:α} {l:List α} {φ:α->Option Bool} (p:α->Bool) (hφ: ∀x∈l,φ x=some (p x)) (hl:l.length<=4611686018427387000) (hN:l.length<N):Gy z N l φ=some (l.filter (fun x=> !p x)):=by
 unfold Gy
 rw [rl p (by omega) hφ,aB]
 rcases qG l p with ⟨h1,h2⟩ | ⟨k,x,h1,h2,h3,h4⟩
 ·rw [h1]
  have:l.filter (fun x=> !p x)=l:=List.filter_eq_self.2 fun a ha=>by rw [h2 a ha];rfl
  rw [this];rfl
 ·rw [h1,show (((k:Nat):Int)== -1)=false by simp,bA]
  have hk:=(aT.1 h2).1
  have hpre: (l.take k).filter (fun x=> !p x)=l.take k:=List.filter_eq_self.2 fun a ha=>by
   obtain⟨j,hj⟩:=eG ha
   have hjk:j<k:=by have:=(aT.1 hj).1;rw [cS] at this;omega
   rw [List.getElem?_take_of_lt hjk] at hj
   rw [h4 j a hjk hj];rfl
  have hst:l.take (k+1)=l.take k++[x]:=by
   rw [gh hk];congr 1
   have:=(aT.1 h2).2;rw [this]
  have hk1:IntKind.wrap .i64 (((k:Nat):Int)+1)= ((k+1:Nat):Int):=by rw [eH (by omega) (by omega)];omega
  rw [hk1]
  obtain⟨o,a1,a2⟩:=sG (S:=(List α)×Int×Int) (R:=Empty) (body:=fun(s33: (List α)×Int×Int)=>(bif (decide (s33.2.2< (s33.1.length:Int))) then ((idx s33.1 s33.2.2).bind fun x54=>(φ x54).bind fun x58=>(bif (!x58) then ((idx s33.1 s33.2.1).bind fun x63=>some ((s33.1.set (Int.toNat s33.2.1) x54),(IntKind.wrap .i64 (s33.2.1+1)))) else (some (s33.1,s33.2.1))).bind fun s61=>some (.nx (s61.1,s61.2,(IntKind.wrap .i64 (s33.2.2+1))))) else (some (.br (s33.1,s33.2.1,s33.2.2))):Option (Fl ((List α)×Int×Int) Empty)))
   (fun s=>∃i j:Nat,s.2.1= ((i:Nat):Int)/\s.2.2= ((j:Nat):Int)/\i<j/\j<=l.length/\s.1.length=l.length/\s.1.take i= (l.take j).filter (fun x=> !p x)/\∀m,j<=m->s.1[m]? =l[m]?)
   (fun s=>l.length - s.2.2.toNat) (fun s=>∃i:Nat,s.2.1= ((i:Nat):Int)/\i<=l.length/\s.1.length=l.length/\s.1.take i=l.filter (fun x=> !p x)) (fun _=>True) (fun s ⟨i,j,e1,e2,hij,hj,hlen,ht,hd⟩=>by
    obtain⟨s,a,b⟩:=s
    dsimp only at e1 e2 hlen ht hd ⊢
    subst e1;subst e2
    by_cases hlt:j<l.length
    ·rw [cJ (by rw [hlen];omega),aV]
     have hx:s[j]? =some l[j]:=by rw [hd j (bJ _)];exact aL hlt
     have w1:IntKind.wrap .i64 (((j:Nat):Int)+1)= ((j+1:Nat):Int):=by rw [eH (by omega) (by omega)];omega
     have w2:IntKind.wrap .i64 (((i:Nat):Int)+1)= ((i+1:Nat):Int):=by rw [eH (by omega) (by omega)];omega
     have hs2:l.take (j+1)=l.take j++[l[j]]:=gh hlt
     rw [iL hx,aB,hφ _ (cT hlt),aB,w1]
     cases hp:p l[j] with
     | true=>
      refine⟨.nx (s,((i:Nat):Int),((j+1:Nat):Int)),by rw [nj,bA,aB],⟨i,j+1,rfl,rfl,by omega,by omega,hlen,?_,fun m hm=>hd m (by omega)⟩,?_⟩
      ·rw [hs2,iP,ht];simp [hp]
      ·simp only [bR];omega
     | false=>
      refine⟨.nx (s.set i l[j],((i+1:Nat):Int),((j+1:Nat):Int)),by rw [qy,aV,iR _ _ (by omega),aB,bR,w2,aB],⟨i+1,j+1,rfl,rfl,by omega,by omega,by simp [hlen],?_,fun m hm=>?_⟩,?_⟩
      ·rw [hs2,iP,<-ht]
       have: (s.set i l[j]).take (i+1)=s.take i++[l[j]]:=by
        rw [gh (by simp;omega),List.take_set_of_le (bJ _)];simp
       rw [this];simp [hp]
      ·rw [eE,aF (by omega)];exact hd m (by omega)
      ·simp only [bR];omega
    ·rw [bU (by rw [hlen];omega),bA]
     have hje:j=l.length:=by omega
     subst hje
     rw [gv] at ht
     exact⟨.br (s,((i:Nat):Int),((l.length:Nat):Int)),rfl,i,rfl,by omega,hlen,ht⟩)
   N (l,((k:Nat):Int),((k+1:Nat):Int)) ⟨k,k+1,rfl,rfl,by omega,by omega,rfl,by rw [hst,iP,hpre];simp [h3],fun _ _=>rfl⟩ (by simp only [bR];omega)
  rw [a1,aB]
  cases o with
  | rt r=>exact r.elim
  | go s=>
   obtain⟨i,e1,hi,hlen,ht⟩:=a2
   obtain⟨s,a,b⟩:=s
   dsimp only at e1 hlen ht
   subst e1
   simp only [Fo.cs]
   rw [sI _ _ (by omega),aB,bR,sH _ _ (by simp;omega),aB,List.take_append_of_le_length (by simp;omega),List.take_take,Nat.min_self,ht]
end
section
variable {κ ν:Type} [DecidableEq κ]
theorem tS (m:List (κ×ν)) (k k':κ) (x z:ν):fT (qS m k x) k' z=if k'=k then x else fT m k' z:=by
 induction m with
 | nil=>unfold qS fT;by_cases h:k'=k <;> simp [h]
 | cons p m ih=>
  unfold qS
  by_cases h:k=p.1
  ·rw [aC h]
   by_cases h':k'=k
   ·subst h';simp [fT]
   ·simp only [fT,List.find?_cons,aF h',bU h']
    rw [bU (fun e=>h' (e.trans h.symm))]
  ·rw [aF h]
   by_cases h':k'=p.1
   ·have:k'≠k:=fun e=>h (e.symm.trans h')
    simp only [fT,List.find?_cons,cJ h',aF this]
   ·unfold fT at ih ⊢
    simp only [List.find?_cons,bU h']
    exact ih
theorem Bz (m:List (κ×ν)) (k k':κ) (x:ν):mY (qS m k x) k'= (decide (k'=k)||mY m k'):=by
 induction m with
 | nil=>unfold qS mY;simp
 | cons p m ih=>
  unfold qS
  by_cases h:k=p.1
  ·rw [aC h]
   by_cases h':k'=k
   ·simp [mY,h']
   ·simp only [mY,List.any_cons,bU h',Bool.false_or]
    rw [bU (fun e=>h' (e.trans h.symm)),Bool.false_or]
  ·rw [aF h]
   unfold mY at ih ⊢
   simp only [List.any_cons]
   rw [ih]
   cases decide (k'=p.1) <;> cases decide (k'=k) <;> simp
end
end Go.Gk
namespace Go.Gk
open Go
section
variable {N:Nat}
theorem vk (l:List Int) (a b:Nat) (h:a+b<l.length):zg l ((a:Nat):Int) ((b:Nat):Int)=some l[a+b]:=by
 unfold zg
 rw [aC (by omega),show ((a:Nat):Int)+ ((b:Nat):Int)= ((a+b:Nat):Int) by omega,iR _ _ h]
theorem kX.CP {l:List Int} {a:Int} (h:kX l) (hl: ∀c∈l,c<a):kX (l++[a]):=by
 unfold kX
 rw [List.pairwise_append]
 exact⟨h,List.pairwise_singleton _ _,fun c hc d hd=>by simp at hd;subst hd;exact hl c hc⟩
theorem kX.last {l:List Int} {a:Int} (h:kX l) (hl:l.getLast? =some a): ∀c∈l,c<=a:=by
 intro c hc
 have hs:=oY hl
 rw [hs] at h hc
 rcases cP.1 hc with h1 | h1
 ·have:=(List.pairwise_append.1 h).2.2 c h1 a (by simp);omega
 ·simp at h1;omega
theorem xx {l:List Int} (hs:l.Pairwise (fun x y=>x<=y)) (hl:l.length<=4611686018427387000) (hN:l.length<N):
  Ok (eY N l) (fun m=>kX m/\∀c,c∈m↔c∈l):=by
 unfold eY
 refine Ok.bif (fun h2=>Ok.ret ⟨?_,fun c=>Iff.rfl⟩) (fun h2=>?_)
 ·have h2:=of_decide_eq_true h2
  match l,h2 with
  | [],_=>exact kg
  | [a],_=>exact List.pairwise_singleton _ _
  | a::b::l,h2=>simp at h2;omega
 ·have h2:=of_decide_eq_false h2
  have le: ∀(i j:Nat) (x y:Int),i<j->l[i]? =some x->l[j]? =some y->x<=y:=fun i j x y hij hx hy=>by
   have:=kL.1 hs i j (aT.1 hx).1 (aT.1 hy).1 hij
   rw [(aT.1 hx).2,(aT.1 hy).2] at this;exact this
  refine Ok.bind (Ok.mC (Go:=fun _=>kX l) (Rt:=fun m=>kX m/\∀c,c∈m↔c∈l) (fun s=>∃k:Nat,s= ((k:Nat):Int)/\1<=k/\k<=l.length/\kX (l.take k)) (fun s=>l.length - s.toNat) ?_ ⟨1,rfl,bJ _,by omega,?_⟩ (by simp;omega)) ?_
  ·rintro s ⟨k,rfl,hk1,hkl,hinc⟩
   refine Ok.bif (fun h=>?_) (fun h=>Ok.br ?_)
   ·have hk:k<l.length:=by have:=of_decide_eq_true h;omega
    refine Ok.idx hk ?_
    rw [lI hk1 (by omega)]
    refine Ok.idx (by omega) ?_
    refine Ok.bif (fun he=>?_) (fun he=>?_)
    ·have he:l[k]=l[k - 1]:=by simpa using he
     refine Ok.eq (sI l k hkl) ?_
     refine Ok.bind (Ok.mC (Go:=fun s=>∃i:Nat,s.2.1= ((i:Nat):Int)/\i<=l.length/\s.1.length=l.length/\kX (s.1.take i)/\∀c,c∈s.1.take i↔c∈l) (Rt:=fun _=>True)
      (fun s=>∃i j:Nat,s.2.1= ((i:Nat):Int)/\s.2.2= ((j:Nat):Int)/\1<=j/\k+j<=l.length/\i<=k+j - 1/\s.1.length=l.length/\kX (s.1.take i)/\(s.1.take i).getLast? =l[k+j - 1]? /\
       (∀c,c∈s.1.take i↔c∈l.take (k+j))/\∀m,k+j - 1<=m->s.1[m]? =l[m]?) (fun s=>l.length - s.2.2.toNat) ?_ ?_ (by simp;omega)) ?_
     ·rintro⟨u,a,b⟩ ⟨i,j,e1,e2,hj,hjl,hij,hlen,hi,hlast,hmem,hrest⟩
      dsimp only at e1 e2 hlen hi hlast hmem hrest ⊢
      subst e1;subst e2
      rw [bR]
      refine Ok.bif (fun h=>?_) (fun h=>Ok.br ?_)
      ·have hlt:k+j<l.length:=by have:=of_decide_eq_true h;omega
       have hx:u[k+j]'(by omega)=l[k+j]:=by have:=hrest (k+j) (by omega);rw [aL (by omega),aL hlt] at this;injection this
       have hy:u[k+ (j - 1)]'(by omega)=l[k+ (j - 1)]:=by have:=hrest (k+ (j - 1)) (by omega);rw [aL (by omega),aL (by omega)] at this;injection this
       refine Ok.eq (vk u k j (by omega)) ?_
       rw [lI hj (by omega)]
       refine Ok.eq (vk u k (j - 1) (by omega)) ?_
       rw [hx,hy]
       have hts:l.take (k+j+1)=l.take (k+j)++[l[k+j]]:=gh hlt
       have hlast': (u.take i).getLast? =some l[k+ (j - 1)]:=by rw [hlast,show k+j - 1=k+ (j - 1) by omega,aL (by omega)]
       have hxy:l[k+ (j - 1)]<=l[k+j]:=le (k+ (j - 1)) (k+j) _ _ (by omega) (aL _) (aL _)
       refine Ok.bind (P:=fun s'=>s'.1.length=l.length/\∃i':Nat,s'.2= ((i':Nat):Int)/\i'<=k+j/\kX (s'.1.take i')/\(s'.1.take i').getLast? =l[k+j]? /\(∀c,c∈s'.1.take i'↔c∈l.take (k+j+1))/\∀m,k+j<=m->s'.1[m]? =l[m]?) ?_ ?_
       ·refine Ok.bif (fun hne=>?_) (fun hne=>Ok.ret ?_)
        ·have hne:l[k+j]≠l[k+ (j - 1)]:=by simpa using hne
         refine Ok.eq (vk u k j (by omega)) ?_
         rw [hx]
         refine Ok.idx (by omega) (Ok.ret ⟨by simp [hlen],i+1,?_,by omega,?_⟩)
         ·rw [gW (by omega)]
         ·dsimp only
          rw [bR]
          have ht: (u.set i l[k+j]).take (i+1)=u.take i++[l[k+j]]:=by
           rw [gh (by simp;omega),List.take_set_of_le (bJ _)];simp
          rw [ht]
          refine⟨hi.CP fun c hc=>?_,by simp [aL hlt],fun c=>?_,fun m hm=>?_⟩
          ·have:=hi.last hlast' c hc;omega
          ·rw [hts,cP,cP,hmem]
          ·rw [eE,aF (by omega)];exact hrest m (by omega)
        ·have he:l[k+j]=l[k+ (j - 1)]:=by simpa using hne
         refine⟨hlen,i,rfl,by omega,hi,?_,fun c=>?_,fun m hm=>hrest m (by omega)⟩
         ·dsimp only;rw [hlast',aL hlt,he]
         ·rw [hts,cP,<-hmem]
          constructor
          ·exact .inl
          ·rintro(h | h)
           ·exact h
           ·simp at h;subst h
            rw [he];exact List.mem_of_getLast? hlast'
       ·rintro⟨v,a⟩ ⟨g1,i',g2,g3,g4,g5,g6,g7⟩
        dsimp only at g1 g2 g4 g5 g6 g7 ⊢
        refine Ok.nx ⟨⟨i',j+1,g2,?_,by omega,by omega,by omega,g1,g4,?_,g6,fun m hm=>g7 m (by omega)⟩,?_⟩
        ·rw [gW (by omega)]
        ·rw [show k+ (j+1) - 1=k+j by omega];exact g5
        ·rw [gW (by omega)];simp only [bR];omega
      ·have hge:k+j=l.length:=by have:=of_decide_eq_false h;omega
       refine⟨i,rfl,by omega,hlen,hi,fun c=>?_⟩
       rw [hmem,hge,gv]
     ·refine⟨k,1,rfl,rfl,bJ _,by omega,by omega,rfl,hinc,?_,fun c=>?_,fun m _=>rfl⟩
      ·dsimp only
       rw [show k+1 - 1=k by omega,aL hk,he,List.getLast?_eq_getElem?,cS,Nat.min_eq_left hkl,List.getElem?_take_of_lt (by omega),aL (by omega)]
      ·dsimp only
       rw [gh hk,cP]
       constructor
       ·exact .inl
       ·rintro(h | h)
        ·exact h
        ·simp at h;subst h;rw [he]
         refine dV (i:=k - 1) ?_
         rw [List.getElem?_take_of_lt (by omega),aL (by omega)]
     ·rintro o ho
      refine Ok.cs ho ?_ (fun r=>r.elim)
      rintro⟨u,a,b⟩ ⟨i,e1,hi,hlen,hinc',hmem⟩
      dsimp only at e1 hlen hinc' hmem ⊢
      subst e1
      refine Ok.eq (sI u i (by omega)) ?_
      rw [bR]
      refine Ok.eq (sH _ i (by simp;omega)) (Ok.rt ?_)
      rw [List.take_append_of_le_length (by simp;omega),List.take_take,Nat.min_self]
      exact⟨hinc',hmem⟩
    ·have he:l[k]≠l[k - 1]:=by simpa using he
     refine Ok.nx ⟨⟨k+1,by rw [gW (by omega)],by omega,by omega,?_⟩,by rw [gW (by omega)];simp only [bR];omega⟩
     rw [gh hk]
     refine hinc.CP fun c hc=>?_
     have hlast: (l.take k).getLast? =some l[k - 1]:=by
      rw [List.getLast?_eq_getElem?,cS,Nat.min_eq_left hkl,List.getElem?_take_of_lt (by omega),aL (by omega)]
     have h3:=hinc.last hlast c hc
     have h4:=le (k - 1) k _ _ (by omega) (aL (by omega:k - 1<l.length)) (aL hk)
     omega
   ·have hge:k=l.length:=by have:=of_decide_eq_false h;omega
    subst hge;rw [gv] at hinc;exact hinc
  ·match l,h2 with
   | [],h2=>simp at h2
   | a::l,_=>exact List.pairwise_singleton _ _
  ·rintro o ho
   exact Ok.cs ho (fun s h=>Ok.ret ⟨h,fun c=>Iff.rfl⟩) (fun r h=>Ok.ret h)
def na (l:List aG):List Int:=l.flatMap fun r=>[r.X0,r.X1]
def jT (l:List aG):List Int:=l.flatMap fun r=>[r.Y0,r.Y1]
theorem oz {l:List aG} {c:Int}:c∈na l↔∃r∈l,c=r.X0\/c=r.X1:=by unfold na;simp [List.mem_flatMap]
theorem i9 {l:List aG} {c:Int}:c∈jT l↔∃r∈l,c=r.Y0\/c=r.Y1:=by unfold jT;simp [List.mem_flatMap]
theorem iB (l:List aG): (na l).length=2*l.length:=by
 induction l with
 | nil=>rfl
 | cons r l ih=>unfold na at *;simp [List.flatMap_cons,ih];omega
theorem gu (l:List aG): (jT l).length=2*l.length:=by
 induction l with
 | nil=>rfl
 | cons r l ih=>unfold jT at *;simp [List.flatMap_cons,ih];omega
def rX (X Y:List Int) (s:List Bd):Prop:=∀b∈s,b.y0∈Y/\b.y1∈Y/\∀c∈b.xs,c∈X
theorem rX.push {X Y:List Int} {s:List Bd} {b:Bd} (h:rX X Y s) (h0:b.y0∈Y) (h1:b.y1∈Y) (h2: ∀c∈b.xs,c∈X):rX X Y (kY s b):=by
 intro c hc
 unfold kY at hc
 split at hc
 ·exact h c hc
 ·split at hc
  ·rename_i d hd
   have hdm:d∈s:=List.mem_of_getLast? hd
   split at hc
   ·rcases cP.1 hc with hc | hc
    ·exact h c (List.dropLast_subset _ hc)
    ·simp at hc;subst hc;exact⟨(h d hdm).1,h1,(h d hdm).2.2⟩
   ·rcases cP.1 hc with hc | hc
    ·exact h c hc
    ·simp at hc;subst hc;exact⟨h0,h1,h2⟩
  ·simp at hc;subst hc;exact⟨h0,h1,h2⟩
theorem kX.nodup {l:List Int} (h:kX l):l.Nodup:=List.Pairwise.imp (fun h=>by omega) h
theorem rX.row {X Y:List Int} {s:List Bd} (h:rX X Y s) (hc:cW s) {b:Bd} (hb:b∈s):b.xs.length<=X.length:=dT (hc.each b hb).2.2.1.nodup (h b hb).2.2
theorem rX.len {X Y:List Int} {s:List Bd} (h:rX X Y s) (hc:cW s):s.length<=Y.length:=by
 have hn: (s.map Bd.y0).Nodup:=by
  unfold List.Nodup
  rw [List.pairwise_map]
  refine List.Pairwise.imp_of_mem (fun{a b} ha hb hab=>?_) hc.ord
  have:=(hc.each a ha).1
  have:=hab.1
  omega
 have:=dT hn (m:=Y) (fun x hx=>by
  obtain⟨b,hb,rfl⟩:=bV.1 hx
  exact(h b hb).1)
 rwa [iE] at this
theorem rX.mono {X Y X' Y':List Int} {s:List Bd} (h:rX X Y s) (hx: ∀c∈X,c∈X') (hy: ∀c∈Y,c∈Y'):rX X' Y' s:=fun b hb=>⟨hy _ (h b hb).1,hy _ (h b hb).2.1,fun c hc=>hx c ((h b hb).2.2 c hc)⟩
theorem kX.lt {l:List Int} (h:kX l) {i j:Nat} {x y:Int} (hij:i<j) (hx:l[i]? =some x) (hy:l[j]? =some y):x<y:=by
 have:=kL.1 h i j (aT.1 hx).1 (aT.1 hy).1 hij
 rw [(aT.1 hx).2,(aT.1 hy).2] at this;exact this
theorem kX.next {l:List Int} (h:kX l) {k:Nat} {x y c:Int} (hx:l[k]? =some x) (hy:l[k+1]? =some y) (hc:c∈l) (hxc:x<c):y<=c:=by
 obtain⟨j,hj⟩:=eG hc
 rcases Nat.lt_trichotomy j (k+1) with h1 | h1 | h1
 ·exfalso
  by_cases e:j=k
  ·subst e;rw [hx] at hj;injection hj with hj;omega
  ·have:=h.lt (show j<k by omega) hj hx;omega
 ·subst h1;rw [hy] at hj;injection hj with hj;omega
 ·have:=h.lt h1 hy hj;omega
theorem rS {l:List aG} {φ:aG->Option Bool} (p:aG->Bool) (hφ: ∀x∈l,φ x=some (p x)) (hl:l.length<=4611686018427387000) (hN:l.length<N):fK N l φ=some (l.filter (fun x=> !p x)):=
 CO (z:=(⟨0,0,0,0⟩:aG)) p hφ hl hN
theorem nR {l:List aG} (hl:l.length<=268435456):eN N l=some l:=by
 unfold eN;rw [gr (by simp;omega),aB,List.nil_append]
structure Gz (l m:List aG) (ys:List Int) (k:Nat) (out:List aA) (now:List aG) (nx:Nat):Prop where
 can:cW (out.map aW)
 top: ∀c∈out,∀y,ys[k]? =some y->c.Y1<=y
 cover: ∀x y,nC (out.map aW) x y= (kz l x y&&decide (∀a,ys[k]? =some a->y<a))
 lim:rX (na l) (jT l) (out.map aW)
 IA: ∀r∈now,r∈m.take nx
 IB: ∀r∈m.take nx,∀y,ys[k]? =some y->y<r.Y1->r∈now
 len:now.length<=nx
 H8:nx<=m.length
 rest: ∀(j:Nat) r y,nx<=j->m[j]? =some r->ys[k]? =some y->y<=r.Y0
 low: ∀r∈now,∀y,ys[k]? =some y->r.Y0<=y
structure pj (l:List aG) (s:List aA):Prop where
 can:cW (s.map aW)
 cover: ∀x y,nC (s.map aW) x y=kz l x y
 lim:rX (na l) (jT l) (s.map aW)
theorem lK {l:List aG} (hl:l.length<=134217728) (hok: ∀r∈l,xv r) (hN:4294967296<=N):Ok (cO N l) (pj l):=by
 unfold cO
 refine Ok.eq (nR (by omega)) ?_
 obtain⟨m,h1,h2,h3⟩:=u9 (φ:=gM N) (l:=l) (fun a b=>a.Y0 - b.Y0) (fun a ha b hb=>by
  unfold gM;rw [wrap_small (hok a ha).s3 (hok b hb).s3]) (fun a _=>by omega) (fun a _ b _ c _ h1 h2=>by omega) (fun a _ b _ c _ h1 h2=>by omega) (by omega)
 refine Ok.eq h1 ?_
 have hml:m.length=l.length:=h2.length_eq
 have hmem: ∀r,r∈m↔r∈l:=fun r=>h2.mem_iff
 refine Ok.bind (Ok.kM (fun k s=>s=jT (m.take k)) (by omega) rfl (fun k s hk e=>?_)) ?_
 ·subst e
  refine Ok.idx hk (Ok.app ?_ (Ok.ret ?_))
  ·rw [gu];simp;omega
  ·rw [gh hk]
   unfold jT;rw [List.flatMap_append];rfl
 rintro s rfl
 rw [gv]
 have hgs:pN (jT m)=some ((jT m).mergeSort (fun x y=>decide (x<=y))):=by unfold pN;rw [aC (by rw [gu];omega)]
 refine Ok.eq hgs ?_
 have hsp: ((jT m).mergeSort (fun x y=>decide (x<=y))).Pairwise (fun x y=>x<=y):=by
  have:=List.pairwise_mergeSort (le:=fun(x y:Int)=>decide (x<=y)) (fun a b c h1 h2=>by simp at *;omega) (fun a b=>by simp;omega) (jT m)
  exact List.Pairwise.imp (fun h=>by simpa using h) this
 have hsm: ∀c,c∈(jT m).mergeSort (fun x y=>decide (x<=y))↔c∈jT m:=fun c=>List.mem_mergeSort
 have hsl: ((jT m).mergeSort (fun x y=>decide (x<=y))).length=2*m.length:=by rw [List.length_mergeSort,gu]
 generalize (jT m).mergeSort (fun x y=>decide (x<=y))=sy at hsp hsm hsl
 refine Ok.bind (xx (N:=N) hsp (by omega) (by omega)) ?_
 rintro ys ⟨hy,hym⟩
 have hyl:ys.length<=2*m.length:=by
  have:=dT hy.nodup (m:=sy) (fun c hc=>(hym c).1 hc)
  omega
 have y0m: ∀r∈m,r.Y0∈ys:=fun r hr=>(hym _).2 ((hsm _).2 (i9.2 ⟨r,hr, .inl rfl⟩))
 have y1m: ∀r∈m,r.Y1∈ys:=fun r hr=>(hym _).2 ((hsm _).2 (i9.2 ⟨r,hr, .inr rfl⟩))
 have yml: ∀c∈ys,c∈jT l:=fun c hc=>by
  obtain⟨r,hr,h⟩:=i9.1 ((hsm _).1 ((hym _).1 hc))
  exact i9.2 ⟨r,(hmem r).1 hr,h⟩
 refine Ok.bind (Ok.mC (Go:=fun s=>pj l s.1) (Rt:=fun _=>True) (fun s=>∃k nx:Nat,s.2.2.2= ((k:Nat):Int)/\s.2.2.1= ((nx:Nat):Int)/\(k<ys.length\/k=0)/\Gz l m ys k s.1 s.2.1 nx) (fun s=>ys.length - s.2.2.2.toNat) ?_ ?_ (by simp;omega)) ?_
 ·rintro⟨out,now,a,b⟩ ⟨k,nx,e1,e2,hk,I⟩
  dsimp only at e1 e2 I ⊢
  subst e1;subst e2
  rw [gW (by omega)]
  refine Ok.bif (fun h=>?_) (fun h=>Ok.br ?_)
  ·have hk1:k+1<ys.length:=by have:=of_decide_eq_true h;omega
   have hyk:ys[k]? =some ys[k]:=aL _
   have hyk1:ys[k+1]? =some ys[k+1]:=aL hk1
   have hlt:=hy.lt (Nat.lt_succ_self k) hyk hyk1
   have hcov:=I.cover
   simp only [hyk,Option.some.injEq,forall_eq'] at hcov
   refine Ok.eq (rS (fun r=>decide (r.Y1<=ys[k])) (fun r _=>by unfold ld;rw [iR ys k (by omega),aB]) (by have:=I.len;have:=I.H8;omega) (by have:=I.len;have:=I.H8;omega)) ?_
   have hfl:=lM (fun r:aG=> !decide (r.Y1<=ys[k])) now
   have hIl:=I.len
   have hIn:=I.H8
   refine Ok.bind (Ok.mC (Go:=fun s=>∃nx':Nat,s.2= ((nx':Nat):Int)/\nx'<=m.length/\s.1.length<=nx'/\(∀r∈s.1,r∈m.take nx')/\(∀r∈m.take nx',ys[k]<r.Y1->r∈s.1)/\(∀r∈s.1,r.Y0<=ys[k]/\ys[k]<r.Y1)/\(∀(j:Nat) r,nx'<=j->m[j]? =some r->ys[k]<r.Y0)) (Rt:=fun _=>True)
    (fun s=>∃nx':Nat,s.2= ((nx':Nat):Int)/\nx<=nx'/\nx'<=m.length/\s.1.length<=nx'/\(∀r∈s.1,r∈m.take nx')/\(∀r∈m.take nx',ys[k]<r.Y1->r∈s.1)/\(∀r∈s.1,r.Y0<=ys[k]/\ys[k]<r.Y1)) (fun s=>m.length - s.2.toNat) ?_ ?_ (by simp;omega)) ?_
   ·rintro⟨nw,b⟩ ⟨nx',e1,g0,g1,g2,g3,g4,g5⟩
    dsimp only at e1 g2 g3 g4 g5 ⊢
    subst e1
    refine Ok.bind (P:=fun b=>b=true↔∃h:nx'<m.length,m[nx'].Y0<=ys[k]) ?_ ?_
    ·refine Ok.bif (fun h=>?_) (fun h=>Ok.ret ?_)
     ·have hlt:nx'<m.length:=by have:=of_decide_eq_true h;omega
      refine Ok.idx hlt (Ok.idx (by omega) (Ok.ret ?_))
      rw [bT];exact⟨fun h=>⟨hlt,h⟩,fun⟨_,h⟩=>h⟩
     ·have:=of_decide_eq_false h
      constructor
      ·intro h;cases h
      ·rintro⟨h,_⟩;omega
    ·intro bb hbb
     refine Ok.bif (fun h=>?_) (fun h=>Ok.br ?_)
     ·obtain⟨hlt,h0⟩:=hbb.1 h
      have hts:m.take (nx'+1)=m.take nx'++[m[nx']]:=gh hlt
      refine Ok.idx hlt (Ok.app (by simp;omega) (Ok.nx ⟨⟨nx'+1,by rw [gW (by omega)],by omega,by omega,by simp;omega,fun r hr=>?_,fun r hr hr2=>?_,fun r hr=>?_⟩,by rw [gW (by omega)];simp only [bR];omega⟩))
      ·rw [hts]
       rcases cP.1 hr with h | h
       ·exact List.mem_append_left _ (g3 r h)
       ·exact List.mem_append_right _ h
      ·rw [hts] at hr
       rcases cP.1 hr with h | h
       ·exact List.mem_append_left _ (g4 r h hr2)
       ·exact List.mem_append_right _ h
      ·rcases cP.1 hr with h | h
       ·exact g5 r h
       ·simp at h;subst h
        refine⟨h0,?_⟩
        have:=(hok m[nx'] ((hmem _).1 (cT hlt))).y
        have:=I.rest nx' _ ys[k] g0 (aL hlt) hyk
        omega
     ·refine⟨nx',rfl,g1,g2,g3,g4,g5,fun j r hj hr=>?_⟩
      have hjl:=(aT.1 hr).1
      have hlt:nx'<m.length:=by omega
      have h0: ¬m[nx'].Y0<=ys[k]:=fun h0=>by rw [hbb.2 ⟨hlt,h0⟩] at h;cases h
      by_cases e:nx'=j
      ·subst e;rw [aL hlt] at hr;injection hr with hr;subst hr;omega
      ·have:=kL.1 h3 nx' j hlt hjl (by omega)
       have hr':=(aT.1 hr).2
       rw [hr'] at this;omega
   ·refine⟨nx,rfl,bJ _,hIn,by dsimp only;omega,fun r hr=>I.IA r (il.1 hr).1,fun r hr h=>il.2 ⟨I.IB r hr ys[k] hyk h,by simpa using h⟩,fun r hr=>?_⟩
    have hr:=il.1 hr
    have hr2:ys[k]<r.Y1:=by simpa using hr.2
    exact⟨I.low r hr.1 ys[k] hyk,hr2⟩
   ·rintro o ho
    refine Ok.cs ho ?_ (fun r=>r.elim)
    rintro⟨nw,b⟩ ⟨nx',e1,g1,g2,g3,g4,g5,g6⟩
    dsimp only at e1 g2 g3 g4 g5 ⊢
    subst e1
    refine Ok.idx (by omega) (Ok.idx hk1 ?_)
    have hnm: ∀r∈nw,r∈l:=fun r hr=>(hmem r).1 (List.take_subset _ _ (g3 r hr))
    obtain⟨row,nw',s1,s2,s3,s4,s5,s6,s7⟩:=xw (N:=N) (l:=nw) (by omega) (fun r hr=>hok r (hnm r hr))
    refine Ok.eq s1 ?_
    have hlimx: ∀c∈row,c∈na l:=fun c hc=>by
     obtain⟨r,hr,h⟩:=s7 c hc
     exact oz.2 ⟨r,hnm r hr,h⟩
    have hol:out.length<=2*l.length:=by have:=I.lim.len I.can;rw [gu,iE] at this;exact this
    have hox: ∀c∈out,c.Xs.length<=2*l.length:=fun c hc=>by
     have:=I.lim.row I.can (b:=aW c) (bV.2 ⟨c,hc,rfl⟩)
     rw [iB] at this;exact this
    obtain⟨out',p1,p2⟩:=Ay (N:=N) (s:=out) (b:=⟨ys[k],ys[k+1],row⟩) (by omega) (fun c hc=>by have:=hox c hc;omega)
    refine Ok.eq p1 ?_
    have htop: ∀c∈out.map aW,c.y1<=(aW ⟨ys[k],ys[k+1],row⟩).y0:=fun c hc=>by
     obtain⟨d,hd,rfl⟩:=bV.1 hc
     exact I.top d hd ys[k] hyk
    have hcan:=tP I.can htop s3 s4
    refine Ok.nx ⟨⟨k+1,nx',rfl,rfl, .inl hk1,⟨by dsimp only;rw [p2];exact hcan,fun c hc y hy1=>?_,fun x y=>?_,?_,fun r hr=>g3 r (s2.subset hr),fun r hr y hy1 h=>?_,by rw [s2.length_eq];exact g2,g1,fun j r y hj hr hy1=>?_,fun r hr y hy1=>?_⟩⟩,by simp only [bR];omega⟩
    ·rw [hyk1] at hy1;injection hy1 with hy1;subst hy1
     have hm':aW c∈kY (out.map aW) (aW ⟨ys[k],ys[k+1],row⟩):=by rw [<-p2];exact bV.2 ⟨c,hc,rfl⟩
     exact tQ htop (by show ys[k]<=ys[k+1];omega) _ hm'
    ·simp only [hyk1,Option.some.injEq,forall_eq']
     unfold nC
     rw [p2,tO htop (fun c hc=>(I.can.each c hc).1) (fun h=>absurd h (by show ¬ys[k+1]<=ys[k];omega))]
     by_cases hyy:ys[k]<=y/\y<ys[k+1]
     ·rw [aC (show (aW ⟨ys[k],ys[k+1],row⟩).y0<=y/\y< (aW ⟨ys[k],ys[k+1],row⟩).y1 from hyy),cJ hyy.2,Bool.and_true]
      show lF row x=_
      rw [s5,f9,vh,fF]
      constructor
      ·rintro⟨r,hr,h⟩
       have hrm:=List.take_subset _ _ (g3 r hr)
       have h5:=g5 r hr
       have:=hy.next hyk hyk1 (y1m r hrm) h5.2
       exact⟨r,hnm r hr,h,by omega,by omega⟩
      ·rintro⟨r,hr,h,h7,h8⟩
       have hrm:=(hmem r).2 hr
       have h9:r.Y0<=ys[k]:=by
        by_cases h10:r.Y0<=ys[k]
        ·exact h10
        ·have:=hy.next hyk hyk1 (y0m r hrm) (by omega);omega
       have h11:r∈m.take nx':=by
        obtain⟨j,hj⟩:=eG hrm
        by_cases h12:j<nx'
        ·exact dV (i:=j) (by rw [List.getElem?_take_of_lt h12];exact hj)
        ·have:=g6 j r (by omega) hj;omega
       exact⟨r,g4 r h11 (by omega),h⟩
     ·rw [aF (show ¬((aW ⟨ys[k],ys[k+1],row⟩).y0<=y/\y< (aW ⟨ys[k],ys[k+1],row⟩).y1) from hyy)]
      show nC (out.map aW) x y=_
      rw [hcov]
      by_cases h1:y<ys[k]
      ·rw [cJ h1,cJ (show y<ys[k+1] by omega)]
      ·rw [bU h1,bU (show ¬y<ys[k+1] by omega)]
    ·show rX (na l) (jT l) (out'.map aW)
     rw [p2]
     exact I.lim.push (yml _ (cT _)) (yml _ (cT _)) hlimx
    ·rw [hyk1] at hy1;injection hy1 with hy1;subst hy1
     exact s2.symm.subset (g4 r hr (by omega))
    ·rw [hyk1] at hy1;injection hy1 with hy1;subst hy1
     exact hy.next hyk hyk1 (y0m r (dV hr)) (g6 j r hj hr)
    ·rw [hyk1] at hy1;injection hy1 with hy1;subst hy1
     have:=(g5 r (s2.subset hr)).1;omega
  ·have hge: ¬k+1<ys.length:=by have:=of_decide_eq_false h;omega
   refine⟨I.can,fun x y=>?_,I.lim⟩
   rw [I.cover]
   by_cases hyn:ys= []
   ·have:kz l x y=false:=by
     rw [<-nc,fF]
     rintro⟨r,hr,_⟩
     have:=y0m r ((hmem r).2 hr)
     rw [hyn] at this;cases this
    rw [this];rfl
   ·have hkl:k<ys.length:=by
     rcases hk with h | h
     ·exact h
     ·subst h;exact List.length_pos_iff.2 hyn
    rw [aL hkl]
    simp only [Option.some.injEq,forall_eq']
    cases hc:kz l x y with
    | false=>rfl
    | true=>
     obtain⟨r,hr,_,h7,h8⟩:=fF.1 hc
     have:=y1m r ((hmem r).2 hr)
     obtain⟨j,hj⟩:=eG this
     have hjl:=(aT.1 hj).1
     have:r.Y1<=ys[k]:=by
      by_cases e:j=k
      ·subst e;rw [aL hkl] at hj;injection hj with hj;omega
      ·have:=hy.lt (show j<k by omega) hj (aL hkl);omega
     rw [cJ (show y<ys[k] by omega)];rfl
 ·refine⟨0,0,rfl,rfl, .inr rfl,?_⟩
  show Gz l m ys 0 [] [] 0
  refine⟨cW.nil,fun c hc=>(by cases hc),fun x y=>?_,fun b hb=>(by cases hb),fun r hr=>(by cases hr),fun r hr=>(by rw [List.take_zero] at hr;cases hr),bJ _,ni _,fun j r y _ hr hy0=>?_,fun r hr=>(by cases hr)⟩
  ·show false=_
   symm
   rw [Bool.and_eq_false_iff]
   cases hc:kz l x y with
   | false=>exact .inl rfl
   | true=>
    right
    obtain⟨r,hr,_,h7,h8⟩:=fF.1 hc
    have hr0:=y0m r ((hmem r).2 hr)
    have hpos:0<ys.length:=List.length_pos_of_mem hr0
    rw [decide_eq_false_iff_not]
    intro h
    have h:=h ys[0] (aL hpos)
    obtain⟨j,hj⟩:=eG hr0
    by_cases e:j=0
    ·subst e;rw [aL hpos] at hj;injection hj with hj;omega
    ·have:=hy.lt (show 0<j by omega) (aL hpos) hj;omega
  ·obtain⟨j',hj'⟩:=eG (y0m r (dV hr))
   by_cases e:j'=0
   ·subst e;rw [hy0] at hj';injection hj' with hj';omega
   ·have:=hy.lt (show 0<j' by omega) hy0 hj';omega
 ·rintro o ho
  refine Ok.cs ho (fun s h=>Ok.ret h) (fun r=>r.elim)
end
end Go.Gk
namespace Go.Gk
open Go
section
variable {N:Nat}
def uE:List Int->List (Int×Int)
 | a::b::l=>(a,b)::uE l
 | _=>[]
theorem uF: ∀(xs:List Int),(uE xs).length=xs.length / 2
 | []=>rfl
 | [a]=>by simp [uE]
 | a::b::l=>by unfold uE;rw [kK,uF l];simp only [kK];omega
theorem sW: ∀(xs:List Int) (j:Nat) (h:2*j+1<xs.length),(uE xs)[j]? =some (xs[2*j],xs[2*j+1])
 | [],j,h=>by simp at h
 | [a],j,h=>by simp at h
 | a::b::l,0,h=>rfl
 | a::b::l,j+1,h=>by
  have:=sW l j (by simp at h;omega)
  unfold uE
  rw [List.getElem?_cons_succ,this]
  have e1: (a::b::l)[2* (j+1)]=l[2*j]'(by simp at h;omega):=by simp [show 2* (j+1)=2*j+1+1 by omega]
  have e2: (a::b::l)[2* (j+1)+1]=l[2*j+1]'(by simp at h;omega):=by simp [show 2* (j+1)+1=2*j+1+1+1 by omega]
  rw [e1,e2]
theorem sX: ∀{xs:List Int},xs.length % 2=0->nD (uE xs)=xs
 | [],_=>rfl
 | [a],h=>by simp at h
 | a::b::l,h=>by unfold uE;rw [lJ,sX (by simp at h;omega)]
theorem D0 {xs:List Int} (h:kX xs) (he:xs.length % 2=0) (x:Int):lF xs x=Bu (uE xs) x:=by
 have:=sV (l:=uE xs) (by rw [sX he];exact h) x
 rwa [sX he] at this
theorem xy {xs:List Int}: ∀p∈uE xs,p.1∈xs/\p.2∈xs:=by
 intro p hp
 obtain⟨j,hj⟩:=eG hp
 have hjl:=(aT.1 hj).1
 rw [uF] at hjl
 rw [sW xs j (by omega)] at hj
 injection hj with hj;subst hj
 exact⟨cT _,cT _⟩
theorem vl {xs:List Int} (h:kX xs): ∀p∈uE xs,p.1<p.2:=by
 intro p hp
 obtain⟨j,hj⟩:=eG hp
 have hjl:=(aT.1 hj).1
 rw [uF] at hjl
 rw [sW xs j (by omega)] at hj
 injection hj with hj;subst hj
 exact h.lt (show 2*j<2*j+1 by omega) (aL _) (aL _)
def kF (b:aA):List aG:=(uE b.Xs).map fun p=>⟨p.1,b.Y0,p.2,b.Y1⟩
def aK (s:List aA):List aG:=s.flatMap kF
theorem kZ (b:aA) (s:List aA):aK (b::s)=kF b++aK s:=rfl
theorem kr (b:aA): (kF b).length=b.Xs.length / 2:=by unfold kF;rw [iE,uF]
theorem kG (s t:List aA):aK (s++t)=aK s++aK t:=List.flatMap_append
theorem tT (s:List aA) (k:Nat): (aK (s.take k)).length<=(aK s).length:=by
 conv=>rhs;rw [<-List.take_append_drop k s,kG,dI]
 omega
theorem vm {s:List aA} {A B:Nat} (h1:s.length<=A) (h2: ∀b∈s,b.Xs.length<=B): (aK s).length<=A*B:=by
 induction s generalizing A with
 | nil=>simp [aK]
 | cons b s ih=>
  rw [kZ,dI,kr]
  simp at h1
  obtain⟨A',rfl⟩: ∃A',A=A'+1:=⟨A - 1,by omega⟩
  have:=ih (A:=A') (by omega) (fun c hc=>h2 c (jg _ hc))
  have:=h2 b (by simp)
  rw [Nat.add_mul];omega
theorem sY {s:List aA} (he: ∀b∈s,b.Xs.length % 2=0) (h1:s.length<=1099511627776) (h2: ∀b∈s,b.Xs.length<=1099511627776/\b.Xs.length<N) (h3: (aK s).length<=1099511627776):fR N s=some (aK s):=by
 refine Ok.get ?_
 unfold fR
 refine Ok.bind (Ok.kM (fun k t=>t=aK (s.take k)) (by omega) rfl (fun k t hk e=>?_)) (fun t e=>Ok.ret (by rw [e,gv]))
 subst e
 refine Ok.idx hk ?_
 have hm:=cT hk
 generalize hb:s[k]=b at hm ⊢
 have heb:=he b hm
 have hbl:=h2 b hm
 have hts:aK (s.take (k+1))=aK (s.take k)++kF b:=by
  rw [gh hk,kG,hb];simp [aK]
 have hle:=tT s (k+1)
 rw [hts,dI,kr] at hle
 refine Ok.bind (Ok.mC (Go:=fun s'=>s'.1=aK (s.take (k+1))) (Rt:=fun _=>True) (fun s'=>∃j:Nat,s'.2= ((2*j:Nat):Int)/\2*j<=b.Xs.length/\s'.1=aK (s.take k)++(kF b).take j) (fun s'=>b.Xs.length - s'.2.toNat) ?_ ⟨0,rfl,by omega,by simp⟩ (by simp;omega)) ?_
 ·rintro⟨acc,i⟩ ⟨j,e1,hj,e2⟩
  dsimp only at e1 e2 ⊢
  subst e1;subst e2
  refine Ok.bif (fun h=>?_) (fun h=>Ok.br ?_)
  ·have hlt:2*j+1<b.Xs.length:=by have:=of_decide_eq_true h;omega
   refine Ok.idx (by omega) ?_
   rw [gW (by omega)]
   refine Ok.idx hlt (Ok.app ?_ (Ok.nx ⟨⟨j+1,?_,by omega,?_⟩,?_⟩))
   ·simp;rw [kr];omega
   ·rw [wD (by omega)];congr 1
   ·rw [kf]
    congr 1
    have hg: (kF b)[j]? =some ⟨b.Xs[2*j],b.Y0,b.Xs[2*j+1],b.Y1⟩:=by
     unfold kF;rw [gZ,sW _ _ hlt];rfl
    have hjl:=(aT.1 hg).1
    rw [gh hjl,(aT.1 hg).2]
   ·rw [wD (by omega)];simp only [bR];omega
  ·have hge:2*j=b.Xs.length:=by have:=of_decide_eq_false h;omega
   show aK (s.take k)++(kF b).take j=_
   rw [hts,ng (l:=kF b) (by rw [kr];omega)]
 ·rintro o ho
  exact Ok.cs ho (fun s' h=>Ok.ret h) (fun r=>r.elim)
theorem Az {s:List aA} (h1:s.length<=1099511627776) (h2: ∀b∈s,b.Xs.length<=1099511627776) (h3: (aK s).length<=1099511627776):iY N s=some (((aK s).length:Nat):Int):=by
 refine Ok.get ?_
 unfold iY
 refine Ok.bind (Ok.kM (fun k t=>t= (((aK (s.take k)).length:Nat):Int)) (by omega) rfl (fun k t hk e=>?_)) (fun t e=>Ok.ret (by rw [e,gv]))
 subst e
 refine Ok.idx hk (Ok.ret ?_)
 have hm:=cT hk
 have hbl:=h2 _ hm
 have hts:aK (s.take (k+1))=aK (s.take k)++kF s[k]:=by
  rw [gh hk,kG];simp [aK]
 have hle:=tT s (k+1)
 rw [hts,dI,kr] at hle
 have e:Int.tdiv ((s[k].Xs.length:Nat):Int) 2= ((s[k].Xs.length / 2:Nat):Int):=by
  rw [show (2:Int)= ((2:Nat):Int) by rfl,<-Int.ofNat_tdiv]
 rw [e,yF (by omega),wrap_add (by omega),hts,dI,kr]
theorem zG (l m:List aG) (x y:Int):kz (l++m) x y= (kz l x y||kz m x y):=List.any_append
theorem CQ {b:aA} (h:kX b.Xs) (he:b.Xs.length % 2=0) (x y:Int):kz (kF b) x y= (lF b.Xs x&&(decide (b.Y0<=y)&&decide (y<b.Y1))):=by
 rw [D0 h he,f9,fF,bE,vj,bE,bT,bT]
 unfold kF
 constructor
 ·rintro⟨r,hr,h1,h2⟩
  obtain⟨p,hp,rfl⟩:=bV.1 hr
  exact⟨⟨p,hp,h1⟩,h2⟩
 ·rintro⟨⟨p,hp,h1⟩,h2⟩
  exact⟨_,bV.2 ⟨p,hp,rfl⟩,h1,h2⟩
theorem ja: ∀{s:List aA},cW (s.map aW)->∀x y,kz (aK s) x y=nC (s.map aW) x y
 | [],_,x,y=>rfl
 | b::s,h,x,y=>by
  rw [kZ,zG,ja h.tail x y]
  have hb:=h.each (aW b) (by simp)
  rw [CQ hb.2.2.1 hb.2.2.2]
  unfold nC
  rw [eF,kb]
  by_cases hy:b.Y0<=y/\y<b.Y1
  ·rw [aC (show (aW b).y0<=y/\y< (aW b).y1 from hy),jv (fun c hc=> .inl (by have:=h.ve c hc;have e: (aW b).y1=b.Y1:=rfl;omega)),cJ hy.1,cJ hy.2]
   show (lF b.Xs x&&true||false)=lF b.Xs x
   simp
  ·rw [aF (show ¬((aW b).y0<=y/\y< (aW b).y1) from hy)]
   have: (decide (b.Y0<=y)&&decide (y<b.Y1))=false:=by rw [Bool.and_eq_false_iff,decide_eq_false_iff_not,decide_eq_false_iff_not];omega
   rw [this];simp
theorem ku {s:List aA} {r:aG} (h:r∈aK s): ∃b∈s,∃p∈uE b.Xs,r= ⟨p.1,b.Y0,p.2,b.Y1⟩:=by
 unfold aK kF at h
 obtain⟨b,hb,h⟩:=List.mem_flatMap.1 h
 obtain⟨p,hp,rfl⟩:=bV.1 h
 exact⟨b,hb,p,hp,rfl⟩
theorem vn {s:List aA} {X Y:List Int} (h:cW (s.map aW)) (hl:rX X Y (s.map aW)) (hx: ∀c∈X,small c) (hy: ∀c∈Y,small c): ∀r∈aK s,xv r/\(r.X0∈X/\r.X1∈X)/\r.Y0∈Y/\r.Y1∈Y:=by
 intro r hr
 obtain⟨b,hb,p,hp,rfl⟩:=ku hr
 have hm:aW b∈s.map aW:=bV.2 ⟨b,hb,rfl⟩
 have hc:=h.each _ hm
 have hll:=hl _ hm
 have h1:=xy p hp
 have h2:=hll.2.2 p.1 h1.1
 have h3:=hll.2.2 p.2 h1.2
 exact⟨⟨vl hc.2.2.1 p hp,hc.1,hx _ h2,hx _ h3,hy _ hll.1,hy _ hll.2.1⟩,⟨h2,h3⟩,hll.1,hll.2.1⟩
theorem rT {l:List Int} {x:Int} (h: ∀c∈l,c<=x):lF l x= (l.length % 2==1):=by unfold lF;rw [Aw h]
theorem tU {l:List Int} {a x:Int} (h:x<a):lF (l++[a]) x=lF l x:=by unfold lF;rw [va,lY,aF (by omega),Av];rfl
def BA (l:List Int):Bool:=l.length % 2==1
theorem vo (l:List Int) (a:Int):BA (l++[a]) = !BA l:=by
 unfold BA
 rw [dI,f9,Bool.not_eq_true',beq_iff_eq,beq_eq_false_iff_ne]
 simp;omega
structure yG (gD:Bool->Bool->Bool) (a b a' b' out:List Int) (inA inB is:Bool) (pa pb:List Int):Prop where
 ea:a=pa++a'
 eb:b=pb++b'
 oa:inA=BA pa
 ob:inB=BA pb
 oo:is=BA out
 ok:is=gD inA inB
 low: ∀c,(c∈pa\/c∈pb\/c∈out)->∀d,(d∈a'\/d∈b')->c<d
 inc:kX out
 GA: ∀x,(∀d,(d∈a'\/d∈b')->x<d)->lF out x=gD (lF pa x) (lF pb x)
 mem: ∀c∈out,c∈pa\/c∈pb
 len:out.length<=pa.length+pb.length
theorem yG.step {gD:Bool->Bool->Bool} {a b a' b' out:List Int} {inA inB is:Bool} {pa pb:List Int} (I:yG gD a b a' b' out inA inB is pa pb) (ha:kX a) (hb:kX b) (x:Int) (ta tb:List Int) (wa wb:Bool)
  (h1:a'= (if wa then x::ta else ta)) (h2:b'= (if wb then x::tb else tb)) (hw:wa=true\/wb=true) (hx: ∀d,(d∈ta\/d∈tb)->x<d):
  yG gD a b ta tb (if gD (inA ^^ wa) (inB ^^ wb)=is then out else out++[x]) (inA ^^ wa) (inB ^^ wb) (gD (inA ^^ wa) (inB ^^ wb)) (if wa then pa++[x] else pa) (if wb then pb++[x] else pb):=by
 have hxm:x∈a'\/x∈b':=by
  rcases hw with h | h
  ·left;rw [h1,aC h];simp
  ·right;rw [h2,aC h];simp
 have hsub: ∀d,(d∈ta\/d∈tb)->d∈a'\/d∈b':=fun d hd=>by
  rcases hd with h | h
  ·left;rw [h1];split
   ·exact jg _ h
   ·exact h
  ·right;rw [h2];split
   ·exact jg _ h
   ·exact h
 have hlow: ∀c,(c∈pa\/c∈pb\/c∈out)->c<x:=fun c hc=>I.low c hc x hxm
 have hpa: ∀c∈(if wa then pa++[x] else pa),c∈pa\/(wa=true/\c=x):=fun c hc=>by
  split at hc
  ·rename_i h
   rcases cP.1 hc with h' | h'
   ·exact .inl h'
   ·simp at h';exact .inr ⟨h,h'⟩
  ·exact .inl hc
 have hpb: ∀c∈(if wb then pb++[x] else pb),c∈pb\/(wb=true/\c=x):=fun c hc=>by
  split at hc
  ·rename_i h
   rcases cP.1 hc with h' | h'
   ·exact .inl h'
   ·simp at h';exact .inr ⟨h,h'⟩
  ·exact .inl hc
 have hout: ∀c∈(if gD (inA ^^ wa) (inB ^^ wb)=is then out else out++[x]),c∈out\/c=x:=fun c hc=>by
  split at hc
  ·exact .inl hc
  ·rcases cP.1 hc with h' | h'
   ·exact .inl h'
   ·simp at h';exact .inr h'
 have ooA: (inA ^^ wa)=BA (if wa then pa++[x] else pa):=by
  rw [I.oa];cases wa <;> simp [vo]
 have ooB: (inB ^^ wb)=BA (if wb then pb++[x] else pb):=by
  rw [I.ob];cases wb <;> simp [vo]
 have ooO:gD (inA ^^ wa) (inB ^^ wb)=BA (if gD (inA ^^ wa) (inB ^^ wb)=is then out else out++[x]):=by
  split
  ·rename_i h;rw [h];exact I.oo
  ·rename_i h
   rw [vo,<-I.oo]
   cases hk:gD (inA ^^ wa) (inB ^^ wb) <;> cases his:is <;> simp_all
 refine⟨?_,?_,ooA,ooB,ooO,rfl,?_,?_,?_,?_,?_⟩
 ·rw [I.ea,h1];split <;> simp
 ·rw [I.eb,h2];split <;> simp
 ·intro c hc d hd
  have hd':=hx d hd
  have hdd:=hsub d hd
  rcases hc with h | h | h
  ·rcases hpa c h with h' | ⟨_,rfl⟩
   ·exact I.low c (.inl h') d hdd
   ·exact hd'
  ·rcases hpb c h with h' | ⟨_,rfl⟩
   ·exact I.low c (.inr (.inl h')) d hdd
   ·exact hd'
  ·rcases hout c h with h' | rfl
   ·exact I.low c (.inr (.inr h')) d hdd
   ·exact hd'
 ·split
  ·exact I.inc
  ·exact I.inc.CP fun c hc=>hlow c (.inr (.inr hc))
 ·intro y hy
  by_cases hxy:y<x
  ·have e1:lF (if wa then pa++[x] else pa) y=lF pa y:=by split;exact tU hxy;rfl
   have e2:lF (if wb then pb++[x] else pb) y=lF pb y:=by split;exact tU hxy;rfl
   have e3:lF (if gD (inA ^^ wa) (inB ^^ wb)=is then out else out++[x]) y=lF out y:=by split;rfl;exact tU hxy
   rw [e1,e2,e3]
   refine I.GA y fun d hd=>?_
   have:x<=d:=by
    rcases hd with h | h
    ·rw [h1] at h
     split at h
     ·rcases eV.1 h with rfl | h
      ·exact Int.le_refl _
      ·have:=hx d (.inl h);omega
     ·have:=hx d (.inl h);omega
    ·rw [h2] at h
     split at h
     ·rcases eV.1 h with rfl | h
      ·exact Int.le_refl _
      ·have:=hx d (.inr h);omega
     ·have:=hx d (.inr h);omega
   omega
  ·rw [rT (l:=if wa then pa++[x] else pa),rT (l:=if wb then pb++[x] else pb),rT]
   ·have e1:=ooA;have e2:=ooB;have e3:=ooO
    unfold BA at e1 e2 e3
    rw [<-e1,<-e2,<-e3]
   ·intro c hc
    rcases hout c hc with h | rfl
    ·have:=hlow c (.inr (.inr h));omega
    ·omega
   ·intro c hc
    rcases hpb c hc with h | ⟨_,rfl⟩
    ·have:=hlow c (.inr (.inl h));omega
    ·omega
   ·intro c hc
    rcases hpa c hc with h | ⟨_,rfl⟩
    ·have:=hlow c (.inl h);omega
    ·omega
 ·intro c hc
  have m1: ∀c,c∈pa->c∈(if wa then pa++[x] else pa):=fun c h=>by split;exact List.mem_append_left _ h;exact h
  have m2: ∀c,c∈pb->c∈(if wb then pb++[x] else pb):=fun c h=>by split;exact List.mem_append_left _ h;exact h
  rcases hout c hc with h | rfl
  ·rcases I.mem c h with h | h
   ·exact .inl (m1 c h)
   ·exact .inr (m2 c h)
  ·rcases hw with h | h
   ·left;rw [aC h];simp
   ·right;rw [aC h];simp
 ·have:=I.len
  have h3: (if wa then pa++[x] else pa).length+ (if wb then pb++[x] else pb).length>=pa.length+pb.length+1:=by
   rcases hw with h | h
   ·subst h;cases wb <;> simp <;> omega
   ·subst h;cases wa <;> simp <;> omega
  split
  ·omega
  ·simp at h3 ⊢;omega
end
end Go.Gk
namespace Go.Gk
open Go
section
variable {N:Nat}
theorem gE (x:Int) (l:List Int):idx (x::l) 0=some x:=rfl
theorem oA {α:Type} (x:α) (l:List α):r7 (x::l) 1 (((x::l).length:Nat):Int)=some l:=sI (x::l) 1 (by simp)
theorem iC {α:Type} (x:α) (l:List α):decide ((((x::l).length:Nat):Int)>0)=true:=cJ (by simp)
theorem qI {α:Type} (x:α) (l:List α): ((((x::l).length:Nat):Int)==0)=false:=by rw [beq_eq_false_iff_ne];simp;omega
theorem zH {a b:List Int} (ha:kX a) (hb:kX b) (h:a≠[]\/b≠[]): ∃x ta tb wa wb,a= (if wa then x::ta else ta)/\b= (if wb then x::tb else tb)/\(wa=true\/wb=true)/\(∀d,(d∈ta\/d∈tb)->x<d):=by
 match a,b,ha,hb,h with
 | [],[],_,_,h=>rcases h with h | h <;> exact absurd rfl h
 | x::ta,[],ha,_,_=>exact⟨x,ta,[],true,false,rfl,rfl, .inl rfl,fun d hd=>by rcases hd with h | h;exact ha.head d h;cases h⟩
 | [],y::tb,_,hb,_=>exact⟨y,[],tb,false,true,rfl,rfl, .inr rfl,fun d hd=>by rcases hd with h | h;cases h;exact hb.head d h⟩
 | x::ta,y::tb,ha,hb,_=>
  rcases Int.lt_trichotomy x y with h | h | h
  ·refine⟨x,ta,y::tb,true,false,rfl,rfl, .inl rfl,fun d hd=>?_⟩
   rcases hd with h1 | h1
   ·exact ha.head d h1
   ·rcases eV.1 h1 with rfl | h1
    ·exact h
    ·have:=hb.head d h1;omega
  ·subst h
   exact⟨x,ta,tb,true,true,rfl,rfl, .inl rfl,fun d hd=>by rcases hd with h | h;exact ha.head d h;exact hb.head d h⟩
  ·refine⟨y,x::ta,tb,false,true,rfl,rfl, .inr rfl,fun d hd=>?_⟩
   rcases hd with h1 | h1
   ·rcases eV.1 h1 with rfl | h1
    ·exact h
    ·have:=ha.head d h1;omega
   ·exact hb.head d h1
theorem BB {φ:Bool->Bool->Option Bool} {gD:Bool->Bool->Bool} (hφ: ∀p q,φ p q=some (gD p q)) (hk:gD false false=false) {a b:List Int} (ha:kX a) (hb:kX b) (hae:a.length % 2=0) (hbe:b.length % 2=0)
  (kS:a.length<=1099511627776) (hbl:b.length<=1099511627776) (hN:a.length+b.length<N):
  Ok (mG N a b φ) (fun m=>kX m/\m.length % 2=0/\(∀x,lF m x=gD (lF a x) (lF b x))/\∀c∈m,c∈a\/c∈b):=by
 unfold mG
 refine Ok.bind (Ok.mC (Go:=fun s=>kX s.2.2.1/\s.2.2.1.length % 2=0/\(∀x,lF s.2.2.1 x=gD (lF a x) (lF b x))/\∀c∈s.2.2.1,c∈a\/c∈b) (Rt:=fun _=>True)
  (fun s=>∃pa pb,yG gD a b s.1 s.2.1 s.2.2.1 s.2.2.2.1 s.2.2.2.2.1 s.2.2.2.2.2 pa pb) (fun s=>s.1.length+s.2.1.length) ?_ ?_ hN) ?_
 ·rintro⟨a',b',out,inA,inB,is⟩ ⟨pa,pb,I⟩
  dsimp only at I ⊢
  have ha':kX a':=by have:=ha;rw [I.ea] at this;exact(List.pairwise_append.1 this).2.1
  have hb':kX b':=by have:=hb;rw [I.eb] at this;exact(List.pairwise_append.1 this).2.1
  have hle:pa.length+a'.length=a.length:=by rw [I.ea];simp
  have hlb:pb.length+b'.length=b.length:=by rw [I.eb];simp
  have hlo:=I.len
  by_cases hne:a'≠[]\/b'≠[]
  ·obtain⟨x,ta,tb,wa,wb,h1,h2,hw,hx⟩:=zH ha' hb' hne
   have J:=I.step ha hb x ta tb wa wb h1 h2 hw hx
   have fin: ∀(sa sb:List Int×Bool),sa= (ta,inA ^^ wa)->sb= (tb,inB ^^ wb)->
     Ok ((φ sa.2 sb.2).bind fun x220=>(bif (x220 != is) then ((app 8 out ([x]: (List Int))).bind fun x227=>some (x227,x220)) else (some (out,is))).bind fun s224=>some (Fl.nx (sa.1,sb.1,s224.1,sa.2,sb.2,s224.2)))
      (En (fun s':List Int×List Int×List Int×Bool×Bool×Bool=>(∃pa pb,yG gD a b s'.1 s'.2.1 s'.2.2.1 s'.2.2.2.1 s'.2.2.2.2.1 s'.2.2.2.2.2 pa pb)/\s'.1.length+s'.2.1.length<a'.length+b'.length) (fun s=>kX s.2.2.1/\s.2.2.1.length % 2=0/\(∀x,lF s.2.2.1 x=gD (lF a x) (lF b x))/\∀c∈s.2.2.1,c∈a\/c∈b) (fun _:Empty=>True)):=by
    rintro _ _ rfl rfl
    refine Ok.eq (hφ _ _) ?_
    have hlt:ta.length+tb.length<a'.length+b'.length:=by
     rw [h1,h2]
     rcases hw with h | h
     ·subst h;cases wb <;> simp <;> omega
     ·subst h;cases wa <;> simp <;> omega
    by_cases he:gD (inA ^^ wa) (inB ^^ wb)=is
    ·rw [aC he] at J
     refine Ok.eq (x:=(out,is)) (by rw [he,show (is != is)=false by simp,bA]) ?_
     rw [he] at J
     exact Ok.nx ⟨⟨_,_,J⟩,hlt⟩
    ·rw [aF he] at J
     refine Ok.eq (x:=(out++[x],gD (inA ^^ wa) (inB ^^ wb))) (by rw [show (gD (inA ^^ wa) (inB ^^ wb) != is)=true by simp [he],aV,gr (by simp;omega),aB]) (Ok.nx ⟨⟨_,_,J⟩,hlt⟩)
   rcases hw with rfl | rfl
   ·rw [aC rfl] at h1
    subst h1
    refine Ok.eq (x:=true) (by rw [iC,aV]) ?_
    rw [aV]
    have hle2: (bif (((b'.length:Nat):Int)==0) then (some true) else (bif (decide ((((x::ta).length:Nat):Int)>0)) then ((idx (x::ta) 0).bind fun x181=>(idx b' 0).bind fun x183=>some (decide (x181<=x183))) else (some false)))=some true:=by
     cases b' with
     | nil=>rfl
     | cons y b''=>
      rw [qI,bA,iC,aV,gE,aB,gE,aB]
      have:x<=y:=by
       cases wb with
       | true=>simp at h2;omega
       | false=>have:=hx y (.inr (by simp at h2;rw [<-h2];simp));omega
      rw [cJ this]
    refine Ok.eq hle2 ?_
    rw [aV]
    refine Ok.eq (x:=x) (by rw [gE,aB]) ?_
    refine Ok.eq (x:=true) (by rw [iC,aV,gE,aB];simp) ?_
    refine Ok.eq (x:=(ta,!inA)) (by rw [aV,oA,aB]) ?_
    cases wb with
    | true=>
     rw [aC rfl] at h2
     subst h2
     refine Ok.eq (x:=true) (by rw [iC,aV,gE,aB];simp) ?_
     refine Ok.eq (x:=(tb,!inB)) (by rw [aV,oA,aB]) ?_
     exact fin _ _ (by simp) (by simp)
    | false=>
     have h2:b'=tb:=h2
     subst h2
     refine Ok.eq (x:=false) ?_ ?_
     ·cases b' with
      | nil=>rfl
      | cons y b''=>
       have:=hx y (.inr (by simp))
       rw [iC,aV,gE,aB,show (y==x)=false by rw [beq_eq_false_iff_ne];omega]
     ·refine Ok.eq (x:=(b',inB)) (by rw [bA]) ?_
      exact fin _ _ (by simp) (by simp)
   ·cases wa with
    | true=>
     rw [aC rfl] at h1 h2
     subst h1;subst h2
     refine Ok.eq (x:=true) (by rw [iC,aV]) ?_
     rw [aV]
     refine Ok.eq (x:=true) (by rw [qI,bA,iC,aV,gE,aB,gE,aB];simp) ?_
     rw [aV]
     refine Ok.eq (x:=x) (by rw [gE,aB]) ?_
     refine Ok.eq (x:=true) (by rw [iC,aV,gE,aB];simp) ?_
     refine Ok.eq (x:=(ta,!inA)) (by rw [aV,oA,aB]) ?_
     refine Ok.eq (x:=true) (by rw [iC,aV,gE,aB];simp) ?_
     refine Ok.eq (x:=(tb,!inB)) (by rw [aV,oA,aB]) ?_
     exact fin _ _ (by simp) (by simp)
    | false=>
     have h1:a'=ta:=h1
     rw [aC rfl] at h2
     subst h1;subst h2
     refine Ok.eq (x:=true) (by rw [iC,DV];simp) ?_
     rw [aV]
     refine Ok.eq (x:=false) ?_ ?_
     ·rw [qI,bA]
      cases a' with
      | nil=>rfl
      | cons y a''=>
       have:=hx y (.inl (by simp))
       rw [iC,aV,gE,aB,gE,aB,bU (by omega)]
     ·rw [bA]
      refine Ok.eq (x:=x) (by rw [gE,aB]) ?_
      refine Ok.eq (x:=false) ?_ ?_
      ·cases a' with
       | nil=>rfl
       | cons y a''=>
        have:=hx y (.inl (by simp))
        rw [iC,aV,gE,aB,show (y==x)=false by rw [beq_eq_false_iff_ne];omega]
      ·refine Ok.eq (x:=(a',inA)) (by rw [bA]) ?_
       refine Ok.eq (x:=true) (by rw [iC,aV,gE,aB];simp) ?_
       refine Ok.eq (x:=(tb,!inB)) (by rw [aV,oA,aB]) ?_
       exact fin _ _ (by simp) (by simp)
  ·have ea:a'= []:=Classical.byContradiction fun h=>hne (.inl h)
   have eb:b'= []:=Classical.byContradiction fun h=>hne (.inr h)
   subst ea;subst eb
   refine Ok.eq (x:=false) rfl ?_
   refine Ok.br ⟨I.inc,?_,fun x=>?_,fun c hc=>?_⟩
   ·have h1:=I.ea;have h2:=I.eb
    rw [k8] at h1 h2
    have h3:BA out=false:=by
     rw [<-I.oo,I.ok,I.oa,I.ob,<-h1,<-h2]
     unfold BA;rw [hae,hbe];exact hk
    unfold BA at h3
    rw [beq_eq_false_iff_ne] at h3
    dsimp only;omega
   ·have:=I.GA x (fun d hd=>by rcases hd with h | h <;> cases h)
    have h1:=I.ea;have h2:=I.eb
    rw [k8] at h1 h2
    rw [h1,h2];exact this
   ·have h1:=I.ea;have h2:=I.eb
    rw [k8] at h1 h2
    rw [h1,h2];exact I.mem c hc
 ·exact⟨[],[],rfl,rfl,rfl,rfl,rfl,hk.symm,fun c hc=>(by rcases hc with h | h | h <;> cases h),kg,fun x _=>hk.symm,fun c hc=>(by cases hc),bJ _⟩
 ·rintro o ho
  exact Ok.cs ho (fun s h=>Ok.ret h) (fun r=>r.elim)
theorem cW.app {s t:List Bd} (h:cW (s++t)):cW t:=⟨fun b hb=>h.each b (List.mem_append_right _ hb),(List.pairwise_append.1 h.ord).2.1⟩
theorem cW.low {b:Bd} {s:List Bd} (h:cW (b::s)): ∀c∈b::s,b.y0<=c.y0:=fun c hc=>by
 rcases eV.1 hc with rfl | hc
 ·exact Int.le_refl _
 ·have:=h.ve c hc;have:=(h.each b (by simp)).1;omega
theorem cW.high {s:List Bd} {b:Bd} (h:cW (s++[b])): ∀c∈s++[b],c.y1<=b.y1:=fun c hc=>by
 rcases cP.1 hc with hc | hc
 ·have:=((List.pairwise_append.1 h.ord).2.2 c hc b (by simp)).1
  have:=(h.each b (by simp)).1;omega
 ·simp at hc;subst hc;exact Int.le_refl _
def y5 (s:List aA) (y e:Int):List Int×Int:=match s with
 | []=>([],e)
 | b::_=>if y<b.Y0 then ([],if b.Y0<e then b.Y0 else e) else (b.Xs,if b.Y1<e then b.Y1 else e)
theorem CR {α:Type} (x:α) (l:List α):idx (x::l) 0=some x:=rfl
theorem Eo (s:List aA) (y e:Int):kp N s y e=some (y5 s y e):=by
 unfold kp y5
 cases s with
 | nil=>rfl
 | cons b s=>
  dsimp only
  rw [qI,bA,CR,aB,aB,aB,aB]
  by_cases h:y<b.Y0
  ·rw [cJ h,aV,aC h]
  ·rw [bU h,bA,aF h]
theorem AA {s:List aA} {y e:Int} {X Y:List Int} (hc:cW (s.map aW)) (hl:rX X Y (s.map aW)) (hh: ∀b t,s=b::t->y<b.Y1) (hy:y<e):
  y< (y5 s y e).2/\(y5 s y e).2<=e/\(∀y',y<=y'->y'< (y5 s y e).2->rowAt (s.map aW) y'= (y5 s y e).1)/\kX (y5 s y e).1/\(y5 s y e).1.length % 2=0/\((y5 s y e).2=e\/(y5 s y e).2∈Y)/\∀c∈(y5 s y e).1,c∈X:=by
 cases s with
 | nil=>exact⟨hy,Int.le_refl _,fun y' _ _=>rfl,kg,rfl, .inl rfl,fun c hc=>(by cases hc)⟩
 | cons b t=>
  have hb:=hc.each (aW b) (by simp)
  have hlb:=hl (aW b) (by simp)
  have h1:=hh b t rfl
  unfold y5
  dsimp only
  by_cases h:y<b.Y0
  ·rw [aC h]
   dsimp only
   refine⟨by split <;> omega,by split <;> omega,fun y' h2 h3=>?_,kg,rfl,?_,fun c hc=>(by cases hc)⟩
   ·exact hc.qH (by show y'<b.Y0;split at h3 <;> omega)
   ·split
    ·exact .inr hlb.1
    ·exact .inl rfl
  ·rw [aF h]
   dsimp only
   refine⟨by split <;> omega,by split <;> omega,fun y' h2 h3=>?_,hb.2.2.1,hb.2.2.2,?_,hlb.2.2⟩
   ·exact cW.kc (b:=aW b) (by show b.Y0<=y';omega) (by show y'<b.Y1;split at h3 <;> omega)
   ·split
    ·exact .inr hlb.2.1
    ·exact .inl rfl
theorem wE {y:Int} {a:List aA} (hN:a.length<N) {body:List aA->Option (Fl (List aA) Empty)}
  (hb:body=fun(s373: (List aA))=>((bif (decide ((s373.length:Int)>0)) then ((idx s373 0).bind fun x407=>some (decide (x407.Y1<=y))) else (some false)).bind fun s405=>bif s405 then ((r7 s373 1 (s373.length:Int)).bind fun x410=>some (.nx x410)) else (some (.br s373)):Option (Fl ((List aA)) Empty))):
  Ok (mC body N a) (Gx (fun a'=>∃p,a=p++a'/\(∀c∈p,c.Y1<=y)/\∀b t,a'=b::t->y<b.Y1) (fun _=>True)):=by
 subst hb
 refine Ok.mC (fun a'=>∃p,a=p++a'/\∀c∈p,c.Y1<=y) List.length ?_ ⟨[],rfl,fun c hc=>(by cases hc)⟩ hN
 rintro a' ⟨p,e,hp⟩
 cases a' with
 | nil=>exact Ok.eq (x:=false) rfl (Ok.br ⟨p,e,hp,fun b t h=>(by cases h)⟩)
 | cons b t=>
  refine Ok.eq (x:=decide (b.Y1<=y)) (by rw [iC,aV,CR,aB]) ?_
  refine Ok.bif (fun h=>?_) (fun h=>Ok.br ⟨p,e,hp,fun b' t' h'=>?_⟩)
  ·have h:=of_decide_eq_true h
   refine Ok.eq (oA b t) (Ok.nx ⟨⟨p++[b],by rw [e];simp,fun c hc=>?_⟩,by simp⟩)
   rcases cP.1 hc with hc | hc
   ·exact hp c hc
   ·simp at hc;subst hc;exact h
  ·have h:=of_decide_eq_false h
   injection h' with h1 h2;subst h1;omega
theorem yH {p a':List Bd} {y y':Int} (hp: ∀c∈p,c.y1<=y) (h:y<=y'):rowAt (p++a') y'=rowAt a' y':=by
 rw [mq,aF]
 rintro⟨b,hb,h1⟩
 have:=hp b hb;omega
structure xz (gD:Bool->Bool->Bool) (X Y:List Int) (a b s:List aA):Prop where
 can:cW (s.map aW)
 cover: ∀x y,nC (s.map aW) x y=gD (nC (a.map aW) x y) (nC (b.map aW) x y)
 lim:rX X Y (s.map aW)
theorem vq {s:List aA} (hs:s≠[]) (hl:s.length<=1099511627776) (hc:cW (s.map aW)): ∃f l,idx s 0=some f/\idx s (IntKind.wrap .i64 (((s.length:Nat):Int) - 1))=some l/\f∈s/\l∈s/\∀c∈s,f.Y0<=c.Y0/\c.Y1<=l.Y1:=by
 cases s with
 | nil=>exact absurd rfl hs
 | cons f t=>
  rw [lI (by simp) (by omega)]
  have hlt: (f::t).length - 1< (f::t).length:=by simp
  refine⟨f,(f::t)[(f::t).length - 1],rfl,iR _ _ hlt,by simp,cT _,fun c hcm=>⟨?_,?_⟩⟩
  ·exact hc.low (aW c) (bV.2 ⟨c,hcm,rfl⟩)
  ·have e: (f::t)= (f::t).dropLast++[(f::t)[(f::t).length - 1]]:=by
    have:=List.dropLast_concat_getLast (show f::t≠[] by simp)
    rw [<-List.getLast_eq_getElem (h:=by simp)];exact this.symm
   generalize (f::t)[(f::t).length - 1]=l at e
   have hc2:=hc
   rw [e,fC] at hc2
   have hm:aW c∈(List.map aW (f::t).dropLast++[aW l]):=by
    have:aW c∈(f::t).map aW:=bV.2 ⟨c,hcm,rfl⟩
    rw [e,fC] at this;exact this
   exact cW.high hc2 (aW c) hm
theorem vr {φ:Bool->Bool->Option Bool} {gD:Bool->Bool->Bool} (hφ: ∀p q,φ p q=some (gD p q)) (hk:gD false false=false) {a b:List aA} {X Y:List Int} (ca:cW (a.map aW)) (cb:cW (b.map aW))
  (la:rX X Y (a.map aW)) (lb:rX X Y (b.map aW)) (hX:X.length<=1048576000) (hY:Y.length<=1048576000) (hs: ∀c∈Y,small c) (hN:4398046511104<=N):Ok (jf N a b φ) (xz gD X Y a b):=by
 have kS:a.length<=Y.length:=by have:=la.len ca;rwa [iE] at this
 have hbl:b.length<=Y.length:=by have:=lb.len cb;rwa [iE] at this
 unfold jf
 rw [wrap_add (by omega)]
 refine Ok.bif (fun h=>Ok.ret ?_) (fun h=>?_)
 ·have h:a.length+b.length=0:=by have:=beq_iff_eq.1 h;omega
  have e1:a= []:=List.eq_nil_of_length_eq_zero (by omega)
  have e2:b= []:=List.eq_nil_of_length_eq_zero (by omega)
  subst e1;subst e2
  exact⟨cW.nil,fun x y=>hk.symm,fun c hc=>(by cases hc)⟩
 have h0:a≠[]\/b≠[]:=by
  rw [beq_eq_false_iff_ne] at h
  by_cases e:a= []
  ·right;intro e2;subst e;subst e2;exact h rfl
  ·exact .inl e
 refine Ok.bind (Ok.kM (fun k s=>match k with | 0=>True | 1=>a= []\/((∀c∈a,s.1<=c.Y0/\c.Y1<=s.2)/\s.1∈Y/\s.2∈Y) | _=>((∀c∈a,s.1<=c.Y0/\c.Y1<=s.2)/\(∀c∈b,s.1<=c.Y0/\c.Y1<=s.2)/\s.1∈Y/\s.2∈Y)) (by simp) trivial (fun k s hk hI=>?_)) ?_
 ·obtain⟨y,e⟩:=s
  have hk:k=0\/k=1:=by simp at hk;omega
  rcases hk with rfl | rfl
  ·refine Ok.ix (x:=a) rfl ?_
   by_cases ea:a= []
   ·subst ea
    exact Ok.eq (x:=(y,e)) rfl (Ok.ret (.inl rfl))
   ·obtain⟨f,l,f1,f2,f3,f4,f5⟩:=vq ea (by omega) ca
    have hpos:decide (((a.length:Nat):Int)>0)=true:=cJ (by have:=List.length_pos_iff.2 ea;omega)
    refine Ok.eq (x:=(f.Y0,l.Y1)) ?_ (Ok.ret (.inr ⟨f5,(la _ (bV.2 ⟨f,f3,rfl⟩)).1,(la _ (bV.2 ⟨l,f4,rfl⟩)).2.1⟩))
    rw [hpos,aV]
    show ((some true).bind _)=_
    rw [aB,aV,f1,aB,f2,aB,aB,aB,aB]
    simp
  ·refine Ok.ix (x:=b) rfl ?_
   have hI:a= []\/((∀c∈a,y<=c.Y0/\c.Y1<=e)/\y∈Y/\e∈Y):=hI
   by_cases eb:b= []
   ·subst eb
    refine Ok.eq (x:=(y,e)) rfl (Ok.ret ?_)
    rcases hI with h | ⟨h1,h2,h3⟩
    ·rcases h0 with h' | h'
     ·exact absurd h h'
     ·exact absurd rfl h'
    ·exact⟨h1,fun c hc=>(by cases hc),h2,h3⟩
   ·obtain⟨f,l,f1,f2,f3,f4,f5⟩:=vq eb (by omega) cb
    have hpos:decide (((b.length:Nat):Int)>0)=true:=cJ (by have:=List.length_pos_iff.2 eb;omega)
    have g1:f.Y0∈Y:=(lb _ (bV.2 ⟨f,f3,rfl⟩)).1
    have g2:l.Y1∈Y:=(lb _ (bV.2 ⟨l,f4,rfl⟩)).2.1
    by_cases ea:a= []
    ·subst ea
     refine Ok.eq (x:=(f.Y0,l.Y1)) ?_ (Ok.ret ⟨fun c hc=>(by cases hc),f5,g1,g2⟩)
     rw [hpos,aV]
     show ((some true).bind _)=_
     rw [aB,aV,f1,aB,f2,aB,aB,aB,aB]
     simp
    ·obtain⟨h1,h2,h3⟩:=hI.resolve_left ea
     refine Ok.eq (x:=(if f.Y0<y then f.Y0 else y,if e<l.Y1 then l.Y1 else e)) ?_ (Ok.ret ⟨fun c hc=>?_,fun c hc=>?_,?_,?_⟩)
     ·rw [hpos,aV]
      have ez: (((a.length:Nat):Int)==0)=false:=by rw [beq_eq_false_iff_ne];have:=List.length_pos_iff.2 ea;omega
      rw [ez]
      show ((some false).bind _)=_
      rw [aB,bA,aB,f1,aB,f2,aB]
     ·have:=h1 c hc;dsimp only;split <;> split <;> omega
     ·have:=f5 c hc;dsimp only;split <;> split <;> omega
     ·dsimp only;split
      ·exact g1
      ·exact h2
     ·dsimp only;split
      ·exact g2
      ·exact h3
 ·rintro⟨y0,e0⟩ hI
  have hI: (∀c∈a,y0<=c.Y0/\c.Y1<=e0)/\(∀c∈b,y0<=c.Y0/\c.Y1<=e0)/\y0∈Y/\e0∈Y:=hI
  obtain⟨ia,ib,iy,ie⟩:=hI
  have sy:=hs _ iy
  have se:=hs _ ie
  unfold small at sy se
  dsimp only
  refine Ok.bind (Ok.mC (Go:=fun s=>xz gD X Y a b s.2.2.1) (Rt:=fun _=>True)
   (fun s=>∃pa pb,a=pa++s.1/\b=pb++s.2.1/\(∀c∈pa,c.Y1<=s.2.2.2)/\(∀c∈pb,c.Y1<=s.2.2.2)/\y0<=s.2.2.2/\s.2.2.2<=max y0 e0/\s.2.2.2∈Y/\cW (s.2.2.1.map aW)/\rX X Y (s.2.2.1.map aW)/\(∀c∈s.2.2.1,c.Y1<=s.2.2.2)/\
    ∀x y,nC (s.2.2.1.map aW) x y= (gD (nC (a.map aW) x y) (nC (b.map aW) x y)&&decide (y<s.2.2.2)))
   (fun s=>(e0 - s.2.2.2).toNat) ?_ ?_ (by dsimp only;omega)) ?_
  ·rintro⟨a',b',out,y⟩ ⟨pa,pb,ea,eb,hpa,hpb,hy0,hye,hyY,hcan,hlim,htop,hcov⟩
   dsimp only at ea eb hpa hpb hy0 hye hyY hcan hlim htop hcov ⊢
   refine Ok.bif (fun h=>?_) (fun h=>Ok.br ?_)
   ·have hlt:y<e0:=of_decide_eq_true h
    have hsl: ∀(p s t:List aA),t=p++s->s.length<=t.length:=fun p s t e=>by rw [e];simp
    have hal':=hsl _ _ _ ea
    have hbl':=hsl _ _ _ eb
    refine Ok.bind (wE (y:=y) (a:=a') (by omega) rfl) (fun o ho=>Ok.cs ho ?_ (fun r=>r.elim))
    rintro a2 ⟨qa,ea2,hqa,hha⟩
    refine Ok.bind (wE (y:=y) (a:=b') (by omega) rfl) (fun o ho=>Ok.cs ho ?_ (fun r=>r.elim))
    rintro b2 ⟨qb,eb2,hqb,hhb⟩
    have ea3:a= (pa++qa)++a2:=by rw [ea,ea2];simp
    have eb3:b= (pb++qb)++b2:=by rw [eb,eb2];simp
    have hPa: ∀c∈pa++qa,c.Y1<=y:=fun c hc=>by rcases cP.1 hc with h | h;exact hpa c h;exact hqa c h
    have hPb: ∀c∈pb++qb,c.Y1<=y:=fun c hc=>by rcases cP.1 hc with h | h;exact hpb c h;exact hqb c h
    have ca2:cW (a2.map aW):=by have:=ca;rw [ea3,fC] at this;exact this.app
    have cb2:cW (b2.map aW):=by have:=cb;rw [eb3,fC] at this;exact this.app
    have la2:rX X Y (a2.map aW):=fun c hc=>la c (by rw [ea3,fC];exact List.mem_append_right _ hc)
    have lb2:rX X Y (b2.map aW):=fun c hc=>lb c (by rw [eb3,fC];exact List.mem_append_right _ hc)
    refine Ok.eq (Eo a2 y e0) (Ok.eq (Eo b2 y e0) ?_)
    obtain⟨a1,a3,a4,a5,a6,a7,a8⟩:=AA ca2 la2 hha hlt
    obtain⟨b1,b3,b4,b5,b6,b7,b8⟩:=AA cb2 lb2 hhb hlt
    have hal2: (y5 a2 y e0).1.length<=X.length:=dT a5.nodup a8
    have hbl2: (y5 b2 y e0).1.length<=X.length:=dT b5.nodup b8
    generalize y5 a2 y e0=pa2 at *
    generalize y5 b2 y e0=pb2 at *
    obtain⟨xa,n⟩:=pa2
    obtain⟨xb,m⟩:=pb2
    dsimp only at *
    refine Ok.bind (BB hφ hk a5 b5 a6 b6 (by omega) (by omega) (by omega)) ?_
    rintro row ⟨r1,r2,r3,r4⟩
    have hnx: ∃nx,nx= (if m<n then m else n)/\y<nx/\nx<=e0/\nx<=n/\nx<=m/\nx∈Y:=by
     refine⟨_,rfl,by split <;> omega,by split <;> omega,by split <;> omega,by split <;> omega,?_⟩
     split
     ·rcases b7 with h | h
      ·rw [h];exact ie
      ·exact h
     ·rcases a7 with h | h
      ·rw [h];exact ie
      ·exact h
    obtain⟨nx,hnx,n1,n2,n3,n4,n5⟩:=hnx
    rw [<-hnx]
    have hol:out.length<=Y.length:=by have:=hlim.len hcan;rwa [iE] at this
    obtain⟨out',p1,p2⟩:=Ay (N:=N) (s:=out) (b:=⟨y,nx,row⟩) (by omega) (fun c hc=>by
     have:=hlim.row hcan (b:=aW c) (bV.2 ⟨c,hc,rfl⟩)
     have e: (aW c).xs=c.Xs:=rfl
     rw [e] at this;omega)
    refine Ok.eq p1 ?_
    have htop': ∀c∈out.map aW,c.y1<=(aW ⟨y,nx,row⟩).y0:=fun c hc=>by
     obtain⟨d,hd,rfl⟩:=bV.1 hc
     exact htop d hd
    refine Ok.nx ⟨⟨pa++qa,pb++qb,ea3,eb3,fun c hc=>by have:=hPa c hc;dsimp only;omega,fun c hc=>by have:=hPb c hc;dsimp only;omega,by dsimp only;omega,by dsimp only;omega,n5,by dsimp only;rw [p2];exact tP hcan htop' r1 r2,?_,fun c hc=>?_,fun x y'=>?_⟩,by dsimp only;omega⟩
    ·dsimp only;rw [p2]
     refine hlim.push hyY n5 (fun c hc=>?_)
     rcases r4 c hc with h | h
     ·exact a8 c h
     ·exact b8 c h
    ·have hm':aW c∈kY (out.map aW) (aW ⟨y,nx,row⟩):=by rw [<-p2];exact bV.2 ⟨c,hc,rfl⟩
     exact tQ htop' (by show y<=nx;omega) _ hm'
    ·show lF (rowAt (out'.map aW) y') x=_
     rw [p2,tO htop' (fun c hc=>(hcan.each c hc).1) (fun h=>absurd h (by show ¬nx<=y;omega))]
     by_cases hyy:y<=y'/\y'<nx
     ·rw [aC (show (aW ⟨y,nx,row⟩).y0<=y'/\y'< (aW ⟨y,nx,row⟩).y1 from hyy),cJ hyy.2,Bool.and_true]
      show lF row x=_
      have mp: ∀p q:List aA,(∀c∈p++q,c.Y1<=y)->∀c∈(p++q).map aW,c.y1<=y:=fun p q h c hc=>by
       obtain⟨d,hd,rfl⟩:=bV.1 hc
       exact h d hd
      have q1:nC (a.map aW) x y'=lF xa x:=by
       unfold nC
       rw [ea3,fC,yH (mp _ _ hPa) hyy.1,a4 y' hyy.1 (by omega)]
      have q2:nC (b.map aW) x y'=lF xb x:=by
       unfold nC
       rw [eb3,fC,yH (mp _ _ hPb) hyy.1,b4 y' hyy.1 (by omega)]
      rw [r3,q1,q2]
     ·rw [aF (show ¬((aW ⟨y,nx,row⟩).y0<=y'/\y'< (aW ⟨y,nx,row⟩).y1) from hyy)]
      show nC (out.map aW) x y'=_
      rw [hcov]
      by_cases h1:y'<y
      ·rw [cJ h1,cJ (show y'<nx by omega)]
      ·rw [bU h1,bU (show ¬y'<nx by omega)]
   ·have hge:e0<=y:=by have:=of_decide_eq_false h;omega
    refine⟨hcan,fun x y'=>?_,hlim⟩
    dsimp only
    rw [hcov]
    by_cases h1:y'<y
    ·rw [cJ h1,Bool.and_true]
    ·have z: ∀s:List aA,(∀c∈s,y0<=c.Y0/\c.Y1<=e0)->nC (s.map aW) x y'=false:=fun s h=>by
      unfold nC
      rw [jv fun c hc=>?_]
      ·rfl
      ·obtain⟨d,hd,rfl⟩:=bV.1 hc
       exact .inr (by have:=(h d hd).2;show d.Y1<=y';omega)
     rw [z a ia,z b ib,hk];rfl
  ·refine⟨[],[],rfl,rfl,fun c hc=>(by cases hc),fun c hc=>(by cases hc),Int.le_refl _,by dsimp only;omega,iy,cW.nil,fun c hc=>(by cases hc),fun c hc=>(by cases hc),fun x y=>?_⟩
   dsimp only
   show false=_
   by_cases h1:y<y0
   ·have z: ∀s:List aA,(∀c∈s,y0<=c.Y0/\c.Y1<=e0)->nC (s.map aW) x y=false:=fun s h=>by
     unfold nC
     rw [jv fun c hc=>?_]
     ·rfl
     ·obtain⟨d,hd,rfl⟩:=bV.1 hc
      exact .inl (by have:=(h d hd).1;show y<d.Y0;omega)
    rw [z a ia,z b ib,hk];rfl
   ·rw [bU h1,Bool.and_false]
  ·rintro o ho
   exact Ok.cs ho (fun s h=>Ok.ret h) (fun r=>r.elim)
theorem BC {a b:List aA} {X Y:List Int} (ca:cW (a.map aW)) (cb:cW (b.map aW)) (la:rX X Y (a.map aW)) (lb:rX X Y (b.map aW)) (hX:X.length<=1048576000) (hY:Y.length<=1048576000) (hs: ∀c∈Y,small c) (hN:4398046511104<=N):
  Ok (gq N a b) (xz (fun p q=>p&& !q) X Y a b):=by
 unfold gq
 exact Ok.bind (vr (gD:=fun p q=>p&& !q) (fun p q=>rfl) rfl ca cb la lb hX hY hs hN) (fun s h=>Ok.ret h)
end
end Go.Gk
namespace Go.Gk
open Go
section
variable {N:Nat}
structure UF (n:Nat) (up:List Int) (r:Nat->Nat):Prop where
 len:up.length=n
 rt: ∀i,i<n->∃u:Nat,up[i]? =some ((u:Nat):Int)/\u<=i/\r u=r i/\(u=i↔r i=i)
theorem UF.le {n:Nat} {up:List Int} {r:Nat->Nat} (h:UF n up r): ∀i,i<n->r i<=i:=by
 intro i
 induction i using Nat.strongRecOn with
 | ind i ih=>
  intro hi
  obtain⟨u,_,h2,h3,h4⟩:=h.rt i hi
  by_cases e:u=i
  ·rw [h4.1 e];exact bJ _
  ·rw [<-h3];have:=ih u (by omega) (by omega);omega
theorem UF.rr {n:Nat} {up:List Int} {r:Nat->Nat} (h:UF n up r): ∀i,i<n->r (r i)=r i:=by
 intro i
 induction i using Nat.strongRecOn with
 | ind i ih=>
  intro hi
  obtain⟨u,_,h2,h3,h4⟩:=h.rt i hi
  by_cases e:u=i
  ·rw [h4.1 e,h4.1 e]
  ·rw [<-h3];exact ih u (by omega) (by omega)
theorem kQ {l:List Int} {j:Nat} {v:Int} {i:Nat} (hj:j<l.length): (l.set j v)[i]? =if i=j then some v else l[i]? :=by
 rw [eE]
 by_cases e:j=i
 ·rw [aC e,aC e.symm,aC hj]
 ·rw [aF e,aF (fun h=>e h.symm)]
theorem UF.init (n:Nat) (up:List Int) (h1:up.length=n) (h2: ∀i,i<n->up[i]? =some ((i:Nat):Int)):UF n up (fun i=>i):=
 ⟨h1,fun i hi=>⟨i,h2 i hi,bJ _,rfl,by simp⟩⟩
theorem yI {n:Nat} (hn:n<=1048576000): ∃up,iZ N ((n:Nat):Int)=some up/\UF n up (fun i=>i):=by
 unfold iZ
 rw [sJ 0 (by omega),aB]
 have h0: (List.replicate n (0:Int)).length=n:=by simp
 obtain⟨s',h1,h2⟩:=uC (m:=(List.replicate n (0:Int)).length) (s:=List.replicate n (0:Int)) (body:=fun(k34:Nat) (s35: (List Int))=>((idx s35 (k34:Int)).bind fun x38=>some (s35.set (Int.toNat (k34:Int)) (k34:Int)):Option ((List Int))))
  (fun k s=>s.length=n/\∀i,i<k->s[i]? =some ((i:Nat):Int)) (by omega) ⟨h0,fun i hi=>by omega⟩ (fun k s hk ⟨hs,hi⟩=>by
   refine⟨s.set k ((k:Nat):Int),?_,by simp [hs],fun i hi'=>?_⟩
   ·rw [iR _ _ (by omega),aB,bR]
   ·rw [kQ (by omega)]
    split
    ·rename_i e;rw [e]
    ·exact hi i (by omega))
 rw [h1,aB]
 exact⟨s',rfl,UF.init n s' h2.1 (fun i hi=>h2.2 i (by omega))⟩
theorem xA {n:Nat} {up:List Int} {r:Nat->Nat} (h:UF n up r) {i:Nat} (hi:i<n) (hn:n<N): ∃up',eO N up ((i:Nat):Int)=some (((r i:Nat):Int),up')/\UF n up' r:=by
 unfold eO
 obtain⟨o,h1,h2⟩:=sG (R:=Empty) (body:=fun(s32: (List Int)×Int)=>((idx s32.1 s32.2).bind fun x43=>bif (x43 != s32.2) then ((idx s32.1 s32.2).bind fun x44=>(idx s32.1 x44).bind fun x45=>(idx s32.1 s32.2).bind fun x46=>(idx (s32.1.set (Int.toNat s32.2) x45) s32.2).bind fun x47=>some (.nx ((s32.1.set (Int.toNat s32.2) x45),x47))) else (some (.br (s32.1,s32.2))):Option (Fl ((List Int)×Int) Empty)))
  (fun s=>UF n s.1 r/\∃j:Nat,s.2= ((j:Nat):Int)/\j<n/\r j=r i) (fun s=>s.2.toNat) (fun s=>s.2= ((r i:Nat):Int)/\UF n s.1 r) (fun _=>True) (fun s ⟨hu,j,hj,hjn,hr⟩=>by
   obtain⟨l,y⟩:=s
   dsimp only at hu hj ⊢
   subst hj
   obtain⟨u,a1,a2,a3,a4⟩:=hu.rt j hjn
   rw [iL a1,aB]
   by_cases e:u=j
   ·subst e
    refine⟨.br (l,((u:Nat):Int)),by rw [show (((u:Nat):Int) != ((u:Nat):Int))=false by simp,bA],?_,hu⟩
    show ((u:Nat):Int)=_
    rw [<-hr,a4.1 rfl]
   ·obtain⟨v,b1,b2,b3,b4⟩:=hu.rt u (by omega)
    have hl:=hu.len
    refine⟨.nx (l.set j ((v:Nat):Int),((v:Nat):Int)),by
     rw [show (((u:Nat):Int) != ((j:Nat):Int))=true by simp;omega,aV,aB,iL b1,aB,aB,bR,
      iL (x:=((v:Nat):Int)) (by rw [kQ (by omega),aC rfl]),aB],⟨⟨by simp [hl],fun k hk=>?_⟩,v,rfl,by omega,?_⟩,?_⟩
    ·rw [kQ (by omega)]
     by_cases e2:k=j
     ·subst e2
      rw [aC rfl]
      refine⟨v,rfl,by omega,by rw [b3,a3],?_⟩
      constructor
      ·intro h;omega
      ·intro h;exact absurd (a4.2 h) e
     ·rw [aF e2];exact hu.rt k hk
    ·rw [b3,a3,hr]
    ·simp only [bR];omega)
  N (up,((i:Nat):Int)) ⟨h,i,rfl,hi,rfl⟩ (by simp only [bR];omega)
 rw [h1,aB]
 cases o with
 | go s'=>exact⟨s'.1,by rw [<-h2.1];rfl,h2.2⟩
 | rt r=>exact r.elim
def lE (r:Nat->Nat) (a b:Nat):Nat->Nat:=fun x=>if r x=max a b then min a b else r x
theorem CS (a b:Nat): (if ((a:Nat):Int)< ((b:Nat):Int) then ((b:Nat):Int) else ((a:Nat):Int))= ((max a b:Nat):Int):=by
 rw [Nat.max_def];split <;> split <;> omega
theorem CT (a b:Nat): (if ((b:Nat):Int)< ((a:Nat):Int) then ((b:Nat):Int) else ((a:Nat):Int))= ((min a b:Nat):Int):=by
 rw [Nat.min_def];split <;> split <;> omega
theorem D1 {n:Nat} {up:List Int} {r:Nat->Nat} (h:UF n up r) {i k:Nat} (hi:i<n) (hk:k<n) (hn:n<N):
  ∃up',fu N up ((i:Nat):Int) ((k:Nat):Int)=some up'/\UF n up' (lE r (r i) (r k)):=by
 obtain⟨u1,a1,a2⟩:=xA h hi hn
 obtain⟨u2,b1,b2⟩:=xA a2 hk hn
 have hri:=h.le i hi
 have hrk:=h.le k hk
 have rri:=h.rr i hi
 have rrk:=h.rr k hk
 unfold fu
 rw [a1,aB,b1,aB]
 dsimp only
 rw [CS,CT]
 have hm:max (r i) (r k)<n:=by omega
 have hl:=b2.len
 rw [iR _ _ (by omega),aB,bR]
 refine⟨_,rfl,by simp [hl],fun x hx=>?_⟩
 have rmax:r (max (r i) (r k))=max (r i) (r k):=by rcases Nat.le_total (r i) (r k) with e | e <;> simp [Nat.max_def] <;> split <;> omega
 have rmin:r (min (r i) (r k))=min (r i) (r k):=by rcases Nat.le_total (r i) (r k) with e | e <;> simp [Nat.min_def] <;> split <;> omega
 rw [kQ (by omega)]
 by_cases e:x=max (r i) (r k)
 ·subst e
  rw [aC rfl]
  refine⟨min (r i) (r k),rfl,by omega,?_,?_⟩
  ·unfold lE;rw [rmin,rmax,aC rfl];split <;> rfl
  ·unfold lE;rw [rmax,aC rfl]
 ·rw [aF e]
  obtain⟨u,c1,c2,c3,c4⟩:=b2.rt x hx
  refine⟨u,c1,c2,?_,?_⟩
  ·unfold lE;rw [c3]
  ·unfold lE
   split
   ·rename_i e2
    constructor
    ·intro hu;have:=c4.1 hu;omega
    ·intro hu
     have h1:=b2.le x hx
     have:min (r i) (r k)=max (r i) (r k)\/x<max (r i) (r k):=by omega
     have h3:x=max (r i) (r k):=by omega
     exact absurd h3 e
   ·exact c4
def mR (r:Nat->Nat) (E:List (Nat×Nat)):Prop:=∀p∈E,r p.1=r p.2
def vt (n:Nat) (r:Nat->Nat) (E:List (Nat×Nat)):Prop:=∀S:Nat->Prop,(∀p∈E,S p.1↔S p.2)->∀i j,i<n->j<n->r i=r j->S i->S j
theorem mR.join {r:Nat->Nat} {E:List (Nat×Nat)} (h:mR r E) (i k:Nat) (_h2:r (r i)=r i):mR (lE r (r i) (r k)) (E++[(i,k)]):=fun p hp=>by
 rcases cP.1 hp with hp | hp
 ·unfold lE;rw [h p hp]
 ·simp at hp;subst hp
  unfold lE
  dsimp only
  split <;> split <;> omega
theorem vt.join {n:Nat} {r:Nat->Nat} {E:List (Nat×Nat)} (h:vt n r E) {i k:Nat} (hi:i<n) (hk:k<n):vt n (lE r (r i) (r k)) (E++[(i,k)]):=fun S hS x y hx hy hr hSx=>by
 have hE: ∀p∈E,S p.1↔S p.2:=fun p hp=>hS p (List.mem_append_left _ hp)
 have hik:S i↔S k:=hS (i,k) (by simp)
 have key:=h S hE
 unfold lE at hr
 by_cases h1:r x=r y
 ·exact key x y hx hy h1 hSx
 ·have: (r x=r i/\r y=r k)\/(r x=r k/\r y=r i):=by
   split at hr <;> split at hr <;> omega
  rcases this with ⟨e1,e2⟩ | ⟨e1,e2⟩
  ·exact key k y hk hy e2.symm (hik.1 (key x i hx hi e1 hSx))
  ·exact key i y hi hy e2.symm (hik.2 (key x k hx hk e1 hSx))
theorem vt.id (n:Nat):vt n (fun i=>i) []:=fun S _ i j _ _ h hs=>by
 have h:i=j:=h
 subst h;exact hs
theorem mR.id:mR (fun i=>i) []:=fun p hp=>by simp at hp
def bI (n:Nat) (r:Nat->Nat):List Nat:=(List.range n).filter (fun k=>decide (r k=k))
def cls (n:Nat) (r:Nat->Nat) (k:Nat):List Nat:=(List.range n).filter (fun i=>decide (r i=k))
theorem iM (n:Nat) (r:Nat->Nat):bI (n+1) r=if r n=n then bI n r++[n] else bI n r:=by
 unfold bI
 rw [List.range_succ,iP]
 by_cases h:r n=n
 ·rw [aC h];simp [h]
 ·rw [aF h];simp [h]
theorem ql (n:Nat) (r:Nat->Nat) (k:Nat):cls (n+1) r k=if r n=k then cls n r k++[n] else cls n r k:=by
 unfold cls
 rw [List.range_succ,iP]
 by_cases h:r n=k
 ·rw [aC h];simp [h]
 ·rw [aF h];simp [h]
theorem mB (n:Nat) (r:Nat->Nat): (bI n r).length<=n:=by
 have:=lM (fun k=>decide (r k=k)) (List.range n)
 rw [List.length_range] at this;exact this
theorem xB (n:Nat) (r:Nat->Nat) (k:Nat): (cls n r k).length<=n:=by
 have:=lM (fun i=>decide (r i=k)) (List.range n)
 rw [List.length_range] at this;exact this
theorem gK {n k:Nat} {r:Nat->Nat}:k∈bI n r↔k<n/\r k=k:=by unfold bI;simp
theorem kd (n:Nat) (r:Nat->Nat): (bI n r).Nodup:=List.Nodup.sublist List.filter_sublist List.nodup_range
def mS (n:Nat) (r:Nat->Nat):List (List Int):=(bI n r).map (fun k=>(cls n r k).map (fun i=>((i:Nat):Int)))
theorem AB {n k:Nat} {r:Nat->Nat} (h: ∀i,i<n->r i<=i) (hk:n<=k):cls n r k= []:=by
 unfold cls
 rw [List.filter_eq_nil_iff]
 intro i hi
 have h1:=mh.1 hi
 have:=h i h1
 simp;omega
theorem qm {α β:Type} (f g:α->β) (l:List α) (j:Nat) (a:α) (hn:l.Nodup) (hj:l[j]? =some a) (hf: ∀b,b∈l->b≠a->f b=g b): (l.map f).set j (g a)=l.map g:=by
 apply List.ext_getElem?
 intro i
 have hjl:=(aT.1 hj).1
 rw [eE,iE,gZ,gZ]
 by_cases e:j=i
 ·subst e;rw [aC rfl,aC hjl,hj];rfl
 ·rw [aF e]
  cases hb:l[i]? with
  | none=>rfl
  | some b=>
   have hne:b≠a:=fun he=>by
    subst he
    have hil:=(aT.1 hb).1
    exact e ((List.getElem_inj hn).1 (by rw [(aT.1 hb).2,(aT.1 hj).2]) |>.symm)
   show some (f b)=some (g b)
   rw [hf b (dV hb) hne]
def GC (n:Nat) (r:Nat->Nat) (m:List (Int×Int)):Prop:=∀(j k:Nat),(bI n r)[j]? =some k->fT m ((k:Nat):Int) 0= ((j:Nat):Int)
theorem D2 {n:Nat} {up:List Int} {r:Nat->Nat} (h:UF n up r) (hn:n<N) (hn2:n<=1048576000): ∃up',gQ N up=some (mS n r,up')/\UF n up' r:=by
 unfold gQ
 have hlen:=h.len
 have hle:=h.le
 have hrr:=h.rr
 obtain⟨s',h1,h2⟩:=uC (m:=up.length) (s:=(up,([]: (List (List Int))),([]: (List (Int×Int)))))
  (body:=fun(k32:Nat) (s33: (List Int)×(List (List Int))×(List (Int×Int)))=>((eO N s33.1 (k32:Int)).bind fun x117=>(bif (x117.1==(k32:Int)) then ((app 24 s33.2.1 [([]: (List Int))]).bind fun x126=>some (x126,(qS s33.2.2 (k32:Int) (s33.2.1.length:Int)))) else (some (s33.2.1,s33.2.2))).bind fun s122=>(idx s122.1 (fT s122.2 x117.1 (0:Int))).bind fun iH=>(app 8 iH ([(k32:Int)]: (List Int))).bind fun x134=>(idx s122.1 (fT s122.2 x117.1 (0:Int))).bind fun x136=>some (x117.2,(s122.1.set (Int.toNat (fT s122.2 x117.1 (0:Int))) x134),s122.2):Option ((List Int)×(List (List Int))×(List (Int×Int)))))
  (fun k s=>UF n s.1 r/\s.2.1=mS k r/\GC k r s.2.2) (by omega) ⟨h,rfl,fun j k hj=>by simp [bI] at hj⟩ (fun k s hk ⟨hu,hs,hm⟩=>by
   obtain⟨l,ss,m⟩:=s
   dsimp only at hu hs hm ⊢
   subst hs
   rw [hlen] at hk
   obtain⟨u',a1,a2⟩:=xA hu hk hn
   rw [a1,aB]
   dsimp only
   have hhl:=mB k r
   have hsl: (mS k r).length= (bI k r).length:=by unfold mS;simp
   have hrk:=hle k hk
   by_cases e:r k=k
   ·
    rw [show (((r k:Nat):Int)==((k:Nat):Int))=true by rw [e];simp,aV,gr (by rw [hsl];simp;omega),aB,aB]
    dsimp only
    rw [e,tS,aC rfl,hsl]
    have hi: (mS k r++[([]:List Int)])[(bI k r).length]? =some []:=by rw [<-hsl,eM (bJ _),Nat.sub_self];rfl
    rw [iL hi,aB,gr (by simp),aB,aB,bR]
    refine⟨_,rfl,a2,?_,fun j q hj=>?_⟩
    ·dsimp only
     rw [<-hsl,List.set_append_right _ _ (bJ _),Nat.sub_self]
     unfold mS
     rw [iM,aC e,fC]
     congr 1
     ·apply List.map_congr_left
      intro a ha
      have:=(gK.1 ha).1
      rw [ql,aF (by omega)]
     ·simp only [List.set_cons_zero,eF,List.map_nil,List.nil_append]
      rw [ql,aC e,AB (fun i hi=>hle i (by omega)) (bJ _)];rfl
    ·dsimp only
     rw [iM,aC e] at hj
     rw [tS]
     by_cases e2:j< (bI k r).length
     ·rw [eU e2] at hj
      have:=(gK.1 (dV hj)).1
      rw [aF (by omega)];exact hm j q hj
     ·rw [eM (by omega)] at hj
      have hj0:j - (bI k r).length=0:=by
       have:=(aT.1 hj).1;simp at this;omega
      rw [hj0] at hj;simp at hj;subst hj
      rw [aC rfl];congr 1;omega
   ·rw [show (((r k:Nat):Int)==((k:Nat):Int))=false by simp;omega,bA,aB]
    dsimp only
    have hh:r k∈bI k r:=gK.2 ⟨by omega,hrr k hk⟩
    obtain⟨j,hj⟩:=eG hh
    rw [hm j (r k) hj]
    have hcl:=xB k r (r k)
    have hi: (mS k r)[j]? =some ((cls k r (r k)).map (fun i=>((i:Nat):Int))):=by unfold mS;rw [gZ,hj];rfl
    rw [iL hi,aB,gr (by simp;omega),aB,aB,bR]
    refine⟨_,rfl,a2,?_,fun j' q hj'=>?_⟩
    ·unfold mS
     rw [iM,aF e]
     have:=qm (fun a=>(cls k r a).map (fun i=>((i:Nat):Int))) (fun a=>(cls (k+1) r a).map (fun i=>((i:Nat):Int))) (bI k r) j (r k) (kd k r) hj (fun b hb hne=>by
      rw [ql,aF (fun h=>hne h.symm)])
     rw [ql,aC rfl,fC] at this
     exact this
    ·rw [iM,aF e] at hj';exact hm j' q hj')
 rw [h1,aB]
 obtain⟨l,ss,m⟩:=s'
 dsimp only at h2
 rw [hlen] at h2
 refine⟨l,?_,h2.1⟩
 rw [<-h2.2.1]
end
end Go.Gk
namespace Go.Gk
open Go
section
variable {N:Nat}
theorem xC {n:Nat} {up:List Int} {r:Nat->Nat} (h:UF n up r) {i:Nat} (hi:i<n) (hn:n<N): ∃up',dQ N ((i:Nat):Int) up=some (((r i:Nat):Int),up')/\UF n up' r:=by
 unfold dQ
 have:=Ok.bind (β:=Int×List Int) (Q:=fun x=>x.1= ((r i:Nat):Int)/\UF n x.2 r) (Ok.mC (body:=fun(s32:Int×(List Int))=>((idx s32.2 s32.1).bind fun x43=>bif (x43 != s32.1) then ((idx s32.2 s32.1).bind fun x44=>(idx s32.2 x44).bind fun x45=>(idx s32.2 s32.1).bind fun x46=>(idx (s32.2.set (Int.toNat s32.1) x45) s32.1).bind fun x47=>some (.nx (x47,(s32.2.set (Int.toNat s32.1) x45)))) else (some (.br (s32.1,s32.2))):Option (Fl (Int×(List Int)) Empty)))
  (N:=N) (s:=(((i:Nat):Int),up)) (Go:=fun s=>s.1= ((r i:Nat):Int)/\UF n s.2 r) (Rt:=fun _=>True) (fun s=>UF n s.2 r/\∃j:Nat,s.1= ((j:Nat):Int)/\j<n/\r j=r i) (fun s=>s.1.toNat) (by
   rintro⟨y,l⟩ ⟨hu,j,hj,hjn,hr⟩
   dsimp only at hu hj ⊢
   subst hj
   obtain⟨u,a1,a2,a3,a4⟩:=hu.rt j hjn
   refine Ok.ix a1 ?_
   by_cases e:u=j
   ·subst e
    rw [show (((u:Nat):Int) != ((u:Nat):Int))=false by simp,bA]
    refine Ok.br ⟨?_,hu⟩
    show ((u:Nat):Int)=_
    rw [<-hr,a4.1 rfl]
   ·obtain⟨v,b1,b2,b3,b4⟩:=hu.rt u (by omega)
    have hl:=hu.len
    rw [show (((u:Nat):Int) != ((j:Nat):Int))=true by simp;omega,aV]
    refine Ok.ix a1 (Ok.ix b1 (Ok.ix a1 (Ok.ix (x:=((v:Nat):Int)) (by rw [bR,kQ (by omega),aC rfl]) (Ok.nx ⟨⟨⟨by simp [hl],fun k hk=>?_⟩,v,rfl,by omega,?_⟩,?_⟩))))
    ·rw [bR,kQ (by omega)]
     by_cases e2:k=j
     ·subst e2
      rw [aC rfl]
      refine⟨v,rfl,by omega,by rw [b3,a3],?_⟩
      constructor
      ·intro h;omega
      ·intro h;exact absurd (a4.2 h) e
     ·rw [aF e2];exact hu.rt k hk
    ·rw [b3,a3,hr]
    ·simp only [bR];omega)
  ⟨h,i,rfl,hi,rfl⟩ (by simp only [bR];omega))
  (fun o ho=>Ok.cs (f:=fun(s32:Int×(List Int))=>some (s32.1,s32.2)) (g:=fun r:Empty=>r.elim) ho (fun s h=>Ok.ret h) (fun r=>r.elim))
 obtain⟨⟨x,up'⟩,h1,h2,h3⟩:=this
 exact⟨up',by rw [<-h2];exact h1,h3⟩
theorem CU {n:Nat} {up:List Int} {r:Nat->Nat} (h:UF n up r) {i k:Nat} (hi:i<n) (hk:k<n) {f:List Int->Option (List Int)} (hn:n<N):
  ∃up',((dQ N ((i:Nat):Int) up).bind fun x840=>(dQ N ((k:Nat):Int) x840.2).bind fun x842=>(idx x842.2 (if x840.1<x842.1 then x842.1 else x840.1)).bind fun x844=>some (x842.2.set (Int.toNat (if x840.1<x842.1 then x842.1 else x840.1)) (if x842.1<x840.1 then x842.1 else x840.1)))=some up'/\UF n up' (lE r (r i) (r k)):=by
 obtain⟨u1,a1,a2⟩:=xC h hi hn
 obtain⟨u2,b1,b2⟩:=xC a2 hk hn
 obtain⟨v1,c1,c2⟩:=xA h hi hn
 have hri:=h.le i hi
 have hrk:=h.le k hk
 have rri:=h.rr i hi
 have rrk:=h.rr k hk
 rw [a1,aB,b1,aB]
 dsimp only
 rw [CS,CT]
 have hm:max (r i) (r k)<n:=by omega
 have hl:=b2.len
 rw [iR _ _ (by omega),aB,bR]
 refine⟨_,rfl,by simp [hl],fun x hx=>?_⟩
 have rmax:r (max (r i) (r k))=max (r i) (r k):=by rcases Nat.le_total (r i) (r k) with e | e <;> simp [Nat.max_def] <;> split <;> omega
 have rmin:r (min (r i) (r k))=min (r i) (r k):=by rcases Nat.le_total (r i) (r k) with e | e <;> simp [Nat.min_def] <;> split <;> omega
 rw [kQ (by omega)]
 by_cases e:x=max (r i) (r k)
 ·subst e
  rw [aC rfl]
  refine⟨min (r i) (r k),rfl,by omega,?_,?_⟩
  ·unfold lE;rw [rmin,rmax,aC rfl];split <;> rfl
  ·unfold lE;rw [rmax,aC rfl]
 ·rw [aF e]
  obtain⟨u,c1,c2,c3,c4⟩:=b2.rt x hx
  refine⟨u,c1,c2,?_,?_⟩
  ·unfold lE;rw [c3]
  ·unfold lE
   split
   ·rename_i e2
    constructor
    ·intro hu;have:=c4.1 hu;omega
    ·intro hu
     have h1:=b2.le x hx
     have h3:x=max (r i) (r k):=by omega
     exact absurd h3 e
   ·exact c4
def fW (s:List aA) (k:Nat):Nat:=(aK (s.take k)).length
theorem tV {s:List aA} {k:Nat} (h:k<s.length):fW s (k+1)=fW s k+s[k].Xs.length / 2:=by
 unfold fW
 rw [gh h,kG,dI]
 show _+ (aK [s[k]]).length=_
 rw [show aK [s[k]]=kF s[k] by simp [aK],kr]
theorem tW {s:List aA} {k m:Nat} (h:k<=m):fW s k<=fW s m:=by
 unfold fW
 have:=tT (s.take m) k
 rwa [List.take_take,Nat.min_eq_left h] at this
theorem yJ (s:List aA):fW s s.length= (aK s).length:=by unfold fW;rw [gv]
theorem D3 {s:List aA} {k t:Nat} (h:k<s.length) (ht:2*t+1<s[k].Xs.length): (aK s)[fW s k+t]? =some ⟨s[k].Xs[2*t],s[k].Y0,s[k].Xs[2*t+1],s[k].Y1⟩:=by
 have e:aK s=aK (s.take k)++(kF s[k]++aK (s.drop (k+1))):=by
  conv=>lhs;rw [<-List.take_append_drop k s,qz h]
  rw [kG,kZ]
 rw [e]
 unfold fW
 rw [eM (by omega),Nat.add_sub_cancel_left,eU (by rw [kr];omega)]
 unfold kF
 rw [gZ,sW _ _ ht];rfl
theorem AD {s:List aA} {i:Nat} (h:i< (aK s).length): ∃k,k<s.length/\fW s k<=i/\i<fW s (k+1):=by
 have key: ∀m,m<=s.length->i<fW s m->∃k,k<m/\fW s k<=i/\i<fW s (k+1):=by
  intro m
  induction m with
  | zero=>intro _ h;unfold fW at h;simp [aK] at h
  | succ m ih=>
   intro hm hi
   by_cases h1:i<fW s m
   ·obtain⟨k,hk,h2⟩:=ih (by omega) h1
    exact⟨k,by omega,h2⟩
   ·exact⟨m,by omega,by omega,hi⟩
 exact key s.length (bJ _) (by rw [yJ];exact h)
def E7 (a c:aG):Prop:=a.Y1=c.Y0/\a.X0<c.X1/\c.X0<a.X1
def BD (all:List aG) (i j:Nat):Prop:=∃a c,all[i]? =some a/\all[j]? =some c/\E7 a c
theorem qJ {s:List aA} (he: ∀b∈s,b.Xs.length % 2=0) {k i:Nat} (hk:k<s.length) (h1:fW s k<=i) (h2:i<fW s (k+1)): ∃t,i=fW s k+t/\∃h:2*t+1<s[k].Xs.length,(aK s)[i]? =some ⟨s[k].Xs[2*t],s[k].Y0,s[k].Xs[2*t+1],s[k].Y1⟩:=by
 rw [tV hk] at h2
 have:=he _ (cT hk)
 refine⟨i - fW s k,by omega,by omega,?_⟩
 have h3:=D3 (t:=i - fW s k) hk (by omega)
 rwa [show fW s k+ (i - fW s k)=i by omega] at h3
theorem vu {s:List aA} (hc:cW (s.map aW)) {p q:Nat} (hp:p<s.length) (hq:q<s.length) (h:p<q):s[p].Y1<=s[q].Y0:=by
 have:=kL.1 hc.ord p q (by simp;omega) (by simp;omega) h
 simp only [List.getElem_map] at this
 exact this.1
theorem vv {s:List aA} (hc:cW (s.map aW)) {p:Nat} (hp:p<s.length):s[p].Y0<s[p].Y1:=(hc.each (aW s[p]) (bV.2 ⟨_,cT hp,rfl⟩)).1
theorem lZ {s:List aA} (hc:cW (s.map aW)): ∀b∈s,b.Xs.length % 2=0:=fun b hb=>(hc.each (aW b) (bV.2 ⟨b,hb,rfl⟩)).2.2.2
theorem AE {s:List aA} (hc:cW (s.map aW)): ∀b∈s,kX b.Xs:=fun b hb=>(hc.each (aW b) (bV.2 ⟨b,hb,rfl⟩)).2.2.1
theorem yK {s:List aA} (hc:cW (s.map aW)) {i j q:Nat} (hq:q<s.length) (h1:fW s q<=j) (h2:j<fW s (q+1)) (ht:BD (aK s) i j): ∃hq0:0<q,s[q - 1].Y1=s[q].Y0/\fW s (q - 1)<=i/\i<fW s q:=by
 obtain⟨a,c,ha,hb,e1,e2,e3⟩:=ht
 obtain⟨t,e4,ht,hj⟩:=qJ (lZ hc) hq h1 h2
 rw [hj] at hb;injection hb with hb;subst hb
 have hil:=(aT.1 ha).1
 obtain⟨p,hp,p1,p2⟩:=AD hil
 obtain⟨u,e5,hu,hi⟩:=qJ (lZ hc) hp p1 p2
 rw [hi] at ha;injection ha with ha;subst ha
 have e1:s[p].Y1=s[q].Y0:=e1
 have hpp:=vv hc hp
 have hqq:=vv hc hq
 have hpq:p+1=q:=by
  rcases Nat.lt_trichotomy p q with h | h | h
  ·by_cases h':p+1=q
   ·exact h'
   ·have h3:=vu hc hp (show p+1<s.length by omega) (by omega)
    have h4:=vu hc (show p+1<s.length by omega) hq (by omega)
    have h5:=vv hc (show p+1<s.length by omega)
    omega
  ·subst h;omega
  ·have:=vu hc hq hp h;omega
 subst hpq
 exact⟨by omega,e1,p1,p2⟩
structure PJ (all:List aG) (n:Nat) (up:List Int) (r:Nat->Nat) (E:List (Nat×Nat)):Prop where
 uf:UF n up r
 co:mR r E
 fi:vt n r E
 so: ∀p∈E,BD all p.1 p.2
theorem PJ.join {all:List aG} {n:Nat} {up up':List Int} {r:Nat->Nat} {E:List (Nat×Nat)} (h:PJ all n up r E) {i j:Nat} (hi:i<n) (hj:j<n) (hu:UF n up' (lE r (r i) (r j))) (ht:BD all i j):PJ all n up' (lE r (r i) (r j)) (E++[(i,j)]):=
 ⟨hu,h.co.join i j (h.uf.rr i hi),h.fi.join hi hj,fun p hp=>by
  rcases cP.1 hp with hp | hp
  ·exact h.so p hp
  ·simp at hp;subst hp;exact ht⟩
structure Joined (all:List aG) (r:Nat->Nat):Prop where
 le: ∀i,i<all.length->r i<=i
 rr: ∀i,i<all.length->r (r i)=r i
 co: ∀i j,BD all i j->r i=r j
 fi: ∀S:Nat->Prop,(∀i j,BD all i j->(S i↔S j))->∀i j,i<all.length->j<all.length->r i=r j->S i->S j
def lq (all:List aG) (n:Nat) (r:Nat->Nat) (h:Nat):List aG:=(cls n r h).filterMap (fun i=>all[i]?)
theorem vx (all:List aG) (n:Nat) (r:Nat->Nat) (h:Nat): (lq all n r h).length<=n:=by
 have h1:=List.length_filterMap_le (fun i=>all[i]?) (cls n r h)
 have h2:=xB n r h
 unfold lq;omega
theorem qK {all:List aG} {n:Nat} {r:Nat->Nat} (h:Nat) {x:aG} (hx:all[n]? =some x):lq all (n+1) r h=if r n=h then lq all n r h++[x] else lq all n r h:=by
 unfold lq
 rw [ql]
 split
 ·rw [List.filterMap_append];simp [hx]
 ·rfl
theorem jA {all:List aG} {n:Nat} {r:Nat->Nat} {h:Nat} {x:aG}:x∈lq all n r h↔∃i,i<n/\r i=h/\all[i]? =some x:=by
 unfold lq cls
 rw [List.mem_filterMap]
 constructor
 ·rintro⟨i,hi,h⟩
  have:=il.1 hi
  exact⟨i,mh.1 this.1,by simpa using this.2,h⟩
 ·rintro⟨i,h1,h2,h3⟩
  exact⟨i,il.2 ⟨mh.2 h1,by simpa using h2⟩,h3⟩
structure nE (s:List aA) (r:Nat->Nat) (ps:List (List aA)):Prop where
 join:Joined (aK s) r
 len:ps.length= (bI (aK s).length r).length
 each: ∀(j h:Nat) (p:List aA),(bI (aK s).length r)[j]? =some h->ps[j]? =some p->pj (lq (aK s) (aK s).length r h) p
def H9 (n:Nat) (r:Nat->Nat) (m:List (Int×Int)):Prop:=(∀(j k:Nat),(bI n r)[j]? =some k->fT m ((k:Nat):Int) 0= ((j:Nat):Int))/\∀k:Nat,mY m ((k:Nat):Int)=decide (k∈bI n r)
theorem zI {s:List aA} {X Y:List Int} (hc:cW (s.map aW)) (hl:rX X Y (s.map aW)) (hX: ∀c∈X,small c) (hY: ∀c∈Y,small c) (h1:s.length<=1073741824) (h2: ∀b∈s,b.Xs.length<=1073741824) (h3: (aK s).length<=134217728) (hN:4398046511104<=N):
  Ok (jz N s) (fun ps=>∃r,nE s r ps):=by
 unfold jz
 have hev:=lZ hc
 have hinc:=AE hc
 refine Ok.eq (sY hev (by omega) (fun b hb=>by have:=h2 b hb;omega) (by omega)) ?_
 have hok:=vn hc hl hX hY
 have hall:fW s s.length= (aK s).length:=yJ s
 generalize hn: (aK s).length=n at *
 refine Ok.eq (sJ 0 (by omega)) ?_
 rw [show ((List.replicate n (0:Int)).length)=n by simp]
 refine Ok.bind (Ok.kM (fun k up=>up.length=n/\∀i,i<k->up[i]? =some ((i:Nat):Int)) (by omega) ⟨by simp,fun i hi=>by omega⟩ (fun k up hk hI=>?_)) ?_
 ·obtain⟨hs,hi⟩:=hI
  refine Ok.idx (by omega) (Ok.ret ⟨by simp [hs],fun i hi'=>?_⟩)
  rw [bR,kQ (by omega)]
  split
  ·rename_i e;rw [e]
  ·exact hi i (by omega)
 rintro up0 ⟨hu1,hu2⟩
 refine Ok.bind (Ok.kM (fun k st=>st.2.1= ((fW s k:Nat):Int)/\(0<k->st.2.2= ((fW s (k - 1):Nat):Int))/\∃r E,PJ (aK s) n st.1 r E/\∀q,q<k->∀i j,fW s q<=j->j<fW s (q+1)->BD (aK s) i j->(i,j)∈E) (by omega)
  ⟨rfl,fun h=>by omega,_,_,⟨UF.init n up0 hu1 hu2,mR.id,vt.id n,fun p hp=>(by cases hp)⟩,fun q hq=>by omega⟩ (fun k st hk hI=>?_)) ?_
 ·obtain⟨up,a,b⟩:=st
  obtain⟨e1,e2,r,E,hP,hE⟩:=hI
  dsimp only at e1 e2 hP ⊢
  subst e1
  refine Ok.idx hk ?_
  have hoff:=tV hk
  have hoffle:fW s (k+1)<=n:=by rw [<-hall];exact tW hk
  have hkm:=cT hk
  have hlen:IntKind.wrap .i64 (Int.tdiv ((s[k].Xs.length:Nat):Int) 2)= ((s[k].Xs.length / 2:Nat):Int):=by
   have:=h2 _ hkm
   rw [show (2:Int)= ((2:Nat):Int) by rfl,<-Int.ofNat_tdiv,yF (by omega)]
  rw [hlen,wrap_add (by omega),<-hoff]
  refine Ok.bind (P:=fun c=>c=true↔∃h0:0<k,s[k - 1].Y1=s[k].Y0) ?_ (fun c hcc=>?_)
  ·refine Ok.bif (fun h=>?_) (fun h=>Ok.ret ?_)
   ·have hpos:0<k:=by have:=of_decide_eq_true h;omega
    rw [lI hpos (by omega)]
    refine Ok.idx (by omega) (Ok.ret ?_)
    rw [beq_iff_eq]
    exact⟨fun h=>⟨hpos,h⟩,fun⟨_,h⟩=>h⟩
   ·have:=of_decide_eq_false h
    constructor
    ·intro h;cases h
    ·rintro⟨h0,_⟩;omega
  refine Ok.bind (P:=fun up'=>∃r E,PJ (aK s) n up' r E/\∀q,q<k+1->∀i j,fW s q<=j->j<fW s (q+1)->BD (aK s) i j->(i,j)∈E) ?_ (fun up' hI=>Ok.ret ⟨rfl,fun _=>rfl,hI⟩)
  refine Ok.bif (fun h=>?_) (fun h=>Ok.ret ⟨r,E,hP,fun q hq i j q1 q2 ht=>?_⟩)
  ·obtain⟨hpos,hyy⟩:=hcc.1 h
   rw [e2 hpos]
   have hoffp:=tV (show k - 1<s.length by omega)
   rw [show k - 1+1=k by omega] at hoffp
   refine Ok.bind (Ok.mC (Go:=fun st=>∃r E,PJ (aK s) n st.1 r E/\∀q,q<k+1->∀i j,fW s q<=j->j<fW s (q+1)->BD (aK s) i j->(i,j)∈E) (Rt:=fun _=>True)
    (fun st=>∃i j:Nat,st.2.1= ((i:Nat):Int)/\st.2.2= ((j:Nat):Int)/\fW s (k - 1)<=i/\i<=fW s k/\fW s k<=j/\j<=fW s (k+1)/\∃r E,PJ (aK s) n st.1 r E/\(∀q,q<k->∀i j,fW s q<=j->j<fW s (q+1)->BD (aK s) i j->(i,j)∈E)/\
     ∀i' j',fW s (k - 1)<=i'->i'<fW s k->fW s k<=j'->j'<fW s (k+1)->(i'<i\/j'<j)->BD (aK s) i' j'->(i',j')∈E)
    (fun st=>(n - st.2.1.toNat)+ (n - st.2.2.toNat)) ?_ ?_ (by simp only [bR];omega)) (fun o ho=>Ok.cs ho (fun st h=>Ok.ret h) (fun r=>r.elim))
   ·rintro⟨up,a,b⟩ ⟨i,j,e3,e4,i1,i2,j1,j2,r,E,hP,hE,hE2⟩
    dsimp only at e3 e4 hP ⊢
    subst e3;subst e4
    refine Ok.bif (fun h=>?_) (fun h=>Ok.br ?_)
    ·rw [bE,bT,bT] at h
     have hi:i<fW s k:=by omega
     have hj:j<fW s (k+1):=by omega
     obtain⟨t,et,_,hri⟩:=qJ hev (show k - 1<s.length by omega) i1 (by rw [show k - 1+1=k by omega];exact hi)
     obtain⟨u,eu,_,hrj⟩:=qJ hev hk j1 hj
     have xi:=hinc _ (cT (show k - 1<s.length by omega))
     have xj:=hinc _ hkm
     have farI: ∀i' a,i<i'->i'<fW s k->(aK s)[i']? =some a->s[k - 1].Xs[2*t+1]<a.X0:=fun i' a h4 h5 h6=>by
      obtain⟨t',et',ht',hr'⟩:=qJ hev (show k - 1<s.length by omega) (show fW s (k - 1)<=i' by omega) (by rw [show k - 1+1=k by omega];exact h5)
      rw [hr'] at h6;injection h6 with h6;subst h6
      exact xi.lt (show 2*t+1<2*t' by omega) (aL _) (aL _)
     have farJ: ∀j' a,j<j'->j'<fW s (k+1)->(aK s)[j']? =some a->s[k].Xs[2*u+1]<a.X0:=fun j' a h4 h5 h6=>by
      obtain⟨u',eu',hu',hr'⟩:=qJ hev hk (show fW s k<=j' by omega) h5
      rw [hr'] at h6;injection h6 with h6;subst h6
      exact xj.lt (show 2*u+1<2*u' by omega) (aL _) (aL _)
     refine Ok.bind (P:=fun c=>c=true↔BD (aK s) i j) ?_ (fun c hct=>?_)
     ·refine Ok.ix hri (Ok.ix hrj (Ok.bif (fun h=>Ok.ix hrj (Ok.ix hri (Ok.ret ?_))) (fun h=>Ok.ret ?_)))
      ·rw [bT] at h ⊢
       constructor
       ·intro h';exact⟨_,_,hri,hrj,hyy,h,h'⟩
       ·rintro⟨a,c,ha,hc',_,_,h'⟩
        rw [hri] at ha;injection ha with ha;subst ha
        rw [hrj] at hc';injection hc' with hc';subst hc'
        exact h'
      ·constructor
       ·intro h;cases h
       ·rintro⟨a,c,ha,hc',_,h',_⟩
        rw [hri] at ha;injection ha with ha;subst ha
        rw [hrj] at hc';injection hc' with hc';subst hc'
        rw [decide_eq_false_iff_not] at h;exact absurd h' h
     refine Ok.bind (P:=fun up'=>∃r E',PJ (aK s) n up' r E'/\(∀p∈E,p∈E')/\(BD (aK s) i j->(i,j)∈E')) ?_ ?_
     ·refine Ok.bif (fun h=>?_) (fun h=>Ok.ret ⟨r,E,hP,fun p hp=>hp,fun ht=>by rw [hct.2 ht] at h;cases h⟩)
      obtain⟨up',u1,u2⟩:=CU (N:=N) (f:=fun x=>some x) hP.uf (i:=i) (k:=j) (by omega) (by omega) (by omega)
      refine⟨up',u1,_,_,hP.join (by omega) (by omega) u2 (hct.1 h),fun p hp=>List.mem_append_left _ hp,fun _=>by simp⟩
     ·rintro up' ⟨r',E',hP',hsub,hij⟩
      refine Ok.ix hri (Ok.ix hrj ?_)
      dsimp only
      by_cases hx:s[k - 1].Xs[2*t+1]<s[k].Xs[2*u+1]
      ·rw [cJ hx,aV]
       refine Ok.eq (x:=(((i+1:Nat):Int),((j:Nat):Int))) (by rw [gW (by omega)]) (Ok.nx ⟨⟨i+1,j,rfl,rfl,by omega,by omega,j1,j2,r',E',hP',fun q hq i j q1 q2 ht=>hsub _ (hE q hq i j q1 q2 ht),fun i' j' g1 g2 g3 g4 g5 ht=>?_⟩,by simp only [bR];omega⟩)
       by_cases h5:i'<i\/j'<j
       ·exact hsub _ (hE2 i' j' g1 g2 g3 g4 h5 ht)
       ·have:i'=i:=by omega
        subst this
        by_cases h6:j'=j
        ·subst h6;exact hij ht
        ·exfalso
         obtain⟨a,c,ha,hc',_,_,h'⟩:=ht
         rw [hri] at ha;injection ha with ha;subst ha
         have:=farJ j' c (by omega) g4 hc'
         dsimp only at h';omega
      ·rw [bU hx,bA]
       refine Ok.eq (x:=(((i:Nat):Int),((j+1:Nat):Int))) (by rw [gW (by omega)]) (Ok.nx ⟨⟨i,j+1,rfl,rfl,i1,i2,by omega,by omega,r',E',hP',fun q hq i j q1 q2 ht=>hsub _ (hE q hq i j q1 q2 ht),fun i' j' g1 g2 g3 g4 g5 ht=>?_⟩,by simp only [bR];omega⟩)
       by_cases h5:i'<i\/j'<j
       ·exact hsub _ (hE2 i' j' g1 g2 g3 g4 h5 ht)
       ·have:j'=j:=by omega
        subst this
        by_cases h6:i'=i
        ·subst h6;exact hij ht
        ·exfalso
         obtain⟨a,c,ha,hc',_,h',_⟩:=ht
         rw [hrj] at hc';injection hc' with hc';subst hc'
         have:=farI i' a (by omega) g2 ha
         dsimp only at h';omega
    ·refine⟨r,E,hP,fun q hq i' j' q1 q2 ht=>?_⟩
     by_cases hqk:q<k
     ·exact hE q hqk i' j' q1 q2 ht
     ·have:q=k:=by omega
      subst this
      obtain⟨_,_,g1,g2⟩:=yK hc hk q1 q2 ht
      refine hE2 i' j' g1 g2 q1 q2 ?_ ht
      rw [Bool.and_eq_false_iff,decide_eq_false_iff_not,decide_eq_false_iff_not] at h
      omega
   ·exact⟨fW s (k - 1),fW s k,rfl,rfl,bJ _,tW (by omega),bJ _,tW (by omega),r,E,hP,hE,fun i' j' g1 g2 g3 g4 g5=>by omega⟩
  ·by_cases hqk:q<k
   ·exact hE q hqk i j q1 q2 ht
   ·have:q=k:=by omega
    subst this
    obtain⟨g0,g1,_⟩:=yK hc hk q1 q2 ht
    rw [hcc.2 ⟨g0,g1⟩] at h;cases h
 ·rintro⟨up,a,b⟩ ⟨_,_,r,E,hP,hE⟩
  dsimp only at hP ⊢
  have hEq: ∀i j,BD (aK s) i j->(i,j)∈E:=fun i j ht=>by
   have hjl:j< (aK s).length:=by obtain⟨a,c,_,hb,_⟩:=ht;exact(aT.1 hb).1
   obtain⟨q,hq,q1,q2⟩:=AD hjl
   exact hE q hq i j q1 q2 ht
  have hJ:Joined (aK s) r:=⟨by rw [hn];exact hP.uf.le,by rw [hn];exact hP.uf.rr,fun i j ht=>hP.co (i,j) (hEq i j ht),fun S hS i j hi hj=>by
   rw [hn] at hi hj
   exact hP.fi S (fun p hp=>hS p.1 p.2 (hP.so p hp)) i j hi hj⟩
  refine Ok.bind (Ok.kM (fun k st=>UF n st.1 r/\H9 k r st.2.1/\st.2.2= (bI k r).map (lq (aK s) k r)) (by omega) ⟨hP.uf,⟨fun j k hj=>by simp [bI] at hj,fun k=>rfl⟩,rfl⟩ (fun k st hk hI=>?_)) ?_
  ·obtain⟨l,m,ls⟩:=st
   obtain⟨hu,⟨hm1,hm2⟩,hs⟩:=hI
   dsimp only at hu hm1 hm2 hs ⊢
   subst hs
   have hkx: (aK s)[k]? =some ((aK s)[k]'(by omega)):=aL (by omega)
   refine Ok.ix hkx ?_
   obtain⟨u',a1,a2⟩:=xC (N:=N) hu hk (by omega)
   refine Ok.eq a1 ?_
   dsimp only
   have hhl:=mB k r
   have hrk:=hP.uf.le k hk
   have hrr:=hP.uf.rr k hk
   have hcl:=vx (aK s) k r (r k)
   have hmap: ((bI k r).map (lq (aK s) k r)).length= (bI k r).length:=by simp
   rw [hm2]
   by_cases e:r k=k
   ·have hnot:r k∉bI k r:=fun h=>by have:=(gK.1 h).1;omega
    refine Ok.eq (x:=(qS m ((r k:Nat):Int) (((bI k r).length:Nat):Int),(bI k r).map (lq (aK s) k r)++[([]:List aG)],(((bI k r).length:Nat):Int))) ?_ ?_
    ·rw [bU hnot,qy,aV,gr (by simp;omega),aB,hmap]
    ·dsimp only
     have hi: ((bI k r).map (lq (aK s) k r)++[([]:List aG)])[(bI k r).length]? =some []:=by rw [<-hmap,eM (bJ _),Nat.sub_self];rfl
     refine Ok.ix hi (Ok.app (by simp) (Ok.ix hi (Ok.ret ⟨a2,⟨fun j q hj=>?_,fun q=>?_⟩,?_⟩)))
     ·dsimp only
      rw [iM,aC e] at hj
      rw [tS]
      by_cases e2:j< (bI k r).length
      ·rw [eU e2] at hj
       have:=(gK.1 (dV hj)).1
       rw [aF (by omega)];exact hm1 j q hj
      ·rw [eM (by omega)] at hj
       have hj0:j - (bI k r).length=0:=by
        have:=(aT.1 hj).1;simp at this;omega
       rw [hj0] at hj;simp at hj;subst hj
       rw [aC (by rw [e])];congr 1;omega
     ·dsimp only
      rw [Bz,hm2,iM,aC e,f9]
      rw [dC,bT,bT,bT,cP,List.mem_singleton,e]
      constructor
      ·rintro(h | h)
       ·exact .inr (by omega)
       ·exact .inl h
      ·rintro(h | h)
       ·exact .inr h
       ·exact .inl (by omega)
     ·dsimp only
      rw [bR,<-hmap,List.set_append_right _ _ (bJ _),Nat.sub_self,iM,aC e,fC]
      congr 1
      ·apply List.map_congr_left
       intro a ha
       have:=(gK.1 ha).1
       rw [qK a hkx,aF (by omega)]
      ·simp only [List.set_cons_zero,eF,List.map_nil,List.nil_append]
       rw [qK k hkx,aC e]
       have:lq (aK s) k r k= []:=by unfold lq;rw [AB (fun i hi=>hP.uf.le i (by omega)) (bJ _)];rfl
       rw [this];rfl
   ·have hh:r k∈bI k r:=gK.2 ⟨by omega,hrr⟩
    obtain⟨j,hj⟩:=eG hh
    refine Ok.eq (x:=(m,(bI k r).map (lq (aK s) k r),((j:Nat):Int))) ?_ ?_
    ·rw [cJ hh,nj,bA,hm1 j (r k) hj]
    ·dsimp only
     have hi: ((bI k r).map (lq (aK s) k r))[j]? =some (lq (aK s) k r (r k)):=by rw [gZ,hj];rfl
     refine Ok.ix hi (Ok.app (by simp;omega) (Ok.ix hi (Ok.ret ⟨a2,⟨fun j' q hj'=>?_,fun q=>?_⟩,?_⟩)))
     ·rw [iM,aF e] at hj';exact hm1 j' q hj'
     ·rw [iM,aF e];exact hm2 q
     ·dsimp only
      rw [bR,iM,aF e]
      have:=qm (lq (aK s) k r) (lq (aK s) (k+1) r) (bI k r) j (r k) (kd k r) hj (fun b hb hne=>by
       rw [qK b hkx,aF (fun h=>hne h.symm)])
      rw [qK (r k) hkx,aC rfl] at this
      exact this
  ·rintro⟨l,m,ls⟩ ⟨_,_,hs⟩
   dsimp only at hs ⊢
   subst hs
   have hhl:=mB n r
   refine Ok.bind (Ok.kM (fun k ps=>ps.length=k/\∀(j h:Nat) (p:List aA),j<k->(bI n r)[j]? =some h->ps[j]? =some p->pj (lq (aK s) n r h) p) (by simp;omega) ⟨rfl,fun j h p hj=>by omega⟩ (fun k ps hk hI=>?_)) ?_
   ·obtain⟨hp1,hp2⟩:=hI
    have hk':k< (bI n r).length:=by simpa using hk
    refine Ok.ix (x:=lq (aK s) n r (bI n r)[k]) (by rw [gZ,aL hk'];rfl) ?_
    have hcl:=vx (aK s) n r (bI n r)[k]
    refine Ok.bind (lK (N:=N) (by omega) (fun x hx=>?_) (by omega)) ?_
    ·obtain⟨i,_,_,h⟩:=jA.1 hx
     exact(hok x (dV h)).1
    ·intro p hp
     refine Ok.app (by rw [hp1];simp;omega) (Ok.ret ⟨by simp [hp1],fun j h q hj hh hq=>?_⟩)
     by_cases hjk:j<k
     ·rw [eU (by omega)] at hq
      exact hp2 j h q hjk hh hq
     ·have:j=k:=by omega
      subst this
      rw [eM (by omega),hp1,Nat.sub_self] at hq
      simp at hq;subst hq
      rw [aL hk'] at hh;injection hh with hh;subst hh
      exact hp
   ·rintro ps ⟨hp1,hp2⟩
    refine Ok.ret ⟨r,hJ,?_,fun j h p hh hp=>?_⟩
    ·rw [hp1,hn];simp
    ·rw [hn] at hh ⊢
     exact hp2 j h p (by have:=(aT.1 hp).1;omega) hh hp
end
end Go.Gk
namespace Go.Gk
open Go
section
variable {N:Nat}
theorem sZ {n:Int} (h: -9223372036854775808<=n/\n<=9223372036854775807):IntKind.wrap .i64 n=n:=by rw [IntKind.wrap_i64];omega
def gA (n lo hi:Int):Bool:=decide (n>=lo)&&decide (n<=hi)
def mT (n:Int):Bool:=gA n (-1000000) 1000000
def rq (p:iU):Bool:=mT p.X&&mT p.Y
def eB (r:aG):Bool:=mT r.X0&&(mT r.Y0&&(mT r.X1&&mT r.Y1))
theorem vz (n:Int):jm N n=some (mT n):=rfl
theorem ue (p:iU):gH N p=some (rq p):=by
 unfold gH rq
 rw [vz,aB,vz]
 cases mT p.X <;> rfl
theorem vA (r:aG):kl N r=some (eB r):=by
 unfold kl eB
 simp only [vz,aB]
 cases mT r.X0 <;> cases mT r.Y0 <;> cases mT r.X1 <;> rfl
theorem yL {a b:Int} (h:a≠b):eY (N+4) [a,b]=some [a,b]:=by
 have e: (b==a)=false:=by rw [beq_eq_false_iff_ne];exact fun e=>h e.symm
 have w1:IntKind.wrap .i64 ((1:Int) - 1)=0:=by decide
 have w2:IntKind.wrap .i64 ((1:Int)+1)=2:=by decide
 unfold eY
 have e1:idx [a,b] 1=some b:=rfl
 have e2:idx [a,b] 0=some a:=rfl
 have l2: (([a,b]:List Int).length:Int)=2:=rfl
 rw [l2,show decide ((2:Int)<2)=false by decide,bA]
 rw [mC.eq_def]
 dsimp only
 rw [show decide ((1:Int)<2)=true by decide,aV,e1,aB,w1,e2,aB,e,bA,aB,w2]
 dsimp only
 rw [mC.eq_def]
 dsimp only
 rw [show decide ((2:Int)<2)=false by decide,bA,aB]
 rfl
theorem Ep (x:Int):IntKind.wrap .i64 (x - x)=0:=by rw [Int.sub_self];decide
theorem BE {r:aG} (hx:r.X0<r.X1) (hy:r.Y0<r.Y1):cO (N+16) [r]=some [⟨r.Y0,r.Y1,[r.X0,r.X1]⟩]:=by
 have s1:sf (gM (N+16)) [r]=some [r]:=wB (by unfold gM;rw [Ep])
 have s2:sf (eZ (N+16)) [r]=some [r]:=wB (by unfold eZ;rw [Ep])
 have s3:pN [r.Y0,r.Y1]=some [r.Y0,r.Y1]:=v5 (by simp;omega) (by simp)
 have c1:eN (N+16) [r]=some [r]:=rfl
 have f1: ∀φ,fK (N+16) [] φ=some []:=fun φ=>rfl
 have st:gC (N+16) [r]=some ([r.X0,r.X1],[r]):=by
  unfold gC
  rw [s2,aB]
  rfl
 have pu: ∀b:aA,b.Xs= [r.X0,r.X1]->b.Y0<b.Y1->gl (N+16) [] b=some [b]:=fun b h1 h2=>by
  unfold gl
  rw [h1,bU (show ¬b.Y1<=b.Y0 by omega)]
  rfl
 unfold cO
 rw [c1,aB,s1,aB]
 have ys: (kM ([r]:List aG).length (fun(k35:Nat) (s36: (List Int))=>((idx [r] (k35:Int)).bind fun x54=>(app 8 s36 ([x54.Y0,x54.Y1]: (List Int))).bind fun x58=>some x58:Option ((List Int)))) ([]: (List Int)))=some [r.Y0,r.Y1]:=rfl
 rw [ys,aB,s3,aB,yL (N:=N+12) (by omega),aB]
 have l2: (([r.Y0,r.Y1]:List Int).length:Int)=2:=rfl
 have l1: (([r]:List aG).length:Int)=1:=rfl
 have w1:IntKind.wrap .i64 ((0:Int)+1)=1:=by decide
 have w2:IntKind.wrap .i64 ((1:Int)+1)=2:=by decide
 have i0:idx [r.Y0,r.Y1] 0=some r.Y0:=rfl
 have i1:idx [r.Y0,r.Y1] 1=some r.Y1:=rfl
 have j0:idx [r] 0=some r:=rfl
 have a1:app 32 ([]:List aG) [r]=some [r]:=rfl
 rw [l2,l1]
 rw [mC.eq_def]
 dsimp only
 rw [w1,show decide ((1:Int)<2)=true by decide,aV,f1,aB]
 rw [mC.eq_def]
 dsimp only
 rw [show decide ((0:Int)<1)=true by decide,aV,j0,aB,i0,aB,aB,show decide (r.Y0<=r.Y0)=true by simp,aV,aB,a1,aB,w1,aB]
 dsimp only
 rw [mC.eq_def]
 dsimp only
 rw [show decide ((1:Int)<1)=false by decide,bA,aB,bA,aB,aB]
 unfold Fo.cs
 dsimp only
 rw [aB,i1,aB,st,aB,pu _ rfl hy,aB,aB]
 dsimp only
 rw [mC.eq_def]
 dsimp only
 rw [w2,show decide ((2:Int)<2)=false by decide,bA,aB]
 rfl
theorem CV {r:aG} (hx:r.X0<r.X1):jY N [⟨r.Y0,r.Y1,[r.X0,r.X1]⟩]=some (eB r):=by
 have ar:kn N [⟨r.Y0,r.Y1,[r.X0,r.X1]⟩]=some r:=by
  have e1: (if r.X0<r.X0 then r.X0 else r.X0)=r.X0:=by split <;> rfl
  have e2: (if r.X1<r.X1 then r.X1 else r.X1)=r.X1:=by split <;> rfl
  show some ({X0:=(if r.X0<r.X0 then r.X0 else r.X0),Y0:=r.Y0,X1:=(if r.X1<r.X1 then r.X1 else r.X1),Y1:=r.Y1}:aG)=some r
  rw [e1,e2]
 unfold jY
 rw [ar,aB,vA]
 rfl
def rY (b:bH):aG:=⟨b.At.X - b.eD / 2,b.At.Y - b.eD / 2,b.At.X - b.eD / 2+b.eD,b.At.Y - b.eD / 2+b.eD⟩
def po (b:bH):Bool:=gA b.eD 1 10000&&rq b.At
def lO (b:bH):aG×Int:=if po b&&eB (rY b) then (rY b,0) else (⟨0,0,0,0⟩,1)
theorem nF {b:bH} (h:po b=true): (1<=b.eD/\b.eD<=10000)/\(-1000000<=b.At.X/\b.At.X<=1000000)/\(-1000000<=b.At.Y/\b.At.Y<=1000000):=by
 simp only [po,gA,rq,mT,bE,decide_eq_true_iff] at h
 omega
theorem k6 {b:bH} (h:po b=true):eK N b=some (rY b):=by
 obtain⟨h1,h2,h3⟩:=nF h
 have t:Int.tdiv b.eD 2=b.eD / 2:=Int.tdiv_eq_ediv_of_nonneg (by omega)
 unfold eK rY
 rw [t,sZ (n:=b.eD / 2) (by omega),sZ (n:=b.At.X - b.eD / 2) (by omega),sZ (n:=b.At.Y - b.eD / 2) (by omega),sZ (by omega),sZ (by omega)]
theorem oC {b:bH}:iI (N+16) b=some (lO b):=by
 have e0:dL (N+16) b.eD 1 10000=some (gA b.eD 1 10000):=rfl
 have e1: (bif (!(gA b.eD 1 10000)) then (some true) else (some (!(rq b.At))))=some (!po b):=by unfold po;cases gA b.eD 1 10000 <;> rfl
 unfold iI lO
 rw [e0,aB,ue,aB,e1,aB]
 cases hf:po b with
 | false=>rfl
 | true=>
  obtain⟨h1,h2,h3⟩:=nF hf
  have hx: (rY b).X0< (rY b).X1:=by simp only [rY];omega
  have hy: (rY b).Y0< (rY b).Y1:=by simp only [rY];omega
  rw [nj,bA,k6 hf,aB,BE hx hy,aB,CV hx,aB]
  cases eB (rY b) <;> rfl
theorem BF:cU (N+16)=some true:=by
 unfold cU
 rw [oC,aB]
 rfl
end
end Go.Gk
namespace Go.Gk
open Go
section
variable {N:Nat}
def E8 (c:UInt8):Bool:=
 ((((decide (((c.toNat:Nat):Int)<65))||(decide (((c.toNat:Nat):Int)>90)))&&((decide (((c.toNat:Nat):Int)<97))||(decide (((c.toNat:Nat):Int)>122))))&&((decide (((c.toNat:Nat):Int)<48))||(decide (((c.toNat:Nat):Int)>57))))&&decide (Lib.indexByte [95,43,45,35] c<0)
def isWord (s:dA):Bool:= !s.bY.any E8&&(decide (1<=s.bY.length)&&decide (s.bY.length<=40))
theorem s8 (s:dA) (c:UInt8):gx N s ((c.toNat:Nat):Int)=some (Lib.indexByte s.bY c):=by
 show some (Lib.indexByte s.bY (Int.toNat ((c.toNat:Nat):Int)).toUInt8)=_
 rw [bR];simp
theorem zJ {R:Type} (b1:Bool) (c:UInt8) (r:R):
  ((bif b1 then ((gx N (⟨[95,43,45,35]⟩) ((c.toNat:Nat):Int)).bind fun x14=>some (decide (x14<0))) else (some false)).bind fun s12=>bif s12 then (some (.rt r)) else (some (.nx ())):Option (Fl Unit R))=some (if (b1&&decide (Lib.indexByte [95,43,45,35] c<0))=true then .rt r else .nx ()):=by
 rw [s8,aB]
 cases b1
 ·rfl
 ·rw [aV,aB,Bool.true_and]
  cases decide (Lib.indexByte [95,43,45,35] c<0) <;> rfl
theorem nG {s:dA} (h:s.bY.length<=1048576):gm N s=some (isWord s):=by
 unfold gm
 rw [DU E8 false (by omega) (fun k x hx=>by
  have hk:=(aT.1 hx).1
  have e:AY s ((k:Nat):Int)=some x:=by rw [CA s k hk,<-aL hk,hx]
  rw [e,aB]
  exact zJ (R:=Bool) _ x false),aB]
 unfold isWord
 cases s.bY.any E8
 ·simp only [Fo.cs,qy,Bool.true_and,Bool.false_eq_true,if_false,Option.some.injEq]
  rw [f9,bE,bE]
  simp only [bT]
  omega
 ·simp [Fo.cs]
def cutAt (c:UInt8):List UInt8->List (List UInt8)
 | []=>[[]]
 | b::l=>if b==c then []::cutAt c l else match cutAt c l with | h::t=>(b::h)::t | []=>[[b]]
theorem vB {c:UInt8}: ∀{l:List UInt8},c∉l->cutAt c l= [l]
 | [],_=>rfl
 | b::l,h=>by
  unfold cutAt
  have hb: (b==c)=false:=by rw [beq_eq_false_iff_ne];rintro rfl;exact h (by simp)
  rw [hb,vB (fun h'=>h (by simp [h']))];rfl
theorem yM {c:UInt8}: ∀{a b:List UInt8},c∉a->cutAt c (a++c::b)=a::cutAt c b
 | [],b,_=>by rw [List.nil_append];show (if (c==c)=true then _ else _)=_;simp
 | x::a,b,h=>by
  have hb: (x==c)=false:=by rw [beq_eq_false_iff_ne];rintro rfl;exact h (by simp)
  have ih:=yM (c:=c) (a:=a) (b:=b) (fun h'=>h (by simp [h']))
  show (if (x==c)=true then []::cutAt c (a++c::b) else match cutAt c (a++c::b) with | h::t=>(x::h)::t | []=>[[x]])=_
  rw [hb,ih];rfl
theorem qo: ∀(l:List UInt8) (c:UInt8),(Lib.indexByte l c = -1/\c∉l)\/∃a b,l=a++c::b/\c∉a/\Lib.indexByte l c= ((a.length:Nat):Int)
 | [],c=> .inl ⟨rfl,by simp⟩
 | x::l,c=>by
  unfold Lib.indexByte
  by_cases hx:x=c
  ·subst hx;exact .inr ⟨[],l,rfl,by simp,by simp⟩
  ·have hb: (x==c)=false:=by rw [beq_eq_false_iff_ne];exact hx
   rcases qo l c with ⟨h1,h2⟩ | ⟨a,b,h1,h2,h3⟩
   ·left;rw [hb,h1];refine⟨by simp,?_⟩;simp [h2];exact fun h=>hx h.symm
   ·right
    refine⟨x::a,b,by rw [h1];rfl,by simp [h2];exact fun h=>hx h.symm,?_⟩
    rw [hb,h3]
    have: (((a.length:Nat):Int)== -1)=false:=by rw [beq_eq_false_iff_ne];omega
    rw [this];simp
theorem CW (s:dA) (c:UInt8):jD N s ⟨[c]⟩=some (Lib.indexByte s.bY c):=by
 show (iu N s ⟨[c]⟩).bind _=_
 unfold iu
 by_cases h:dA.y7 ⟨[c]⟩ s=true
 ·have:s= ⟨[c]⟩:=(DT.1 h).symm
  subst this
  rw [h];simp [Lib.indexByte]
 ·rw [nc] at h
  rw [h]
  show ((fV N s ((c.toNat:Nat):Int)).bind _).bind _=_
  have:=s8 (N:=N) s c
  simp only [gx] at this
  rw [this];rfl
theorem CX (s:dA) (c:UInt8):kA N s ⟨[c]⟩=some ((s.bY.count c:Nat):Int):=by
 unfold kA
 show (some _:Option Int)=_
 simp [Lib.countByte]
theorem BG {s:dA} {k:Nat} (h:k<=s.bY.length):rD s 0 ((k:Nat):Int)=some ⟨s.bY.take k⟩:=by
 unfold rD;rw [aC ⟨by omega,by omega,by omega⟩]
 simp only [Int.toNat_zero,List.drop_zero,Int.sub_zero,bR]
theorem BH {s:dA} {k:Nat} (h:k<=s.bY.length):rD s ((k:Nat):Int) ((s.bY.length:Nat):Int)=some ⟨s.bY.drop k⟩:=by
 unfold rD;rw [aC ⟨by omega,by omega,by omega⟩]
 simp only [bR]
 rw [ng];rw [f0];omega
def oZ (s:dA) (c:UInt8):List dA:=(cutAt c s.bY).map dA.mk
theorem CY {s:dA} (c:UInt8) (h:s.bY.length<=1048576) (hN:4194304<=N):kB N s ⟨[c]⟩=some (oZ s c):=by
 have hc:s.bY.count c<=s.bY.length:=List.count_le_length
 unfold kB ko
 rw [show ((-1:Int)==0)=false by decide,bA,show dA.y7 ⟨[c]⟩ ⟨[]⟩=false by simp [dA.y7],bA,CX,aB]
 rw [eH (x:=((s.bY.count c:Nat):Int)+1) (by omega) (by omega),show decide ((-1:Int)<0)=true by decide,aV,aB]
 rw [eH (x:=((s.bY.length:Nat):Int)+1) (by omega) (by omega)]
 have e1: (if ((s.bY.length:Nat):Int)+1< ((s.bY.count c:Nat):Int)+1 then ((s.bY.length:Nat):Int)+1 else ((s.bY.count c:Nat):Int)+1)= ((s.bY.count c+1:Nat):Int):=by
  rw [aF (by omega)];omega
 rw [e1,sJ _ (by omega),aB]
 rw [eH (x:=((s.bY.count c+1:Nat):Int) - 1) (by omega) (by omega)]
 have key:=sG (S:=dA×List dA×Int) (R:=Empty) (body:=(fun(s7:dA×(List dA)×Int)=>(bif (decide (s7.2.2< ((s.bY.count c+1:Nat):Int) - 1)) then ((jD N s7.1 ⟨[c]⟩).bind fun x23=>bif (decide (x23<0)) then (some (.br (s7.1,s7.2.1,s7.2.2))) else ((rD s7.1 0 (IntKind.wrap .i64 (x23+0))).bind fun x24=>(idx s7.2.1 s7.2.2).bind fun x25=>(rD s7.1 (IntKind.wrap .i64 (x23+ (((⟨[c]⟩:dA).bY.length:Nat):Int))) ((s7.1.bY.length:Nat):Int)).bind fun x27=>some (.nx (x27,(s7.2.1.set (Int.toNat s7.2.2) x24),(IntKind.wrap .i64 (s7.2.2+1)))))) else (some (.br (s7.1,s7.2.1,s7.2.2))):Option (Fl (dA×(List dA)×Int) Empty))))
  (fun st=>∃ws:List (List UInt8),st.2.2= ((ws.length:Nat):Int)/\cutAt c s.bY=ws++cutAt c st.1.bY/\ws.length+st.1.bY.count c=s.bY.count c/\st.1.bY.length<=s.bY.length/\st.2.1=ws.map dA.mk++List.replicate (s.bY.count c+1 - ws.length) ⟨[]⟩)
  (fun st=>s.bY.count c+1 - st.2.2.toNat)
  (fun st=>∃ws:List (List UInt8),st.2.2= ((ws.length:Nat):Int)/\cutAt c s.bY=ws++[st.1.bY]/\ws.length=s.bY.count c/\st.2.1=ws.map dA.mk++[⟨[]⟩])
  (fun _=>True) (by
   rintro⟨r,arr,i⟩ ⟨ws,h1,h2,h3,h4,h5⟩
   simp only at h1 h2 h3 h4 h5
   subst h1 h5
   by_cases hlt:ws.length<s.bY.count c
   ·have hd:decide (((ws.length:Nat):Int)< ((s.bY.count c+1:Nat):Int) - 1)=true:=by rw [bT];omega
    simp only [hd,aV,CW,aB]
    rcases qo r.bY c with ⟨_,hn⟩ | ⟨a,b,hr,ha,hi⟩
    ·rw [List.count_eq_zero_of_not_mem hn] at h3;omega
    ·have hrl:r.bY.length=a.length+ (b.length+1):=by rw [hr];simp
     rw [hi,bU (by omega),bA]
     rw [show ((a.length:Nat):Int)+0= ((a.length:Nat):Int) by omega,eH (x:=((a.length:Nat):Int)) (by omega) (by omega),BG (by omega),aB]
     rw [iR _ _ (by simp;omega),aB]
     rw [show ((a.length:Nat):Int)+ (((⟨[c]⟩:dA).bY.length:Nat):Int)= ((a.length+1:Nat):Int) by simp,eH (x:=((a.length+1:Nat):Int)) (by omega) (by omega),BH (by omega),aB]
     refine⟨_,rfl,⟨ws++[a],?_,?_,?_,?_,?_⟩,?_⟩
     ·simp only;rw [eH (by omega) (by omega)];simp
     ·simp only
      rw [h2,hr,yM ha];simp
     ·simp only
      rw [hr] at h3 ⊢
      simp [List.count_eq_zero_of_not_mem ha] at h3 ⊢;omega
     ·simp;omega
     ·simp only [bR]
      rw [List.set_append_right _ _ (by simp)]
      simp only [iE,Nat.sub_self]
      obtain⟨d,hd'⟩: ∃d,s.bY.count c+1 - ws.length=d+1:=⟨s.bY.count c - ws.length,by omega⟩
      rw [hd',List.replicate_succ,List.set_cons_zero,show s.bY.count c+1 - (ws++[a]).length=d by simp;omega]
      simp [hr]
     ·simp only;rw [eH (by omega) (by omega)];omega
   ·have hd:decide (((ws.length:Nat):Int)< ((s.bY.count c+1:Nat):Int) - 1)=false:=by rw [decide_eq_false_iff_not];omega
    simp only [hd,bA]
    refine⟨_,rfl,ws,rfl,?_,by omega,?_⟩
    ·have h0:r.bY.count c=0:=by omega
     rw [h2,vB (List.count_eq_zero.1 h0)]
    ·rw [show s.bY.count c+1 - ws.length=1 by omega];rfl)
  N (s,List.replicate (s.bY.count c+1) ⟨[]⟩,0) ⟨[],rfl,rfl,by simp,bJ _,by simp⟩ (by simp only;omega)
 obtain⟨o,ho,hgo⟩:=key
 rw [ho,aB]
 cases o with
 | rt r=>exact r.elim
 | go st=>
  obtain⟨r,arr,i⟩:=st
  obtain⟨ws,h1,h2,h3,h4⟩:=hgo
  simp only at h1 h2 h3 h4
  subst h1 h4
  simp only [Fo.cs]
  rw [iR _ _ (by simp),aB,eH (by omega) (by omega)]
  rw [show ((ws.length:Nat):Int)+1= ((ws.length+1:Nat):Int) by omega,sH _ _ (by simp),aB,aB]
  unfold oZ
  rw [h2]
  rw [bR,List.set_append_right _ _ (by simp),ng (by simp)]
  simp
def nS (s:dA):Bool:=decide (s.bY.length<=200)&&(oZ s 47).all isWord
theorem qL {c:UInt8}: ∀{l x:List UInt8},x∈cutAt c l->x.length<=l.length
 | [],x,h=>by simp [cutAt] at h;subst h;simp
 | b::l,x,h=>by
  unfold cutAt at h
  split at h
  ·rcases eV.1 h with h | h
   ·subst h;simp
   ·have:=qL h;simp;omega
  ·split at h
   ·rename_i t e
    rcases eV.1 h with h | h
    ·subst h;have:=qL (c:=c) (l:=l) (by rw [e];exact List.mem_cons_self);simp;omega
    ·have:=qL (c:=c) (l:=l) (by rw [e];exact jg _ h);simp;omega
   ·simp at h;subst h;simp
theorem wF (c:UInt8): ∀(l:List UInt8),(cutAt c l).length<=l.length+1
 | []=>by simp [cutAt]
 | b::l=>by
  have:=wF c l
  unfold cutAt
  split
  ·simp;omega
  ·split
   ·rename_i e;rw [e] at this;simp at this ⊢;omega
   ·simp
theorem BJ {s x:dA} {c:UInt8} (h:x∈oZ s c):x.bY.length<=s.bY.length:=by
 obtain⟨y,hy,rfl⟩:=bV.1 h
 exact qL hy
theorem BK (s:dA) (c:UInt8): (oZ s c).length<=s.bY.length+1:=by unfold oZ;rw [iE];exact wF c _
theorem s9 {s:dA} (h:s.bY.length<=1048576) (hN:4194304<=N):jZ N s=some (nS s):=by
 unfold jZ nS
 by_cases hl:s.bY.length<=200
 ·rw [cJ (by omega),aV,CY 47 h hN,aB]
  have e:=oh (l:=oZ s 47) (φ:=fM N) (fun x=> !isWord x) (by have:=BK s 47;omega) (fun x hx=>by
   unfold fM
   rw [nG (by have:=BJ hx;omega)];rfl)
  have e2:fL N (oZ s 47) (fM N)=nM (oZ s 47) (fM N):=rfl
  rw [e2,e,aB,aB,cJ hl,Bool.true_and]
  congr 1
  rw [f9]
  simp
 ·rw [bU (by omega),bA,aB,bU hl,Bool.false_and]
end
end Go.Gk
namespace Go.Gk
open Go Classical
section
variable {N:Nat}
theorem CZ {a b:aA} (h:aW a=aW b):a=b:=by cases a;cases b;unfold aW at h;simp at h;obtain⟨h1,h2,h3⟩:=h;subst h1;subst h2;subst h3;rfl
theorem tc: ∀{s t:List aA},s.map aW=t.map aW->s=t
 | [],[],_=>rfl
 | [],_::_,h=>by cases h
 | _::_,[],h=>by cases h
 | a::s,b::t,h=>by
  rw [eF,eF] at h
  injection h with h1 h2
  rw [CZ h1,tc h2]
theorem C0 {s t:List aA} (hs:cW (s.map aW)) (ht:cW (t.map aW)) (h: ∀x y,nC (s.map aW) x y=nC (t.map aW) x y):s=t:=tc (vg hs ht h)
theorem pj.unique {l:List aG} {s t:List aA} (hs:pj l s) (ht:pj l t):s=t:=C0 hs.can ht.can fun x y=>by rw [hs.cover,ht.cover]
theorem pj.C1 {l:List aG} {s:List aA} (h:pj l s):s.length<=2*l.length/\(∀b∈s,b.Xs.length<=2*l.length)/\(aK s).length<=2*l.length* (2*l.length):=by
 have h1:s.length<=2*l.length:=by have:=h.lim.len h.can;rwa [iE,gu] at this
 have h2: ∀b∈s,b.Xs.length<=2*l.length:=fun b hb=>by
  have:=h.lim.row h.can (b:=aW b) (bV.2 ⟨b,hb,rfl⟩)
  rwa [iB] at this
 exact⟨h1,h2,vm h1 h2⟩
theorem qM {n:Int} (h:mT n=true): -1000000<=n/\n<=1000000:=by
 unfold mT gA at h
 rw [bE,bT,bT] at h;omega
theorem ke {r:aG} (h:eB r=true): (-1000000<=r.X0/\r.X0<=1000000)/\(-1000000<=r.Y0/\r.Y0<=1000000)/\(-1000000<=r.X1/\r.X1<=1000000)/\(-1000000<=r.Y1/\r.Y1<=1000000):=by
 unfold eB at h
 simp only [bE] at h
 exact⟨qM h.1,qM h.2.1,qM h.2.2.1,qM h.2.2.2⟩
theorem vC {r:aG} (h: (-1000000<=r.X0/\r.X0<=1000000)/\(-1000000<=r.Y0/\r.Y0<=1000000)/\(-1000000<=r.X1/\r.X1<=1000000)/\(-1000000<=r.Y1/\r.Y1<=1000000)):eB r=true:=by
 unfold eB mT gA
 simp only [bE,bT]
 omega
theorem C2 {r:aG} (h:eB r=true) (hx:r.X0<r.X1) (hy:r.Y0<r.Y1):xv r:=by
 have:=ke h
 refine⟨hx,hy,?_,?_,?_,?_⟩ <;> unfold small <;> omega
def mu (r:aG):Option Int:=if eB r=true then (if r.X1<=r.X0\/r.Y1<=r.Y0 then some 13 else none) else some 1
def kH (l:List aG):Int:=if 2000<l.length then 2 else (l.findSome? mu).getD 0
theorem v7 {l:List aG} (hl:l.length<=4611686018427387904):iV N l=some (kH l):=by
 unfold iV kH
 by_cases h:2000<l.length
 ·rw [cJ (by omega),aV,aC h]
 ·rw [bU (by omega),bA,aF h,u4 mu hl (fun k x hx=>by
   rw [iL hx,aB,vA,aB]
   unfold mu
   cases hr:eB x with
   | false=>rfl
   | true=>
    rw [nj,bA,aC rfl]
    by_cases h2:x.X1<=x.X0\/x.Y1<=x.Y0
    ·rw [aC h2,show (decide (x.X1<=x.X0)||decide (x.Y1<=x.Y0))=true by rw [dC,bT,bT];exact h2];rfl
    ·rw [aF h2,show (decide (x.X1<=x.X0)||decide (x.Y1<=x.Y0))=false by rw [<-nc,dC,bT,bT];exact h2];rfl),aB]
  cases l.findSome? mu <;> rfl
theorem te {r:aG}:mu r=none↔eB r=true/\r.X0<r.X1/\r.Y0<r.Y1:=by
 unfold mu
 by_cases h:eB r=true
 ·rw [aC h]
  by_cases h2:r.X1<=r.X0\/r.Y1<=r.Y0
  ·rw [aC h2]
   constructor
   ·intro h;cases h
   ·rintro⟨_,h3,h4⟩;omega
  ·rw [aF h2]
   exact⟨fun _=>⟨h,by omega,by omega⟩,fun _=>rfl⟩
 ·rw [aF h]
  constructor
  ·intro h;cases h
  ·rintro⟨h3,_⟩;exact absurd h3 h
theorem yN {r:aG} {e:Int} (h:mu r=some e):e≠0:=by
 unfold mu at h
 split at h
 ·split at h
  ·injection h with h;omega
  ·cases h
 ·injection h with h;omega
theorem nT {l:List aG}:kH l=0↔l.length<=2000/\∀r∈l,eB r=true/\r.X0<r.X1/\r.Y0<r.Y1:=by
 unfold kH
 by_cases h:2000<l.length
 ·rw [aC h];constructor
  ·intro h;omega
  ·intro h;omega
 ·rw [aF h]
  cases hf:l.findSome? mu with
  | none=>
   rw [List.findSome?_eq_none_iff] at hf
   exact⟨fun _=>⟨by omega,fun r hr=>te.1 (hf r hr)⟩,fun _=>rfl⟩
  | some e=>
   obtain⟨r,hr,he⟩:=List.exists_of_findSome?_eq_some hf
   constructor
   ·intro h0;exact absurd h0 (yN he)
   ·rintro⟨_,h2⟩
    rw [te.2 (h2 r hr)] at he;cases he
def GD (l:List aG):Prop:=∀(k:Nat) a b,l[k]? =some a->l[k+1]? =some b->¬(b.Y0<a.Y0\/(b.Y0=a.Y0/\b.X0<=a.X0))
def xD (l:List aG):Prop:=∃s,pj l s/\aK s=l
noncomputable def jc (l:List aG):Int:=if kH l≠0 then kH l else if GD l then (if xD l then 0 else 3) else 8
theorem xE {l:List aG} (h:kH l=0):l.length<=2000/\∀r∈l,xv r:=⟨(nT.1 h).1,fun r hr=>by have:=(nT.1 h).2 r hr;exact C2 this.1 this.2.1 this.2.2⟩
theorem zK {l m:List aG} (hl:l.length<=4611686018427387904):iq N l m=some (decide (l=m)):=by
 have:=wz (l:=l) (m:=m) hl
 unfold zz at this
 unfold iq
 rw [show (decide (l=m)) = @decide (l=m) (instDecidableEqList l m) from decide_eq_decide.2 Iff.rfl]
 exact this
theorem mU {l:List aG} (hl:l.length<=1073741824) (hN:4398046511104<=N):dZ N l=some (jc l):=by
 refine Ok.get ?_
 unfold dZ
 refine Ok.eq (v7 (by omega)) ?_
 unfold jc
 refine Ok.bif (fun h=>Ok.ret ?_) (fun h=>?_)
 ·rw [aC (by simpa using h)]
 ·have h0:kH l=0:=by simpa using h
  rw [aF (by simpa using h0)]
  obtain⟨hlen,hok⟩:=xE h0
  refine Ok.bind (Ok.mC (Go:=fun _=>GD l) (Rt:=fun r=>r=8/\¬GD l) (fun s=>∃k:Nat,s= ((k:Nat):Int)/\1<=k/\∀(j:Nat) a b,j+1<k->l[j]? =some a->l[j+1]? =some b->¬(b.Y0<a.Y0\/(b.Y0=a.Y0/\b.X0<=a.X0))) (fun s=>l.length - s.toNat) ?_ ⟨1,rfl,bJ _,fun j a b hj=>by omega⟩ (by simp;omega)) ?_
  ·rintro s ⟨k,rfl,hk,hI⟩
   refine Ok.bif (fun h=>?_) (fun h=>Ok.br fun j a b ha hb=>hI j a b ?_ ha hb)
   ·have hk2:k<l.length:=by have:=of_decide_eq_true h;omega
    rw [lI hk (by omega)]
    refine Ok.idx (by omega) (Ok.idx hk2 (Ok.bif (fun hb=>Ok.rt ⟨rfl,fun hu=>?_⟩) (fun hb=>Ok.nx ⟨⟨k+1,by rw [gW (by omega)],by omega,fun j a b hj ha hb'=>?_⟩,by rw [gW (by omega)];simp only [bR];omega⟩)))
    ·refine hu (k - 1) l[k - 1] l[k] (aL _) (by rw [show k - 1+1=k by omega];exact aL _) ?_
     rw [dC,bE,bT,bT,beq_iff_eq] at hb;exact hb
    ·by_cases e:j+1<k
     ·exact hI j a b e ha hb'
     ·have:j+1=k:=by omega
      subst this
      rw [aL (by omega)] at ha hb'
      injection ha with ha;injection hb' with hb'
      subst ha;subst hb'
      rw [<-nc,dC,bE,bT,bT,beq_iff_eq] at hb;exact hb
   ·have:=of_decide_eq_false h
    have:=(aT.1 hb).1;omega
  ·rintro o ho
   refine Ok.cs ho (fun s hu=>?_) (fun r hr=>Ok.ret (by rw [hr.1,aF hr.2]))
   rw [aC hu]
   refine Ok.bind (lK (N:=N) (by omega) hok (by omega)) ?_
   intro s hs
   obtain⟨z1,z2,z3⟩:=hs.C1
   have z4:2*l.length* (2*l.length)<=4000*4000:=Nat.mul_le_mul (by omega) (by omega)
   refine Ok.eq (sY (lZ hs.can) (by omega) (fun b hb=>by have:=z2 b hb;omega) (by omega)) (Ok.eq (zK (by omega)) ?_)
   have hiff:xD l↔aK s=l:=⟨fun⟨t,h1,h2⟩=>by rw [hs.unique h1];exact h2,fun h=>⟨s,hs,h⟩⟩
   refine Ok.bif (fun h=>Ok.ret ?_) (fun h=>Ok.ret ?_)
   ·have h: ¬aK s=l:=by simpa using h
    rw [aF (fun h'=>h (hiff.1 h'))]
   ·have h:aK s=l:=by simpa using h
    rw [aC (hiff.2 h)]
theorem qp {l:List aG}:jc l=0↔kH l=0/\GD l/\xD l:=by
 unfold jc
 by_cases h:kH l=0
 ·rw [aF (by simpa using h)]
  by_cases h2:GD l
  ·rw [aC h2]
   by_cases h3:xD l
   ·rw [aC h3];exact⟨fun _=>⟨h,h2,h3⟩,fun _=>rfl⟩
   ·rw [aF h3];constructor
    ·intro h;omega
    ·rintro⟨_,_,h4⟩;exact absurd h4 h3
  ·rw [aF h2];constructor
   ·intro h;omega
   ·rintro⟨_,h4,_⟩;exact absurd h4 h2
 ·rw [aC h]
  constructor
  ·intro h2;exact absurd h2 h
  ·rintro⟨h2,_⟩;exact absurd h2 h
theorem rU (n lo hi:Int):dL N n lo hi=some (gA n lo hi):=rfl
theorem BL {b:bH} (hN:16<=N):iI N b=some (lO b):=by
 have:=oC (N:=N - 16) (b:=b)
 rwa [show N - 16+16=N by omega] at this
def nH (n:Nat) (b:bH):Option Int:=if (lO b).2≠0 then some (lO b).2 else if gA b.cM 0 (((n:Nat):Int) - 1)=true/\gA b.To b.cM (((n:Nat):Int) - 1)=true then none else some 1
def lr (a:eL):Int:=if 500<a.aU.length then 2 else (a.aU.findSome? (nH a.aH.length)).getD 0
theorem v8 {a:eL} (h1:a.aH.length<=4611686018427387904) (h2:a.aU.length<=4611686018427387904) (hN:16<=N):ir N a=some (lr a):=by
 unfold ir lr
 by_cases h:500<a.aU.length
 ·rw [cJ (by omega),aV,aC h]
 ·have hw:IntKind.wrap .i64 (((a.aH.length:Nat):Int) - 1)= ((a.aH.length:Nat):Int) - 1:=eH (by omega) (by omega)
  rw [bU (by omega),bA,aF h,u4 (nH a.aH.length) h2 (fun k x hx=>by
   rw [iL hx,aB,BL hN,aB]
   unfold nH
   by_cases h0: (lO x).2=0
   ·rw [aF (by simpa using h0),h0,show ((0:Int) != 0)=false by rfl,bA,hw,rU,aB,rU,aB]
    cases h3:gA x.cM 0 (((a.aH.length:Nat):Int) - 1) <;> cases h4:gA x.To x.cM (((a.aH.length:Nat):Int) - 1) <;> rfl
   ·rw [aC h0,show ((lO x).2 != 0)=true by simpa using h0];rfl),aB]
  cases a.aU.findSome? (nH a.aH.length) <;> rfl
theorem yO {b:bH} (h: (lO b).2=0):po b=true/\eB (rY b)=true:=by
 unfold lO at h
 split at h
 ·rename_i h';rwa [bE] at h'
 ·cases h
theorem nU {a:eL} (h:lr a=0):a.aU.length<=500/\∀b∈a.aU,po b=true/\eB (rY b)=true/\0<=b.cM/\b.cM<=b.To/\b.To< ((a.aH.length:Nat):Int):=by
 unfold lr at h
 split at h
 ·omega
 ·refine⟨by omega,fun b hb=>?_⟩
  have hn:nH a.aH.length b=none:=by
   cases hf:a.aU.findSome? (nH a.aH.length) with
   | none=>exact List.findSome?_eq_none_iff.1 hf b hb
   | some e=>
    rw [hf] at h
    obtain⟨c,hc,he⟩:=List.exists_of_findSome?_eq_some hf
    have h:e=0:=h
    subst h
    unfold nH at he
    split at he
    ·rename_i h';injection he with he;exact absurd he h'
    ·split at he
     ·cases he
     ·injection he with he;omega
  unfold nH at hn
  split at hn
  ·cases hn
  ·rename_i h0
   split at hn
   ·rename_i h1
    have h0: (lO b).2=0:=by simpa using h0
    have:=yO h0
    unfold gA at h1
    simp only [bE,bT] at h1
    exact⟨this.1,this.2,by omega,by omega,by omega⟩
   ·cases hn
theorem GF {b:bH} (h1:po b=true) (h2:eB (rY b)=true):xv (rY b):=by
 have hf:=nF h1
 refine C2 h2 ?_ ?_
 ·show b.At.X - b.eD / 2<b.At.X - b.eD / 2+b.eD;omega
 ·show b.At.Y - b.eD / 2<b.At.Y - b.eD / 2+b.eD;omega
def iD (p q:fH):Int:=if Lib.compareBytes p.Part.bY q.Part.bY≠0 then Lib.compareBytes p.Part.bY q.Part.bY else Lib.compareBytes p.fH.bY q.fH.bY
theorem pq (p q:fH):fP N p q=some (iD p q):=by
 unfold fP iD
 show (bif (Lib.compareBytes p.Part.bY q.Part.bY != 0) then _ else _)=_
 by_cases h:Lib.compareBytes p.Part.bY q.Part.bY=0
 ·rw [h,aF (by simp)];rfl
 ·rw [aC h,show (Lib.compareBytes p.Part.bY q.Part.bY != 0)=true by simpa using h];rfl
def kx (l:bW):fH:=⟨l.Part,l.fH⟩
theorem tX (l:bW):jo N l=some (kx l):=rfl
def lu (a:eL) (k:Nat):Option Int:=(a.bC[k]?).bind fun x=>
 if (nS x.Part&&isWord x.fH)=true then
  if (gA x.cY 0 (((a.aH.length:Nat):Int) - 1)&&rq x.At)=true then
   if 0<k/\(∃y,a.bC[k - 1]? =some y/\iD (kx x) (kx y)<=0) then some 8 else none
  else some 1
 else some 5
noncomputable def lv (a:eL):Int:=if 1000<a.bC.length then 2 else (sF a.bC.length (lu a)).getD 0
end
end Go.Gk
namespace Go.Gk
open Go Classical
section
variable {N:Nat}
def vD (a:eL):Prop:=∀x∈a.bC,x.Part.bY.length<=1048576/\x.fH.bY.length<=1048576
theorem v9 {a:eL} (h1:a.aH.length<=1073741824) (h2:a.bC.length<=1073741824) (h3:vD a) (hN:4194304<=N):iv N a=some (lv a):=by
 unfold iv lv
 by_cases h:1000<a.bC.length
 ·rw [cJ (by omega),aV,aC h]
 ·have hw:IntKind.wrap .i64 (((a.aH.length:Nat):Int) - 1)= ((a.aH.length:Nat):Int) - 1:=eH (by omega) (by omega)
  rw [bU (by omega),bA,aF h,og (lu a) (by omega) (fun k hk _=>by
   have hx:a.bC[k]? =some a.bC[k]:=aL hk
   have hs:=h3 _ (cT hk)
   rw [iL hx,aB,s9 hs.1 hN,aB]
   have hle:lu a k= (if (nS a.bC[k].Part&&isWord a.bC[k].fH)=true then
     if (gA a.bC[k].cY 0 (((a.aH.length:Nat):Int) - 1)&&rq a.bC[k].At)=true then
      if 0<k/\(∃y,a.bC[k - 1]? =some y/\iD (kx a.bC[k]) (kx y)<=0) then some 8 else none
     else some 1
    else some 5):=by unfold lu;rw [hx];rfl
   rw [hle]
   have e1: ((bif (!nS a.bC[k].Part) then (some true) else ((gm N a.bC[k].fH).bind fun x225=>some (!x225))):Option Bool)=some (!(nS a.bC[k].Part&&isWord a.bC[k].fH)):=by
    rw [nG hs.2,aB]
    cases nS a.bC[k].Part <;> rfl
   have e2: ((dL N a.bC[k].cY 0 (IntKind.wrap .i64 (((a.aH.length:Nat):Int) - 1))).bind fun x318=>bif (!x318) then (some true) else ((gH N a.bC[k].At).bind fun x321=>some (!x321)))=some (!(gA a.bC[k].cY 0 (((a.aH.length:Nat):Int) - 1)&&rq a.bC[k].At)):=by
    rw [hw,rU,aB,ue,aB]
    cases gA a.bC[k].cY 0 (((a.aH.length:Nat):Int) - 1) <;> rfl
   show ((bif (!nS a.bC[k].Part) then (some true) else ((gm N a.bC[k].fH).bind fun x225=>some (!x225))):Option Bool).bind _=_
   rw [e1,aB]
   cases h4: (nS a.bC[k].Part&&isWord a.bC[k].fH) with
   | false=>rfl
   | true=>
    rw [nj,bA,aC rfl]
    show (((dL N a.bC[k].cY 0 (IntKind.wrap .i64 (((a.aH.length:Nat):Int) - 1))).bind fun x318=>bif (!x318) then (some true) else ((gH N a.bC[k].At).bind fun x321=>some (!x321)))).bind _=_
    rw [e2,aB]
    cases h5: (gA a.bC[k].cY 0 (((a.aH.length:Nat):Int) - 1)&&rq a.bC[k].At) with
    | false=>rfl
    | true=>
     rw [nj,bA,aC rfl]
     by_cases h0:0<k
     ·rw [cJ (by omega),aV,lI h0 (by omega),iR _ _ (by omega:k - 1<a.bC.length)]
      simp only [tX,aB,pq]
      by_cases h6:iD (kx a.bC[k]) (kx a.bC[k - 1])<=0
      ·rw [cJ h6,aC ⟨h0,_,aL (by omega:k - 1<a.bC.length),h6⟩];rfl
      ·rw [bU h6,aF (by
        rintro⟨_,y,hy,h7⟩
        rw [aL (by omega:k - 1<a.bC.length)] at hy;injection hy with hy
        rw [<-hy] at h7;exact h6 h7)];rfl
     ·rw [bU (by omega),aF (fun h=>h0 h.1)];rfl),aB]
  cases sF a.bC.length (lu a) <;> rfl
def kI (b:bH) (k:Int):Bool:=decide (b.cM<=k)&&decide (k<=b.To)
theorem vE (b:bH) (k:Int):iX N b k=some (kI b k):=rfl
def lx (bs:List bH) (k:Int):List aG:=(bs.filter (fun b=>kI b k)).map rY
structure lL (bs:List bH):Prop where
 len:bs.length<=500
 ok: ∀b∈bs,po b=true/\eB (rY b)=true
structure qN (r hs:List aG) (s:List aA):Prop where
 can:cW (s.map aW)
 cover: ∀x y,nC (s.map aW) x y= (kz r x y&& !kz hs x y)
 lim:rX (na r++na hs) (jT r++jT hs) (s.map aW)
theorem wG {bs:List bH} (h:lL bs) (k:Int): (lx bs k).length<=500:=by
 unfold lx
 rw [iE]
 have:=lM (fun b=>kI b k) bs
 have:=h.len;omega
theorem tf {bs:List bH} (h:lL bs) (k:Int): ∀r∈lx bs k,xv r/\eB r=true:=by
 intro r hr
 unfold lx at hr
 obtain⟨b,hb,rfl⟩:=bV.1 hr
 have:=h.ok b (il.1 hb).1
 exact⟨GF this.1 this.2,this.2⟩
theorem qN.small {r hs:List aG} {s:List aA} (h:qN r hs s) (h1: ∀x∈r,xv x) (h2: ∀x∈hs,xv x): (∀c∈na r++na hs,small c)/\∀c∈jT r++jT hs,small c:=by
 constructor
 ·intro c hc
  rcases cP.1 hc with h | h
  ·obtain⟨x,hx,rfl | rfl⟩:=oz.1 h
   ·exact(h1 x hx).s1
   ·exact(h1 x hx).s2
  ·obtain⟨x,hx,rfl | rfl⟩:=oz.1 h
   ·exact(h2 x hx).s1
   ·exact(h2 x hx).s2
 ·intro c hc
  rcases cP.1 hc with h | h
  ·obtain⟨x,hx,rfl | rfl⟩:=i9.1 h
   ·exact(h1 x hx).s3
   ·exact(h1 x hx).s4
  ·obtain⟨x,hx,rfl | rfl⟩:=i9.1 h
   ·exact(h2 x hx).s3
   ·exact(h2 x hx).s4
theorem qO {s:List aA} {X Y:List Int} {A:Nat} (hc:cW (s.map aW)) (h:rX X Y (s.map aW)) (hX:X.length<=A) (hY:Y.length<=A):s.length<=A/\(∀b∈s,b.Xs.length<=A)/\(aK s).length<=A*A:=by
 have h1:s.length<=A:=by have:=h.len hc;rw [iE] at this;omega
 have h2: ∀b∈s,b.Xs.length<=A:=fun b hb=>by
  have:=h.row hc (b:=aW b) (bV.2 ⟨b,hb,rfl⟩)
  have e: (aW b).xs=b.Xs:=rfl
  rw [e] at this;omega
 exact⟨h1,h2,vm h1 h2⟩
theorem wc {r hs:List aG} (h1:r.length<=2000) (h2: ∀x∈r,xv x) (h3:hs.length<=500) (h4: ∀x∈hs,xv x) (hN:4398046511104<=N) {β:Type} {f:List aA->Option β} {Q:β->Prop} (k: ∀s,qN r hs s->Ok (f s) Q):
  Ok ((cO N r).bind fun x378=>(cO N hs).bind fun x380=>(gq N x378 x380).bind f) Q:=by
 refine Ok.bind (lK (N:=N) (by omega) h2 (by omega)) (fun s hs1=>?_)
 refine Ok.bind (lK (N:=N) (by omega) h4 (by omega)) (fun t ht=>?_)
 have hz: ∀c∈jT r++jT hs,small c:=by
  intro c hc
  rcases cP.1 hc with h | h
  ·obtain⟨x,hx,rfl | rfl⟩:=i9.1 h
   ·exact(h2 x hx).s3
   ·exact(h2 x hx).s4
  ·obtain⟨x,hx,rfl | rfl⟩:=i9.1 h
   ·exact(h4 x hx).s3
   ·exact(h4 x hx).s4
 refine Ok.bind (BC (X:=na r++na hs) (Y:=jT r++jT hs) hs1.can ht.can (hs1.lim.mono (fun c h=>List.mem_append_left _ h) (fun c h=>List.mem_append_left _ h)) (ht.lim.mono (fun c h=>List.mem_append_right _ h) (fun c h=>List.mem_append_right _ h))
  (by rw [dI,iB,iB];omega) (by rw [dI,gu,gu];omega) hz hN) (fun u hu=>?_)
 exact k u ⟨hu.can,fun x y=>by rw [hu.cover,hs1.cover,ht.cover],hu.lim⟩
def bB:Nat->List (List (List aA))->List aI
 | _,[]=>[]
 | k,ps::r=>ps.map (fun p=>⟨((k:Nat):Int),p,aK p⟩)++bB (k+1) r
theorem rV (ps:List (List aA)): ∀(r:List (List (List aA))) (k:Nat),bB k (r++[ps])=bB k r++ps.map (fun p=>⟨((k+r.length:Nat):Int),p,aK p⟩)
 | [],k=>by unfold bB;simp [bB]
 | q::r,k=>by
  show _++bB (k+1) (r++[ps])= (_++bB (k+1) r)++_
  rw [rV ps r (k+1),kf]
  congr 3
  simp only [kK]
  rw [show k+ (r.length+1)=k+1+r.length by omega]
theorem vF {s p:List aA} {ps:List (List aA)} {r:Nat->Nat} {X Y:List Int} (h:nE s r ps) (hc:cW (s.map aW)) (hl:rX X Y (s.map aW)) (hX: ∀c∈X,small c) (hY: ∀c∈Y,small c) (hp:p∈ps):
  ∃j k:Nat,ps[j]? =some p/\(bI (aK s).length r)[j]? =some k/\pj (lq (aK s) (aK s).length r k) p/\rX X Y (p.map aW):=by
 obtain⟨j,hj⟩:=eG hp
 have hjl:=(aT.1 hj).1
 rw [h.len] at hjl
 have hh: (bI (aK s).length r)[j]? =some (bI (aK s).length r)[j]:=aL hjl
 have hs:=h.each j _ p hh hj
 refine⟨j,_,hj,hh,hs,hs.lim.mono (fun c hcx=>?_) (fun c hcx=>?_)⟩
 ·obtain⟨x,hx,hxc⟩:=oz.1 hcx
  obtain⟨i,_,_,hi⟩:=jA.1 hx
  have:=vn hc hl hX hY x (dV hi)
  rcases hxc with rfl | rfl
  ·exact this.2.1.1
  ·exact this.2.1.2
 ·obtain⟨x,hx,hxc⟩:=i9.1 hcx
  obtain⟨i,_,_,hi⟩:=jA.1 hx
  have:=vn hc hl hX hY x (dV hi)
  rcases hxc with rfl | rfl
  ·exact this.2.2.1
  ·exact this.2.2.2
structure tY (cs:List (List aG)) (bs:List bH) (k:Nat) (jw:List (List aA)) (dM:List (List (List aA))):Prop where
 len:jw.length=k
 xF:dM.length=k
 dr: ∀(i:Nat) r s,i<k->cs[i]? =some r->jw[i]? =some s->qN r (lx bs ((i:Nat):Int)) s
 pt: ∀(i:Nat) s ps,i<k->jw[i]? =some s->dM[i]? =some ps->∃u,nE s u ps
 BM: (bB 0 dM).length<=k*25000000
theorem nE.BM {s:List aA} {u:Nat->Nat} {ps:List (List aA)} (h:nE s u ps):ps.length<=(aK s).length:=by
 rw [h.len];exact mB _ _
theorem zL {cs:List (List aG)} {bs:List bH} (hcs:cs.length<=16) (hc: ∀r∈cs,r.length<=2000/\∀x∈r,xv x) (hb:lL bs) (hN:4398046511104<=N):
  Ok (gN N cs bs [] []) (fun x=>∃dM,tY cs bs cs.length x.2.1 dM/\x.2.2=bB 0 dM/\(x.1=true↔(∀s∈x.2.1,(aK s).length<=2000)/\x.2.2.length<=2000)):=by
 unfold gN
 refine Ok.bind (P:=fun(st:List (List aA)×List aI×Bool)=>∃dM,tY cs bs cs.length st.1 dM/\st.2.1=bB 0 dM/\(st.2.2=true↔∀s∈st.1,(aK s).length<=2000)) (Ok.kM (fun(k:Nat) (st:List (List aA)×List aI×Bool)=>∃dM,tY cs bs k st.1 dM/\st.2.1=bB 0 dM/\(st.2.2=true↔∀s∈st.1,(aK s).length<=2000)) (by omega)
  ⟨[],⟨rfl,rfl,fun i r s hi=>by omega,fun i s ps hi=>by omega,by simp [bB]⟩,rfl,by simp⟩ (fun k st hk hI=>?_)) ?_
 ·obtain⟨jw,pcs,okk⟩:=st
  obtain⟨dM,D,e1,e2⟩:=hI
  dsimp only at D e1 e2 ⊢
  subst e1
  have hkx:cs[k]? =some cs[k]:=aL hk
  obtain⟨hr1,hr2⟩:=hc _ (cT hk)
  refine Ok.ix hkx ?_
  refine Ok.bind (P:=fun t=>t=lx bs ((k:Nat):Int)) (Ok.mono (Ok.kM (fun j t=>t=lx (bs.take j) ((k:Nat):Int)) (by have:=hb.len;omega) rfl (fun j t hj e=>?_)) (fun t e=>by rw [e,gv])) (fun t e=>?_)
  ·subst e
   refine Ok.idx hj (Ok.eq (vE _ _) ?_)
   have hts:bs.take (j+1)=bs.take j++[bs[j]]:=gh hj
   have hgb:=hb.ok _ (cT hj)
   have hl: (lx (bs.take j) ((k:Nat):Int)).length<=500:=by
    unfold lx
    rw [iE]
    have:=lM (fun b=>kI b ((k:Nat):Int)) (bs.take j)
    rw [cS] at this
    have:=hb.len;omega
   cases ht:kI bs[j] ((k:Nat):Int) with
   | false=>
    rw [bA]
    refine Ok.eq rfl (Ok.ret ?_)
    unfold lx
    rw [hts,iP];simp [ht]
   | true=>
    rw [aV]
    refine Ok.eq (x:=lx (bs.take j) ((k:Nat):Int)++[rY bs[j]]) (by rw [k6 hgb.1,aB,gr (by simp;omega),aB]) (Ok.ret ?_)
    unfold lx
    rw [hts,iP,fC];simp [ht]
  ·subst e
   have hho:=tf hb ((k:Nat):Int)
   have hhl:=wG hb ((k:Nat):Int)
   refine wc hr1 hr2 hhl (fun x hx=>(hho x hx).1) hN (fun s hs=>?_)
   obtain⟨sx,sy⟩:=hs.small hr2 (fun x hx=>(hho x hx).1)
   obtain⟨z1,z2,z3⟩:=qO (A:=5000) hs.can hs.lim (by rw [dI,iB,iB];omega) (by rw [dI,gu,gu];omega)
   have hmany:=Az (N:=N) (s:=s) (by omega) (fun b hb=>by have:=z2 b hb;omega) (by omega)
   refine Ok.eq (x:=(okk&&decide ((aK s).length<=2000),s)) ?_ ?_
   ·cases okk with
    | false=>rfl
    | true=>
     rw [aV,hmany,aB,Bool.true_and]
     rw [show decide ((((aK s).length:Nat):Int)<=2000)=decide ((aK s).length<=2000) from decide_eq_decide.2 (by omega)]
   dsimp only
   refine Ok.app (by rw [D.len];simp;omega) ?_
   refine Ok.bind (zI (N:=N) hs.can hs.lim sx sy (by omega) (fun b hb=>by have:=z2 b hb;omega) (by omega) hN) ?_
   rintro ps ⟨u,hu⟩
   have hfew:=hu.BM
   have hk16:k*25000000<=16*25000000:=Nat.mul_le_mul_right _ (by omega)
   have hDf:=D.BM
   refine Ok.bind (P:=fun t=>t=bB 0 dM++ps.map (fun p=>(⟨((k:Nat):Int),p,aK p⟩:aI))) (Ok.mono (Ok.kM (fun j t=>t=bB 0 dM++(ps.take j).map (fun p=>(⟨((k:Nat):Int),p,aK p⟩:aI))) (by omega) (by simp) (fun j t hj e=>?_)) (fun t e=>by rw [e,gv])) (fun t e=>Ok.ret ?_)
   ·subst e
    have hjx:ps[j]? =some ps[j]:=aL hj
    refine Ok.ix hjx ?_
    obtain⟨_,_,_,_,kR,hpl⟩:=vF hu hs.can hs.lim sx sy (cT hj)
    obtain⟨y1,y2,y3⟩:=qO (A:=5000) kR.can hpl (by rw [dI,iB,iB];omega) (by rw [dI,gu,gu];omega)
    refine Ok.eq (sY (lZ kR.can) (by omega) (fun b hb=>by have:=y2 b hb;omega) (by omega)) (Ok.app ?_ (Ok.ret ?_))
    ·simp only [dI,iE,cS,List.length_singleton];omega
    ·rw [gh hj,fC,kf];rfl
   ·subst e
    refine⟨dM++[ps],⟨by simp [D.len],by simp [D.xF],fun i r s' hi hr hs'=>?_,fun i s' ps' hi hs' hps'=>?_,?_⟩,?_,?_⟩
    ·dsimp only at hs'
     by_cases hik:i<k
     ·rw [eU (by rw [D.len];exact hik)] at hs'
      exact D.dr i r s' hik hr hs'
     ·have:i=k:=by omega
      subst this
      rw [eM (by rw [D.len];omega),D.len,Nat.sub_self] at hs'
      simp at hs';subst hs'
      rw [hkx] at hr;injection hr with hr;subst hr
      exact hs
    ·dsimp only at hs'
     by_cases hik:i<k
     ·rw [eU (by rw [D.len];exact hik)] at hs'
      rw [eU (by rw [D.xF];exact hik)] at hps'
      exact D.pt i s' ps' hik hs' hps'
     ·have:i=k:=by omega
      subst this
      rw [eM (by rw [D.len];omega),D.len,Nat.sub_self] at hs'
      rw [eM (by rw [D.xF];omega),D.xF,Nat.sub_self] at hps'
      simp at hs' hps';subst hs';subst hps'
      exact⟨u,hu⟩
    ·rw [rV,dI,iE];omega
    ·dsimp only
     rw [rV,D.xF,fD]
    ·dsimp only
     rw [bE,e2,bT]
     constructor
     ·rintro⟨h1,h2⟩ s' hs'
      rcases cP.1 hs' with h | h
      ·exact h1 s' h
      ·simp at h;subst h;exact h2
     ·intro h
      exact⟨fun s' hs'=>h s' (List.mem_append_left _ hs'),h s (by simp)⟩
 ·rintro⟨jw,pcs,okk⟩ ⟨dM,D,e1,e2⟩
  dsimp only at D e1 e2 ⊢
  subst e1
  refine Ok.bind (P:=fun b=>b=true↔(∀s∈jw,(aK s).length<=2000)/\(bB 0 dM).length<=2000) (Ok.bif (fun h=>Ok.ret ?_) (fun h=>Ok.ret ?_)) (fun b hb=>Ok.ret ⟨dM,D,rfl,hb⟩)
  ·rw [bT]
   constructor
   ·intro h';exact⟨e2.1 h,by omega⟩
   ·rintro⟨_,h'⟩;omega
  ·constructor
   ·intro h';cases h'
   ·rintro⟨h',_⟩;rw [e2.2 h'] at h;cases h
end
end Go.Gk
namespace Go.Gk
open Go Classical
section
variable {N:Nat}
section
variable {α:Type}
def pr (P:α->Bool) (l:List α) (n:Nat):List Nat:=(List.range n).filter (fun k=>(l[k]?).any P)
theorem zM {P:α->Bool} {l:List α} {n:Nat} {x:α} (h:l[n]? =some x):pr P l (n+1)=if P x=true then pr P l n++[n] else pr P l n:=by
 unfold pr
 rw [List.range_succ,iP]
 by_cases hp:P x=true
 ·rw [aC hp];simp [h,hp]
 ·rw [aF hp];simp [h,hp]
theorem wH (P:α->Bool) (l:List α) (n:Nat): (pr P l n).length<=n:=by
 have:=lM (fun k=>(l[k]?).any P) (List.range n)
 rw [List.length_range] at this;exact this
theorem tZ {P:α->Bool} {l:List α} {n k:Nat}:k∈pr P l n↔k<n/\(l[k]?).any P=true:=by unfold pr;simp
theorem tg {β:Type} {l:List α} (P:α->Bool) (g:Nat->β):sF l.length (fun k=>(l[k]?).bind fun x=>if P x=true then some (g k) else none)= (l.findIdx? P).map g:=by
 cases h:l.findIdx? P with
 | none=>
  rw [List.findIdx?_eq_none_iff] at h
  refine lH.2 fun k hk=>?_
  rw [aL hk]
  have:=h _ (cT hk)
  simp [this]
 | some j=>
  obtain⟨hj,hp,hn⟩:=List.findIdx?_eq_some_iff_getElem.1 h
  refine mz.2 ⟨j,hj,by rw [aL hj];simp [hp],fun i hi=>?_⟩
  rw [aL (by omega)]
  have:=hn i hi
  simp [this]
end
def ints (l:List Nat):List Int:=l.map fun i=>((i:Nat):Int)
theorem qq (l m:List Nat):ints (l++m)=ints l++ints m:=fC
theorem ly (l:List Nat): (ints l).length=l.length:=iE _
theorem qs {l:List Nat} {x:Int}:x∈ints l↔∃i∈l,x= ((i:Nat):Int):=by
 unfold ints;rw [bV]
 constructor
 ·rintro⟨i,h1,h2⟩;exact⟨i,h1,h2.symm⟩
 ·rintro⟨i,h1,h2⟩;exact⟨i,h1,h2.symm⟩
def o0 (p0 p1:aG):Bool:=((((decide (p0.X0<p1.X1))&&(decide (p1.X0<p0.X1)))&&((p0.Y1==p1.Y0)||(p1.Y1==p0.Y0)))||(((decide (p0.Y0<p1.Y1))&&(decide (p1.Y0<p0.Y1)))&&((p0.X1==p1.X0)||(p1.X1==p0.X0))))
def jd (b:bH) (p:aI):Bool:=b.iF&&(kI b p.cY&&p.gk.any (fun r=>o0 r (rY b)))
def kJ (bs:List bH) (pcs:List aI):List (List Int):=bs.map fun b=>ints (pr (jd b) pcs pcs.length)
theorem nI {l:List aG} {φ:aG->Option Bool} (p:aG->Bool) (hl:l.length<=4611686018427387904) (h: ∀x∈l,φ x=some (p x)):eR N l φ=some (l.any p):=
 oh p hl h
theorem C3 {bs:List bH} {pcs:List aI} (hb:lL bs) (hp:pcs.length<=1073741824) (hr: ∀p∈pcs,p.gk.length<=1073741824):gO N bs pcs []=some (kJ bs pcs):=by
 refine Ok.get ?_
 have hbl:=hb.len
 unfold gO
 refine Ok.bind (Ok.kM (fun k st=>st=kJ (bs.take k) pcs) (by omega) rfl (fun k st hk e=>?_)) (fun st e=>Ok.ret (by rw [e,gv]))
 subst e
 have hg:=hb.ok _ (cT hk)
 refine Ok.idx hk ?_
 refine Ok.bind (P:=fun t=>t=ints (pr (jd bs[k]) pcs pcs.length)) (Ok.kM (fun j t=>t=ints (pr (jd bs[k]) pcs j)) (by omega) rfl (fun j t hj e=>?_)) (fun t e=>?_)
 ·subst e
  have hjx:pcs[j]? =some pcs[j]:=aL hj
  have hl:=wH (jd bs[k]) pcs j
  refine Ok.ix hjx ?_
  refine Ok.eq (x:=jd bs[k] pcs[j]) ?_ ?_
  ·unfold jd
   cases bs[k].iF with
   | false=>rfl
   | true=>
    rw [aV,vE,aB,Bool.true_and]
    cases kI bs[k] pcs[j].cY with
    | false=>rfl
    | true=>
     rw [aV,nI (fun r=>o0 r (rY bs[k])) (by have:=hr _ (cT hj);omega) (fun r _=>by
      unfold g8;rw [k6 hg.1];rfl),aB,Bool.true_and]
  ·rw [zM hjx]
   cases ht:jd bs[k] pcs[j] with
   | false=>rw [bA,aF (by simp)];exact Ok.eq rfl (Ok.ret rfl)
   | true=>
    rw [aV,aC rfl]
    refine Ok.eq (x:=ints (pr (jd bs[k]) pcs j)++[((j:Nat):Int)]) (by rw [gr (by rw [ly];simp;omega),aB]) (Ok.ret ?_)
    rw [qq];rfl
 ·subst e
  refine Ok.app ?_ (Ok.ret ?_)
  ·unfold kJ;simp;omega
  ·unfold kJ
   rw [gh hk,fC];rfl
def vG (r:List aG) (p:iU):Bool:=r.any (fun x=>decide (p.X>=x.X0)&&(decide (p.X<x.X1)&&(decide (p.Y>=x.Y0)&&decide (p.Y<x.Y1))))
theorem th {r:List aG} {p:iU} (hl:r.length<=4611686018427387904):ik N r p=some (vG r p):=by
 unfold ik
 rw [nI (fun x=>decide (p.X>=x.X0)&&(decide (p.X<x.X1)&&(decide (p.Y>=x.Y0)&&decide (p.Y<x.Y1)))) hl (fun x _=>by
  unfold jq
  cases decide (p.X>=x.X0) <;> cases decide (p.X<x.X1) <;> cases decide (p.Y>=x.Y0) <;> rfl)];rfl
def qt (l:bW) (b:bH):Bool:=b.iF&&(kI b l.cY&&vG [rY b] l.At)
def lP (l:bW) (p:aI):Bool:=(p.cY==l.cY)&&vG p.gk l.At
def mV (bs:List bH) (pcs:List aI) (l:bW):Option iN:=match bs.findIdx? (qt l) with
 | some k=>some ⟨true,((k:Nat):Int)⟩
 | none=>(pcs.findIdx? (lP l)).map fun k=>⟨false,((k:Nat):Int)⟩
theorem C4 {bs:List bH} {pcs:List aI} (hb:lL bs) (hp:pcs.length<=1073741824) (hr: ∀p∈pcs,p.gk.length<=1073741824) (l:bW):
  gR N bs pcs l=some ((mV bs pcs l).getD ⟨false,0⟩,(mV bs pcs l).isSome):=by
 have hbl:=hb.len
 unfold gR
 rw [og (fun k=>(bs[k]?).bind fun x=>if qt l x=true then some ((⟨true,((k:Nat):Int)⟩:iN),true) else none) (by omega) (fun k hk _=>by
  have hkx:bs[k]? =some bs[k]:=aL hk
  have hg:=hb.ok _ (cT hk)
  rw [iL hkx,aB,hkx,k6 hg.1,aB,aB,th (by simp)]
  unfold qt
  cases bs[k].iF with
  | false=>rfl
  | true=>
   show (((bif kI bs[k] l.cY then _ else _:Option Bool)).bind _)=_
   cases kI bs[k] l.cY with
   | false=>rfl
   | true=>
    cases vG [rY bs[k]] l.At <;> rfl),aB,tg (qt l) (fun k=>((⟨true,((k:Nat):Int)⟩:iN),true))]
 unfold mV
 cases bs.findIdx? (qt l) with
 | some k=>rfl
 | none=>
  show ((qR pcs.length _ ()).bind _)=_
  rw [og (fun k=>(pcs[k]?).bind fun x=>if lP l x=true then some ((⟨false,((k:Nat):Int)⟩:iN),true) else none) (by omega) (fun k hk _=>by
   have hkx:pcs[k]? =some pcs[k]:=aL hk
   rw [iL hkx,aB,hkx,aB,th (by have:=hr _ (cT hk);omega)]
   unfold lP
   cases pcs[k].cY==l.cY with
   | false=>rfl
   | true=>cases vG pcs[k].gk l.At <;> rfl),aB,tg (lP l) (fun k=>((⟨false,((k:Nat):Int)⟩:iN),true))]
  cases pcs.findIdx? (lP l) <;> rfl
def Lk (n:Nat) (tch:List (List Int)) (i j:Nat):Prop:=∃(k:Nat) (l:List Int),tch[k]? =some l/\((i:Nat):Int)∈l/\j=n+k
structure zN (n m:Nat) (tch:List (List Int)) (r:Nat->Nat):Prop where
 le: ∀i,i<n+m->r i<=i
 rr: ∀i,i<n+m->r (r i)=r i
 co: ∀i j,Lk n tch i j->r i=r j
 fi: ∀S:Nat->Prop,(∀i j,Lk n tch i j->(S i↔S j))->∀i j,i<n+m->j<n+m->r i=r j->S i->S j
theorem BN {n m:Nat} {tch:List (List Int)} (hm:tch.length=m) (ht: ∀l∈tch,l.length<=1073741824/\∀x∈l,∃i:Nat,i<n/\x= ((i:Nat):Int)) (hn:n<=1073741824) (hm2:m<=1073741824) {up:List Int} (hu:UF (n+m) up (fun i=>i)) (hN:4398046511104<=N):
  Ok (kM tch.length (fun(k34:Nat) (s35: (List Int))=>((idx tch (k34:Int)).bind fun x89=>(kM x89.length (fun(k92:Nat) (s93: (List Int))=>((idx x89 (k92:Int)).bind fun x107=>(fu N s93 x107 (IntKind.wrap .i64 ((n:Int)+ (k34:Int)))).bind fun x109=>some x109:Option ((List Int)))) s35).bind fun s93=>some s93:Option ((List Int)))) up)
   (fun up'=>∃r,UF (n+m) up' r/\zN n m tch r):=by
 have base:Ok (kM tch.length (fun(k34:Nat) (s35: (List Int))=>((idx tch (k34:Int)).bind fun x89=>(kM x89.length (fun(k92:Nat) (s93: (List Int))=>((idx x89 (k92:Int)).bind fun x107=>(fu N s93 x107 (IntKind.wrap .i64 ((n:Int)+ (k34:Int)))).bind fun x109=>some x109:Option ((List Int)))) s35).bind fun s93=>some s93:Option ((List Int)))) up)
   (fun up'=>∃r E,UF (n+m) up' r/\mR r E/\vt (n+m) r E/\(∀p∈E,Lk n tch p.1 p.2)/\∀(k:Nat) l (i:Nat),k<tch.length->tch[k]? =some l->((i:Nat):Int)∈l->(i,n+k)∈E):=by
  refine Ok.kM (fun q up'=>∃r E,UF (n+m) up' r/\mR r E/\vt (n+m) r E/\(∀p∈E,Lk n tch p.1 p.2)/\∀(k:Nat) l (i:Nat),k<q->tch[k]? =some l->((i:Nat):Int)∈l->(i,n+k)∈E) (by omega)
   ⟨_,_,hu,mR.id,vt.id _,fun p hp=>(by cases hp),fun k l i hk=>by omega⟩ (fun q up' hq hI=>?_)
  obtain⟨r,E,h1,h2,h3,h4,h5⟩:=hI
  have hqx:tch[q]? =some tch[q]:=aL hq
  obtain⟨hl1,hl2⟩:=ht _ (cT hq)
  refine Ok.ix hqx ?_
  rw [wrap_add (by omega)]
  refine Ok.bind (Ok.kM (fun t up'=>∃r E,UF (n+m) up' r/\mR r E/\vt (n+m) r E/\(∀p∈E,Lk n tch p.1 p.2)/\(∀(k:Nat) l (i:Nat),k<q->tch[k]? =some l->((i:Nat):Int)∈l->(i,n+k)∈E)/\∀i:Nat,((i:Nat):Int)∈tch[q].take t->(i,n+q)∈E) (by omega)
   ⟨r,E,h1,h2,h3,h4,h5,fun i hi=>by simp at hi⟩ (fun t up' htl hI=>?_)) (fun up' hI=>Ok.ret ?_)
  ·obtain⟨r,E,h1,h2,h3,h4,h5,h6⟩:=hI
   refine Ok.idx htl ?_
   obtain⟨i,hi,e⟩:=hl2 _ (cT htl)
   rw [e]
   obtain⟨u2,a1,a2⟩:=D1 (N:=N) h1 (i:=i) (k:=n+q) (by omega) (by omega) (by omega)
   refine Ok.eq a1 (Ok.ret ⟨_,_,a2,h2.join i (n+q) (h1.rr i (by omega)),h3.join (by omega) (by omega),fun p hp=>?_,fun k l j hk hl hj=>List.mem_append_left _ (h5 k l j hk hl hj),fun j hj=>?_⟩)
   ·rcases cP.1 hp with hp | hp
    ·exact h4 p hp
    ·simp at hp;subst hp
     exact⟨q,tch[q],hqx,by rw [<-e];exact cT htl,rfl⟩
   ·rw [gh htl,cP] at hj
    rcases hj with hj | hj
    ·exact List.mem_append_left _ (h6 j hj)
    ·rw [List.mem_singleton,e] at hj
     have:j=i:=by omega
     subst this;simp
  ·obtain⟨r,E,h1,h2,h3,h4,h5,h6⟩:=hI
   refine⟨r,E,h1,h2,h3,h4,fun k l i hk hl hi=>?_⟩
   by_cases hkq:k<q
   ·exact h5 k l i hkq hl hi
   ·have:k=q:=by omega
    subst this
    rw [hqx] at hl;injection hl with hl;subst hl
    exact h6 i (by rw [gv];exact hi)
 obtain⟨up',e,r,E,h1,h2,h3,h4,h5⟩:=base
 have hE: ∀i j,Lk n tch i j->(i,j)∈E:=fun i j ⟨k,l,hl,hi,hj⟩=>by
  rw [hj];exact h5 k l i (aT.1 hl).1 hl hi
 exact⟨up',e,r,h1,h1.le,h1.rr,fun i j h=>h2 (i,j) (hE i j h),fun S hS i j hi hj=>h3 S (fun p hp=>hS p.1 p.2 (h4 p hp)) i j hi hj⟩
def we (bs:List bH) (j:Nat):Bool:=(bs[j]?).any (fun b=>b.iF)
def gP (n:Nat) (c:List Nat):List Nat:=c.filter (fun i=>decide (i<n))
def gB (bs:List bH) (n:Nat) (c:List Nat):List Nat:=(c.filter (fun i=> !decide (i<n)&&we bs (i - n))).map (fun i=>i - n)
def C5 (bs:List bH) (n:Nat) (c:List Nat):Bool:=decide (0< (gP n c).length+ (gB bs n c).length)
def Ih (bs:List bH) (n:Nat) (c:List Nat):cL:=⟨ints (gP n c),ints (gB bs n c),[]⟩
theorem AF (n:Nat) (c:List Nat) (i:Nat):gP n (c++[i])=if i<n then gP n c++[i] else gP n c:=by
 unfold gP;rw [iP];split <;> rename_i h <;> simp [h]
theorem AG (bs:List bH) (n:Nat) (c:List Nat) (i:Nat):gB bs n (c++[i])=if i<n then gB bs n c else if we bs (i - n)=true then gB bs n c++[i - n] else gB bs n c:=by
 unfold gB;rw [iP,fC]
 split
 ·rename_i h;simp [h]
 ·rename_i h
  split <;> rename_i h2 <;> simp [h,h2]
theorem C6 (n:Nat) (c:List Nat): (gP n c).length<=c.length:=lM _ _
theorem C7 (bs:List bH) (n:Nat) (c:List Nat): (gB bs n c).length<=c.length:=by unfold gB;rw [iE];exact lM _ _
def live (bs:List bH) (n t:Nat) (r:Nat->Nat) (hs:List Nat):List Nat:=hs.filter (fun h=>C5 bs n (cls t r h))
def o1 (bs:List bH) (n t:Nat) (r:Nat->Nat) (hs:List Nat):List cL:=(live bs n t r hs).map (fun h=>Ih bs n (cls t r h))
theorem BO (bs:List bH) (n t:Nat) (r:Nat->Nat) (hs:List Nat) (h:Nat):live bs n t r (hs++[h])=if C5 bs n (cls t r h)=true then live bs n t r hs++[h] else live bs n t r hs:=by
 unfold live;rw [iP];split <;> rename_i h2 <;> simp [h2]
theorem ti (bs:List bH) (n t:Nat) (r:Nat->Nat) (hs:List Nat): (o1 bs n t r hs).length= (live bs n t r hs).length:=by unfold o1;rw [iE]
def gi (bs:List bH) (n t:Nat) (r:Nat->Nat) (h:Nat):Nat:=(live bs n t r ((bI t r).takeWhile (fun x=>decide (x≠h)))).length
theorem ru {l:List Nat} (hn:l.Nodup) {k h:Nat} (hk:l[k]? =some h):l.takeWhile (fun x=>decide (x≠h))=l.take k:=by
 induction l generalizing k with
 | nil=>simp at hk
 | cons a l ih=>
  cases k with
  | zero=>simp at hk;subst hk;simp
  | succ k=>
   have hk:l[k]? =some h:=by simpa using hk
   have hne:a≠h:=fun e=>(List.nodup_cons.1 hn).1 (by rw [e];exact dV hk)
   rw [List.takeWhile_cons,aC (by simpa using hne),List.take_succ_cons,ih (List.nodup_cons.1 hn).2 hk]
theorem tj (bs:List bH) (n t:Nat) (r:Nat->Nat) (hs:List Nat): (live bs n t r hs).length<=hs.length:=lM _ _
theorem C8 {bs:List bH} {n t:Nat} {r:Nat->Nat} {h:Nat} (hh:h∈bI t r) (hne:C5 bs n (cls t r h)=true):gi bs n t r h< (live bs n t r (bI t r)).length/\(live bs n t r (bI t r))[gi bs n t r h]? =some h:=by
 obtain⟨k,hk⟩:=eG hh
 have hkl:=(aT.1 hk).1
 unfold gi
 rw [ru (kd t r) hk]
 have e:bI t r= (bI t r).take k++h::(bI t r).drop (k+1):=by
  have h1:=(List.take_append_drop k (bI t r)).symm
  rw [qz hkl,(aT.1 hk).2] at h1;exact h1
 have e2:live bs n t r (bI t r)=live bs n t r ((bI t r).take k)++h::live bs n t r ((bI t r).drop (k+1)):=by
  conv=>lhs;rw [e]
  unfold live
  rw [iP,List.filter_cons,aC hne]
 constructor
 ·rw [e2];simp
 ·rw [e2]
  simp
end
end Go.Gk
namespace Go.Gk
open Go Classical
section
variable {N:Nat}
theorem wI {l:List Nat} (h:l.Nodup) {i j a:Nat} (hi:l[i]? =some a) (hj:l[j]? =some a):i=j:=
 (List.getElem_inj (h₀:=(aT.1 hi).1) (h₁:=(aT.1 hj).1) h).1 (by rw [(aT.1 hi).2,(aT.1 hj).2])
theorem qP {n i k:Nat} {r:Nat->Nat}:i∈cls n r k↔i<n/\r i=k:=by unfold cls;simp
theorem BP (n:Nat) (r:Nat->Nat) (k:Nat): (cls n r k).Nodup:=List.Nodup.sublist List.filter_sublist List.nodup_range
structure GG (bs:List bH) (n m:Nat) (r:Nat->Nat) (hs:List Nat) (ofP ofB:List Int):Prop where
 lp:ofP.length=n
 lb:ofB.length=m
 pc: ∀i,i<n->r i∈hs->ofP[i]? =some ((gi bs n (n+m) r (r i):Nat):Int)
 bo: ∀j,j<m->r (n+j)∈hs->ofB[j]? =some (if we bs j=true then ((gi bs n (n+m) r (r (n+j)):Nat):Int) else -1)
theorem yP {bs:List bH} {n m:Nat} {r:Nat->Nat} (hm:bs.length=m) (hn:n<=1073741824) (hm2:m<=1073741824) {op ob:List Int} (hop:op.length=n) (hob:ob.length=m)
  {body:Nat->List cL×List Int×List Int->Option (List cL×List Int×List Int)}
  (hbody:body= (fun(k123:Nat) (s124: (List cL)×(List Int)×(List Int))=>((idx (mS (n+m) r) (k123:Int)).bind fun x455=>(kM x455.length (fun(k458:Nat) (s459: (List Int)×(List Int)×(List Int)×(List Int))=>((idx x455 (k458:Int)).bind fun x556=>(bif (decide (x556< (n:Int))) then ((idx s459.1 x556).bind fun x580=>(app 8 s459.2.2.1 ([x556]: (List Int))).bind fun x582=>some ((s459.1.set (Int.toNat x556) (s124.1.length:Int)),s459.2.1,x582,s459.2.2.2)) else ((idx bs (IntKind.wrap .i64 (x556 - (n:Int)))).bind fun x584=>(bif x584.iF then ((idx s459.2.1 (IntKind.wrap .i64 (x556 - (n:Int)))).bind fun x594=>(app 8 s459.2.2.2 ([(IntKind.wrap .i64 (x556 - (n:Int)))]: (List Int))).bind fun x596=>some ((s459.2.1.set (Int.toNat (IntKind.wrap .i64 (x556 - (n:Int)))) (s124.1.length:Int)),x596)) else ((idx s459.2.1 (IntKind.wrap .i64 (x556 - (n:Int)))).bind fun x598=>some ((s459.2.1.set (Int.toNat (IntKind.wrap .i64 (x556 - (n:Int)))) (-1)),s459.2.2.2))).bind fun s592=>some (s459.1,s592.1,s459.2.2.1,s592.2))).bind fun s577=>some (s577.1,s577.2.1,s577.2.2.1,s577.2.2.2):Option ((List Int)×(List Int)×(List Int)×(List Int)))) (s124.2.1,s124.2.2,([]: (List Int)),([]: (List Int)))).bind fun s459=>(bif (decide ((IntKind.wrap .i64 ((s459.2.2.1.length:Int)+ (s459.2.2.2.length:Int)))>0)) then ((app 72 s124.1 [(⟨s459.2.2.1,s459.2.2.2,([]: (List fH))⟩:cL)]).bind fun x610=>some x610) else (some s124.1)).bind fun s606=>some (s606,s459.1,s459.2.1):Option ((List cL)×(List Int)×(List Int))))):
  Ok (kM (mS (n+m) r).length body ([],op,ob)) (fun st=>st.1=o1 bs n (n+m) r (bI (n+m) r)/\GG bs n m r (bI (n+m) r) st.2.1 st.2.2):=by
 subst hbody
 have hsl: (mS (n+m) r).length= (bI (n+m) r).length:=by unfold mS;simp
 have hhl:=mB (n+m) r
 refine Ok.mono (Ok.kM (fun(k:Nat) (st:List cL×List Int×List Int)=>st.1=o1 bs n (n+m) r ((bI (n+m) r).take k)/\GG bs n m r ((bI (n+m) r).take k) st.2.1 st.2.2) (by omega) ⟨rfl,hop,hob,fun i hi h=>by simp at h,fun j hj h=>by simp at h⟩ (fun k st hk hI=>?_)) (fun st h=>by rw [hsl,gv] at h;exact h)
 obtain⟨gs,ofP,ofB⟩:=st
 obtain⟨e1,I⟩:=hI
 dsimp only at e1 I ⊢
 subst e1
 rw [hsl] at hk
 have hkx: (bI (n+m) r)[k]? =some (bI (n+m) r)[k]:=aL hk
 have hts: (bI (n+m) r).take (k+1)= (bI (n+m) r).take k++[(bI (n+m) r)[k]]:=gh hk
 have hgk:gi bs n (n+m) r (bI (n+m) r)[k]= (o1 bs n (n+m) r ((bI (n+m) r).take k)).length:=by
  unfold gi;rw [ru (kd _ _) hkx,ti]
 generalize hh: (bI (n+m) r)[k]=h at *
 have hsx: (mS (n+m) r)[k]? =some (ints (cls (n+m) r h)):=by unfold mS;rw [gZ,hkx];rfl
 refine Ok.ix hsx ?_
 have hcl:=xB (n+m) r h
 rw [ly]
 have hgl: (o1 bs n (n+m) r ((bI (n+m) r).take k)).length<=n+m:=by
  rw [ti]
  have:=tj bs n (n+m) r ((bI (n+m) r).take k)
  rw [cS] at this;omega
 have hold: ∀i∈cls (n+m) r h,∀i',r i'∈(bI (n+m) r).take k->i≠i':=fun i hi i' hi' e=>by
  subst e
  rw [(qP.1 hi).2] at hi'
  obtain⟨j,hj⟩:=eG hi'
  have hjk:j<k:=by have:=(aT.1 hj).1;rw [cS] at this;omega
  rw [List.getElem?_take_of_lt hjk] at hj
  have:=wI (kd (n+m) r) hj hkx
  omega
 refine Ok.bind (P:=fun s'=>GG bs n m r ((bI (n+m) r).take (k+1)) s'.1 s'.2.1/\s'.2.2.1=ints (gP n (cls (n+m) r h))/\s'.2.2.2=ints (gB bs n (cls (n+m) r h))) (Ok.mono (Ok.kM
  (fun(t:Nat) (s':List Int×List Int×List Int×List Int)=>GG bs n m r ((bI (n+m) r).take k) s'.1 s'.2.1/\s'.2.2.1=ints (gP n ((cls (n+m) r h).take t))/\s'.2.2.2=ints (gB bs n ((cls (n+m) r h).take t))/\
   (∀i∈(cls (n+m) r h).take t,i<n->s'.1[i]? =some ((gi bs n (n+m) r h:Nat):Int))/\∀i∈(cls (n+m) r h).take t,¬i<n->s'.2.1[i - n]? =some (if we bs (i - n)=true then ((gi bs n (n+m) r h:Nat):Int) else -1)) (by omega)
   ⟨I,rfl,rfl,fun i hi=>by simp at hi,fun i hi=>by simp at hi⟩ (fun t s' ht hI'=>?_)) ?_) ?_
 ·obtain⟨oP,oB,pp,bb⟩:=s'
  obtain⟨J,e2,e3,J1,J2⟩:=hI'
  dsimp only at J e2 e3 J1 J2 ⊢
  subst e2;subst e3
  have htx: (ints (cls (n+m) r h))[t]? =some (((cls (n+m) r h)[t]:Nat):Int):=by unfold ints;rw [gZ,aL ht];rfl
  refine Ok.ix htx ?_
  have htt: (cls (n+m) r h).take (t+1)= (cls (n+m) r h).take t++[(cls (n+m) r h)[t]]:=gh ht
  have hcm:=cT ht
  have hdist: ∀i∈(cls (n+m) r h).take t,i≠(cls (n+m) r h)[t]:=fun i hi e=>by
   obtain⟨j,hj⟩:=eG hi
   have hjt:j<t:=by have:=(aT.1 hj).1;rw [cS] at this;omega
   rw [List.getElem?_take_of_lt hjt] at hj
   have:=wI (BP (n+m) r h) hj (by rw [e];exact aL ht)
   omega
  generalize (cls (n+m) r h)[t]=c at *
  obtain⟨hc1,hc2⟩:=qP.1 hcm
  have hgp:=C6 n ((cls (n+m) r h).take t)
  have hgb:=C7 bs n ((cls (n+m) r h).take t)
  rw [cS] at hgp hgb
  by_cases hcn:c<n
  ·rw [cJ (by omega: ((c:Nat):Int)< ((n:Nat):Int)),aV]
   refine Ok.bind (P:=fun x=>x= (oP.set c ((gi bs n (n+m) r h:Nat):Int),oB,ints (gP n ((cls (n+m) r h).take t))++[((c:Nat):Int)],ints (gB bs n ((cls (n+m) r h).take t)))) ?_ ?_
   ·refine Ok.idx (by rw [J.lp];exact hcn) (Ok.app (by rw [ly];simp;omega) (Ok.ret ?_))
    rw [bR,hgk]
   ·rintro _ rfl
    refine Ok.ret ⟨⟨by simp [J.lp],J.lb,fun i hi hr=>?_,J.bo⟩,?_,?_,fun i hi hin=>?_,fun i hi hin=>?_⟩
    ·dsimp only
     rw [kQ (by rw [J.lp];exact hcn),aF (fun e=>hold c hcm i hr e.symm)];exact J.pc i hi hr
    ·dsimp only;rw [htt,AF,aC hcn,qq];rfl
    ·dsimp only;rw [htt,AG,aC hcn]
    ·dsimp only
     rw [kQ (by rw [J.lp];exact hcn)]
     split
     ·rfl
     ·rename_i hne
      rw [htt] at hi
      rcases cP.1 hi with hi | hi
      ·exact J1 i hi hin
      ·exact absurd (by simpa using hi) hne
    ·rw [htt] at hi
     rcases cP.1 hi with hi | hi
     ·exact J2 i hi hin
     ·have:i=c:=by simpa using hi
      subst this;exact absurd hcn hin
  ·rw [bU (by omega: ¬((c:Nat):Int)< ((n:Nat):Int)),bA]
   have hw:IntKind.wrap .i64 (((c:Nat):Int) - ((n:Nat):Int))= ((c - n:Nat):Int):=by rw [eH (by omega) (by omega)];omega
   have hcm2:c - n<bs.length:=by omega
   have hpl:we bs (c - n)=bs[c - n].iF:=by unfold we;rw [aL hcm2];rfl
   rw [hw]
   refine Ok.bind (P:=fun x=>x= (oP,oB.set (c - n) (if we bs (c - n)=true then ((gi bs n (n+m) r h:Nat):Int) else -1),ints (gP n ((cls (n+m) r h).take t)),ints (gB bs n ((cls (n+m) r h).take t++[c])))) ?_ ?_
   ·refine Ok.idx hcm2 ?_
    rw [AG,aF hcn,hpl]
    cases hp:bs[c - n].iF with
    | true=>
     rw [aV,aC rfl,aC rfl]
     refine Ok.eq (x:=(oB.set (c - n) ((gi bs n (n+m) r h:Nat):Int),ints (gB bs n ((cls (n+m) r h).take t)++[c - n]))) ?_ (Ok.ret rfl)
     rw [iR _ _ (by rw [J.lb];omega),aB,gr (by rw [ly];simp;omega),aB,bR,hgk,qq];rfl
    | false=>
     rw [bA,aF (by simp),aF (by simp)]
     refine Ok.eq (x:=(oB.set (c - n) (-1),ints (gB bs n ((cls (n+m) r h).take t)))) ?_ (Ok.ret rfl)
     rw [iR _ _ (by rw [J.lb];omega),aB,bR]
   ·rintro _ rfl
    refine Ok.ret ⟨⟨J.lp,by simp [J.lb],J.pc,fun j hj hr=>?_⟩,?_,?_,fun i hi hin=>?_,fun i hi hin=>?_⟩
    ·dsimp only
     rw [kQ (by rw [J.lb];omega),aF (fun e=>hold c hcm (n+j) hr (by omega))];exact J.bo j hj hr
    ·dsimp only;rw [htt,AF,aF hcn]
    ·dsimp only;rw [htt]
    ·rw [htt] at hi
     rcases cP.1 hi with hi | hi
     ·exact J1 i hi hin
     ·have:i=c:=by simpa using hi
      subst this;exact absurd hin hcn
    ·dsimp only
     rw [kQ (by rw [J.lb];omega)]
     split
     ·rename_i e;rw [e]
     ·rename_i hne
      rw [htt] at hi
      rcases cP.1 hi with hi | hi
      ·exact J2 i hi hin
      ·exact absurd (by have:i=c:=(by simpa using hi);rw [this]) hne
 ·rintro⟨oP,oB,pp,bb⟩ ⟨J,e2,e3,J1,J2⟩
  dsimp only at J e2 e3 J1 J2 ⊢
  rw [gv] at e2 e3 J1 J2
  refine⟨⟨J.lp,J.lb,fun i hi hr=>?_,fun j hj hr=>?_⟩,e2,e3⟩
  ·rw [hts] at hr
   rcases cP.1 hr with hr | hr
   ·exact J.pc i hi hr
   ·have hr:r i=h:=by simpa using hr
    rw [hr];exact J1 i (qP.2 ⟨by omega,hr⟩) hi
  ·rw [hts] at hr
   rcases cP.1 hr with hr | hr
   ·exact J.bo j hj hr
   ·have hr:r (n+j)=h:=by simpa using hr
    rw [hr]
    have:=J2 (n+j) (qP.2 ⟨by omega,hr⟩) (by omega)
    rwa [Nat.add_sub_cancel_left] at this
 ·rintro⟨oP,oB,pp,bb⟩ ⟨J,e2,e3⟩
  dsimp only at J e2 e3 ⊢
  subst e2;subst e3
  have hgp:=C6 n (cls (n+m) r h)
  have hgb:=C7 bs n (cls (n+m) r h)
  rw [ly,ly,wrap_add (by omega)]
  have hgs:o1 bs n (n+m) r ((bI (n+m) r).take (k+1))=if C5 bs n (cls (n+m) r h)=true then o1 bs n (n+m) r ((bI (n+m) r).take k)++[Ih bs n (cls (n+m) r h)] else o1 bs n (n+m) r ((bI (n+m) r).take k):=by
   unfold o1
   rw [hts,BO]
   split
   ·rw [fC];rfl
   ·rfl
  refine Ok.bind (P:=fun x=>x=o1 bs n (n+m) r ((bI (n+m) r).take (k+1))) (Ok.bif (fun hb=>?_) (fun hb=>Ok.ret ?_)) (fun x e=>Ok.ret ⟨e,J⟩)
  ·have hne:C5 bs n (cls (n+m) r h)=true:=cJ (by have:=of_decide_eq_true hb;omega)
   refine Ok.app (by simp;omega) (Ok.ret ?_)
   rw [hgs,aC hne];rfl
  ·have hne: ¬C5 bs n (cls (n+m) r h)=true:=fun h'=>by
    have h1:=of_decide_eq_true h'
    have h2:=of_decide_eq_false hb
    omega
   rw [hgs,aF hne]
end
end Go.Gk
namespace Go.Gk
open Go Classical
section
variable {N:Nat}
def iO (n:Nat) (h:iN):Nat:=if h.bH=true then n+h.Number.toNat else h.Number.toNat
structure GH (bs:List bH) (n m:Nat) (h:iN):Prop where
 num: ∃k:Nat,h.Number= ((k:Nat):Int)/\(h.bH=true->k<m/\we bs k=true)/\(h.bH=false->k<n)
theorem C9 {bs:List bH} {pcs:List aI} {l:bW} {h:iN} (hh:mV bs pcs l=some h):GH bs pcs.length bs.length h:=by
 unfold mV at hh
 cases hf:bs.findIdx? (qt l) with
 | some k=>
  rw [hf] at hh
  injection hh with hh;subst hh
  obtain⟨hk,hp,_⟩:=List.findIdx?_eq_some_iff_getElem.1 hf
  refine⟨k,rfl,fun _=>⟨hk,?_⟩,fun h=>by cases h⟩
  unfold qt at hp
  unfold we
  rw [aL hk]
  rw [bE] at hp
  exact hp.1
 | none=>
  rw [hf] at hh
  dsimp only at hh
  rw [Option.map_eq_some_iff] at hh
  obtain⟨k,hk,rfl⟩:=hh
  obtain⟨hk,_⟩:=List.findIdx?_eq_some_iff_getElem.1 hk
  exact⟨k,rfl,fun h=>(by cases h),fun _=>hk⟩
def ri (bs:List bH) (pcs:List aI) (r:Nat->Nat) (l:bW):Option Nat:=(mV bs pcs l).map fun h=>gi bs pcs.length (pcs.length+bs.length) r (r (iO pcs.length h))
def Er (bs:List bH) (pcs:List aI) (r:Nat->Nat) (l:bW):Int:=match ri bs pcs r l with | some g=>((g:Nat):Int) | none=> -1
def gX (gs:List cL) (lg:bW->Option Nat) (ls:List bW):List cL:=gs.mapIdx (fun g x=>{x with hU:=(ls.filter (fun l=>decide (lg l=some g))).map kx})
theorem jy {gs:List cL} {lg:bW->Option Nat} {ls:List bW} {g:Nat}: (gX gs lg ls)[g]? = (gs[g]?).map fun x=>{x with hU:=(ls.filter (fun l=>decide (lg l=some g))).map kx}:=by
 unfold gX;rw [List.getElem?_mapIdx]
theorem xG (gs:List cL) (lg:bW->Option Nat) (ls:List bW): (gX gs lg ls).length=gs.length:=by unfold gX;rw [List.length_mapIdx]
theorem wg {gs:List cL} {lg:bW->Option Nat} {ls:List bW} {l:bW} (h:lg l=none):gX gs lg (ls++[l])=gX gs lg ls:=by
 apply List.ext_getElem?
 intro g
 rw [jy,jy]
 congr 2
 funext x
 rw [iP]
 simp [h]
theorem xH {gs:List cL} {lg:bW->Option Nat} {ls:List bW} {l:bW} {k:Nat} {x:cL} (h:lg l=some k) (hx: (gX gs lg ls)[k]? =some x):
  (gX gs lg ls).set k {x with hU:=x.hU++[kx l]}=gX gs lg (ls++[l]):=by
 apply List.ext_getElem?
 intro g
 have hk:=(aT.1 hx).1
 rw [eE]
 by_cases e:k=g
 ·subst e
  rw [aC rfl,aC hk,jy]
  rw [jy,Option.map_eq_some_iff] at hx
  obtain⟨y,hy,rfl⟩:=hx
  rw [hy,iP]
  simp [h]
 ·rw [aF e,jy,jy]
  congr 2
  funext x
  rw [iP]
  have: ¬(lg l=some g):=by rw [h];intro h';injection h' with h';exact e h'
  simp [this]
theorem Es {bs:List bH} {n t:Nat} {r:Nat->Nat} {i:Nat} (hi:i<n) (ht:i<t):C5 bs n (cls t r (r i))=true:=by
 unfold C5
 rw [bT]
 have:i∈gP n (cls t r (r i)):=il.2 ⟨qP.2 ⟨ht,rfl⟩,by simpa using hi⟩
 have:=List.length_pos_of_mem this
 omega
theorem Et {bs:List bH} {n t:Nat} {r:Nat->Nat} {j:Nat} (hp:we bs j=true) (ht:n+j<t):C5 bs n (cls t r (r (n+j)))=true:=by
 unfold C5
 rw [bT]
 have:j∈gB bs n (cls t r (r (n+j))):=bV.2 ⟨n+j,il.2 ⟨qP.2 ⟨ht,rfl⟩,by simp [hp]⟩,by omega⟩
 have:=List.length_pos_of_mem this
 omega
structure zO (bs:List bH) (ls:List bW) (pcs:List aI) (r:Nat->Nat) (gs:List cL) (ofP ofB l3:List Int) (mf:List iN):Prop where
 conn:zN pcs.length bs.length (kJ bs pcs) r
 gs:gs=gX (o1 bs pcs.length (pcs.length+bs.length) r (bI (pcs.length+bs.length) r)) (ri bs pcs r) ls
 of:GG bs pcs.length bs.length r (bI (pcs.length+bs.length) r) ofP ofB
 l3:l3=ls.map (Er bs pcs r)
 mf:mf=ls.map (fun l=>(mV bs pcs l).getD ⟨false,0⟩)
theorem Da {bs:List bH} {pcs:List aI} (hp:pcs.length<=1073741824): ∀l∈kJ bs pcs,l.length<=1073741824/\∀x∈l,∃i:Nat,i<pcs.length/\x= ((i:Nat):Int):=by
 intro l hl
 unfold kJ at hl
 obtain⟨b,_,rfl⟩:=bV.1 hl
 have:=wH (jd b) pcs pcs.length
 refine⟨by rw [ly];omega,fun x hx=>?_⟩
 obtain⟨i,hi,rfl⟩:=qs.1 hx
 exact⟨i,(tZ.1 hi).1,rfl⟩
theorem xI {bs:List bH} {ls:List bW} {pcs:List aI} (hb:lL bs) (hp:pcs.length<=1000000000) (hr: ∀p∈pcs,p.gk.length<=1073741824) (hl:ls.length<=1073741824) (hN:4398046511104<=N):
  Ok (eI N bs ls pcs (kJ bs pcs) [] [] [] []) (fun x=>∃r,zO bs ls pcs r x.1 x.2.1 x.2.2.1 x.2.2.2.1 x.2.2.2.2):=by
 have hbl:=hb.len
 unfold eI
 rw [wrap_add (by omega)]
 obtain⟨up0,u1,u2⟩:=yI (N:=N) (n:=pcs.length+bs.length) (by omega)
 refine Ok.eq u1 ?_
 refine Ok.bind (BN (n:=pcs.length) (m:=bs.length) (by unfold kJ;simp) (Da (by omega)) (by omega) (by omega) u2 hN) ?_
 rintro up1 ⟨r,v1,v2⟩
 refine Ok.eq (sJ 0 (by omega)) (Ok.eq (sJ 0 (by omega)) ?_)
 obtain⟨up2,w1,_⟩:=D2 (N:=N) v1 (by omega) (by omega)
 refine Ok.eq w1 ?_
 refine Ok.bind (yP (bs:=bs) (n:=pcs.length) (m:=bs.length) (r:=r) rfl (by omega) (by omega) (op:=List.replicate pcs.length 0) (ob:=List.replicate bs.length 0) (by simp) (by simp) rfl) ?_
 rintro⟨gs,ofP,ofB⟩ ⟨e1,I⟩
 dsimp only at e1 I ⊢
 subst e1
 have hgl: (o1 bs pcs.length (pcs.length+bs.length) r (bI (pcs.length+bs.length) r)).length<=pcs.length+bs.length:=by
  rw [ti]
  have:=tj bs pcs.length (pcs.length+bs.length) r (bI (pcs.length+bs.length) r)
  have:=mB (pcs.length+bs.length) r
  omega
 refine Ok.bind (Ok.kM (fun(k:Nat) (st:List cL×List Int×List Int×List Int×List iN)=>st= (gX (o1 bs pcs.length (pcs.length+bs.length) r (bI (pcs.length+bs.length) r)) (ri bs pcs r) (ls.take k),ofP,ofB,(ls.take k).map (Er bs pcs r),(ls.take k).map (fun l=>(mV bs pcs l).getD ⟨false,0⟩))) (by omega) ?_ (fun k st hk e=>?_)) ?_
 ·congr 1
  unfold gX
  apply List.ext_getElem?
  intro g
  rw [List.getElem?_mapIdx]
  unfold o1
  rw [gZ]
  cases (live bs pcs.length (pcs.length+bs.length) r (bI (pcs.length+bs.length) r))[g]? <;> rfl
 ·subst e
  dsimp only
  have hts:ls.take (k+1)=ls.take k++[ls[k]]:=gh hk
  refine Ok.idx hk (Ok.eq (C4 hb (by omega) hr _) ?_)
  dsimp only
  refine Ok.bind (P:=fun x=>x= (gX (o1 bs pcs.length (pcs.length+bs.length) r (bI (pcs.length+bs.length) r)) (ri bs pcs r) (ls.take k++[ls[k]]),Er bs pcs r ls[k])) ?_ ?_
  ·cases hh:mV bs pcs ls[k] with
   | none=>
    refine Ok.ret ?_
    have h1:ri bs pcs r ls[k]=none:=by unfold ri;rw [hh];rfl
    rw [wg h1]
    unfold Er;rw [h1]
   | some h=>
    have h1:ri bs pcs r ls[k]=some (gi bs pcs.length (pcs.length+bs.length) r (r (iO pcs.length h))):=by unfold ri;rw [hh];rfl
    have h2:Er bs pcs r ls[k]= ((gi bs pcs.length (pcs.length+bs.length) r (r (iO pcs.length h)):Nat):Int):=by unfold Er;rw [h1]
    obtain⟨q,q1,q2,q3⟩:=(C9 hh).num
    have hix:iO pcs.length h<pcs.length+bs.length/\C5 bs pcs.length (cls (pcs.length+bs.length) r (r (iO pcs.length h)))=true/\fA N ofP ofB h=some ((gi bs pcs.length (pcs.length+bs.length) r (r (iO pcs.length h)):Nat):Int):=by
     unfold fA iO
     rw [q1,bR]
     cases hbo:h.bH with
     | true=>
      obtain⟨q4,q5⟩:=q2 hbo
      rw [aV,aC rfl]
      refine⟨by omega,Et q5 (by omega),?_⟩
      have:=I.bo q q4 (gK.2 ⟨by have:=v2.le (pcs.length+q) (by omega);omega,v2.rr _ (by omega)⟩)
      rw [aC q5] at this
      rw [iL this,aB]
     | false=>
      have q4:=q3 hbo
      rw [bA,aF (by simp)]
      refine⟨by omega,Es q4 (by omega),?_⟩
      have:=I.pc q q4 (gK.2 ⟨by have:=v2.le q (by omega);omega,v2.rr _ (by omega)⟩)
      rw [iL this,aB]
    obtain⟨i1,i2,i3⟩:=hix
    have hgi:=C8 (r:=r) (t:=pcs.length+bs.length) (bs:=bs) (n:=pcs.length) (h:=r (iO pcs.length h)) (gK.2 ⟨by have:=v2.le _ i1;omega,v2.rr _ i1⟩) i2
    have hgx:gi bs pcs.length (pcs.length+bs.length) r (r (iO pcs.length h))< (gX (o1 bs pcs.length (pcs.length+bs.length) r (bI (pcs.length+bs.length) r)) (ri bs pcs r) (ls.take k)).length:=by
     rw [xG,ti];exact hgi.1
    rw [h2]
    dsimp only [Option.getD,Option.isSome]
    rw [aV]
    refine Ok.eq i3 ?_
    generalize gi bs pcs.length (pcs.length+bs.length) r (r (iO pcs.length h))=g at *
    refine Ok.idx hgx (Ok.eq (tX _) ?_)
    have hpl: ((gX (o1 bs pcs.length (pcs.length+bs.length) r (bI (pcs.length+bs.length) r)) (ri bs pcs r) (ls.take k))[g]).hU.length<=ls.length:=by
     have:=jy (gs:=o1 bs pcs.length (pcs.length+bs.length) r (bI (pcs.length+bs.length) r)) (lg:=ri bs pcs r) (ls:=ls.take k) (g:=g)
     rw [aL hgx] at this
     have:=this.symm
     rw [Option.map_eq_some_iff] at this
     obtain⟨y,_,hy⟩:=this
     rw [<-hy,iE]
     have:=lM (fun l=>decide (ri bs pcs r l=some g)) (ls.take k)
     rw [cS] at this;omega
    refine Ok.app (by simp;omega) (Ok.idx hgx (Ok.ret ?_))
    rw [bR]
    congr 1
    exact xH h1 (aL hgx)
  ·rintro _ rfl
   dsimp only
   refine Ok.app (by simp;omega) (Ok.app (by simp;omega) (Ok.ret ?_))
   rw [hts,fC,fC];rfl
 ·rintro st rfl
  dsimp only
  rw [gv]
  exact Ok.ret ⟨r,v2,rfl,I,rfl,rfl⟩
end
end Go.Gk
namespace Go.Gk
open Go Classical
section
variable {N:Nat}
theorem oD {p:aI}: ∀{dM:List (List (List aA))} {k:Nat},p∈bB k dM->∃(i:Nat) (ps:List (List aA)) (q:List aA),dM[i]? =some ps/\q∈ps/\p= ⟨((k+i:Nat):Int),q,aK q⟩
 | [],k,h=>by cases h
 | ps::dM,k,h=>by
  rcases cP.1 h with h | h
  ·obtain⟨q,hq,rfl⟩:=bV.1 h
   exact⟨0,ps,q,rfl,hq,rfl⟩
  ·obtain⟨i,ps',q,h1,h2,h3⟩:=oD h
   refine⟨i+1,ps',q,by simpa using h1,h2,?_⟩
   rw [h3,show k+1+i=k+ (i+1) by omega]
structure mw (a:eL):Prop where
 BM:0<a.aH.length/\a.aH.length<=16
 Ii: ∀r∈a.aH,jc r=0
 out:jc a.cI=0
 many:a.cI.length+ (a.aH.map List.length).sum<=2000
 tk:lr a=0
 AH:lv a=0
theorem mw.gb {a:eL} (h:mw a):lL a.aU:=⟨(nU h.tk).1,fun b hb=>⟨((nU h.tk).2 b hb).1,((nU h.tk).2 b hb).2.1⟩⟩
theorem mw.cs {a:eL} (h:mw a): ∀r∈a.aH,r.length<=2000/\∀x∈r,xv x:=fun r hr=>xE (qp.1 (h.Ii r hr)).1
structure tl (a:eL) (jw:List (List aA)) (dM:List (List (List aA))) (p:aI) (i:Nat) (r:List aG) (s:List aA) (ps:List (List aA)) (u:Nat->Nat) (j k:Nat):Prop where
 Ij:a.aH[i]? =some r
 jw:jw[i]? =some s
 dM:dM[i]? =some ps
 dr:qN r (lx a.aU ((i:Nat):Int)) s
 pt:nE s u ps
 at_:ps[j]? =some p.Set
 head: (bI (aK s).length u)[j]? =some k
 set:pj (lq (aK s) (aK s).length u k) p.Set
 lim:rX (na r++na (lx a.aU ((i:Nat):Int))) (jT r++jT (lx a.aU ((i:Nat):Int))) (p.Set.map aW)
 Db:p.cY= ((i:Nat):Int)
 Eu:p.gk=aK p.Set
theorem yQ {a:eL} {jw:List (List aA)} {dM:List (List (List aA))} (hg:mw a) (hD:tY a.aH a.aU a.aH.length jw dM) {p:aI} (hp:p∈bB 0 dM): ∃i r s ps u j k,tl a jw dM p i r s ps u j k:=by
 obtain⟨i,ps,q,h1,h2,rfl⟩:=oD hp
 have hil:i<a.aH.length:=by have:=(aT.1 h1).1;rw [hD.xF] at this;exact this
 have hc:a.aH[i]? =some a.aH[i]:=aL hil
 have hd:jw[i]? =some (jw[i]'(by rw [hD.len];exact hil)):=aL _
 have hdr:=hD.dr i _ _ hil hc hd
 obtain⟨u,hu⟩:=hD.pt i _ ps hil hd h1
 obtain⟨sx,sy⟩:=hdr.small (hg.cs _ (cT hil)).2 (fun x hx=>(tf hg.gb _ x hx).1)
 obtain⟨j,k,g1,g2,g3,g4⟩:=vF hu hdr.can hdr.lim sx sy h2
 exact⟨i,_,_,ps,u,j,k,hc,hd,h1,hdr,hu,g1,g2,g3,g4,by rw [fD],rfl⟩
theorem tl.C1 {a:eL} {jw:List (List aA)} {dM:List (List (List aA))} (hg:mw a) {p:aI} {i:Nat} {r:List aG} {s:List aA} {ps:List (List aA)} {u:Nat->Nat} {j k:Nat} (h:tl a jw dM p i r s ps u j k):
  p.Set.length<=5000/\(∀b∈p.Set,b.Xs.length<=5000)/\p.gk.length<=5000*5000:=by
 have h1:=(hg.cs r (dV h.Ij)).1
 have h2:=wG hg.gb ((i:Nat):Int)
 rw [h.Eu]
 exact qO (A:=5000) h.set.can h.lim (by rw [dI,iB,iB];omega) (by rw [dI,gu,gu];omega)
def AJ (a0 a1 b0 b1:Int):Bool:=decide (b0<a1)&&decide (a0<b1)
def Dc (a b:aG):Bool:=AJ a.X0 a.X1 b.X0 b.X1&&AJ a.Y0 a.Y1 b.Y0 b.Y1
theorem vH {a0 a1 b0 b1:Int} (h1: -1000000<=a0/\a0<=1000000) (h2: -1000000<=a1/\a1<=1000000) (h3: -1000000<=b0/\b0<=1000000) (h4: -1000000<=b1/\b1<=1000000): ∃n,jE N a0 a1 b0 b1=some n/\0<=n/\(n=0↔AJ a0 a1 b0 b1=true):=by
 unfold jE AJ
 have e1:IntKind.wrap .i64 (b0 - a1)=b0 - a1:=eH (by omega) (by omega)
 have e2:IntKind.wrap .i64 (a0 - b1)=a0 - b1:=eH (by omega) (by omega)
 have e3:IntKind.wrap .i64 (b0 - a1+1)=b0 - a1+1:=eH (by omega) (by omega)
 have e4:IntKind.wrap .i64 (a0 - b1+1)=a0 - b1+1:=eH (by omega) (by omega)
 rw [e1,e2,e3,e4]
 refine⟨_,rfl,?_,?_⟩
 ·repeat' split
  all_goals omega
 ·rw [bE,bT,bT]
  repeat' split
  all_goals omega
theorem E9 {a b:aG} (h1:eB a=true) (h2:eB b=true): ∃n,nX N a b=some n/\(n=0↔Dc a b=true):=by
 have b1:=ke h1
 have b2:=ke h2
 obtain⟨n,n1,n2,n3⟩:=vH (N:=N) (a0:=a.X0) (a1:=a.X1) (b0:=b.X0) (b1:=b.X1) (by omega) (by omega) (by omega) (by omega)
 obtain⟨m,m1,m2,m3⟩:=vH (N:=N) (a0:=a.Y0) (a1:=a.Y1) (b0:=b.Y0) (b1:=b.Y1) (by omega) (by omega) (by omega) (by omega)
 unfold nX Dc
 rw [n1,aB,m1,aB]
 refine⟨_,rfl,?_⟩
 rw [bE,<-n3,<-m3]
 split <;> omega
def t4 (x y:bH):Bool:=(decide (x.cM<=y.To)&&decide (y.cM<=x.To))&&Dc (rY x) (rY y)
def vI (a:eL):Prop:=∃(i k:Nat) (x y:bH),k<i/\a.aU[i]? =some x/\a.aU[k]? =some y/\t4 x y=true
noncomputable def BQ (r:List aG):Option Int:=if jc r≠0 then some (jc r) else none
noncomputable def zP (a:eL):Int:=if 2000<a.cI.length+ (a.aH.map List.length).sum then 2 else if lr a≠0 then lr a else if lv a≠0 then lv a else if vI a then 12 else 0
noncomputable def D4 (a:eL):Int:=match a.aH.findSome? BQ with | some e=>e | none=>if jc a.cI≠0 then jc a.cI else zP a
noncomputable def jB (a:eL):Int:=if a.aH.length=0 then 9 else if 16<a.aH.length then 2 else D4 a
def GR (jw:List (List aA)) (dM:List (List (List aA))):Prop:=(∀s∈jw,(aK s).length<=2000)/\(bB 0 dM).length<=2000
abbrev vJ:=(List (List aG))×(List aG)×(List bH)×(List bW)×(List (List aA))×(List aI)×(List (List Int))×(List cL)×(List Int)×(List Int)×(List Int)×(List iN)
def Ev (a:eL) (x:Option vJ×Int):Prop:=
 (jB a≠0/\x= (none,jB a))\/(jB a=0/\mw a/\¬vI a/\∃jw dM,tY a.aH a.aU a.aH.length jw dM/\
  ((¬GR jw dM/\x= (none,2))\/(GR jw dM/\∃r gs ofP ofB l3 mf,zO a.aU a.bC (bB 0 dM) r gs ofP ofB l3 mf/\
   x= (some (a.aH,a.cI,a.aU,a.bC,jw,bB 0 dM,kJ a.aU (bB 0 dM),gs,ofP,ofB,l3,mf),0))))
structure lz (a:eL):Prop where
 cs:a.aH.length<=1048576
 each: ∀r∈a.aH,r.length<=1048576
 out:a.cI.length<=1048576
 bs:a.aU.length<=1048576
 ls:a.bC.length<=1048576
 nm:vD a
theorem yR {a:eL} (h:bk a<=1048576):lz a:=by
 rw [CJ] at h
 have h1:=rL a.aH
 have h2:=rL a.cI
 have h3:=rL a.aU
 have h4:=rL a.bC
 refine⟨by omega,fun r hr=>?_,by omega,by omega,by omega,fun x hx=>?_⟩
 ·have:=zy hr
  have:=rL r;omega
 ·have:=zy hx
  rw [As,CD,CD] at this;omega
theorem BR {a:eL} (hs:lz a) (hN:4398046511104<=N):Ok (eJ N a) (Ev a):=by
 unfold eJ
 have pe: ∀e:Int,e≠0->jB a=e->Ok (some ((none:Option vJ),e)) (Ev a):=fun e he h=>Ok.ret (.inl ⟨by rw [h];exact he,by rw [h]⟩)
 have c1:=hs.cs
 refine Ok.bif (fun h=>?_) (fun h=>?_)
 ·have:a.aH.length=0:=by have:=beq_iff_eq.1 h;omega
  exact pe 9 (by omega) (by unfold jB;rw [aC this])
 have h0: ¬a.aH.length=0:=by rw [beq_eq_false_iff_ne] at h;omega
 refine Ok.bif (fun h=>?_) (fun h=>?_)
 ·have h1:16<a.aH.length:=by have:=of_decide_eq_true h;omega
  exact pe 2 (by omega) (by unfold jB;rw [aF h0,aC h1])
 have h1: ¬16<a.aH.length:=by have:=of_decide_eq_false h;omega
 have pe1:jB a=D4 a:=by unfold jB;rw [aF h0,aF h1]
 have hso:=hs.out
 have sumle: ∀k,k<=a.aH.length->((a.aH.take k).map List.length).sum<=k*1048576:=by
  intro k
  induction k with
  | zero=>intro _;simp
  | succ k ih=>
   intro hk
   have:=ih (by omega)
   have h2:=hs.each _ (cT (show k<a.aH.length by omega))
   rw [gh (by omega),fC,List.sum_append]
   simp only [eF,List.map_nil,List.sum_cons,List.sum_nil]
   rw [Nat.add_mul];omega
 refine Ok.bind (Ok.qR (Go:=fun s:Int=>s= ((a.cI.length+ (a.aH.map List.length).sum:Nat):Int)/\∀r∈a.aH,jc r=0) (Rt:=fun x:Option vJ×Int=>∃e,e≠0/\x= (none,e)/\a.aH.findSome? BQ=some e)
  (fun(k:Nat) (s:Int)=>s= ((a.cI.length+ ((a.aH.take k).map List.length).sum:Nat):Int)/\∀r∈a.aH.take k,jc r=0) (by omega) ⟨by simp,fun r hr=>by simp at hr⟩ (fun k s hk hI=>?_) (fun s hI=>by rw [gv] at hI;exact hI)) ?_
 ·obtain⟨e,hI⟩:=hI
  subst e
  have hkx:a.aH[k]? =some a.aH[k]:=aL hk
  have hts:a.aH.take (k+1)=a.aH.take k++[a.aH[k]]:=gh hk
  have he:=hs.each _ (cT hk)
  refine Ok.ix hkx (Ok.eq (mU (by omega) hN) ?_)
  refine Ok.bif (fun h=>Ok.rt ?_) (fun h=>Ok.nx ?_)
  ·have h:jc a.aH[k]≠0:=by simpa using h
   refine⟨_,h,rfl,?_⟩
   rw [List.findSome?_eq_some_iff]
   refine⟨a.aH.take k,a.aH[k],a.aH.drop (k+1),?_,by unfold BQ;rw [aC h],fun r hr=>by unfold BQ;rw [aF (by simpa using hI r hr)]⟩
   rw [<-qz hk,List.take_append_drop]
  ·have h:jc a.aH[k]=0:=by simpa using h
   have:=sumle k (by omega)
   have hk16:k*1048576<=16*1048576:=Nat.mul_le_mul_right _ (by omega)
   refine⟨?_,fun r hr=>?_⟩
   ·rw [wrap_add (by omega),hts,fC,List.sum_append]
    simp only [eF,List.map_nil,List.sum_cons,List.sum_nil]
    congr 1
    omega
   ·rw [hts] at hr
    rcases cP.1 hr with hr | hr
    ·exact hI r hr
    ·simp at hr;subst hr;exact h
 intro o ho
 refine Ok.cs ho ?_ ?_
 rotate_left
 ·rintro x ⟨e,he,rfl,hf⟩
  exact pe e he (by rw [pe1];unfold D4;rw [hf])
 rintro s ⟨rfl,hreg⟩
 have GM:a.aH.findSome? BQ=none:=List.findSome?_eq_none_iff.2 fun r hr=>by unfold BQ;rw [aF (by simpa using hreg r hr)]
 have pe2:jB a=if jc a.cI≠0 then jc a.cI else zP a:=by rw [pe1];unfold D4;rw [GM]
 refine Ok.eq (mU (by omega) hN) ?_
 refine Ok.bif (fun h=>?_) (fun h=>?_)
 ·have h:jc a.cI≠0:=by simpa using h
  exact pe _ h (by rw [pe2,aC h])
 have hout:jc a.cI=0:=by simpa using h
 have pe3:jB a=zP a:=by rw [pe2,aF (by simpa using hout)]
 refine Ok.bif (fun h=>?_) (fun h=>?_)
 ·have h:2000<a.cI.length+ (a.aH.map List.length).sum:=by have:=of_decide_eq_true h;omega
  exact pe 2 (by omega) (by rw [pe3];unfold zP;rw [aC h])
 have hmany: ¬2000<a.cI.length+ (a.aH.map List.length).sum:=by have:=of_decide_eq_false h;omega
 have hbs:=hs.bs
 have hls:=hs.ls
 refine Ok.eq (v8 (by omega) (by omega) (by omega)) ?_
 refine Ok.bif (fun h=>?_) (fun h=>?_)
 ·have h:lr a≠0:=by simpa using h
  exact pe _ h (by rw [pe3];unfold zP;rw [aF hmany,aC h])
 have hbo:lr a=0:=by simpa using h
 refine Ok.eq (v9 (by omega) (by omega) hs.nm (by omega)) ?_
 refine Ok.bif (fun h=>?_) (fun h=>?_)
 ·have h:lv a≠0:=by simpa using h
  exact pe _ h (by rw [pe3];unfold zP;rw [aF hmany,aF (by simpa using hbo),aC h])
 have hla:lv a=0:=by simpa using h
 have hg:mw a:=⟨by omega,hreg,hout,by omega,hbo,hla⟩
 have pe4:jB a=if vI a then 12 else 0:=by rw [pe3];unfold zP;rw [aF hmany,aF (by simpa using hbo),aF (by simpa using hla)]
 refine Ok.bind (Ok.qR (Go:=fun _:Unit=>¬vI a) (Rt:=fun x:Option vJ×Int=>x= (none,12)/\vI a)
  (fun(k:Nat) (_:Unit)=>∀(i j:Nat) (x y:bH),i<k->j<i->a.aU[i]? =some x->a.aU[j]? =some y->¬t4 x y=true) (by omega) (fun i j x y h=>by omega) (fun k s hk hI=>?_) (fun s hI=>?_)) ?_
 ·have hkx:a.aU[k]? =some a.aU[k]:=aL hk
  refine Ok.ix hkx (Ok.eq (sH _ k (by omega)) ?_)
  have hgk:=hg.gb.ok _ (cT hk)
  refine Ok.bind (Ok.qR (Go:=fun _:Unit=>∀(j:Nat) (y:bH),j<k->a.aU[j]? =some y->¬t4 a.aU[k] y=true) (Rt:=fun x:Option vJ×Int=>x= (none,12)/\vI a)
   (fun(t:Nat) (_:Unit)=>∀(j:Nat) (y:bH),j<t->a.aU[j]? =some y->¬t4 a.aU[k] y=true) (by rw [cS];omega) (fun j y h=>by omega) (fun t s ht hI2=>?_) (fun s hI2 j y hj hy=>hI2 j y (by rw [cS];omega) hy)) ?_
  ·have htk:t<k:=by rw [cS] at ht;omega
   have htx: (a.aU.take k)[t]? =some a.aU[t]:=by rw [List.getElem?_take_of_lt htk];exact aL (by omega)
   have hgt:=hg.gb.ok _ (cT (show t<a.aU.length by omega))
   refine Ok.ix htx ?_
   refine Ok.eq (x:=t4 a.aU[k] a.aU[t]) ?_ ?_
   ·unfold t4
    cases hc: (decide (a.aU[k].cM<=a.aU[t].To)&&decide (a.aU[t].cM<=a.aU[k].To)) with
    | false=>rfl
    | true=>
     obtain⟨n,n1,n2⟩:=E9 (N:=N) hgk.2 hgt.2
     rw [aV,k6 hgk.1,aB,k6 hgt.1,aB,n1,aB,Bool.true_and]
     congr 1
     rw [f9,beq_iff_eq];exact n2
   ·refine Ok.bif (fun h=>Ok.rt ⟨rfl,k,t,_,_,htk,hkx,aL (by omega),h⟩) (fun h=>Ok.nx fun j y hj hy=>?_)
    by_cases e:j<t
    ·exact hI2 j y e hy
    ·have:j=t:=by omega
     subst this
     rw [aL (by omega)] at hy;injection hy with hy
     rw [<-hy,h];simp
  ·intro o ho
   refine Ok.cs ho (fun s hI2=>Ok.nx fun i j x y hi hj hx hy=>?_) (fun x hx=>Ok.rt hx)
   by_cases e:i<k
   ·exact hI i j x y e hj hx hy
   ·have:i=k:=by omega
    subst this
    rw [hkx] at hx;injection hx with hx
    rw [<-hx];exact hI2 j y hj hy
 ·rintro⟨i,j,x,y,hj,hx,hy,hc⟩
  exact hI i j x y (aT.1 hx).1 hj hx hy hc
 intro o ho
 refine Ok.cs ho ?_ ?_
 rotate_left
 ·rintro x ⟨rfl,hc⟩
  exact pe 12 (by omega) (by rw [pe4,aC hc])
 intro _ hncl
 have pe5:jB a=0:=by rw [pe4,aF hncl]
 refine Ok.bind (zL (N:=N) (by omega) hg.cs hg.gb hN) ?_
 rintro⟨okk,jw,pcs⟩ ⟨dM,D,e1,e2⟩
 dsimp only at D e1 e2 ⊢
 subst e1
 refine Ok.bif (fun h=>Ok.ret (.inr ⟨pe5,hg,hncl,jw,dM,D, .inl ⟨fun hf=>?_,rfl⟩⟩)) (fun h=>?_)
 ·have:=e2.2 hf
  rw [this] at h;cases h
 ·have hf:GR jw dM:=e2.1 (by cases okk <;> simp_all)
  have hpr: ∀p∈bB 0 dM,p.gk.length<=1073741824:=fun p hp=>by
   obtain⟨i,r,s,ps,u,j,k,hP⟩:=yQ hg D hp
   have:=(hP.C1 hg).2.2;omega
  have hf2:=hf.2
  refine Ok.eq (C3 hg.gb (by omega) hpr) ?_
  refine Ok.bind (xI (N:=N) hg.gb (by omega) hpr (by omega) hN) ?_
  rintro⟨gs,ofP,ofB,l3,mf⟩ ⟨r,hC⟩
  exact Ok.ret (.inr ⟨pe5,hg,hncl,jw,dM,D, .inr ⟨hf,r,gs,ofP,ofB,l3,mf,hC,rfl⟩⟩)
end
end Go.Gk
namespace Go.Gk
open Go Classical
section
variable {N:Nat}
theorem AK {w:Nat} {g:Nat->Nat} {a:Nat}: ∀{ks:List Nat},ks.Nodup->a∈ks->(ks.map (fun k=>(if a=k then w else 0)+g k)).sum=w+ (ks.map g).sum
 | [],_,h=>by cases h
 | k::ks,hn,h=>by
  have hn':=List.nodup_cons.1 hn
  simp only [eF,List.sum_cons]
  by_cases e:a=k
  ·subst e
   rw [aC rfl]
   have:ks.map (fun k=>(if a=k then w else 0)+g k)=ks.map g:=List.map_congr_left fun x hx=>by
    rw [aF (fun e=>hn'.1 (by rw [e];exact hx)),fD]
   rw [this];omega
  ·rw [aF e,AK hn'.2 (by rcases eV.1 h with h | h;exact absurd h e;exact h)];omega
theorem yS {α:Type} {ks:List Nat} (hn:ks.Nodup) (f w:α->Nat): ∀{l:List α},(∀x∈l,f x∈ks)->(ks.map (fun k=>((l.filter (fun x=>decide (f x=k))).map w).sum)).sum= (l.map w).sum
 | [],_=>by
  have: ∀ks:List Nat,(ks.map (fun _=>0)).sum=0:=fun ks=>by
   induction ks with
   | nil=>rfl
   | cons k ks ih=>simp only [eF,List.sum_cons,ih]
  simpa using this ks
 | x::l,h=>by
  have ih:=yS hn f w (l:=l) fun y hy=>h y (jg _ hy)
  have: (ks.map (fun k=>(((x::l).filter (fun x=>decide (f x=k))).map w).sum))=ks.map (fun k=>(if f x=k then w x else 0)+ ((l.filter (fun x=>decide (f x=k))).map w).sum):=List.map_congr_left fun k _=>by
   rw [List.filter_cons]
   by_cases e:f x=k
   ·rw [aC (by simpa using e),aC e,eF,List.sum_cons]
   ·rw [aF (by simpa using e),aF e,fD]
  rw [this,AK hn (h x (by simp)),ih,eF,List.sum_cons]
theorem tl.ne {a:eL} {jw:List (List aA)} {dM:List (List (List aA))} {p:aI} {i:Nat} {r:List aG} {s:List aA} {ps:List (List aA)} {u:Nat->Nat} {j k:Nat} (h:tl a jw dM p i r s ps u j k):p.Set≠[]:=by
 intro e
 have hh:=gK.1 (dV h.head)
 have hx: (aK s)[k]? =some (aK s)[k]:=aL hh.1
 have hm: (aK s)[k]∈lq (aK s) (aK s).length u k:=jA.2 ⟨k,hh.1,hh.2,hx⟩
 obtain⟨b,hb,q,hq,hr⟩:=ku (dV hx)
 have hbm:aW b∈s.map aW:=bV.2 ⟨b,hb,rfl⟩
 have hq1:=vl (h.dr.can.each _ hbm).2.2.1 q hq
 have hb1:=(h.dr.can.each _ hbm).1
 have hc:=h.set.cover q.1 b.Y0
 rw [e] at hc
 have:kz (lq (aK s) (aK s).length u k) q.1 b.Y0=true:=fF.2 ⟨_,hm,by rw [hr];exact⟨⟨Int.le_refl _,hq1⟩,Int.le_refl _,hb1⟩⟩
 rw [this] at hc
 cases hc
structure gY (a:eL) (jw:List (List aA)) (dM:List (List (List aA))) (r:Nat->Nat) (gs:List cL) (ofP ofB l3:List Int) (mf:List iN):Prop where
 zQ:mw a
 IE: ¬vI a
 dr:tY a.aH a.aU a.aH.length jw dM
 BM:GR jw dM
 GI:zO a.aU a.bC (bB 0 dM) r gs ofP ofB l3 mf
inductive Fa (N:Nat) (a:eL):Prop
 | err (e:Int) (he:e≠0) (h:eJ N a=some (none,e))
 | ok {jw:List (List aA)} {dM:List (List (List aA))} {r:Nat->Nat} {gs:List cL} {ofP ofB l3:List Int} {mf:List iN} (b:gY a jw dM r gs ofP ofB l3 mf)
  (h:eJ N a=some (some (a.aH,a.cI,a.aU,a.bC,jw,bB 0 dM,kJ a.aU (bB 0 dM),gs,ofP,ofB,l3,mf),0))
theorem opened {a:eL} (hs:lz a) (hN:4398046511104<=N):Fa N a:=by
 obtain⟨x,hx,hI⟩:=BR (N:=N) hs hN
 rcases hI with ⟨he,rfl⟩ | ⟨_,hg,hcl,jw,dM,D,⟨_,rfl⟩ | ⟨hf,r,gs,ofP,ofB,l3,mf,hC,rfl⟩⟩
 ·exact .err _ he hx
 ·exact .err 2 (by omega) hx
 ·exact .ok ⟨hg,hcl,D,hf,hC⟩ hx
end
end Go.Gk
namespace Go.Gk
open Go Classical
section
variable {S R:Type}
theorem Ok.zD {body:S->Option (Fl S R)} {N n:Nat} {s:S} (ι:S->Int) (Inv:Nat->S->Prop) {Go:S->Prop} {Rt:R->Prop}
  (h1: ∀k s,k<n->ι s= ((k:Nat):Int)->Inv k s->Ok (body s) (En (fun s'=>ι s'= ((k+1:Nat):Int)/\Inv (k+1) s') Go Rt))
  (h2: ∀s,ι s= ((n:Nat):Int)->Inv n s->Ok (body s) (En (fun _=>False) Go Rt))
  {k0:Nat} (hk:k0<=n) (hi:ι s= ((k0:Nat):Int)) (h0:Inv k0 s) (hn:n<N):Ok (Gk.mC body N s) (Gx Go Rt):=by
 refine Ok.mC (fun s=>∃k:Nat,k<=n/\ι s= ((k:Nat):Int)/\Inv k s) (fun s=>n - (ι s).toNat) ?_ ⟨k0,hk,hi,h0⟩ (by omega)
 rintro s ⟨k,hk,e,hI⟩
 by_cases hlt:k<n
 ·refine(h1 k s hlt e hI).mono ?_
  rintro(s' | s' | r) hp
  ·have hp1:ι s'= ((k+1:Nat):Int):=hp.1
   exact⟨⟨k+1,hlt,hp.1,hp.2⟩,by rw [e,hp1];simp only [bR];omega⟩
  ·exact hp
  ·exact hp
 ·have:k=n:=by omega
  subst this
  refine(h2 s e hI).mono ?_
  rintro(s' | s' | r) hp
  ·exact hp.elim
  ·exact hp
  ·exact hp
end
section
variable {N:Nat}
end
end Go.Gk
namespace Go.Gk
open Go Classical
section
variable {α:Type} [DecidableEq α] {N:Nat}
end
section
variable {N:Nat}
end
end Go.Gk
