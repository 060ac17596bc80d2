/-
  Helping texts: plain functions and plain laws. No statement of the seed is proved here.
-/
import Derived.Test.YtgjiokjfpghfgacGreatDoorA1
import Derived.ChangeShapes
import Derived.ChangeSame
import Derived.Carry
import Derived.RowKit
import Derived.Test.YtgjiokjfpghfgacGreatDoorA2
set_option linter.unusedVariables false
set_option linter.unusedSimpArgs false
set_option linter.unusedSectionVars false
namespace Go.Gk
open Go
noncomputable section
structure aI where
 X0:Int
 Y0:Int
 X1:Int
 Y1:Int
 deriving DecidableEq,Inhabited
structure eF where
 X:Int
 Y:Int
 deriving DecidableEq,Inhabited
structure bU where
 At:eF
 eN:Int
 bM:Int
 To:Int
 gA:Bool
 deriving DecidableEq,Inhabited
structure cV where
 Part:dC
 fD:dC
 cR:Int
 At:eF
 deriving DecidableEq,Inhabited
structure jT where
 aL: (List (List aI))
 dU: (List aI)
 aV: (List bU)
 bH: (List cV)
 deriving DecidableEq,Inhabited
structure fD where
 Part:dC
 fD:dC
 deriving DecidableEq,Inhabited
structure aA where
 Y0:Int
 Y1:Int
 Xs: (List Int)
 deriving DecidableEq,Inhabited
structure aH where
 cR:Int
 Set: (List aA)
 iD: (List aI)
 deriving DecidableEq,Inhabited
structure cL where
 mz: (List Int)
 aV: (List Int)
 gC: (List fD)
 deriving DecidableEq,Inhabited
structure dO where
 bU:Bool
 Number:Int
 deriving DecidableEq,Inhabited
structure bY where
 Open:Bool
 dO:dO
 A:Int
 B:Int
 deriving DecidableEq,Inhabited
structure o0 where
 A:Int
 B:Int
 gU:Int
 bM:eF
 To:eF
 deriving DecidableEq,Inhabited
def o5 (N:Nat) (p0 p1 p2:Int):Option (Bool):=
 some ((decide (p0>=p1))&&(decide (p0<=p2)))
def jt (N:Nat) (p0:Int):Option (Bool):=
 (o5 N p0 (-1000000) 1000000).bind fun j=>some j
def ku (N:Nat) (p0:aI):Option (Bool):=
 ((jt N p0.X0).bind fun j=>bif j then ((jt N p0.Y0).bind fun o=>bif o then ((jt N p0.X1).bind fun aa=>bif aa then ((jt N p0.Y1).bind fun ab=>some ab) else (some false)) else (some false)) else (some false)).bind fun ad=>some ad
def jc (N:Nat) (p0: (List aI)):Option (Int):=
 bif (decide ((p0.length:Int)>2000)) then (some 2) else ((pI p0.length (fun(o:Nat) (aa:Unit)=>((idx p0 (o:Int)).bind fun j=>(ku N j).bind fun ab=>bif (!ab) then (some (.rt 1)) else (bif ((decide (j.X1<=j.X0))||(decide (j.Y1<=j.Y0))) then (some (.rt 13)) else (some (.nx ()))):Option (Fl (Unit) Int))) ()).bind fun ad=>ad.cs (fun(aa:Unit)=>some 0) (fun r=>some r))
def gJ (N:Nat) (p0: (List aI)):Option ((List aI)):=
 (app 32 ([]: (List aI)) p0).bind fun j=>some j
def ij (N:Nat) (p0 p1:aI):Option (Int):=
 some (IntKind.wrap .i64 (p0.Y0 - p1.Y0))
def fE (N:Nat) (p0: (List Int)):Option ((List Int)):=
 bif (decide ((p0.length:Int)<2)) then (some p0) else ((mY (fun(o:Int)=>(bif (decide (o< (p0.length:Int))) then ((idx p0 o).bind fun ab=>(idx p0 (IntKind.wrap .i64 (o - 1))).bind fun ad=>bif (ab==ad) then ((rK p0 o (p0.length:Int)).bind fun ak=>(mY (fun(j: (List Int)×Int×Int)=>(bif (decide (j.2.2< (((j.1.length - Int.toNat o):Nat):Int))) then ((AV j.1 o j.2.2).bind fun ae=>(AV j.1 o (IntKind.wrap .i64 (j.2.2 - 1))).bind fun af=>(bif (ae != af) then ((AV j.1 o j.2.2).bind fun ag=>(idx j.1 j.2.1).bind fun al=>some ((j.1.set (Int.toNat j.2.1) ag),(IntKind.wrap .i64 (j.2.1+1)))) else (some (j.1,j.2.1))).bind fun aa=>some (.nx (aa.1,aa.2,(IntKind.wrap .i64 (j.2.2+1))))) else (some (.br (j.1,j.2.1,j.2.2))):Option (Fl ((List Int)×Int×Int) Empty))) N (p0,o,1)).bind fun ah=>ah.cs (fun(j: (List Int)×Int×Int)=>(rK j.1 j.2.1 (j.1.length:Int)).bind fun an=>(rK (j.1.take (Int.toNat j.2.1)++List.replicate (j.1.length - Int.toNat j.2.1) (0:Int)) 0 j.2.1).bind fun ai=>some (.rt ai)) (fun r=>r.elim)) else (some (.nx (IntKind.wrap .i64 (o+1))))) else (some (.br o)):Option (Fl (Int) (List Int)))) N 1).bind fun aj=>aj.cs (fun(o:Int)=>some p0) (fun r=>some r))
def lC (N:Nat) (p0:aI) (p1: (List Int)) (p2:Int):Option (Bool):=
 (idx p1 p2).bind fun j=>some (decide (p0.Y1<=j))
def jM (N:Nat) (p0: (List aI)) (p1:aI->Option Bool):Option (Int):=
 (pI p0.length (fun(j:Nat) (o:Unit)=>((idx p0 (j:Int)).bind fun aa=>(p1 aa).bind fun ab=>bif ab then (some (.rt (j:Int))) else (some (.nx ())):Option (Fl (Unit) Int))) ()).bind fun ad=>ad.cs (fun(o:Unit)=>some (-1)) (fun r=>some r)
def iV (N:Nat) (p0: (List aI)) (p1:aI->Option Bool):Option (Int):=
 (pI p0.length (fun(j:Nat) (o:Unit)=>((idx p0 (j:Int)).bind fun aa=>(p1 aa).bind fun ab=>bif ab then (some (.rt (j:Int))) else (some (.nx ())):Option (Fl (Unit) Int))) ()).bind fun ad=>ad.cs (fun(o:Unit)=>some (-1)) (fun r=>some r)
def fQ (N:Nat) (p0: (List aI)) (p1:aI->Option Bool):Option ((List aI)):=
 (iV N p0 p1).bind fun o=>bif (o==(-1)) then (some p0) else ((mY (fun(j: (List aI)×Int×Int)=>(bif (decide (j.2.2< (j.1.length:Int))) then ((idx j.1 j.2.2).bind fun aa=>(p1 aa).bind fun ad=>(bif (!ad) then ((idx j.1 j.2.1).bind fun ag=>some ((j.1.set (Int.toNat j.2.1) aa),(IntKind.wrap .i64 (j.2.1+1)))) else (some (j.1,j.2.1))).bind fun ab=>some (.nx (ab.1,ab.2,(IntKind.wrap .i64 (j.2.2+1))))) else (some (.br (j.1,j.2.1,j.2.2))):Option (Fl ((List aI)×Int×Int) Empty))) N (p0,o,(IntKind.wrap .i64 (o+1)))).bind fun ae=>ae.cs (fun(j: (List aI)×Int×Int)=>(rK j.1 j.2.1 (j.1.length:Int)).bind fun ah=>(rK (j.1.take (Int.toNat j.2.1)++List.replicate (j.1.length - Int.toNat j.2.1) (⟨0,0,0,0⟩:aI)) 0 j.2.1).bind fun af=>some af) (fun r=>r.elim))
def fF (N:Nat) (p0 p1:aI):Option (Int):=
 some (IntKind.wrap .i64 (p0.X0 - p1.X0))
def gR (N:Nat) (p0: (List aI)):Option ((List Int)×(List aI)):=
 (tc (fF N) p0).bind fun aa=>(iT aa.length (fun(ab:Nat) (j: (List Int))=>((idx aa (ab:Int)).bind fun o=>(bif (decide ((IntKind.wrap .i64 ((j.length:Int) - 1))>=0)) then ((idx j (IntKind.wrap .i64 ((j.length:Int) - 1))).bind fun ad=>some (decide (o.X0<=ad))) else (some false)).bind fun ae=>(bif ae then ((idx j (IntKind.wrap .i64 ((j.length:Int) - 1))).bind fun Dz=>(idx j (IntKind.wrap .i64 ((j.length:Int) - 1))).bind fun ah=>some (j.set (Int.toNat (IntKind.wrap .i64 ((j.length:Int) - 1))) (if Dz<o.X1 then o.X1 else Dz))) else ((app 8 j ([o.X0,o.X1]: (List Int))).bind fun af=>some af)).bind fun ag=>some ag:Option ((List Int)))) ([]: (List Int))).bind fun j=>some (j,aa)
def kx (N:Nat) (p0: (List Int)) (p1: (List Int)):Option (Bool):=
 bif ((p0.length:Int) != (p1.length:Int)) then (some false) else ((pI p0.length (fun(j:Nat) (o:Unit)=>((idx p0 (j:Int)).bind fun aa=>(idx p1 (j:Int)).bind fun ab=>bif (aa != ab) then (some (.rt false)) else (some (.nx ())):Option (Fl (Unit) Bool))) ()).bind fun ad=>ad.cs (fun(o:Unit)=>some true) (fun r=>some r))
def gD (N:Nat) (p0: (List aA)) (p1:aA):Option ((List aA)):=
 bif (((p1.Xs.length:Int)==0)||(decide (p1.Y1<=p1.Y0))) then (some p0) else ((bif (decide ((IntKind.wrap .i64 ((p0.length:Int) - 1))>=0)) then ((idx p0 (IntKind.wrap .i64 ((p0.length:Int) - 1))).bind fun j=>bif (j.Y1==p1.Y0) then ((idx p0 (IntKind.wrap .i64 ((p0.length:Int) - 1))).bind fun o=>(kx N o.Xs p1.Xs).bind fun aa=>some aa) else (some false)) else (some false)).bind fun ab=>bif ab then ((idx p0 (IntKind.wrap .i64 ((p0.length:Int) - 1))).bind fun ad=>some (p0.set (Int.toNat (IntKind.wrap .i64 ((p0.length:Int) - 1))) ({ad with Y1:=p1.Y1}))) else ((app 40 p0 ([p1]: (List aA))).bind fun ae=>some ae))
def fJ (N:Nat) (p0: (List aI)):Option ((List aA)):=
 (gJ N p0).bind fun ag=>(tc (ij N) ag).bind fun aa=>(iT aa.length (fun(ah:Nat) (ad: (List Int))=>((idx aa (ah:Int)).bind fun ae=>(app 8 ad ([ae.Y0,ae.Y1]: (List Int))).bind fun ai=>some ai:Option ((List Int)))) ([]: (List Int))).bind fun ad=>(pY ad).bind fun aj=>(fE N aj).bind fun ab=>(mY (fun(j: (List aA)×(List aI)×Int×Int)=>(bif (decide ((IntKind.wrap .i64 (j.2.2.2+1))< (ab.length:Int))) then ((fQ N j.2.1 (fun y0=>lC N y0 ab j.2.2.2)).bind fun ak=>(mY (fun(o: (List aI)×Int)=>((bif (decide (o.2< (aa.length:Int))) then ((idx aa o.2).bind fun al=>(idx ab j.2.2.2).bind fun an=>some (decide (al.Y0<=an))) else (some false)).bind fun ao=>bif ao then ((idx aa o.2).bind fun aq=>(app 32 o.1 ([aq]: (List aI))).bind fun ar=>some (.nx (ar,(IntKind.wrap .i64 (o.2+1))))) else (some (.br (o.1,o.2))):Option (Fl ((List aI)×Int) Empty))) N (ak,j.2.2.1)).bind fun au=>au.cs (fun(o: (List aI)×Int)=>(idx ab j.2.2.2).bind fun av=>(idx ab (IntKind.wrap .i64 (j.2.2.2+1))).bind fun aw=>(gR N o.1).bind fun af=>(gD N j.1 (⟨av,aw,af.1⟩:aA)).bind fun ax=>some (.nx (ax,af.2,o.2,(IntKind.wrap .i64 (j.2.2.2+1))))) (fun r=>r.elim)) else (some (.br (j.1,j.2.1,j.2.2.1,j.2.2.2))):Option (Fl ((List aA)×(List aI)×Int×Int) Empty))) N (([]: (List aA)),([]: (List aI)),0,0)).bind fun ay=>ay.cs (fun(j: (List aA)×(List aI)×Int×Int)=>some j.1) (fun r=>r.elim)
def gS (N:Nat) (p0: (List aA)):Option ((List aI)):=
 (iT p0.length (fun(ab:Nat) (aa: (List aI))=>((idx p0 (ab:Int)).bind fun o=>(mY (fun(j: (List aI)×Int)=>(bif (decide (j.2< (o.Xs.length:Int))) then ((idx o.Xs j.2).bind fun ad=>(idx o.Xs (IntKind.wrap .i64 (j.2+1))).bind fun ae=>(app 32 j.1 ([(⟨ad,o.Y0,ae,o.Y1⟩:aI)]: (List aI))).bind fun af=>some (.nx (af,(IntKind.wrap .i64 (j.2+2))))) else (some (.br (j.1,j.2))):Option (Fl ((List aI)×Int) Empty))) N (aa,0)).bind fun ag=>ag.cs (fun(j: (List aI)×Int)=>some j.1) (fun r=>r.elim):Option ((List aI)))) ([]: (List aI))).bind fun aa=>some aa
def iM (N:Nat) (p0: (List aI)) (p1: (List aI)):Option (Bool):=
 bif ((p0.length:Int) != (p1.length:Int)) then (some false) else ((pI p0.length (fun(j:Nat) (o:Unit)=>((idx p0 (j:Int)).bind fun aa=>(idx p1 (j:Int)).bind fun ab=>bif (!(decide (aa=ab))) then (some (.rt false)) else (some (.nx ())):Option (Fl (Unit) Bool))) ()).bind fun ad=>ad.cs (fun(o:Unit)=>some true) (fun r=>some r))
def gK (N:Nat) (p0: (List aI)):Option (Int):=
 (jc N p0).bind fun ab=>bif (ab != 0) then (some ab) else ((mY (fun(j:Int)=>(bif (decide (j< (p0.length:Int))) then ((idx p0 (IntKind.wrap .i64 (j - 1))).bind fun o=>(idx p0 j).bind fun aa=>bif ((decide (aa.Y0<o.Y0))||((aa.Y0==o.Y0)&&(decide (aa.X0<=o.X0)))) then (some (.rt 8)) else (some (.nx (IntKind.wrap .i64 (j+1))))) else (some (.br j)):Option (Fl (Int) Int))) N 1).bind fun ad=>ad.cs (fun(j:Int)=>(fJ N p0).bind fun ae=>(gS N ae).bind fun af=>(iM N af p0).bind fun ag=>bif (!ag) then (some 3) else (some 0)) (fun r=>some r))
def fO (N:Nat) (p0 p1 p2:Int):Option (Bool):=
 some ((decide (p0>=p1))&&(decide (p0<=p2)))
def g8 (N:Nat) (p0:eF):Option (Bool):=
 ((jt N p0.X).bind fun j=>bif j then ((jt N p0.Y).bind fun o=>some o) else (some false)).bind fun aa=>some aa
def eM (N:Nat) (p0:bU):Option (aI):=
 some (⟨(IntKind.wrap .i64 (p0.At.X - (IntKind.wrap .i64 (Int.tdiv p0.eN 2)))),(IntKind.wrap .i64 (p0.At.Y - (IntKind.wrap .i64 (Int.tdiv p0.eN 2)))),(IntKind.wrap .i64 ((IntKind.wrap .i64 (p0.At.X - (IntKind.wrap .i64 (Int.tdiv p0.eN 2))))+p0.eN)),(IntKind.wrap .i64 ((IntKind.wrap .i64 (p0.At.Y - (IntKind.wrap .i64 (Int.tdiv p0.eN 2))))+p0.eN))⟩:aI)
def ky (N:Nat) (p0: (List aA)):Option (aI):=
 (idx p0 0).bind fun ab=>(idx ab.Xs 0).bind fun ad=>(idx p0 0).bind fun ae=>(idx p0 0).bind fun af=>(idx af.Xs 1).bind fun ag=>(idx p0 (IntKind.wrap .i64 ((p0.length:Int) - 1))).bind fun ah=>(iT p0.length (fun(ai:Nat) (j:aI)=>((idx p0 (ai:Int)).bind fun o=>(idx o.Xs 0).bind fun dH=>(idx o.Xs (IntKind.wrap .i64 ((o.Xs.length:Int) - 1))).bind fun aa=>some ({{j with X0:=(if dH<j.X0 then dH else j.X0)} with X1:=(if j.X1<aa then aa else j.X1)}):Option (aI))) (⟨ad,ae.Y0,ag,ah.Y1⟩:aI)).bind fun j=>some j
def j9 (N:Nat) (p0: (List aA)):Option (Bool):=
 (bif ((p0.length:Int)==0) then (some true) else ((ky N p0).bind fun j=>(ku N j).bind fun o=>some o)).bind fun aa=>some aa
def jI (N:Nat) (p0:bU):Option (aI×Int):=
 ((fO N p0.eN 1 10000).bind fun o=>bif (!o) then (some true) else ((g8 N p0.At).bind fun aa=>some (!aa))).bind fun ab=>bif ab then (some ((⟨0,0,0,0⟩:aI),1)) else ((eM N p0).bind fun j=>(fJ N ([j]: (List aI))).bind fun ad=>(j9 N ad).bind fun ae=>bif (!ae) then (some ((⟨0,0,0,0⟩:aI),1)) else (some (j,0)))
def iN (N:Nat) (p0:jT):Option (Int):=
 bif (decide ((p0.aV.length:Int)>500)) then (some 2) else ((pI p0.aV.length (fun(aa:Nat) (ab:Unit)=>((idx p0.aV (aa:Int)).bind fun j=>(jI N j).bind fun o=>bif (o.2 != 0) then (some (.rt o.2)) else (((fO N j.bM 0 (IntKind.wrap .i64 ((p0.aL.length:Int) - 1))).bind fun ad=>bif (!ad) then (some true) else ((fO N j.To j.bM (IntKind.wrap .i64 ((p0.aL.length:Int) - 1))).bind fun ae=>some (!ae))).bind fun af=>bif af then (some (.rt 1)) else (some (.nx ()))):Option (Fl (Unit) Int))) ()).bind fun ag=>ag.cs (fun(ab:Unit)=>some 0) (fun r=>some r))
def gh (N:Nat) (p0:dC) (p1:Int):Option (Int):=
 some (Lib.indexByte p0.cK (Int.toNat p1).toUInt8)
def iO (N:Nat) (p0 p1:dC):Option (Int):=
 bif (((p1.cK.length:Int)==0)||(p1.AO p0)) then (some 0) else (bif ((p1.cK.length:Int)==1) then ((Cl p1 0).bind fun j=>(gh N p0 (j.toNat:Int)).bind fun o=>some o) else (bif (decide ((p1.cK.length:Int)>=(p0.cK.length:Int))) then (some (-1)) else (none)))
def jJ (N:Nat) (p0 p1:dC):Option (Int):=
 (iO N p0 p1).bind fun j=>some j
def kJ (N:Nat) (p0 p1:dC):Option (Int):=
 bif ((p1.cK.length:Int)==0) then (none) else (bif ((p1.cK.length:Int)==1) then ((Cl p1 0).bind fun aa=>some ((Lib.countByte p0.cK (Int.toNat (aa.toNat:Int)).toUInt8:Nat):Int)) else ((mY (fun(j:dC×Int)=>((jJ N j.1 p1).bind fun o=>bif (o==(-1)) then (some (.rt j.2)) else ((r6 j.1 (IntKind.wrap .i64 (o+ (p1.cK.length:Int))) (j.1.cK.length:Int)).bind fun ab=>some (.nx (ab,(IntKind.wrap .i64 (j.2+1))))):Option (Fl (dC×Int) Int))) N (p0,0)).bind fun ad=>ad.cs (fun(j:dC×Int)=>some 0) (fun r=>some r)))
def kz (N:Nat) (p0 p1:dC) (p2 p3:Int):Option ((List dC)):=
 bif (p3==0) then (some ([]: (List dC))) else (bif (p1.AO (⟨[]⟩)) then (none) else ((bif (decide (p3<0)) then ((kJ N p0 p1).bind fun ab=>some (IntKind.wrap .i64 (ab+1))) else (some p3)).bind fun o=>(mk 16 (⟨[]⟩:dC) (if (IntKind.wrap .i64 ((p0.cK.length:Int)+1))<o then (IntKind.wrap .i64 ((p0.cK.length:Int)+1)) else o)).bind fun ad=>(mY (fun(j:dC×(List dC)×Int)=>(bif (decide (j.2.2< (IntKind.wrap .i64 ((if (IntKind.wrap .i64 ((p0.cK.length:Int)+1))<o then (IntKind.wrap .i64 ((p0.cK.length:Int)+1)) else o) - 1)))) then ((jJ N j.1 p1).bind fun aa=>bif (decide (aa<0)) then (some (.br (j.1,j.2.1,j.2.2))) else ((r6 j.1 0 (IntKind.wrap .i64 (aa+p2))).bind fun ae=>(idx j.2.1 j.2.2).bind fun ai=>(r6 j.1 (IntKind.wrap .i64 (aa+ (p1.cK.length:Int))) (j.1.cK.length:Int)).bind fun af=>some (.nx (af,(j.2.1.set (Int.toNat j.2.2) ae),(IntKind.wrap .i64 (j.2.2+1)))))) else (some (.br (j.1,j.2.1,j.2.2))):Option (Fl (dC×(List dC)×Int) Empty))) N (p0,ad,0)).bind fun ag=>ag.cs (fun(j:dC×(List dC)×Int)=>(idx j.2.1 j.2.2).bind fun aj=>(rK (j.2.1.set (Int.toNat j.2.2) j.1) 0 (IntKind.wrap .i64 (j.2.2+1))).bind fun ah=>some ah) (fun r=>r.elim)))
def kK (N:Nat) (p0 p1:dC):Option ((List dC)):=
 (kz N p0 p1 0 (-1)).bind fun j=>some j
def jd (N:Nat) (p0: (List dC)) (p1:dC->Option Bool):Option (Int):=
 (pI p0.length (fun(j:Nat) (o:Unit)=>((idx p0 (j:Int)).bind fun aa=>(p1 aa).bind fun ab=>bif ab then (some (.rt (j:Int))) else (some (.nx ())):Option (Fl (Unit) Int))) ()).bind fun ad=>ad.cs (fun(o:Unit)=>some (-1)) (fun r=>some r)
def fR (N:Nat) (p0: (List dC)) (p1:dC->Option Bool):Option (Bool):=
 (jd N p0 p1).bind fun j=>some (decide (j>=0))
def gL (N:Nat) (p0:dC) (p1:Int):Option (Int):=
 (gh N p0 p1).bind fun j=>some j
def gE (N:Nat) (p0:dC):Option (Bool):=
 (pI p0.cK.length (fun(o:Nat) (aa:Unit)=>((Cl p0 (o:Int)).bind fun j=>(bif ((((decide ((j.toNat:Int)<65))||(decide ((j.toNat:Int)>90)))&&((decide ((j.toNat:Int)<97))||(decide ((j.toNat:Int)>122))))&&((decide ((j.toNat:Int)<48))||(decide ((j.toNat:Int)>57)))) then ((gL N (⟨[95,43,45,35]⟩) (j.toNat:Int)).bind fun ab=>some (decide (ab<0))) else (some false)).bind fun ad=>bif ad then (some (.rt false)) else (some (.nx ())):Option (Fl (Unit) Bool))) ()).bind fun ae=>ae.cs (fun(aa:Unit)=>some ((decide ((p0.cK.length:Int)>=1))&&(decide ((p0.cK.length:Int)<=40)))) (fun r=>some r)
def fS (N:Nat) (p0:dC):Option (Bool):=
 (gE N p0).bind fun j=>some (!j)
def ka (N:Nat) (p0:dC):Option (Bool):=
 (bif (decide ((p0.cK.length:Int)<=200)) then ((kK N p0 (⟨[47]⟩)).bind fun j=>(fR N j (fS N)).bind fun o=>some (!o)) else (some false)).bind fun aa=>some aa
def ju (N:Nat) (p0:cV):Option (fD):=
 some (⟨p0.Part,p0.fD⟩:fD)
def jN (N:Nat) (p0 p1:dC):Option (Int):=
 some (Lib.compareBytes p0.cK p1.cK)
def kY (N:Nat) (p0 p1:dC):Option (Int):=
 (jN N p0 p1).bind fun j=>some j
def fU (N:Nat) (p0 p1:fD):Option (Int):=
 (kY N p0.Part p1.Part).bind fun j=>bif (j != 0) then (some j) else ((kY N p0.fD p1.fD).bind fun o=>some o)
def iP (N:Nat) (p0:jT):Option (Int):=
 bif (decide ((p0.bH.length:Int)>1000)) then (some 2) else ((pI p0.bH.length (fun(o:Nat) (aa:Unit)=>((idx p0.bH (o:Int)).bind fun j=>((ka N j.Part).bind fun ab=>bif (!ab) then (some true) else ((gE N j.fD).bind fun ad=>some (!ad))).bind fun ae=>bif ae then (some (.rt 5)) else (((fO N j.cR 0 (IntKind.wrap .i64 ((p0.aL.length:Int) - 1))).bind fun af=>bif (!af) then (some true) else ((g8 N j.At).bind fun ag=>some (!ag))).bind fun ah=>bif ah then (some (.rt 1)) else ((bif (decide ((o:Int)>0)) then ((idx p0.bH (IntKind.wrap .i64 ((o:Int) - 1))).bind fun ai=>(ju N j).bind fun aj=>(ju N ai).bind fun ak=>(fU N aj ak).bind fun al=>some (decide (al<=0))) else (some false)).bind fun an=>bif an then (some (.rt 8)) else (some (.nx ())))):Option (Fl (Unit) Int))) ()).bind fun ao=>ao.cs (fun(aa:Unit)=>some 0) (fun r=>some r))
def g9 (N:Nat) (p0 p1:Int) (p2 p3:Int):Option (Int):=
 some (if (if 0< (IntKind.wrap .i64 ((IntKind.wrap .i64 (p2 - p1))+1)) then (IntKind.wrap .i64 ((IntKind.wrap .i64 (p2 - p1))+1)) else 0)< (IntKind.wrap .i64 ((IntKind.wrap .i64 (p0 - p3))+1)) then (IntKind.wrap .i64 ((IntKind.wrap .i64 (p0 - p3))+1)) else (if 0< (IntKind.wrap .i64 ((IntKind.wrap .i64 (p2 - p1))+1)) then (IntKind.wrap .i64 ((IntKind.wrap .i64 (p2 - p1))+1)) else 0))
def je (N:Nat) (p0 p1:aI):Option (Int):=
 (g9 N p0.X0 p0.X1 p1.X0 p1.X1).bind fun j=>(g9 N p0.Y0 p0.Y1 p1.Y0 p1.Y1).bind fun o=>some (if j<o then o else j)
def jf (N:Nat) (p0:bU) (p1:Int):Option (Bool):=
 some ((decide (p0.bM<=p1))&&(decide (p1<=p0.To)))
def kA (N:Nat) (p0: (List aA)) (p1 p2:Int):Option ((List Int)×Int):=
 bif ((p0.length:Int)==0) then (some (([]: (List Int)),p2)) else ((idx p0 0).bind fun aa=>bif (decide (p1<aa.Y0)) then ((idx p0 0).bind fun j=>some (([]: (List Int)),(if j.Y0<p2 then j.Y0 else p2))) else ((idx p0 0).bind fun ab=>(idx p0 0).bind fun o=>some (ab.Xs,(if o.Y1<p2 then o.Y1 else p2))))
def m8 (N:Nat) (p0: (List Int)) (p1: (List Int)) (p2:Bool->Bool->Option Bool):Option ((List Int)):=
 (mY (fun(j: (List Int)×(List Int)×(List Int)×Bool×Bool×Bool)=>((bif (decide ((j.1.length:Int)>0)) then (some true) else (some (decide ((j.2.1.length:Int)>0)))).bind fun af=>bif af then ((bif ((j.2.1.length:Int)==0) then (some true) else (bif (decide ((j.1.length:Int)>0)) then ((idx j.1 0).bind fun ag=>(idx j.2.1 0).bind fun ah=>some (decide (ag<=ah))) else (some false))).bind fun ai=>(bif ai then ((idx j.1 0).bind fun aj=>some aj) else ((idx j.2.1 0).bind fun ak=>some ak)).bind fun o=>(bif (decide ((j.1.length:Int)>0)) then ((idx j.1 0).bind fun al=>some (al==o)) else (some false)).bind fun an=>(bif an then ((rK j.1 1 (j.1.length:Int)).bind fun ao=>some (ao,(!j.2.2.2.1))) else (some (j.1,j.2.2.2.1))).bind fun aa=>(bif (decide ((j.2.1.length:Int)>0)) then ((idx j.2.1 0).bind fun aq=>some (aq==o)) else (some false)).bind fun ar=>(bif ar then ((rK j.2.1 1 (j.2.1.length:Int)).bind fun au=>some (au,(!j.2.2.2.2.1))) else (some (j.2.1,j.2.2.2.2.1))).bind fun ab=>(p2 aa.2 ab.2).bind fun ad=>(bif (ad != j.2.2.2.2.2) then ((app 8 j.2.2.1 ([o]: (List Int))).bind fun av=>some (av,ad)) else (some (j.2.2.1,j.2.2.2.2.2))).bind fun ae=>some (.nx (aa.1,ab.1,ae.1,aa.2,ab.2,ae.2))) else (some (.br (j.1,j.2.1,j.2.2.1,j.2.2.2.1,j.2.2.2.2.1,j.2.2.2.2.2))):Option (Fl ((List Int)×(List Int)×(List Int)×Bool×Bool×Bool) Empty))) N (p0,p1,([]: (List Int)),false,false,false)).bind fun aw=>aw.cs (fun(j: (List Int)×(List Int)×(List Int)×Bool×Bool×Bool)=>some j.2.2.1) (fun r=>r.elim)
def mf (N:Nat) (p0: (List aA)) (p1: (List aA)) (p2:Bool->Bool->Option Bool):Option ((List aA)):=
 bif ((IntKind.wrap .i64 ((p0.length:Int)+ (p1.length:Int)))==0) then (some ([]: (List aA))) else ((iT (([p0,p1]: (List (List aA))).length) (fun(ah:Nat) (o:Int×Int)=>((idx ([p0,p1]: (List (List aA))) (ah:Int)).bind fun ad=>(bif (decide ((ad.length:Int)>0)) then ((bif ((ah:Int)==0) then (some true) else (some ((p0.length:Int)==0))).bind fun al=>(bif al then ((idx ad 0).bind fun an=>(idx ad (IntKind.wrap .i64 ((ad.length:Int) - 1))).bind fun ao=>some (an.Y0,ao.Y1)) else (some (o.1,o.2))).bind fun ag=>(idx ad 0).bind fun ai=>(idx ad (IntKind.wrap .i64 ((ad.length:Int) - 1))).bind fun aj=>some ((if ai.Y0<ag.1 then ai.Y0 else ag.1),(if ag.2<aj.Y1 then aj.Y1 else ag.2))) else (some (o.1,o.2))).bind fun ak=>some (ak.1,ak.2):Option (Int×Int))) (0,0)).bind fun o=>(mY (fun(j: (List aA)×(List aA)×(List aA)×Int)=>(bif (decide (j.2.2.2<o.2)) then ((mY (fun(aa: (List aA))=>((bif (decide ((aa.length:Int)>0)) then ((idx aa 0).bind fun aq=>some (decide (aq.Y1<=j.2.2.2))) else (some false)).bind fun ar=>bif ar then ((rK aa 1 (aa.length:Int)).bind fun au=>some (.nx au)) else (some (.br aa)):Option (Fl ((List aA)) Empty))) N j.1).bind fun av=>av.cs (fun(aa: (List aA))=>(mY (fun(ab: (List aA))=>((bif (decide ((ab.length:Int)>0)) then ((idx ab 0).bind fun aw=>some (decide (aw.Y1<=j.2.2.2))) else (some false)).bind fun ax=>bif ax then ((rK ab 1 (ab.length:Int)).bind fun ay=>some (.nx ay)) else (some (.br ab)):Option (Fl ((List aA)) Empty))) N j.2.1).bind fun az=>az.cs (fun(ab: (List aA))=>(kA N aa j.2.2.2 o.2).bind fun ae=>(kA N ab j.2.2.2 o.2).bind fun af=>(m8 N ae.1 af.1 p2).bind fun a0=>(gD N j.2.2.1 (⟨j.2.2.2,(if af.2<ae.2 then af.2 else ae.2),a0⟩:aA)).bind fun a1=>some (.nx (aa,ab,a1,(if af.2<ae.2 then af.2 else ae.2)))) (fun r=>r.elim)) (fun r=>r.elim)) else (some (.br (j.1,j.2.1,j.2.2.1,j.2.2.2))):Option (Fl ((List aA)×(List aA)×(List aA)×Int) Empty))) N (p0,p1,([]: (List aA)),o.1)).bind fun a2=>a2.cs (fun(j: (List aA)×(List aA)×(List aA)×Int)=>some j.2.2.1) (fun r=>r.elim))
def lD (N:Nat) (p0 p1:Bool):Option (Bool):=
 some (p0&&(!p1))
def jg (N:Nat) (p0: (List aA)) (p1: (List aA)):Option ((List aA)):=
 (mf N p0 p1 (lD N)).bind fun j=>some j
def kb (N:Nat) (p0: (List aA)):Option (Int):=
 (iT p0.length (fun(o:Nat) (j:Int)=>((idx p0 (o:Int)).bind fun aa=>some (IntKind.wrap .i64 (j+ (IntKind.wrap .i64 (Int.tdiv (aa.Xs.length:Int) 2)))):Option (Int))) 0).bind fun j=>some j
def dV (N:Nat) (p0:Int) (p1_0: (List Int)):Option (Int×(List Int)):=
 (mY (fun(j:Int×(List Int))=>((idx j.2 j.1).bind fun aa=>bif (aa != j.1) then ((idx j.2 j.1).bind fun ab=>(idx j.2 ab).bind fun o=>(idx j.2 j.1).bind fun af=>(idx (j.2.set (Int.toNat j.1) o) j.1).bind fun ad=>some (.nx (ad,(j.2.set (Int.toNat j.1) o)))) else (some (.br (j.1,j.2))):Option (Fl (Int×(List Int)) Empty))) N (p0,p1_0)).bind fun ae=>ae.cs (fun(j:Int×(List Int))=>some (j.1,j.2)) (fun r=>r.elim)
def jE (N:Nat) (p0: (List aA)):Option ((List (List aA))):=
 (gS N p0).bind fun ab=>(mk 8 (0:Int) (ab.length:Int)).bind fun an=>(iT an.length (fun(ai:Nat) (ag: (List Int))=>((idx ag (ai:Int)).bind fun bd=>some (ag.set (Int.toNat (ai:Int)) (ai:Int)):Option ((List Int)))) an).bind fun ag=>(iT p0.length (fun(aj:Nat) (aa: (List Int)×Int×Int)=>((idx p0 (aj:Int)).bind fun ak=>(bif (decide ((aj:Int)>0)) then ((idx p0 (IntKind.wrap .i64 ((aj:Int) - 1))).bind fun ar=>some (ar.Y1==ak.Y0)) else (some false)).bind fun au=>(bif au then ((mY (fun(j: (List Int)×Int×Int)=>(bif ((decide (j.2.1<aa.2.1))&&(decide (j.2.2< (IntKind.wrap .i64 (aa.2.1+ (IntKind.wrap .i64 (Int.tdiv (ak.Xs.length:Int) 2))))))) then (((idx ab j.2.1).bind fun av=>(idx ab j.2.2).bind fun aw=>bif (decide (av.X0<aw.X1)) then ((idx ab j.2.2).bind fun ax=>(idx ab j.2.1).bind fun ay=>some (decide (ax.X0<ay.X1))) else (some false)).bind fun az=>(bif az then ((dV N j.2.1 j.1).bind fun ae=>(dV N j.2.2 ae.2).bind fun ad=>(idx ad.2 (if ae.1<ad.1 then ad.1 else ae.1)).bind fun bf=>some (ad.2.set (Int.toNat (if ae.1<ad.1 then ad.1 else ae.1)) (if ad.1<ae.1 then ad.1 else ae.1))) else (some j.1)).bind fun a0=>(idx ab j.2.1).bind fun a1=>(idx ab j.2.2).bind fun a2=>(bif (decide (a1.X1<a2.X1)) then (some ((IntKind.wrap .i64 (j.2.1+1)),j.2.2)) else (some (j.2.1,(IntKind.wrap .i64 (j.2.2+1))))).bind fun ao=>some (.nx (a0,ao.1,ao.2))) else (some (.br (j.1,j.2.1,j.2.2))):Option (Fl ((List Int)×Int×Int) Empty))) N (aa.1,aa.2.2,aa.2.1)).bind fun a3=>a3.cs (fun(j: (List Int)×Int×Int)=>some j.1) (fun r=>r.elim)) else (some aa.1)).bind fun a4=>some (a4,(IntKind.wrap .i64 (aa.2.1+ (IntKind.wrap .i64 (Int.tdiv (ak.Xs.length:Int) 2)))),aa.2.1):Option ((List Int)×Int×Int))) (ag,0,0)).bind fun aa=>(iT ab.length (fun(aq:Nat) (o: (List Int)×(List (Int×Int))×(List (List aI)))=>((idx ab (aq:Int)).bind fun a5=>(dV N (aq:Int) o.1).bind fun ah=>(bif (!(iB o.2.1 ah.1)) then ((app 24 o.2.2 [([]: (List aI))]).bind fun a6=>some ((oe o.2.1 ah.1 (o.2.2.length:Int)),a6,(o.2.2.length:Int))) else (some (o.2.1,o.2.2,(dG o.2.1 ah.1 (0:Int))))).bind fun af=>(idx af.2.1 af.2.2).bind fun a7=>(app 32 a7 ([a5]: (List aI))).bind fun a8=>(idx af.2.1 af.2.2).bind fun bg=>some (ah.2,af.1,(af.2.1.set (Int.toNat af.2.2) a8)):Option ((List Int)×(List (Int×Int))×(List (List aI))))) (aa.1,([]: (List (Int×Int))),([]: (List (List aI))))).bind fun o=>(iT o.2.2.length (fun(a9:Nat) (al: (List (List aA)))=>((idx o.2.2 (a9:Int)).bind fun ba=>(fJ N ba).bind fun bb=>(app 24 al ([bb]: (List (List aA)))).bind fun bc=>some bc:Option ((List (List aA))))) ([]: (List (List aA)))).bind fun al=>some al
def ik (N:Nat) (p0_0: (List (List aI))) (p0_2: (List bU)) (p0_4: (List (List aA))) (p0_5: (List aH)):Option (Bool×(List (List aA))×(List aH)):=
 (iT p0_0.length (fun(aa:Nat) (j: (List (List aA))×(List aH)×Bool)=>((idx p0_0 (aa:Int)).bind fun ai=>(iT p0_2.length (fun(aj:Nat) (o: (List aI))=>((idx p0_2 (aj:Int)).bind fun af=>(jf N af (aa:Int)).bind fun ak=>(bif ak then ((eM N af).bind fun al=>(app 32 o ([al]: (List aI))).bind fun an=>some an) else (some o)).bind fun ao=>some ao:Option ((List aI)))) ([]: (List aI))).bind fun o=>(fJ N ai).bind fun aq=>(fJ N o).bind fun ar=>(jg N aq ar).bind fun ab=>(bif j.2.2 then ((kb N ab).bind fun au=>some ((decide (au<=2000)),ab)) else (some (false,ab))).bind fun ad=>(app 24 j.1 ([ad.2]: (List (List aA)))).bind fun av=>(jE N ad.2).bind fun ag=>(iT ag.length (fun(aw:Nat) (ae: (List aH))=>((idx ag (aw:Int)).bind fun ah=>(gS N ah).bind fun ax=>(app 56 ae ([(⟨(aa:Int),ah,ax⟩:aH)]: (List aH))).bind fun ay=>some ay:Option ((List aH)))) j.2.1).bind fun ae=>some (av,ae,ad.1):Option ((List (List aA))×(List aH)×Bool))) (p0_4,p0_5,true)).bind fun j=>(bif j.2.2 then (some (decide ((j.2.1.length:Int)<=2000))) else (some false)).bind fun az=>some (az,j.1,j.2.1)
def og (N:Nat) (p0 p1:aI):Option (Bool):=
 some ((((decide (p0.X0<p1.X1))&&(decide (p1.X0<p0.X1)))&&((p0.Y1==p1.Y0)||(p1.Y1==p0.Y0)))||(((decide (p0.Y0<p1.Y1))&&(decide (p1.Y0<p0.Y1)))&&((p0.X1==p1.X0)||(p1.X1==p0.X0))))
def iA (N:Nat) (p0:aI) (p1:bU):Option (Bool):=
 (eM N p1).bind fun j=>(og N p0 j).bind fun o=>some o
def fw (N:Nat) (p0: (List aI)) (p1:aI->Option Bool):Option (Bool):=
 (jM N p0 p1).bind fun j=>some (decide (j>=0))
def il (N:Nat) (p0_2: (List bU)) (p0_5: (List aH)) (p0_6: (List (List Int))):Option ((List (List Int))):=
 (iT p0_2.length (fun(ae:Nat) (o: (List (List Int)))=>((idx p0_2 (ae:Int)).bind fun aa=>(iT p0_5.length (fun(ab:Nat) (j: (List Int))=>((idx p0_5 (ab:Int)).bind fun ad=>(bif aa.gA then ((jf N aa ad.cR).bind fun af=>bif af then ((fw N ad.iD (fun y0=>iA N y0 aa)).bind fun ag=>some ag) else (some false)) else (some false)).bind fun ah=>(bif ah then ((app 8 j ([(ab:Int)]: (List Int))).bind fun ai=>some ai) else (some j)).bind fun aj=>some aj:Option ((List Int)))) ([]: (List Int))).bind fun j=>(app 24 o ([j]: (List (List Int)))).bind fun ak=>some ak:Option ((List (List Int))))) p0_6).bind fun o=>some o
def hG (N:Nat) (p0:Int):Option (((List Int))):=
 (mk 8 (0:Int) p0).bind fun aa=>(iT aa.length (fun(o:Nat) (j: (List Int))=>((idx j (o:Int)).bind fun ab=>some (j.set (Int.toNat (o:Int)) (o:Int)):Option ((List Int)))) aa).bind fun j=>some j
def dJ (N:Nat) (p0_0: (List Int)) (p1:Int):Option (Int×(List Int)):=
 (mY (fun(j: (List Int)×Int)=>((idx j.1 j.2).bind fun aa=>bif (aa != j.2) then ((idx j.1 j.2).bind fun ab=>(idx j.1 ab).bind fun o=>(idx j.1 j.2).bind fun af=>(idx (j.1.set (Int.toNat j.2) o) j.2).bind fun ad=>some (.nx ((j.1.set (Int.toNat j.2) o),ad))) else (some (.br (j.1,j.2))):Option (Fl ((List Int)×Int) Empty))) N (p0_0,p1)).bind fun ae=>ae.cs (fun(j: (List Int)×Int)=>some (j.2,j.1)) (fun r=>r.elim)
def dA (N:Nat) (p0_0: (List Int)) (p1 p2:Int):Option ((List Int)):=
 (dJ N p0_0 p1).bind fun o=>(dJ N o.2 p2).bind fun j=>(idx j.2 (if o.1<j.1 then j.1 else o.1)).bind fun aa=>some (j.2.set (Int.toNat (if o.1<j.1 then j.1 else o.1)) (if j.1<o.1 then j.1 else o.1))
def iq (N:Nat) (p0_0: (List Int)):Option ((List (List Int))×(List Int)):=
 (iT p0_0.length (fun(aa:Nat) (j: (List Int)×(List (List Int))×(List (Int×Int)))=>((dJ N j.1 (aa:Int)).bind fun dH=>(bif (dH.1==(aa:Int)) then ((app 24 j.2.1 [([]: (List Int))]).bind fun ab=>some (ab,(oe j.2.2 (aa:Int) (j.2.1.length:Int)))) else (some (j.2.1,j.2.2))).bind fun o=>(idx o.1 (dG o.2 dH.1 (0:Int))).bind fun ad=>(app 8 ad ([(aa:Int)]: (List Int))).bind fun ae=>(idx o.1 (dG o.2 dH.1 (0:Int))).bind fun af=>some (dH.2,(o.1.set (Int.toNat (dG o.2 dH.1 (0:Int))) ae),o.2):Option ((List Int)×(List (List Int))×(List (Int×Int))))) (p0_0,([]: (List (List Int))),([]: (List (Int×Int))))).bind fun j=>some (j.2.1,j.1)
def jv (N:Nat) (p0:aI) (p1:eF):Option (Bool):=
 (bif (decide (p1.X>=p0.X0)) then (bif (decide (p1.X<p0.X1)) then (bif (decide (p1.Y>=p0.Y0)) then (some (decide (p1.Y<p0.Y1))) else (some false)) else (some false)) else (some false)).bind fun j=>some j
def iH (N:Nat) (p0: (List aI)) (p1:eF):Option (Bool):=
 (fw N p0 (fun y0=>jv N y0 p1)).bind fun j=>some j
def ir (N:Nat) (p0_2: (List bU)) (p0_5: (List aH)) (p1:cV):Option (dO×Bool):=
 (pI p0_2.length (fun(o:Nat) (ad:Unit)=>((idx p0_2 (o:Int)).bind fun j=>(bif j.gA then ((jf N j p1.cR).bind fun ae=>bif ae then ((eM N j).bind fun af=>(iH N ([af]: (List aI)) p1.At).bind fun ag=>some ag) else (some false)) else (some false)).bind fun ah=>bif ah then (some (.rt ((⟨true,(o:Int)⟩:dO),true))) else (some (.nx ())):Option (Fl (Unit) (dO×Bool)))) ()).bind fun ai=>ai.cs (fun(ad:Unit)=>(pI p0_5.length (fun(aa:Nat) (aj:Unit)=>((idx p0_5 (aa:Int)).bind fun ab=>(bif (ab.cR==p1.cR) then ((iH N ab.iD p1.At).bind fun ak=>some ak) else (some false)).bind fun al=>bif al then (some (.rt ((⟨false,(aa:Int)⟩:dO),true))) else (some (.nx ())):Option (Fl (Unit) (dO×Bool)))) ()).bind fun an=>an.cs (fun(aj:Unit)=>some ((⟨false,0⟩:dO),false)) (fun r=>some r)) (fun r=>some r)
def fK (N:Nat) (p0_8: (List Int)) (p0_9: (List Int)) (p1:dO):Option (Int):=
 bif p1.bU then ((idx p0_9 p1.Number).bind fun j=>some j) else ((idx p0_8 p1.Number).bind fun o=>some o)
def eK (N:Nat) (p0_2: (List bU)) (p0_3: (List cV)) (p0_5: (List aH)) (p0_6: (List (List Int))) (p0_8: (List Int)) (p0_9: (List Int)) (p0_10: (List Int)) (p0_11: (List dO)):Option ((List cL)×(List Int)×(List Int)×(List Int)×(List dO)):=
 (hG N (IntKind.wrap .i64 ((p0_5.length:Int)+ (p0_2.length:Int)))).bind fun ar=>(iT p0_6.length (fun(ai:Nat) (af: (List Int))=>((idx p0_6 (ai:Int)).bind fun aj=>(iT aj.length (fun(au:Nat) (ag: (List Int))=>((idx aj (au:Int)).bind fun av=>(dA N ag av (IntKind.wrap .i64 ((p0_5.length:Int)+ (ai:Int)))).bind fun aw=>some aw:Option ((List Int)))) af).bind fun ag=>some ag:Option ((List Int)))) ar).bind fun af=>(mk 8 (0:Int) (p0_5.length:Int)).bind fun ax=>(mk 8 (0:Int) (p0_2.length:Int)).bind fun ay=>(iq N af).bind fun ak=>(iT ak.1.length (fun(az:Nat) (aa: (List cL)×(List Int)×(List Int))=>((idx ak.1 (az:Int)).bind fun al=>(iT al.length (fun(a0:Nat) (j: (List Int)×(List Int)×(List Int)×(List Int))=>((idx al (a0:Int)).bind fun ab=>(bif (decide (ab< (p0_5.length:Int))) then ((idx j.1 ab).bind fun bd=>(app 8 j.2.2.1 ([ab]: (List Int))).bind fun a1=>some ((j.1.set (Int.toNat ab) (aa.1.length:Int)),j.2.1,a1,j.2.2.2)) else ((idx p0_2 (IntKind.wrap .i64 (ab - (p0_5.length:Int)))).bind fun a2=>(bif a2.gA then ((idx j.2.1 (IntKind.wrap .i64 (ab - (p0_5.length:Int)))).bind fun bf=>(app 8 j.2.2.2 ([(IntKind.wrap .i64 (ab - (p0_5.length:Int)))]: (List Int))).bind fun a3=>some ((j.2.1.set (Int.toNat (IntKind.wrap .i64 (ab - (p0_5.length:Int)))) (aa.1.length:Int)),a3)) else ((idx j.2.1 (IntKind.wrap .i64 (ab - (p0_5.length:Int)))).bind fun bg=>some ((j.2.1.set (Int.toNat (IntKind.wrap .i64 (ab - (p0_5.length:Int)))) (-1)),j.2.2.2))).bind fun an=>some (j.1,an.1,j.2.2.1,an.2))).bind fun ad=>some (ad.1,ad.2.1,ad.2.2.1,ad.2.2.2):Option ((List Int)×(List Int)×(List Int)×(List Int)))) (aa.2.1,aa.2.2,([]: (List Int)),([]: (List Int)))).bind fun j=>(bif (decide ((IntKind.wrap .i64 ((j.2.2.1.length:Int)+ (j.2.2.2.length:Int)))>0)) then ((app 72 aa.1 [(⟨j.2.2.1,j.2.2.2,([]: (List fD))⟩:cL)]).bind fun a4=>some a4) else (some aa.1)).bind fun a5=>some (a5,j.1,j.2.1):Option ((List cL)×(List Int)×(List Int)))) (([]: (List cL)),ax,ay)).bind fun aa=>(iT p0_3.length (fun(a6:Nat) (o: (List cL)×(List Int)×(List Int)×(List Int)×(List dO))=>((idx p0_3 (a6:Int)).bind fun ao=>(ir N p0_2 p0_5 ao).bind fun ah=>(bif ah.2 then ((fK N o.2.1 o.2.2.1 ah.1).bind fun ae=>(idx o.1 ae).bind fun a7=>(ju N ao).bind fun a8=>(app 32 a7.gC ([a8]: (List fD))).bind fun a9=>(idx o.1 ae).bind fun ba=>some ((o.1.set (Int.toNat ae) {ba with gC:=a9}),ae)) else (some (o.1,(-1)))).bind fun aq=>(app 8 o.2.2.2.1 ([aq.2]: (List Int))).bind fun bb=>(app 16 o.2.2.2.2 ([ah.1]: (List dO))).bind fun bc=>some (aq.1,o.2.1,o.2.2.1,bb,bc):Option ((List cL)×(List Int)×(List Int)×(List Int)×(List dO)))) (aa.1,aa.2.1,aa.2.2,p0_10,p0_11)).bind fun o=>some (o.1,o.2.1,o.2.2.1,o.2.2.2.1,o.2.2.2.2)
def fZ (N:Nat) (p0:jT):Option (Option ((List (List aI))×(List aI)×(List bU)×(List cV)×(List (List aA))×(List aH)×(List (List Int))×(List cL)×(List Int)×(List Int)×(List Int)×(List dO))×Int):=
 bif ((p0.aL.length:Int)==0) then (some (none,9)) else (bif (decide ((p0.aL.length:Int)>16)) then (some (none,2)) else ((pI p0.aL.length (fun(an:Nat) (aa:Int)=>((idx p0.aL (an:Int)).bind fun ae=>(gK N ae).bind fun af=>bif (af != 0) then (some (.rt (none,af))) else (some (.nx (IntKind.wrap .i64 (aa+ (ae.length:Int))))):Option (Fl (Int) (Option ((List (List aI))×(List aI)×(List bU)×(List cV)×(List (List aA))×(List aH)×(List (List Int))×(List cL)×(List Int)×(List Int)×(List Int)×(List dO))×Int)))) (p0.dU.length:Int)).bind fun ao=>ao.cs (fun(aa:Int)=>(gK N p0.dU).bind fun ag=>bif (ag != 0) then (some (none,ag)) else (bif (decide (aa>2000)) then (some (none,2)) else ((iN N p0).bind fun ah=>bif (ah != 0) then (some (none,ah)) else ((iP N p0).bind fun ai=>bif (ai != 0) then (some (none,ai)) else ((pI p0.aV.length (fun(aj:Nat) (aq:Unit)=>((idx p0.aV (aj:Int)).bind fun ab=>(rK p0.aV 0 (aj:Int)).bind fun ak=>(pI ak.length (fun(ar:Nat) (au:Unit)=>((idx ak (ar:Int)).bind fun ad=>(bif ((decide (ab.bM<=ad.To))&&(decide (ad.bM<=ab.To))) then ((eM N ab).bind fun av=>(eM N ad).bind fun aw=>(je N av aw).bind fun ax=>some (ax==0)) else (some false)).bind fun ay=>bif ay then (some (.rt (none,12))) else (some (.nx ())):Option (Fl (Unit) (Option ((List (List aI))×(List aI)×(List bU)×(List cV)×(List (List aA))×(List aH)×(List (List Int))×(List cL)×(List Int)×(List Int)×(List Int)×(List dO))×Int)))) ()).bind fun az=>az.cs (fun(au:Unit)=>some (.nx ())) (fun r=>some (.rt r)):Option (Fl (Unit) (Option ((List (List aI))×(List aI)×(List bU)×(List cV)×(List (List aA))×(List aH)×(List (List Int))×(List cL)×(List Int)×(List Int)×(List Int)×(List dO))×Int)))) ()).bind fun a0=>a0.cs (fun(aq:Unit)=>(ik N p0.aL p0.aV ([]: (List (List aA))) ([]: (List aH))).bind fun j=>bif (!j.1) then (some (none,2)) else ((il N p0.aV j.2.2 ([]: (List (List Int)))).bind fun al=>(eK N p0.aV p0.bH j.2.2 al ([]: (List Int)) ([]: (List Int)) ([]: (List Int)) ([]: (List dO))).bind fun o=>some (some (p0.aL,p0.dU,p0.aV,p0.bH,j.2.1,j.2.2,al,o.1,o.2.1,o.2.2.1,o.2.2.2.1,o.2.2.2.2),0))) (fun r=>some r)))))) (fun r=>some r)))
def jw (N:Nat) (p0 p1 p2:Int):Option (Bool):=
 some ((decide (p0>=p1))&&(decide (p0<=p2)))
def f0 (N:Nat) (p0:dO) (p1:Int) (p3_0: (List bY)) (p2h_7: (List cL)):Option ((List bY)):=
 (bif (decide (p1>=0)) then ((idx p2h_7 p1).bind fun j=>some (decide ((j.gC.length:Int)>1))) else (some false)).bind fun o=>(bif o then ((app 40 p3_0 ([(⟨true,p0,0,0⟩:bY)]: (List bY))).bind fun aa=>some aa) else (some p3_0)).bind fun ab=>some ab
def m9 (N:Nat) (p0 p1:aI) (p2:Int):Option (eF):=
 some (⟨(if p0.X0< (IntKind.wrap .i64 (p1.X0 - p2)) then (IntKind.wrap .i64 (p1.X0 - p2)) else p0.X0),(if p0.Y0< (IntKind.wrap .i64 (p1.Y0 - p2)) then (IntKind.wrap .i64 (p1.Y0 - p2)) else p0.Y0)⟩:eF)
def na (N:Nat) (p0 p1:eF):Option (Bool):=
 some ((decide (p0.Y<p1.Y))||((p0.Y==p1.Y)&&(decide (p0.X<p1.X))))
def lj (N:Nat) (p0: (List aI)) (p1: (List aI)):Option (o0):=
 (iT p0.length (fun(an:Nat) (aa:Int)=>((idx p0 (an:Int)).bind fun ao=>(iT p1.length (fun(aq:Nat) (ad:Int)=>((idx p1 (aq:Int)).bind fun ar=>(je N ao ar).bind fun ae=>(bif ((decide (ad<0))||(decide (ae<ad))) then (some ae) else (some ad)).bind fun au=>some au:Option (Int))) aa).bind fun ad=>some ad:Option (Int))) (-1)).bind fun aa=>(iT p0.length (fun(av:Nat) (j:o0×Bool)=>((idx p0 (av:Int)).bind fun af=>(iT p1.length (fun(aw:Nat) (o:o0×Bool)=>((idx p1 (aw:Int)).bind fun ag=>(m9 N af ag aa).bind fun ah=>((je N af ag).bind fun ax=>bif (ax==aa) then (bif (!o.2) then (some true) else ((na N ah o.1.bM).bind fun ay=>some ay)) else (some false)).bind fun az=>(bif az then (some ({o.1 with bM:=ah},true)) else (some (o.1,o.2))).bind fun ai=>some (ai.1,ai.2):Option (o0×Bool))) (j.1,j.2)).bind fun o=>some (o.1,o.2):Option (o0×Bool))) ((⟨0,0,(IntKind.wrap .i64 (aa - 1)),⟨0,0⟩,⟨0,0⟩⟩:o0),false)).bind fun j=>(iT p1.length (fun(a0:Nat) (ab:o0×Bool)=>((idx p1 (a0:Int)).bind fun aj=>(m9 N aj (⟨j.1.bM.X,j.1.bM.Y,(IntKind.wrap .i64 (j.1.bM.X+1)),(IntKind.wrap .i64 (j.1.bM.Y+1))⟩:aI) aa).bind fun ak=>((je N aj (⟨j.1.bM.X,j.1.bM.Y,(IntKind.wrap .i64 (j.1.bM.X+1)),(IntKind.wrap .i64 (j.1.bM.Y+1))⟩:aI)).bind fun a1=>bif (a1==aa) then (bif (!ab.2) then (some true) else ((na N ak ab.1.To).bind fun a2=>some a2)) else (some false)).bind fun a3=>(bif a3 then (some ({ab.1 with To:=ak},true)) else (some (ab.1,ab.2))).bind fun al=>some (al.1,al.2):Option (o0×Bool))) (j.1,false)).bind fun ab=>some ab.1
def lE (N:Nat) (p0_0: (List (List aI))) (p0_1: (List aI)) (p0_2: (List bU)) (p0_3: (List cV)) (p0_4: (List (List aA))) (p0_5: (List aH)) (p0_6: (List (List Int))) (p0_7: (List cL)) (p0_8: (List Int)) (p0_9: (List Int)) (p0_10: (List Int)) (p0_11: (List dO)) (p1:Int):Option ((List bY)×Int):=
 (jw N p1 0 100000).bind fun ah=>bif (!ah) then (some (([]: (List bY)),1)) else ((iT p0_8.length (fun(ae:Nat) (ab: (List bY))=>((idx p0_8 (ae:Int)).bind fun ai=>(f0 N (⟨false,(ae:Int)⟩:dO) ai ab p0_7).bind fun aj=>some aj:Option ((List bY)))) ([]: (List bY))).bind fun ab=>(iT p0_9.length (fun(af:Nat) (ad: (List bY))=>((idx p0_9 (af:Int)).bind fun ak=>(f0 N (⟨true,(af:Int)⟩:dO) ak ad p0_7).bind fun al=>some al:Option ((List bY)))) ab).bind fun ad=>(iT p0_5.length (fun(o:Nat) (aa: (List bY))=>((idx p0_5 (o:Int)).bind fun ag=>(mY (fun(j: (List bY)×Int)=>((bif (decide (j.2< (p0_5.length:Int))) then ((idx p0_5 j.2).bind fun an=>some (an.cR==ag.cR)) else (some false)).bind fun ao=>bif ao then (((idx p0_8 (o:Int)).bind fun aq=>(idx p0_8 j.2).bind fun ar=>bif (aq != ar) then ((idx p0_5 j.2).bind fun au=>(lj N ag.iD au.iD).bind fun av=>some (decide (av.gU<p1))) else (some false)).bind fun aw=>(bif aw then ((app 40 j.1 ([(⟨false,⟨false,0⟩,(o:Int),j.2⟩:bY)]: (List bY))).bind fun ax=>some ax) else (some j.1)).bind fun ay=>some (.nx (ay,(IntKind.wrap .i64 (j.2+1))))) else (some (.br (j.1,j.2))):Option (Fl ((List bY)×Int) Empty))) N (aa,(IntKind.wrap .i64 ((o:Int)+1)))).bind fun az=>az.cs (fun(j: (List bY)×Int)=>some j.1) (fun r=>r.elim):Option ((List bY)))) ad).bind fun aa=>bif (decide ((aa.length:Int)>20000)) then (some (([]: (List bY)),2)) else (some (aa,0)))
def fL (N:Nat) (p0:dO) (p1:Int):Option (Int):=
 bif p0.bU then (some (IntKind.wrap .i64 (p1+p0.Number))) else (some p0.Number)
def gl (N:Nat) (p0 p1:Int) (p2_0: (List (Int×Bool))) (p3h_0: (List Int)):Option ((List Int)):=
 (bif (!(dG p2_0 p0 (false:Bool))) then (some (!(dG p2_0 p1 (false:Bool)))) else (some false)).bind fun j=>(bif j then ((dA N p3h_0 p0 p1).bind fun o=>some o) else (some p3h_0)).bind fun aa=>some aa
def dL (N:Nat) (p0_2: (List bU)) (p0_3: (List cV)) (p0_5: (List aH)) (p0_6: (List (List Int))) (p0_10: (List Int)) (p0_11: (List dO)) (p1: (List bY)):Option ((List Int)):=
 (iT p1.length (fun(aq:Nat) (aa: (List (Int×Bool)))=>((idx p1 (aq:Int)).bind fun aj=>(bif aj.Open then ((fL N aj.dO (p0_5.length:Int)).bind fun ar=>some (oe aa ar true)) else (some aa)).bind fun au=>some au:Option ((List (Int×Bool))))) ([]: (List (Int×Bool)))).bind fun aa=>(hG N (IntKind.wrap .i64 ((p0_5.length:Int)+ (p0_2.length:Int)))).bind fun av=>(iT p0_6.length (fun(ak:Nat) (ae: (List Int))=>((idx p0_6 (ak:Int)).bind fun al=>(iT al.length (fun(aw:Nat) (af: (List Int))=>((idx al (aw:Int)).bind fun ax=>(gl N ax (IntKind.wrap .i64 ((p0_5.length:Int)+ (ak:Int))) aa af).bind fun ay=>some ay:Option ((List Int)))) ae).bind fun af=>some af:Option ((List Int)))) av).bind fun ae=>(iT p1.length (fun(az:Nat) (ab: (List Int))=>((idx p1 (az:Int)).bind fun ag=>(bif (!ag.Open) then ((gl N ag.A ag.B aa ab).bind fun a0=>some a0) else (some ab)).bind fun a1=>some a1:Option ((List Int)))) ae).bind fun ab=>(mk 8 (0:Int) (p0_3.length:Int)).bind fun a2=>(iT p0_11.length (fun(o:Nat) (j: (List Int)×(List (Int×Int))×(List Int))=>((idx p0_11 (o:Int)).bind fun a3=>(fL N a3 (p0_5.length:Int)).bind fun ad=>((idx p0_10 (o:Int)).bind fun a4=>bif (decide (a4<0)) then (some true) else (some (dG aa ad (false:Bool)))).bind fun a5=>bif a5 then ((idx j.2.2 (o:Int)).bind fun a6=>some (j.1,j.2.1,(j.2.2.set (Int.toNat (o:Int)) (-1)))) else ((dJ N j.1 ad).bind fun ah=>(bif (!(iB j.2.1 ah.1)) then ((dJ N ah.2 ad).bind fun an=>some (an.2,(oe j.2.1 an.1 (o:Int)))) else (some (ah.2,j.2.1))).bind fun ai=>(dJ N ai.1 ad).bind fun ao=>(idx j.2.2 (o:Int)).bind fun a7=>some (ao.2,ai.2,(j.2.2.set (Int.toNat (o:Int)) (dG ai.2 ao.1 (0:Int))))):Option ((List Int)×(List (Int×Int))×(List Int)))) (ab,([]: (List (Int×Int))),a2)).bind fun j=>some j.2.2
def mg (N:Nat) (p0: (List Int)) (p1: (List Int)):Option (Bool):=
 (pI p0.length (fun(j:Nat) (ab:Unit)=>((idx p0 (j:Int)).bind fun o=>(idx p1 (j:Int)).bind fun aa=>(bif (decide (o<0)) then (some (j:Int)) else (some o)).bind fun ad=>(bif (decide (aa<0)) then (some (j:Int)) else (some aa)).bind fun ae=>bif (ad != ae) then (some (.rt false)) else (some (.nx ())):Option (Fl (Unit) Bool))) ()).bind fun af=>af.cs (fun(ab:Unit)=>some true) (fun r=>some r)
def gF (N:Nat) (p0:jT) (p1:Int):Option ((List bY)×Int):=
 (fZ N p0).bind fun aa=>Dx aa.1 (bif (aa.2 != 0) then (some (([]: (List bY)),aa.2)) else (none)) (fun(j: ((List (List aI))×(List aI)×(List bU)×(List cV)×(List (List aA))×(List aH)×(List (List Int))×(List cL)×(List Int)×(List Int)×(List Int)×(List dO)))=>bif (aa.2 != 0) then (some (([]: (List bY)),aa.2)) else ((lE N j.1 j.2.1 j.2.2.1 j.2.2.2.1 j.2.2.2.2.1 j.2.2.2.2.2.1 j.2.2.2.2.2.2.1 j.2.2.2.2.2.2.2.1 j.2.2.2.2.2.2.2.2.1 j.2.2.2.2.2.2.2.2.2.1 j.2.2.2.2.2.2.2.2.2.2.1 j.2.2.2.2.2.2.2.2.2.2.2 p1).bind fun ab=>bif (ab.2 != 0) then (some (([]: (List bY)),ab.2)) else ((dL N j.2.2.1 j.2.2.2.1 j.2.2.2.2.2.1 j.2.2.2.2.2.2.1 j.2.2.2.2.2.2.2.2.2.2.1 j.2.2.2.2.2.2.2.2.2.2.2 ([]: (List bY))).bind fun ae=>(iT ab.1.length (fun(af:Nat) (o: (List Int)×(List bY))=>((idx ab.1 (af:Int)).bind fun ad=>(dL N j.2.2.1 j.2.2.2.1 j.2.2.2.2.2.1 j.2.2.2.2.2.2.1 j.2.2.2.2.2.2.2.2.2.2.1 j.2.2.2.2.2.2.2.2.2.2.2 ([ad]: (List bY))).bind fun ag=>(mg N ag o.1).bind fun ah=>(bif ah then ((app 40 o.2 ([ad]: (List bY))).bind fun dH=>some dH) else (some o.2)).bind fun ai=>some (o.1,ai):Option ((List Int)×(List bY)))) (ae,([]: (List bY)))).bind fun o=>some (o.2,0))))
def eT (N:Nat) (p0:Int) (p1h_5: (List aH)):Option (Bool):=
 (jw N p0 0 (IntKind.wrap .i64 ((p1h_5.length:Int) - 1))).bind fun j=>some j
def lF (N:Nat) (p0: (List bY)) (p1:bY):Option (Int):=
 (pI p0.length (fun(j:Nat) (o:Unit)=>((idx p0 (j:Int)).bind fun aa=>bif (decide (p1=aa)) then (some (.rt (j:Int))) else (some (.nx ())):Option (Fl (Unit) Int))) ()).bind fun ab=>ab.cs (fun(o:Unit)=>some (-1)) (fun r=>some r)
def gG (N:Nat) (p0: (List bY)) (p1:bY):Option (Bool):=
 (lF N p0 p1).bind fun j=>some (decide (j>=0))
def hQ (N:Nat) (p0_0: (List (List aI))) (p0_1: (List aI)) (p0_2: (List bU)) (p0_3: (List cV)) (p0_4: (List (List aA))) (p0_5: (List aH)) (p0_6: (List (List Int))) (p0_7: (List cL)) (p0_8: (List Int)) (p0_9: (List Int)) (p0_10: (List Int)) (p0_11: (List dO)) (p1: (List bY)):Option (Int):=
 bif (decide ((p1.length:Int)>20)) then (some 2) else ((pI p1.length (fun(o:Nat) (aa:Unit)=>((idx p1 (o:Int)).bind fun j=>(bif (j.Open&&((j.A != 0)||(j.B != 0))) then (some true) else (bif (!j.Open) then (some (!(decide (j.dO= (⟨false,0⟩:dO))))) else (some false))).bind fun ab=>bif ab then (some (.rt 3)) else (((eT N j.A p0_5).bind fun dH=>bif dH then ((eT N j.B p0_5).bind fun ad=>some ad) else (some false)).bind fun ae=>(bif j.Open then ((eT N j.dO.Number p0_5).bind fun af=>some af) else (some ae)).bind fun ag=>(bif (j.Open&&j.dO.bU) then (((jw N j.dO.Number 0 (IntKind.wrap .i64 ((p0_2.length:Int) - 1))).bind fun ah=>bif ah then ((idx p0_2 j.dO.Number).bind fun ai=>some ai.gA) else (some false)).bind fun aj=>some aj) else (some ag)).bind fun ak=>bif (!ak) then (some (.rt 9)) else (bif ((!j.Open)&&(decide (j.B<=j.A))) then (some (.rt 8)) else ((rK p1 0 (o:Int)).bind fun al=>(gG N al j).bind fun an=>bif an then (some (.rt 7)) else (some (.nx ()))))):Option (Fl (Unit) Int))) ()).bind fun ao=>ao.cs (fun(aa:Unit)=>some 0) (fun r=>some r))
def eD (N:Nat) (p0: (List cV)) (p1:fD) (p2:cV->fD->Option Int):Option (Int×Bool):=
 (mY (fun(j:Int×Int)=>(bif (decide (j.1<j.2)) then ((idx p0 (IntKind.wrap .i64 (Int.fdiv (IntKind.wrap .u64 (IntKind.wrap .i64 (j.1+j.2))) 2))).bind fun aa=>(p2 aa p1).bind fun ab=>(bif (decide (ab<0)) then (some ((IntKind.wrap .i64 ((IntKind.wrap .i64 (Int.fdiv (IntKind.wrap .u64 (IntKind.wrap .i64 (j.1+j.2))) 2))+1)),j.2)) else (some (j.1,(IntKind.wrap .i64 (Int.fdiv (IntKind.wrap .u64 (IntKind.wrap .i64 (j.1+j.2))) 2))))).bind fun o=>some (.nx (o.1,o.2))) else (some (.br (j.1,j.2))):Option (Fl (Int×Int) Empty))) N (0,(p0.length:Int))).bind fun ad=>ad.cs (fun(j:Int×Int)=>(bif (decide (j.1< (p0.length:Int))) then ((idx p0 j.1).bind fun ae=>(p2 ae p1).bind fun af=>some (af==0)) else (some false)).bind fun ag=>some (j.1,ag)) (fun r=>r.elim)
def gm (N:Nat) (p0:cV) (p1:fD):Option (Int):=
 (ju N p0).bind fun j=>(fU N j p1).bind fun o=>some o
def jK (N:Nat) (p0:jT) (p1:fD):Option (Int):=
 (eD N p0.bH p1 (gm N)).bind fun j=>bif (!j.2) then (some (-1)) else (some j.1)
def dY (N:Nat) (p0:jT) (p1: (List bY)) (p2 p3:fD):Option (Bool×Int):=
 (fZ N p0).bind fun o=>Dx o.1 (bif (o.2 != 0) then (some (false,o.2)) else (none)) (fun(j: ((List (List aI))×(List aI)×(List bU)×(List cV)×(List (List aA))×(List aH)×(List (List Int))×(List cL)×(List Int)×(List Int)×(List Int)×(List dO)))=>bif (o.2 != 0) then (some (false,o.2)) else ((hQ N j.1 j.2.1 j.2.2.1 j.2.2.2.1 j.2.2.2.2.1 j.2.2.2.2.2.1 j.2.2.2.2.2.2.1 j.2.2.2.2.2.2.2.1 j.2.2.2.2.2.2.2.2.1 j.2.2.2.2.2.2.2.2.2.1 j.2.2.2.2.2.2.2.2.2.2.1 j.2.2.2.2.2.2.2.2.2.2.2 p1).bind fun ad=>bif (ad != 0) then (some (false,ad)) else ((jK N p0 p2).bind fun aa=>(jK N p0 p3).bind fun ae=>bif ((decide (aa<0))||(decide (ae<0))) then (some (false,9)) else ((dL N j.2.2.1 j.2.2.2.1 j.2.2.2.2.2.1 j.2.2.2.2.2.2.1 j.2.2.2.2.2.2.2.2.2.2.1 j.2.2.2.2.2.2.2.2.2.2.2 p1).bind fun ab=>((idx ab aa).bind fun af=>bif (decide (af>=0)) then ((idx ab aa).bind fun ag=>(idx ab ae).bind fun ah=>some (ag==ah)) else (some false)).bind fun ai=>some (ai,0)))))
def eL (N:Nat):Option (Bool):=
 (dY N (⟨([([(⟨0,0,1,1⟩:aI)]: (List aI))]: (List (List aI))),([]: (List aI)),([]: (List bU)),([(⟨⟨[97]⟩,⟨[49]⟩,0,⟨0,0⟩⟩:cV)]: (List cV))⟩:jT) ([]: (List bY)) (⟨⟨[97]⟩,⟨[49]⟩⟩:fD) (⟨⟨[97]⟩,⟨[49]⟩⟩:fD)).bind fun j=>some ((j.2==0)&&j.1)
def cD (N:Nat) (p0:jT) (p1 p2:Int) (p3 p4:fD):Option (Bool):=
 (gF N p0 p1).bind fun j=>(bif ((j.2 != 0)||(decide (p2<0))) then (some true) else (bif (decide (p2>=(j.1.length:Int))) then (some true) else (some (decide (p3=p4))))).bind fun ab=>bif ab then ((bif (j.2==0) then ((eL N).bind fun ad=>some ad) else (bif ((j.1.length:Int)==0) then ((eL N).bind fun ae=>some ae) else (some false))).bind fun af=>some af) else ((dY N p0 ([]: (List bY)) p3 p4).bind fun o=>(idx j.1 p2).bind fun ag=>(dY N p0 ([ag]: (List bY)) p3 p4).bind fun aa=>(bif (o.2==aa.2) then (bif (o.1==aa.1) then ((eL N).bind fun ah=>some ah) else (some false)) else (some false)).bind fun ai=>some ai)
end
end Go.Gk
namespace Go.Gk
open Go
def pg {R:Type} (m:Nat) (e:Nat->Option R):Option R:=(List.range m).findSome? e
theorem ji {R:Type} {m:Nat} {e:Nat->Option R}:pg m e=none↔∀k,k<m->e k=none:=by
 simp [pg]
theorem ll {R:Type} {m:Nat} {e:Nat->Option R} {r:R}:pg m e=some r↔∃k,k<m/\e k=some r/\∀j,j<k->e j=none:=by
 constructor
 ·intro h
  obtain⟨l1,a,l2,hl,ha,hn⟩:=List.findSome?_eq_some_iff.1 h
  have hlen:l1.length<m:=by have:=congrArg List.length hl;simp at this;omega
  have hget: ∀i,i<l1.length->l1[i]? =some i:=fun i hi=>by
   have:=congrArg (·[i]?) hl
   simp only [fy hi,List.getElem?_range (show i<m by omega)] at this
   exact this.symm
  have hat:a=l1.length:=by
   have:=congrArg (·[l1.length]?) hl
   simp [List.getElem?_range hlen] at this
   exact this.symm
  refine⟨a,by omega,ha,fun j hj=>hn j ?_⟩
  exact gw (hget j (by omega))
 ·rintro⟨k,hk,he,hn⟩
  refine List.findSome?_eq_some_iff.2 ⟨List.range k,k,(List.range (m - k - 1)).map (· + (k+1)),?_,he,fun x hx=>hn x (i5.1 hx)⟩
  refine List.ext_getElem? fun i=>?_
  by_cases h1:i<k
  ·rw [fy (by simpa using h1),List.getElem?_range (by omega),List.getElem?_range h1]
  ·rw [eW (by simpa using h1),List.length_range]
   by_cases h2:i=k
   ·subst h2;simp [List.getElem?_range hk]
   ·obtain⟨d,rfl⟩: ∃d,i=k+1+d:=⟨i - (k+1),by omega⟩
    rw [show k+1+d - k=d+1 by omega,List.getElem?_cons_succ,gX]
    by_cases h3:k+1+d<m
    ·rw [List.getElem?_range h3,List.getElem?_range (by omega)];simp;omega
    ·rw [List.getElem?_eq_none (by simp;omega),List.getElem?_eq_none (by simp;omega)];rfl
section
variable {S R:Type}
def CK (o:Option R) (s:S):Fl S R:=match o with | some r=> .rt r | none=> .nx s
def Bh (o:Option R) (s:S):Fo S R:=match o with | some r=> .rt r | none=> .go s
theorem z9 {body:Nat->S->Option (Fl S R)} (F:Nat->S) (e:Nat->Option R) (m:Nat): ∀(n k:Nat),k+n=m->
  (∀j,k<=j->j<m->(∀i,k<=i->i<j->e i=none)->body j (F j)=some (CK (e j) (F (j+1))))->
  ∃o,yn body n k (F k)=some o/\((∀j,k<=j->j<m->e j=none)/\o = .go (F m)\/∃j r,k<=j/\j<m/\e j=some r/\(∀i,k<=i->i<j->e i=none)/\o = .rt r)
 | 0,k,hk,_=>⟨_,rfl, .inl ⟨fun j h1 h2=>by omega,by rw [show k=m by omega]⟩⟩
 | n+1,k,hk,h=>by
  have hb:=h k (bL _) (by omega) (fun i h1 h2=>by omega)
  unfold yn
  rw [hb]
  cases hx:e k with
  | some r=>exact⟨_,rfl, .inr ⟨k,r,bL _,by omega,hx,fun i h1 h2=>by omega,rfl⟩⟩
  | none=>
   obtain⟨o,ho,hc⟩:=z9 F e m n (k+1) (by omega) (fun j h1 h2 h3=>h j (by omega) h2 fun i h4 h5=>by
    by_cases h6:i=k
    ·subst h6;exact hx
    ·exact h3 i (by omega) h5)
   refine⟨o,ho,?_⟩
   rcases hc with ⟨h1,h2⟩ | ⟨j,r,h1,h2,h3,h4,h5⟩
   ·refine .inl ⟨fun j h3 h4=>?_,h2⟩
    by_cases h6:j=k
    ·subst h6;exact hx
    ·exact h1 j (by omega) h4
   ·refine .inr ⟨j,r,by omega,h2,h3,fun i h6 h7=>?_,h5⟩
    by_cases h8:i=k
    ·subst h8;exact hx
    ·exact h4 i (by omega) h7
theorem Fx {body:Nat->S->Option (Fl S R)} {m:Nat} {s:S} (F:Nat->S) (e:Nat->Option R) (hm:m<=4611686018427387904) (hs:F 0=s)
  (h: ∀k,k<m->(∀i,i<k->e i=none)->body k (F k)=some (CK (e k) (F (k+1)))):pI m body s=some (Bh (pg m e) (F m)):=by
 subst hs
 unfold pI
 rw [aD hm]
 obtain⟨o,ho,hc⟩:=z9 F e m m 0 (by omega) (fun j _ h2 h3=>h j h2 fun i hi=>h3 i (nS _) hi)
 rw [ho]
 rcases hc with ⟨h1,h2⟩ | ⟨j,r,_,h2,h3,h4,h5⟩
 ·rw [ji.2 fun k hk=>h1 k (nS _) hk,h2];rfl
 ·rw [ll.2 ⟨j,h2,h3,fun i hi=>h4 i (nS _) hi⟩,h5];rfl
theorem mi {body:Nat->Unit->Option (Fl Unit R)} {m:Nat} (e:Nat->Option R) (hm:m<=4611686018427387904)
  (h: ∀k,k<m->(∀i,i<k->e i=none)->body k ()=some (CK (e k) ())):pI m body ()=some (Bh (pg m e) ()):=
 Fx (fun _=>()) e hm rfl h
theorem Aa {body:Nat->S->Option S} (F:Nat->S): ∀(n k:Nat),(∀j,k<=j->j<k+n->body j (F j)=some (F (j+1)))->AQ body n k (F k)=some (F (k+n))
 | 0,_,_=>rfl
 | n+1,k,h=>by
  unfold AQ
  rw [h k (bL _) (by omega)]
  have:=Aa F n (k+1) (fun j h1 h2=>h j (by omega) (by omega))
  rw [show k+ (n+1)=k+1+n by omega]
  exact this
theorem yP {body:Nat->S->Option S} {m:Nat} {s:S} (F:Nat->S) (hm:m<=4611686018427387904) (hs:F 0=s)
  (h: ∀k,k<m->body k (F k)=some (F (k+1))):iT m body s=some (F m):=by
 subst hs
 unfold iT
 rw [aD hm]
 have:=Aa F m 0 (fun j _ h2=>h j (by omega))
 rwa [fN] at this
theorem tt {body:S->Option (Fl S R)} (Inv:S->Prop) (μ:S->Nat) (Go:S->Prop) (Rt:R->Prop)
  (h: ∀s,Inv s->∃fl,body s=some fl/\match fl with | .nx s'=>Inv s'/\μ s'<μ s | .br s'=>Go s' | .rt r=>Rt r):
  ∀(N:Nat) (s:S),Inv s->μ s<N->∃o,mY body N s=some o/\match o with | .go s'=>Go s' | .rt r=>Rt r
 | 0,s,_,hn=>by omega
 | N+1,s,hi,hn=>by
  obtain⟨fl,hb,hf⟩:=h s hi
  unfold mY
  rw [hb]
  cases fl with
  | nx s'=>exact tt Inv μ Go Rt h N s' hf.1 (by have:=hf.2;omega)
  | br s'=>exact⟨_,rfl,hf⟩
  | rt r=>exact⟨_,rfl,hf⟩
theorem Ab {body:Nat->S->Option (Fl S R)} (Inv:Nat->S->Prop) (Go:S->Prop) (Rt:R->Prop) (m:Nat)
  (h: ∀k s,k<m->Inv k s->∃fl,body k s=some fl/\match fl with | .nx s'=>Inv (k+1) s' | .br s'=>Go s' | .rt r=>Rt r) (hg: ∀s,Inv m s->Go s):
  ∀(n k:Nat) (s:S),k+n=m->Inv k s->∃o,yn body n k s=some o/\match o with | .go s'=>Go s' | .rt r=>Rt r
 | 0,k,s,hk,hi=>⟨_,rfl,hg s (by rw [<-hk];exact hi)⟩
 | n+1,k,s,hk,hi=>by
  obtain⟨fl,hb,hf⟩:=h k s (by omega) hi
  unfold yn
  rw [hb]
  cases fl with
  | nx s'=>exact Ab Inv Go Rt m h hg n (k+1) s' (by omega) hf
  | br s'=>exact⟨_,rfl,hf⟩
  | rt r=>exact⟨_,rfl,hf⟩
theorem Fy {body:Nat->S->Option (Fl S R)} {m:Nat} {s:S} (Inv:Nat->S->Prop) (Go:S->Prop) (Rt:R->Prop) (hm:m<=4611686018427387904) (h0:Inv 0 s)
  (h: ∀k s,k<m->Inv k s->∃fl,body k s=some fl/\match fl with | .nx s'=>Inv (k+1) s' | .br s'=>Go s' | .rt r=>Rt r) (hg: ∀s,Inv m s->Go s):
  ∃o,pI m body s=some o/\match o with | .go s'=>Go s' | .rt r=>Rt r:=by
 unfold pI
 rw [aD hm]
 exact Ab Inv Go Rt m h hg m 0 s (by omega) h0
theorem Ac {body:Nat->S->Option S} (Inv:Nat->S->Prop) (m:Nat) (h: ∀k s,k<m->Inv k s->∃s',body k s=some s'/\Inv (k+1) s'):
  ∀(n k:Nat) (s:S),k+n=m->Inv k s->∃s',AQ body n k s=some s'/\Inv m s'
 | 0,k,s,hk,hi=>⟨_,rfl,by rw [<-hk];exact hi⟩
 | n+1,k,s,hk,hi=>by
  obtain⟨s',hb,hf⟩:=h k s (by omega) hi
  unfold AQ
  rw [hb]
  exact Ac Inv m h n (k+1) s' (by omega) hf
theorem vF {body:Nat->S->Option S} {m:Nat} {s:S} (Inv:Nat->S->Prop) (hm:m<=4611686018427387904) (h0:Inv 0 s)
  (h: ∀k s,k<m->Inv k s->∃s',body k s=some s'/\Inv (k+1) s'): ∃s',iT m body s=some s'/\Inv m s':=by
 unfold iT
 rw [aD hm]
 exact Ac Inv m h m 0 s (by omega) h0
end
section
variable {α β:Type}
theorem aB (x:α) (f:α->Option β): (some x).bind f=f x:=rfl
theorem i7 (l:List α) (k:Nat) (h:k<l.length):idx l ((k:Nat):Int)=some l[k]:=by
 unfold idx;rw [aD (by omega),bO,aJ h]
theorem dN {l:List α} {k:Nat} {x:α} (h:l[k]? =some x):idx l ((k:Nat):Int)=some x:=by
 unfold idx;rw [aD (by omega),bO,h]
theorem D1 (s:dC) (k:Nat) (h:k<s.cK.length):Cl s ((k:Nat):Int)=some s.cK[k]:=by
 unfold Cl;rw [aD (by omega),bO,aJ h]
theorem lW {k:Nat} (h:0<k) (hk:k<=4611686018427387904):IntKind.wrap .i64 (((k:Nat):Int) - 1)= ((k - 1:Nat):Int):=by
 rw [eJ (by omega) (by omega)];omega
theorem tu (l:List α) (k:Nat) (h:k<=l.length):rK l 0 ((k:Nat):Int)=some (l.take k):=by
 unfold rK;rw [aD ⟨by omega,by omega,by omega⟩]
 simp only [Int.toNat_zero,List.drop_zero,Int.sub_zero,bO]
theorem tv (l:List α) (k:Nat) (h:k<=l.length):rK l ((k:Nat):Int) ((l.length:Nat):Int)=some (l.drop k):=by
 unfold rK;rw [aD ⟨by omega,by omega,by omega⟩]
 simp only [bO,Option.some.injEq]
 rw [nR];rw [gr];omega
theorem gV {b:Nat} {l ys:List α} (h: (l.length+ys.length)*b<=140737488355328):app b l ys=some (l++ys):=by unfold app;rw [aD h]
theorem ph {b:Nat} (z:α) {n:Nat} (h:n*b<=140737488355328):mk b z ((n:Nat):Int)=some (List.replicate n z):=by
 unfold mk
 have e: ((n:Nat):Int)* ((b:Nat):Int)= ((n*b:Nat):Int):=(Int.natCast_mul n b).symm
 rw [e]
 generalize n*b=q at h ⊢
 rw [aD ⟨by omega,by omega⟩,bO]
end
theorem dC.ext' {a b:dC} (h:a.cK=b.cK):a=b:=by cases a;cases b;simp at h;rw [h]
theorem Fz {a b:dC}:a.AO b=true↔a=b:=by
 unfold dC.AO;rw [beq_iff_eq];exact⟨dC.ext',fun h=>by rw [h]⟩
theorem vd: ∀(a:List UInt8),Op.bytesLess a a=false
 | []=>rfl
 | a::l=>by
  unfold Op.bytesLess
  rw [vd l];simp
theorem wk: ∀{a b c:List UInt8},Op.bytesLess a b=true->Op.bytesLess b c=true->Op.bytesLess a c=true
 | [],[],_,h,_=>by simp [Op.bytesLess] at h
 | [],_::_,[],_,h=>by simp [Op.bytesLess] at h
 | [],_::_,_::_,_,_=>rfl
 | _::_,[],_,h,_=>by simp [Op.bytesLess] at h
 | _::_,_::_,[],_,h=>by simp [Op.bytesLess] at h
 | a::l,b::m,c::n,h1,h2=>by
  unfold Op.bytesLess at h1 h2 ⊢
  simp only [dP,bJ,bI,beq_iff_eq] at h1 h2 ⊢
  rcases h1 with h1 | ⟨rfl,h1⟩
  ·rcases h2 with h2 | ⟨rfl,h2⟩
   ·exact .inl (UInt8.lt_trans h1 h2)
   ·exact .inl h1
  ·rcases h2 with h2 | ⟨rfl,h2⟩
   ·exact .inl h2
   ·exact .inr ⟨rfl,wk h1 h2⟩
theorem wm: ∀(a b:List UInt8),Op.bytesLess a b=true\/a=b\/Op.bytesLess b a=true
 | [],[]=> .inr (.inl rfl)
 | [],_::_=> .inl rfl
 | _::_,[]=> .inr (.inr rfl)
 | a::l,b::m=>by
  unfold Op.bytesLess
  simp only [dP,bJ,bI,beq_iff_eq]
  by_cases h1:a<b
  ·exact .inl (.inl h1)
  ·by_cases h2:b<a
   ·exact .inr (.inr (.inl h2))
   ·have e:a=b:=by
     simp only [UInt8.lt_iff_toNat_lt] at h1 h2
     exact UInt8.toNat_inj.1 (by omega)
    subst e
    rcases wm l m with h | h | h
    ·exact .inl (.inr ⟨rfl,h⟩)
    ·exact .inr (.inl (by rw [h]))
    ·exact .inr (.inr (.inr ⟨rfl,h⟩))
theorem sm: ∀(a b:List UInt8),Lib.compareBytes a b<0↔Op.bytesLess a b=true
 | [],[]=>by simp [Lib.compareBytes,Op.bytesLess]
 | [],_::_=>by simp [Lib.compareBytes,Op.bytesLess]
 | _::_,[]=>by simp [Lib.compareBytes,Op.bytesLess]
 | a::l,b::m=>by
  unfold Lib.compareBytes Op.bytesLess
  simp only [dP,bJ,bI,beq_iff_eq]
  split
  ·simp_all
  ·rename_i h1
   split
   ·rename_i h2
    have h3:a≠b:=fun e=>by subst e;exact h1 h2
    simp [h1,h3]
   ·rename_i h2
    have e:a=b:=by
     simp only [UInt8.lt_iff_toNat_lt] at h1 h2
     exact UInt8.toNat_inj.1 (by omega)
    subst e
    rw [sm l m];simp [h1]
theorem sq: ∀(a b:List UInt8),Lib.compareBytes a b=0↔a=b
 | [],[]=>by simp [Lib.compareBytes]
 | [],_::_=>by simp [Lib.compareBytes]
 | _::_,[]=>by simp [Lib.compareBytes]
 | a::l,b::m=>by
  unfold Lib.compareBytes
  split
  ·rename_i h1
   have h3:a≠b:=fun e=>by subst e;exact absurd h1 (by simp)
   simp [h3]
  ·rename_i h1
   split
   ·rename_i h2
    have h3:a≠b:=fun e=>by subst e;exact h1 h2
    simp [h3]
   ·rename_i h2
    have e:a=b:=by
     simp only [UInt8.lt_iff_toNat_lt] at h1 h2
     exact UInt8.toNat_inj.1 (by omega)
    subst e
    rw [sq l m];simp
def dC.lt (a b:dC):Prop:=a.Gb b=true
theorem dC.lt_irrefl (a:dC): ¬dC.lt a a:=by unfold dC.lt dC.Gb;rw [vd];decide
theorem dC.lt_trans {a b c:dC} (h1:dC.lt a b) (h2:dC.lt b c):dC.lt a c:=wk h1 h2
theorem dC.Ad (a b:dC):dC.lt a b\/a=b\/dC.lt b a:=by
 rcases wm a.cK b.cK with h | h | h
 ·exact .inl h
 ·exact .inr (.inl (dC.ext' h))
 ·exact .inr (.inr h)
theorem dC.F4 {a b:dC} (h:dC.lt a b):a≠b:=fun e=>by subst e;exact dC.lt_irrefl a h
end Go.Gk
namespace Go.Gk
open Go
class Bk (α:Type) where
 bk:α->Nat
 pos: ∀x,1<=bk x
def bk {α:Type} [Bk α] (x:α):Nat:=Bk.bk x
theorem D2 {α:Type} [Bk α] (x:α):1<=bk x:=Bk.pos x
instance:Bk dC:=⟨fun s=>s.cK.length+1,fun _=>by omega⟩
instance:Bk Int:=⟨fun _=>1,fun _=>by omega⟩
instance:Bk Bool:=⟨fun _=>1,fun _=>by omega⟩
instance {α:Type} [Bk α]:Bk (List α):=⟨fun l=>(l.map bk).sum+1,fun _=>by omega⟩
theorem D3 {α:Type} [Bk α]:bk ([]:List α)=1:=rfl
theorem yQ {α:Type} [Bk α] (x:α) (l:List α):bk (x::l)=bk x+bk l:=by
 show (List.map bk (x::l)).sum+1=bk x+ ((List.map bk l).sum+1)
 simp;omega
theorem Bi {α:Type} [Bk α]: ∀{l:List α} {x:α},x∈l->bk x+1<=bk l
 | y::l,x,h=>by
  rw [yQ]
  rcases f9.1 h with h | h
  ·subst h;have:=D2 l;omega
  ·have:=Bi h;omega
theorem uF {α:Type} [Bk α]: ∀(l:List α),l.length+1<=bk l
 | []=>by rw [D3];simp
 | x::l=>by rw [yQ,jP];have:=uF l;have:=D2 x;omega
theorem D4 (s:dC):bk s=s.cK.length+1:=rfl
section
variable {α R:Type}
theorem CL {l:List α} {e:Nat->Option R} (f:α->Option R) (h: ∀k x,l[k]? =some x->e k=f x):pg l.length e=l.findSome? f:=by
 cases hx:pg l.length e with
 | none=>
  refine(List.findSome?_eq_none_iff.2 fun x hm=>?_).symm
  obtain⟨k,hk⟩:=fP hm
  rw [<-h k x hk];exact ji.1 hx k (aW.1 hk).1
 | some r=>
  obtain⟨k,hk,he,hn⟩:=ll.1 hx
  refine(List.findSome?_eq_some_iff.2 ⟨l.take k,l[k],l.drop (k+1),?_,?_,fun y hy=>?_⟩).symm
  ·rw [<-qR hk,List.take_append_drop]
  ·rw [<-h k l[k] (aJ hk)];exact he
  ·obtain⟨j,hj⟩:=fP hy
   have hjk:j<k:=by have:=(aW.1 hj).1;rw [cY] at this;omega
   rw [List.getElem?_take_of_lt hjk] at hj
   rw [<-h j y hj];exact hn j hjk
theorem yR (l:List α) (p:α->Bool) (r:R):l.findSome? (fun x=>if p x=true then some r else none)=if l.any p=true then some r else none:=by
 induction l with
 | nil=>simp
 | cons x l ih=>
  rw [List.findSome?_cons,List.any_cons]
  cases h:p x <;> simp [ih]
theorem wo {l:List α} {body:Nat->Unit->Option (Fl Unit R)} (f:α->Option R) (hl:l.length<=4611686018427387904)
  (h: ∀k x,l[k]? =some x->body k ()=some (CK (f x) ())):pI l.length body ()=some (Bh (l.findSome? f) ()):=by
 have h2:=mi (body:=body) (m:=l.length) (fun k=>(l[k]?).bind f) hl (fun k hk _=>by
  rw [h k l[k] (aJ hk),aJ hk];rfl)
 rw [h2,CL f (fun k x hx=>by rw [hx];rfl)]
theorem FA {l:List α} {body:Nat->Unit->Option (Fl Unit R)} (p:α->Bool) (r:R) (hl:l.length<=4611686018427387904)
  (h: ∀k x,l[k]? =some x->body k ()=some (if p x=true then .rt r else .nx ())):pI l.length body ()=some (if l.any p=true then .rt r else .go ()):=by
 rw [wo (fun x=>if p x=true then some r else none) hl (fun k x hx=>by rw [h k x hx];cases p x <;> rfl),yR]
 cases l.any p <;> rfl
end
theorem FB {β:Type} (b:Bool) (x y:β): (bif b then some x else some y)=some (bif b then x else y):=by cases b <;> rfl
section
variable {α β:Type}
def BY (l:List α) (p:α->Bool):Int:=match l.findIdx? p with | some k=>((k:Nat):Int) | none=> -1
theorem D5 {l:List α} {p:α->Bool} (h:l.any p=false):BY l p = -1:=by
 unfold BY
 rw [List.findIdx?_eq_none_iff.2]
 intro x hx
 rw [<-nQ]
 intro hp
 rw [<-nQ] at h
 exact h (kr.2 ⟨x,hx,hp⟩)
theorem D6 {l:List α} {p:α->Bool} {k:Nat} {x:α} (hk:l[k]? =some x) (hp:p x=true) (hn: ∀j y,j<k->l[j]? =some y->p y=false):BY l p= ((k:Nat):Int):=by
 unfold BY
 have hlt:=(aW.1 hk).1
 have:l.findIdx? p=some k:=by
  rw [List.findIdx?_eq_some_iff_getElem]
  refine⟨hlt,?_,fun j hj=>?_⟩
  ·have:=aJ hlt;rw [hk] at this;injection this with this;rw [<-this];exact hp
  ·have:=hn j l[j] hj (aJ (by omega));simpa using this
 rw [this]
theorem qY (l:List α) (p:α->Bool): (BY l p = -1/\∀x∈l,p x=false)\/∃k x,BY l p= ((k:Nat):Int)/\l[k]? =some x/\p x=true/\∀j y,j<k->l[j]? =some y->p y=false:=by
 unfold BY
 cases h:l.findIdx? p with
 | none=>exact .inl ⟨rfl,fun x hx=>by have:=List.findIdx?_eq_none_iff.1 h x hx;simpa using this⟩
 | some k=>
  obtain⟨hk,hp,hn⟩:=List.findIdx?_eq_some_iff_getElem.1 h
  refine .inr ⟨k,l[k],rfl,aJ hk,hp,fun j y hj hy=>?_⟩
  have:=hn j hj
  rw [aJ (by omega)] at hy
  injection hy with hy
  subst hy;simpa using this
theorem D7 (l:List α) (p:α->Bool):decide (BY l p>=0)=l.any p:=by
 rcases qY l p with ⟨h,hn⟩ | ⟨k,x,h,hx,hp,_⟩
 ·rw [h,List.any_eq_false.2 (fun x hx=>by rw [hn x hx];decide)];decide
 ·rw [h,kr.2 ⟨x,gw hx,hp⟩];simp
def pj (p0:List α) (p1:α->Option Bool):Option Int:=
 (pI p0.length (fun(k1:Nat) (_:Unit)=>((idx p0 ((k1:Nat):Int)).bind fun x7=>(p1 x7).bind fun x10=>bif x10 then (some (.rt ((k1:Nat):Int))) else (some (.nx ())):Option (Fl (Unit) Int))) ()).bind fun o11=>o11.cs (fun(_:Unit)=>some (-1)) (fun r=>some r)
theorem oj {l:List α} {φ:α->Option Bool} (p:α->Bool) (hl:l.length<=4611686018427387904) (h: ∀x∈l,φ x=some (p x)):pj l φ=some (BY l p):=by
 unfold pj
 rw [mi (fun k=>(l[k]?).bind fun x=>if p x=true then some ((k:Nat):Int) else none) hl (fun k hk _=>by
  rw [i7 l k hk,aB,h _ (cJ hk),aB,aJ hk]
  cases hp:p l[k] <;> simp [CK,hp]),aB]
 rcases qY l p with ⟨h1,h2⟩ | ⟨k,x,h1,h2,h3,h4⟩
 ·rw [ji.2 (fun k hk=>by rw [aJ hk];simp [h2 _ (cJ hk)])]
  simp [Bh,Fo.cs,h1]
 ·rw [(ll (r:=((k:Nat):Int))).2 ⟨k,(aW.1 h2).1,by rw [h2];simp [h3],fun j hj=>by
   cases hy:l[j]? with
   | none=>rfl
   | some y=>simp [h4 j y hj hy]⟩]
  simp [Bh,Fo.cs,h1]
def oq (p0:List α) (p1:α->Option Bool):Option Bool:=
 (pj p0 p1).bind fun x1=>some (decide (x1>=0))
theorem oM {l:List α} {φ:α->Option Bool} (p:α->Bool) (hl:l.length<=4611686018427387904) (h: ∀x∈l,φ x=some (p x)):oq l φ=some (l.any p):=by
 unfold oq
 rw [oj p hl h,aB,D7]
def D8 [DecidableEq α] (p0:List α) (p1:α):Option Int:=
 (pI p0.length (fun(k2:Nat) (_:Unit)=>((idx p0 ((k2:Nat):Int)).bind fun x12=>bif (decide (p1=x12)) then (some (.rt ((k2:Nat):Int))) else (some (.nx ())):Option (Fl (Unit) Int))) ()).bind fun o18=>o18.cs (fun(_:Unit)=>some (-1)) (fun r=>some r)
theorem CM [DecidableEq α] {l:List α} {a:α} (hl:l.length<=4611686018427387904):D8 l a=some (BY l (fun x=>decide (a=x))):=by
 have:=oj (l:=l) (φ:=fun x=>some (decide (a=x))) (fun x=>decide (a=x)) hl (fun _ _=>rfl)
 rw [<-this];rfl
def uG [DecidableEq α] (p0:List α) (p1:α):Option Bool:=(D8 p0 p1).bind fun x3=>some (decide (x3>=0))
theorem yS [DecidableEq α] {l:List α} {a:α} (hl:l.length<=4611686018427387904):uG l a=some (decide (a∈l)):=by
 unfold uG
 rw [CM hl,aB,D7,Option.some.injEq,fz]
 simp
def Bj [DecidableEq α] (p0 p1:List α):Option Bool:=
 bif (((p0.length:Nat):Int) != ((p1.length:Nat):Int)) then (some false) else ((pI p0.length (fun(k1:Nat) (_:Unit)=>((idx p0 ((k1:Nat):Int)).bind fun x13=>(idx p1 ((k1:Nat):Int)).bind fun x16=>bif (!(decide (x13=x16))) then (some (.rt false)) else (some (.nx ())):Option (Fl (Unit) Bool))) ()).bind fun o23=>o23.cs (fun(_:Unit)=>some true) (fun r=>some r))
theorem xV [DecidableEq α] {l m:List α} (hl:l.length<=4611686018427387904):Bj l m=some (decide (l=m)):=by
 unfold Bj
 by_cases h:l.length=m.length
 ·have e: (((l.length:Nat):Int) != ((m.length:Nat):Int))=false:=by rw [h];simp
  rw [e,aR]
  rw [mi (fun k=>if l[k]? =m[k]? then none else some false) hl (fun k hk _=>by
   rw [i7 l k hk,aB,i7 m k (by omega),aB,aJ hk,aJ (by omega:k<m.length)]
   by_cases hx:l[k]=m[k] <;> simp [CK,hx]),aB]
  by_cases hx:l=m
  ·subst hx;rw [ji.2 (fun k _=>aD rfl)];simp [Bh,Fo.cs]
  ·have: ∃r,pg l.length (fun k=>if l[k]? =m[k]? then none else some false)=some r:=by
    cases hf:pg l.length (fun k=>if l[k]? =m[k]? then none else some false) with
    | some r=>exact⟨r,rfl⟩
    | none=>
     exfalso;refine hx (List.ext_getElem? fun i=>?_)
     by_cases hi:i<l.length
     ·have:=ji.1 hf i hi
      by_cases h6:l[i]? =m[i]?
      ·exact h6
      ·rw [aC h6] at this;cases this
     ·rw [List.getElem?_eq_none (by omega),List.getElem?_eq_none (by omega)]
   obtain⟨r,hr⟩:=this
   have hr2:r=false:=by
    obtain⟨k,_,hk,_⟩:=ll.1 hr
    split at hk
    ·cases hk
    ·injection hk with hk;exact hk.symm
   rw [hr,hr2];simp [Bh,Fo.cs,hx]
 ·have e: (((l.length:Nat):Int) != ((m.length:Nat):Int))=true:=by simp;omega
  rw [e,aO,bC (fun h'=>h (by rw [h']))]
def D9 (key:α->dC) (l:List α):Prop:=∀(i j:Nat) (x y:α),i<j->l[i]? =some x->l[j]? =some y->dC.lt (key x) (key y)
theorem D9.inj {key:α->dC} {l:List α} (h:D9 key l) {i j:Nat} {x y:α} (hx:l[i]? =some x) (hy:l[j]? =some y) (e:key x=key y):i=j:=by
 rcases Nat.lt_trichotomy i j with h1 | h1 | h1
 ·exact absurd e (dC.F4 (h i j x y h1 hx hy))
 ·exact h1
 ·exact absurd e.symm (dC.F4 (h j i y x h1 hy hx))
def Ea (N:Nat) (p0:List α) (p1:β) (p2:α->β->Option Int):Option (Int×Bool):=
 (mY (fun(s2:Int×Int)=>(bif (decide (s2.1<s2.2)) then ((idx p0 (IntKind.wrap .i64 (Int.fdiv (IntKind.wrap .u64 (IntKind.wrap .i64 (s2.1+s2.2))) 2))).bind fun x13=>(p2 x13 p1).bind fun x16=>(bif (decide (x16<0)) then (some ((IntKind.wrap .i64 ((IntKind.wrap .i64 (Int.fdiv (IntKind.wrap .u64 (IntKind.wrap .i64 (s2.1+s2.2))) 2))+1)),s2.2)) else (some (s2.1,(IntKind.wrap .i64 (Int.fdiv (IntKind.wrap .u64 (IntKind.wrap .i64 (s2.1+s2.2))) 2))))).bind fun s17=>some (.nx (s17.1,s17.2))) else (some (.br (s2.1,s2.2))):Option (Fl (Int×Int) Empty))) N (0,((p0.length:Nat):Int))).bind fun o29=>o29.cs (fun(s2:Int×Int)=>(bif (decide (s2.1< ((p0.length:Nat):Int))) then ((idx p0 s2.1).bind fun x25=>(p2 x25 p1).bind fun x28=>some (x28==0)) else (some false)).bind fun s23=>some (s2.1,s23)) (fun r=>r.elim)
theorem CN {a b:Nat} (h:a<b) (hb:b<=4611686018427387904):IntKind.wrap .i64 (Int.fdiv (IntKind.wrap .u64 (IntKind.wrap .i64 (((a:Nat):Int)+ ((b:Nat):Int)))) 2)= (((a+b) / 2:Nat):Int):=by
 rw [eJ (x:=((a:Nat):Int)+ ((b:Nat):Int)) (by omega) (by omega)]
 have e:IntKind.wrap .u64 (((a:Nat):Int)+ ((b:Nat):Int))= ((a+b:Nat):Int):=by
  show ((a:Int)+b) % 18446744073709551616=_
  omega
 rw [e,Int.fdiv_eq_ediv_of_nonneg _ (by omega),eJ (by omega) (by omega)]
 omega
end
end Go.Gk
namespace Go.Gk
open Go Go.ChangeShapes Go.WideShapes Go.RowKit
structure UB (ub: (H:Type)->DataW H->Nat) (ua: (H:Type)->List (DataW H)->Nat):Prop where
 str: ∀(H:Type) (b:List UInt8),ub H (.lit (.string b))=b.length+1
 pos: ∀(H:Type) (d:DataW H),1<=ub H d
 sl: ∀(H:Type) (e s:List (DataW H)),ub H (.slice e s)=ua H e+ua H s+1
 ag: ∀(H:Type) (l:List (DataW H)),ub H (.agg l)=ua H l+1
 nil: ∀(H:Type),ua H []=0
 cons: ∀(H:Type) (x:DataW H) (l:List (DataW H)),ua H (x::l)=ub H x+ua H l
def Hw (w:World):dE:=fun b=>w.heap[b]?
structure iv (ub: (H:Type)->DataW H->Nat) (P:Program) (T:TypeId) (α:Type) [GT α] [Bk α]:Prop where
 trod: ∀{H:Type} {enc:TypeId×Value->H} {w:World} {base:Nat} {spare:Nat->Bool} {held:Bool} {fuel:Nat} {cs:List Value} {d:DataW H×List MemPlace},
  DataW.trod enc P w base spare held fuel T cs=some d->∃x:α,GT.ok (Hw w) cs x/\bk x<=ub H d.1
 H2: ∀{w:World} {r:Reach} {base:Nat} {v:Value},Value.okWide P w r base T v->v=pU α v.cells.toList
section
variable {ub: (H:Type)->DataW H->Nat} {ua: (H:Type)->List (DataW H)->Nat} {P:Program} {T e:TypeId}
theorem CO (u:UB ub ua) (ht:P.underlying T=some (.int .i64)):iv ub P T Int where
 trod:=fun h=>by
  obtain⟨n,rfl,rfl,_⟩:=DataW.trod_int ht h
  exact⟨n,rfl,u.pos _ _⟩
 H2:=fun h=>by obtain⟨n,rfl⟩:=okWide_int ht h;rfl
theorem Bl (u:UB ub ua) (ht:P.underlying T=some .bool):iv ub P T Bool where
 trod:=fun h=>by
  obtain⟨n,rfl,rfl⟩:=DataW.trod_bool ht h
  exact⟨n,rfl,u.pos _ _⟩
 H2:=fun h=>by obtain⟨n,rfl⟩:=okWide_bool ht h;rfl
theorem CP (u:UB ub ua) (ht:P.underlying T=some .string):iv ub P T dC where
 trod:=fun h=>by
  obtain⟨s,rfl,rfl,_⟩:=DataW.trod_string ht h
  refine⟨⟨s.data.toList⟩,?_,?_⟩
  ·show [Value.string s]= [Gk.str ⟨s.data.toList⟩]
   cases s;rfl
  ·rw [u.str];exact bL _
 H2:=fun h=>by obtain⟨n,rfl⟩:=okWide_string ht h;rfl
theorem ve {α:Type} {R:Nat->α->Prop}: ∀(n:Nat),(∀i,i<n->∃x,R i x)->∃l:List α,l.length=n/\∀i x,l[i]? =some x->R i x
 | 0,_=>⟨[],rfl,fun i x h=>by simp at h⟩
 | n+1,h=>by
  obtain⟨l,h1,h2⟩:=ve n (fun i hi=>h i (by omega))
  obtain⟨x,hx⟩:=h n (by omega)
  refine⟨l++[x],by simp [h1],fun i y hy=>?_⟩
  by_cases hi:i<n
  ·rw [fy (by omega)] at hy;exact h2 i y hy
  ·have:=(aW.1 hy).1
   rw [dK] at this
   have:i=n:=by simp at this;omega
   subst this
   rw [eW (by omega),h1] at hy
   simp at hy;subst hy;exact hx
theorem xW {H α:Type} [Bk α] (u:UB ub ua): ∀{l:List α} {es:List (DataW H×List MemPlace)},l.length=es.length->
  (∀(i:Nat) (x:α) (y:DataW H×List MemPlace),l[i]? =some x->es[i]? =some y->bk x<=ub H y.1)->bk l<=ua H (es.map (·.1))+1
 | [],[],_,_=>by rw [D3];omega
 | x::l,y::es,hl,h=>by
  have h1:=h 0 x y rfl rfl
  have h2:=xW (H:=H) u (l:=l) (es:=es) (by simpa using hl) (fun i x y hx hy=>h (i+1) x y (by simpa using hx) (by simpa using hy))
  rw [yQ,eI,u.cons];omega
theorem Ae {w:World} {base:Nat} {a:Addr} {n:Nat} {cs:List Value} (h:w.cells? base a n=some cs):At (Hw w) a cs:=by
 intro j v hv
 obtain⟨_,hlen,hc⟩:=World.cells?_some h
 have hj:=(aW.1 hv).1
 have h2:=hc j (by omega)
 rw [hv] at h2
 unfold sV Hw
 unfold World.cell? at h2
 exact h2
theorem po {α:Type} [GT α] [Bk α] (u:UB ub ua) (he:iv ub P e α) (ht:P.underlying T=some (.slice e):=by kernel_rfl) (hc:P.cellsOf e=GT.sz α:=by kernel_rfl):iv ub P T (List α) where
 trod:=fun{H enc w base spare held fuel cs d} h=>by
  rcases DataW.trod_slice ht h with ⟨rfl,rfl⟩ | ⟨a,len,cap,elems,rest,n,_,rfl,rfl,_,hlc,hcm,hlen,hel,_⟩
  ·exact⟨[],⟨_,rfl,none,0,0,rfl,rfl,bL _,by simp [maxLen],fun i x hx=>by simp at hx⟩,u.pos _ _⟩
  ·have each: ∀i,i<len->∃x:α,(∃c y,GT.ok (Hw w) c x/\At (Hw w) (a.add (i*GT.sz α)) c/\elems[i]? =some y/\bk x<=ub H y.1):=by
    intro i hi
    have h1:=hel i hi
    rw [aJ (by omega:i<elems.length),Option.bind_eq_some_iff] at h1
    obtain⟨c,h2,h3⟩:=h1
    obtain⟨x,h4,h5⟩:=he.trod h3
    refine⟨x,c,_,h4,?_,aJ (by omega),h5⟩
    rw [hc] at h2
    exact Ae h2
   obtain⟨l,hl,hr⟩:=ve len each
   refine⟨l,⟨_,rfl,some a,len,cap,rfl,hl.symm,hlc,hcm,fun i x hx=>?_⟩,?_⟩
   ·obtain⟨c,y,h1,h2,_⟩:=hr i x hx
    exact⟨a,c,rfl,h1,h2⟩
   ·have:=xW (H:=H) u (l:=l) (es:=elems) (by omega) (fun i x y hx hy=>by
     obtain⟨c,y',_,_,h3,h4⟩:=hr i x hx
     rw [hy] at h3;injection h3 with h3;subst h3;exact h4)
    rw [u.sl];omega
 H2:=fun h=>by obtain⟨a,n,c,rfl⟩:=okWide_slice ht h;rfl
def BZ (ub: (H:Type)->DataW H->Nat) (ua: (H:Type)->List (DataW H)->Nat) (P:Program) (off:Nat) (fs:List Field) (β:Type) [GT β] (m:β->Nat):Prop:=
 ∀{H:Type} {enc:TypeId×Value->H} {w:World} {base:Nat} {spare:Nat->Bool} {held:Bool} {n:Nat} {cs:List Value} {ys:List (DataW H×List MemPlace)},
  (∀(i:Nat) (f:Field),fs[i]? =some f->DataW.trod enc P w base spare held n f.type ((cs.drop f.offset).take (P.cellsOf f.type))=ys[i]?)->ys.length=fs.length->
  cs.length=off+GT.sz β->∃x:β,GT.ok (Hw w) (cs.drop off) x/\m x<=ua H (ys.map (·.1))
theorem m5 {β:Type} [GT β] [Bk β] {off:Nat} {f:Field} (u:UB ub ua) (h:iv ub P f.type β) (ho:f.offset=off:=by exact rfl) (hc:P.cellsOf f.type=GT.sz β:=by kernel_rfl):BZ ub ua P off [f] β bk:=by
 intro H enc w base spare held n cs ys hf hl hcs
 match ys,hl with
 | [y],_=>
  have h1:=hf 0 f rfl
  rw [ho,hc,nR (by rw [gr];omega)] at h1
  obtain⟨x,h2,h3⟩:=h.trod (d:=y) h1
  exact⟨x,h2,by rw [eI,u.cons];omega⟩
theorem fG {α β:Type} [GT α] [GT β] [Bk α] {off off':Nat} {f:Field} {fs:List Field} {m:β->Nat} (u:UB ub ua) (h:iv ub P f.type α) (hr:BZ ub ua P off' fs β m) (ho:f.offset=off:=by exact rfl) (hc:P.cellsOf f.type=GT.sz α:=by kernel_rfl) (hoff:off'=off+GT.sz α:=by exact rfl):BZ ub ua P off (f::fs) (α×β) (fun x=>bk x.1+m x.2):=by
 intro H enc w base spare held n cs ys hf hl hcs
 have hsz:GT.sz (α×β)=GT.sz α+GT.sz β:=rfl
 match ys,hl with
 | y::ys,hl=>
  have h1:=hf 0 f rfl
  rw [ho,hc] at h1
  obtain⟨x,h2,h3⟩:=h.trod (d:=y) h1
  obtain⟨x',h4,h5⟩:=hr (n:=n) (cs:=cs) (ys:=ys) (fun i g hg=>hf (i+1) g hg) (by simpa using hl) (by omega)
  refine⟨(x,x'),⟨_,_,?_,h2,h4⟩,?_⟩
  ·rw [hoff,<-List.drop_drop,List.take_append_drop]
  ·rw [eI,u.cons];show bk x+m x'<=_;omega
theorem kC {γ β:Type} [GT β] [Bk γ] {fs:Array Field} {m:β->Nat} (u:UB ub ua) (f:γ->β) (g:β->γ) (hfg: ∀b,f (g b)=b) (ht:P.underlying T=some (.struct fs)) (h:BZ ub ua P 0 fs.toList β m) (hm: ∀b,bk (g b)<=m b+1) (hc:P.cellsOf T=GT.sz β:=by kernel_rfl): @iv ub P T γ (GT.via f) _:=
 @iv.mk ub P T γ (GT.via f) _
  (fun{H enc w base spare held fuel cs d} hd=>by
   obtain⟨xs,n,_,rfl,hl,hlen,hf⟩:=DataW.trod_struct ht hd
   obtain⟨b,h1,h2⟩:=h (n:=n) (cs:=cs) (ys:=xs) (fun i g hg=>hf i g (by rw [<-Array.getElem?_toList];exact hg)) (by rw [hlen];simp) (by omega)
   refine⟨g b,?_,?_⟩
   ·show GT.ok (Hw w) cs (f (g b))
    rw [hfg];exact h1
   ·rw [u.ag];have:=hm b;omega)
  (fun hv=>by
   obtain⟨cs,rfl,_⟩:=okWide_struct ht hv
   cases cs;rfl)
theorem iv.arg {H:Type} {enc:TypeId×Value->H} {w:World} {base:Nat} {spare:Nat->Bool} {held:Bool} {r:Reach} {b0:Nat} {v:Value} {d:DataW H} {ps:List MemPlace} {α:Type} [GT α] [Bk α] (o:iv ub P T α)
  (hv:Value.okWide P w r b0 T v) (hd:DataW.Trod enc P w base spare held T v d ps): ∃x:α,rX (Hw w) v x/\bk x<=ub H d:=by
 obtain⟨fuel,hf⟩:=hd
 obtain⟨x,h1,h2⟩:=o.trod hf
 exact⟨x,⟨_,o.H2 hv,h1⟩,h2⟩
theorem iv.H3 {H:Type} {enc:TypeId×Value->H} {w:World} {base:Nat} {spare:Nat->Bool} {held:Bool} {r:Reach} {b0:Nat} {v:Value} {d:DataW H} {ps:List MemPlace} {α:Type} [Sc α] [Bk α] (o:iv ub P T α)
  (hv:Value.okWide P w r b0 T v) (hd:DataW.Trod enc P w base spare held T v d ps): ∃x:α,v=Sc.toV x/\bk x<=ub H d:=by
 obtain⟨x,h1,h2⟩:=o.arg hv hd
 exact⟨x,yk.1 h1,h2⟩
end
theorem Calls.fin {P:Program} {f:FuncId} {args:Array Value} {w:World} {R Q:Value->World->Prop} (h:Calls P f args w (gT R)) (k: ∀v w',R v w'->Q v w'):
  Calls P f args w (fun e W'=>∃v,e = .returned v/\Q v W'):=Calls.mono h fun _ w' ⟨v,e,hr⟩=>⟨v,e,k v w' hr⟩
def jz (W:World):HP:=⟨fun M h=>hle (Hw W) M/\h=nJ,fun k ⟨a,b⟩=>⟨Ch a k,b⟩⟩
theorem Holds.begin (W:World):Holds W W [jz W]:=by
 refine⟨Hw W,fun _=>nJ,⟨rfl,rfl,rfl,bL _,fun b o h=>h,fun i Pr hq=>?_,fun _ _ _ _ h=>(by cases h),fun _ _ _ _ h=>(by cases h),fun _ _ _ _ _ _ _ h=>(by cases h)⟩⟩
 match i,hq with
 | 0,hq=>simp at hq;subst hq;exact⟨Dg _,rfl⟩
theorem Holds.Eb {α:Type} [GT α] {W:World} {V:List HP} {v:Value} {x:α} (h:Holds W W (V++[jz W])) (hv:Gk.rX (Hw W) v x):Holds W W (rd v x::(V++[jz W])):=
 h.xg fun M hs g=>by
  have h1:=(g.sat V.length (jz W) (by simp)).1
  exact⟨hv.mono h1,rfl⟩
theorem Holds.kept {E W w:World} {V:List HP} (h:Holds E w (V++[jz W])) (he:E=W):Below W.heap.size W w:=by
 subst he
 obtain⟨M,hs,g⟩:=h
 have h1:=(g.sat V.length (jz E) (by simp)).1
 have h2: ∀k o,E.heap[k]? =some o->w.heap[k]? =some o:=fun k o ho=>g.im k o (h1 k o ho)
 refine⟨g.os,g.tape,g.out,?_,fun k hk=>?_⟩
 ·by_cases h0:E.heap.size=0
  ·omega
  ·have h3:=h2 (E.heap.size - 1) _ (fx (by omega))
   have:=(Array.getElem?_eq_some_iff.1 h3).1
   omega
 ·rw [fx hk];exact h2 k _ (fx hk)
section
variable {H:Type} {enc:TypeId×Value->H} {P:Program}
theorem CQ {f:Func} {s:ChangeSpec} {apart fresh handsOn again:Bool} {W W':World} {args:Array Value} {v:Value} {ds gs:List (DataW H)} {before pa pv:List MemPlace}
  (hW:DataW.Whole enc P f.params.toList s.vars apart W args.toList ds gs before)
  (hres: ∀(b:Nat) (sp:Nat->Bool) (hd:Bool),DataW.TrodAll enc P W' b sp hd f.resultTypes.toList (v.resultList f.resultTypes.size) (s.fn H (ds++gs)).results [])
  (hargs: ∀sp:Nat->Bool,(∀p∈before,sp p.block=true)->DataW.TrodAll enc P W' 0 sp true f.params.toList args.toList (s.fn H (ds++gs)).args pa)
  (hvars: ∀sp:Nat->Bool,(∀p∈before,sp p.block=true)->DataW.TrodVars enc P W' sp s.vars (s.fn H (ds++gs)).vars pv)
  (hps:before=pa++pv) (hb:Below W.heap.size W W')
  (hok: ∀(j:Nat) (t:TypeId) (r:Value),f.resultTypes[j]? =some t->(v.resultList f.resultTypes.size)[j]? =some r->Value.okWide P W' .any 0 t r):
  s.post enc P f apart fresh handsOn again W args v W':=by
 have hlt: ∀p∈before,p.block<W.heap.size:=fun p hp=>hW.lt p hp
 have hold: ∀p∈before,(fun b=>decide (b<W.heap.size)) p.block=true:=fun p hp=>by simpa using hlt p hp
 refine⟨ds,gs,before,[],pa,pv,hW,hres _ _ _,hargs _ hold,hvars _ hold,World.keptBut_mono (fun p hp=>⟨hp,?_⟩) (hb.frame (· ∈before)),fun _=>?_⟩
 ·rw [hps,cP] at hp
  exact Or.inr hp
 ·obtain⟨_,_,_,_,_,hz,hn⟩:=hW
  refine⟨hok,_,_,([]++pa)++pv,⟨[]++pa,pv,trodAll_append (hargs _ (fun _ _=>rfl)) (hres _ _ _),hvars _ (fun _ _=>rfl),rfl,?_,?_⟩,?_⟩
  ·intro b off hp
   have hin:MemPlace.cell b off∈before:=by rw [hps];simpa using hp
   rw [hb.frozen (hlt _ hin)]
   exact hz b off hin
  ·intro ha
   have:=hn ha
   rw [hps] at this
   simpa using this
  ·intro p hp _
   rw [hps]
   simpa using hp
theorem rM {W W':World} (hl:laidOutB P=true) (hb:Below W.heap.size W W') {sp:Nat->Bool}: ∀{ts:List TypeId} {vs:List Value} {ds:List (DataW H)} {ps:List MemPlace},
  (∀t∈ts,P.readableRec t=true/\t<P.types.size)->DataW.TrodAll enc P W 0 (fun _=>true) true ts vs ds ps->(∀p∈ps,p.block<W.heap.size)->(∀p∈ps,sp p.block=true)->DataW.TrodAll enc P W' 0 sp true ts vs ds ps
 | [],_,_,_,_,h,_,_=>by
  obtain⟨rfl,rfl,rfl⟩:=trodAll_nil h
  rfl
 | t::ts,_,_,_,ht,h,hlt,hsp=>by
  obtain⟨v,vs,d,ds,p,q,rfl,rfl,rfl,h1,h2⟩:=trodAll_cons h
  refine⟨p,q,?_,rM hl hb (fun t h=>ht t (by simp [h])) h2 (fun x hx=>hlt x (by simp [hx])) (fun x hx=>hsp x (by simp [hx])),rfl⟩
  exact WideElems.Trod_stays hl (ht t (by simp)).1 (ht t (by simp)).2 h1 (fun x hx=>hb.same (hlt x (by simp [hx]))) (fun x hx=>hsp x (by simp [hx]))
end
end Go.Gk
namespace Go.Gk
open Go
instance:Bk aI:=⟨fun x=>bk x.X0+bk x.Y0+bk x.X1+bk x.Y1+1,fun _=>by omega⟩
theorem FC (x:aI):bk x=bk x.X0+bk x.Y0+bk x.X1+bk x.Y1+1:=rfl
instance:Bk eF:=⟨fun x=>bk x.X+bk x.Y+1,fun _=>by omega⟩
theorem Ec (x:eF):bk x=bk x.X+bk x.Y+1:=rfl
instance:Bk bU:=⟨fun x=>bk x.At+bk x.eN+bk x.bM+bk x.To+bk x.gA+1,fun _=>by omega⟩
theorem FD (x:bU):bk x=bk x.At+bk x.eN+bk x.bM+bk x.To+bk x.gA+1:=rfl
instance:Bk cV:=⟨fun x=>bk x.Part+bk x.fD+bk x.cR+bk x.At+1,fun _=>by omega⟩
theorem B0 (x:cV):bk x=bk x.Part+bk x.fD+bk x.cR+bk x.At+1:=rfl
instance:Bk jT:=⟨fun x=>bk x.aL+bk x.dU+bk x.aV+bk x.bH+1,fun _=>by omega⟩
theorem Ed (x:jT):bk x=bk x.aL+bk x.dU+bk x.aV+bk x.bH+1:=rfl
instance:Bk fD:=⟨fun x=>bk x.Part+bk x.fD+1,fun _=>by omega⟩
theorem GK (x:fD):bk x=bk x.Part+bk x.fD+1:=rfl
instance:Bk aA:=⟨fun x=>bk x.Y0+bk x.Y1+bk x.Xs+1,fun _=>by omega⟩
instance:Bk aH:=⟨fun x=>bk x.cR+bk x.Set+bk x.iD+1,fun _=>by omega⟩
instance:Bk cL:=⟨fun x=>bk x.mz+bk x.aV+bk x.gC+1,fun _=>by omega⟩
instance:Bk dO:=⟨fun x=>bk x.bU+bk x.Number+1,fun _=>by omega⟩
instance:Bk bY:=⟨fun x=>bk x.Open+bk x.dO+bk x.A+bk x.B+1,fun _=>by omega⟩
instance:Bk o0:=⟨fun x=>bk x.A+bk x.B+bk x.gU+bk x.bM+bk x.To+1,fun _=>by omega⟩
end Go.Gk
namespace Go.Gk
open Go Go.Sort
section
variable {α:Type}
theorem vf {β:Type} (a:Array β) {n:Nat} (h:a.size=n):a.extract 0 n=a:=by subst h;exact Array.extract_size
theorem GL {φ:α->α->Option Int} {l:List α} (cf:α->α->Int) (hφ: ∀x∈l,∀y∈l,φ x y=some (cf x y)) (h1: ∀x∈l,¬cf x x<0)
  (h2: ∀x∈l,∀y∈l,∀z∈l,cf x y<0->cf y z<0->cf x z<0) (h3: ∀x∈l,∀y∈l,∀z∈l,¬cf x y<0->¬cf y z<0->¬cf x z<0):SWO (EY (zN φ l)):=by
 have hm: ∀i:Fin l.length,l[i]∈l:=fun i=>cJ i.isLt
 have e: ∀i j:Fin l.length,zN φ l i j=cf l[i] l[j]:=fun i j=>by unfold zN;rw [hφ _ (hm i) _ (hm j)];rfl
 refine⟨fun x=>?_,fun x y z=>?_,fun x y z=>?_⟩
 ·simp only [EY,e,decide_eq_false_iff_not];exact h1 _ (hm _)
 ·simp only [EY,e,decide_eq_true_iff];exact h2 _ (hm _) _ (hm _) _ (hm _)
 ·simp only [EY,e,decide_eq_false_iff_not];exact h3 _ (hm _) _ (hm _) _ (hm _)
theorem wz {φ:α->α->Option Int} {l:List α} (cf:α->α->Int) (hφ: ∀x∈l,∀y∈l,φ x y=some (cf x y)) (h1: ∀x∈l,¬cf x x<0)
  (h2: ∀x∈l,∀y∈l,∀z∈l,cf x y<0->cf y z<0->cf x z<0) (h3: ∀x∈l,∀y∈l,∀z∈l,¬cf x y<0->¬cf y z<0->¬cf x z<0) (hl:l.length<4611686018427387904):
  ∃m,tc φ l=some m/\m.Perm l/\m.Pairwise (fun x y=>¬cf y x<0):=by
 have hO:=GL cf hφ h1 h2 h3
 have hm: ∀i:Fin l.length,l[i]∈l:=fun i=>cJ i.isLt
 have hc: (∀i j:Fin l.length,∃c,φ l[i] l[j]=some c):=fun i j=>⟨_,hφ _ (hm i) _ (hm j)⟩
 refine⟨BS φ l,by unfold tc;rw [aD ⟨⟨hc,hO⟩,hl⟩],?_⟩
 unfold BS
 by_cases hn:0<l.length
 ·rw [dif_pos hn]
  letI inh:Inhabited (Fin l.length):=⟨⟨0,hn⟩⟩
  have hds: (Array.ofFn fun i:Fin l.length=>i).size=l.length:=by simp
  obtain⟨hp,hs⟩:=pdq_sorts (EY (zN φ l)) hO (Array.ofFn fun i:Fin l.length=>i) 0 l.length (Lib.bitLen l.length) true true (nS _) (by rw [hds];exact bL _) (Or.inl rfl)
  show (List.map (fun i=>l[i]) (pdq (EY (zN φ l)) (Array.ofFn fun i:Fin l.length=>i) 0 l.length (Lib.bitLen l.length) true true).toList).Perm l/\_
  generalize pdq (EY (zN φ l)) (Array.ofFn fun i:Fin l.length=>i) 0 l.length (Lib.bitLen l.length) true true=d' at hp hs
  obtain⟨hz,_,hpm⟩:=hp
  have hz':d'.size=l.length:=hz.trans hds
  rw [vf d' hz',vf _ hds] at hpm
  have hof: (Array.ofFn fun i:Fin l.length=>i).toList.map (fun i=>l[i])=l:=by
   rw [Array.toList_ofFn,List.map_ofFn]
   exact List.ofFn_getElem
  refine⟨(hpm.map (fun i=>l[i])).trans (List.Perm.of_eq hof),?_⟩
  rw [List.pairwise_map,l5]
  intro i j hi hj hij
  rw [Array.length_toList] at hi hj
  have:=hs i j (nS _) hij (by rw [<-hz'];exact hj)
  rw [getElem!_pos d' i hi,getElem!_pos d' j hj] at this
  have hij2:=hφ _ (hm (d'[j])) _ (hm (d'[i]))
  have hij3:zN φ l d'[j] d'[i]=cf l[d'[j]] l[d'[i]]:=by unfold zN;rw [hij2];rfl
  unfold EY at this
  rw [decide_eq_false_iff_not,hij3] at this
  exact this
 ·rw [dif_neg hn]
  have:l= []:=List.length_eq_zero_iff.1 (by omega)
  subst this
  exact⟨List.Perm.refl _,kp⟩
theorem xX {φ:α->α->Option Int} {x:α} (h:φ x x=some 0):tc φ [x]=some [x]:=by
 obtain⟨m,h1,h2,_⟩:=wz (φ:=φ) (l:=[x]) (fun _ _=>0) (fun a ha b hb=>by simp at ha hb;rw [ha,hb];exact h) (fun _ _=>by decide) (fun _ _ _ _ _ _ h=>by simp at h) (fun _ _ _ _ _ _ _ _=>by decide) (by simp)
 rw [h1,List.perm_singleton.1 h2]
theorem xq {l:List Int} (h:l.Pairwise (fun x y=>x<=y)) (hl:l.length<4611686018427387904):pY l=some l:=by
 unfold pY
 rw [aD hl,List.mergeSort_of_pairwise (by simpa using h)]
end
end Go.Gk
namespace Go.Gk
open Go
def AK (l:List Int) (x:Int):Nat:=l.countP (fun a=>decide (a<=x))
def lL (l:List Int) (x:Int):Bool:=AK l x % 2==1
def lh (l:List Int):Prop:=l.Pairwise (· < ·)
theorem yU (x:Int):AK [] x=0:=rfl
theorem kP (a:Int) (l:List Int) (x:Int):AK (a::l) x= (if a<=x then 1 else 0)+AK l x:=by
 unfold AK
 rw [List.countP_cons]
 by_cases h:a<=x <;> simp [h];omega
theorem wA (l m:List Int) (x:Int):AK (l++m) x=AK l x+AK m x:=List.countP_append
theorem B2 {l:List Int} {x:Int} (h: ∀a∈l,a<=x):AK l x=l.length:=by
 unfold AK;rw [List.countP_eq_length];intro a ha;simpa using h a ha
theorem wB {l:List Int} {x:Int} (h: ∀a∈l,x<a):AK l x=0:=by
 unfold AK;rw [List.countP_eq_zero];intro a ha;have:=h a ha;simp;omega
theorem tI {l:List Int} {x:Int}:lL l x=true↔AK l x % 2=1:=by unfold lL;simp
theorem tJ {l:List Int} {x:Int} (h: ∀a∈l,x<a):lL l x=false:=by unfold lL;rw [wB h];rfl
theorem lh.head {a:Int} {l:List Int} (h:lh (a::l)): ∀b∈l,a<b:=(List.pairwise_cons.1 h).1
theorem lh.tail {a:Int} {l:List Int} (h:lh (a::l)):lh l:=(List.pairwise_cons.1 h).2
theorem tK {a:Int} {l:List Int} (h:lh (a::l)):lL (a::l) a=true:=by
 rw [tI,kP,aD (Int.le_refl _),wB h.head]
theorem wC: ∀{l m:List Int},lh l->lh m->(∀x,lL l x=lL m x)->l=m
 | [],[],_,_,_=>rfl
 | [],b::m,_,hm,h=>by have:=h b;rw [tK hm] at this;cases this
 | a::l,[],hl,_,h=>by have:=h a;rw [tK hl] at this;cases this
 | a::l,b::m,hl,hm,h=>by
  have hab:a=b:=by
   rcases Int.lt_trichotomy a b with h1 | h1 | h1
   ·have h2:=h a
    rw [tK hl,tJ (l:=b::m) (fun c hc=>by
     rcases f9.1 hc with rfl | hc
     ·exact h1
     ·have:=hm.head c hc;omega)] at h2
    cases h2
   ·exact h1
   ·have h2:=h b
    rw [tK hm,tJ (l:=a::l) (fun c hc=>by
     rcases f9.1 hc with rfl | hc
     ·exact h1
     ·have:=hl.head c hc;omega)] at h2
    cases h2
  subst hab
  rw [wC hl.tail hm.tail (fun x=>?_)]
  by_cases hx:a<=x
  ·have h2:=h x
   unfold lL at h2 ⊢
   rw [kP,kP,aD hx] at h2
   rw [fz] at h2 ⊢
   simp only [beq_iff_eq] at h2 ⊢
   omega
  ·rw [tJ (fun c hc=>by have:=hl.head c hc;omega),tJ (fun c hc=>by have:=hm.head c hc;omega)]
theorem tL {l:List Int} {a b:Int} (hl: ∀c∈l,c<a) (he:l.length % 2=0) (hab:a<b) (x:Int):lL (l++[a,b]) x= (lL l x||(decide (a<=x)&&decide (x<b))):=by
 rw [fz,dP,bJ,bI,bI,tI,tI,wA,kP,kP,yU]
 by_cases h1:a<=x
 ·have h2:AK l x=l.length:=B2 fun c hc=>by have:=hl c hc;omega
  rw [h2,aD h1]
  by_cases h3:b<=x
  ·rw [aD h3];omega
  ·rw [aC h3];omega
 ·rw [aC h1,aC (by omega)];omega
theorem Eg {l:List Int} {s e a b:Int} (hl: ∀c∈l,c<s) (he:l.length % 2=0) (hs:s<e) (h1:s<=a) (h2:a<=e) (hab:a<b) (x:Int):lL (l++[s,max e b]) x= (lL (l++[s,e]) x||(decide (a<=x)&&decide (x<b))):=by
 rw [tL hl he (by omega),tL hl he hs]
 rw [fz]
 simp only [dP,bJ,bI]
 constructor
 ·rintro(h | h)
  ·exact .inl (.inl h)
  ·by_cases hx:x<e
   ·exact .inl (.inr ⟨h.1,hx⟩)
   ·exact .inr ⟨by omega,by omega⟩
 ·rintro((h | h) | h)
  ·exact .inl h
  ·exact .inr ⟨h.1,by omega⟩
  ·exact .inr ⟨by omega,by omega⟩
theorem lh.snoc {l:List Int} {a b:Int} (h:lh l) (hl: ∀c∈l,c<a) (hab:a<b):lh (l++[a,b]):=by
 unfold lh
 rw [List.pairwise_append]
 refine⟨h,by simp [hab],fun c hc d hd=>?_⟩
 have:=hl c hc
 simp at hd
 rcases hd with rfl | rfl <;> omega
structure Bd where
 y0:Int
 y1:Int
 xs:List Int
def rowAt:List Bd->Int->List Int
 | [],_=>[]
 | b::s,y=>if b.y0<=y/\y<b.y1 then b.xs else rowAt s y
theorem ki (b:Bd) (s:List Bd) (y:Int):rowAt (b::s) y=if b.y0<=y/\y<b.y1 then b.xs else rowAt s y:=rfl
structure dW (s:List Bd):Prop where
 each: ∀b∈s,b.y0<b.y1/\b.xs≠[]/\lh b.xs/\b.xs.length % 2=0
 ord:s.Pairwise (fun b c=>b.y1<=c.y0/\(b.y1=c.y0->b.xs≠c.xs))
theorem dW.nil:dW []:=⟨fun b h=>by simp at h,kp⟩
theorem dW.tail {b:Bd} {s:List Bd} (h:dW (b::s)):dW s:=⟨fun c hc=>h.each c (i6 _ hc),(List.pairwise_cons.1 h.ord).2⟩
theorem jB {s:List Bd} {y:Int} (h: ∀b∈s,y<b.y0\/b.y1<=y):rowAt s y= []:=by
 induction s with
 | nil=>rfl
 | cons b s ih=>
  unfold rowAt
  have:=h b (by simp)
  rw [aC (by omega)]
  exact ih fun c hc=>h c (i6 _ hc)
theorem mU (s t:List Bd) (y:Int):rowAt (s++t) y=if (∃b∈s,b.y0<=y/\y<b.y1) then rowAt s y else rowAt t y:=by
 induction s with
 | nil=>simp
 | cons b s ih=>
  rw [List.cons_append,ki,ki]
  by_cases h:b.y0<=y/\y<b.y1
  ·rw [aD h,aD ⟨b,by simp,h⟩,aD h]
  ·rw [aC h,ih]
   by_cases h2: ∃c∈s,c.y0<=y/\y<c.y1
   ·obtain⟨c,hc,hc2⟩:=h2
    rw [aD ⟨c,hc,hc2⟩,aD ⟨c,i6 _ hc,hc2⟩,aC h]
   ·rw [aC h2,aC (show ¬∃c∈b::s,c.y0<=y/\y<c.y1 from ?_)]
    rintro⟨c,hc,hc2⟩
    rcases f9.1 hc with rfl | hc
    ·exact h hc2
    ·exact h2 ⟨c,hc,hc2⟩
theorem dW.kj {b:Bd} {s:List Bd} {y:Int} (h0:b.y0<=y) (h1:y<b.y1):rowAt (b::s) y=b.xs:=by unfold rowAt;rw [aD ⟨h0,h1⟩]
theorem dW.wD {b:Bd} {s:List Bd} (h:dW (b::s)): ∀c∈s,b.y1<=c.y0:=fun c hc=>((List.pairwise_cons.1 h.ord).1 c hc).1
theorem dW.qZ {b:Bd} {s:List Bd} (h:dW (b::s)) {y:Int} (hy:y<b.y0):rowAt (b::s) y= []:=jB fun c hc=>by
 rcases f9.1 hc with rfl | hc
 ·exact .inl hy
 ·have:=h.wD c hc;have:=(h.each b (by simp)).1;exact .inl (by omega)
theorem dW.B3 {b:Bd} {s:List Bd} (h:dW (b::s)):rowAt (b::s) b.y1≠b.xs:=by
 rw [ki,aC (by omega)]
 cases s with
 | nil=>exact fun e=>(h.each b (by simp)).2.1 e.symm
 | cons c s=>
  have h1:=(List.pairwise_cons.1 h.ord).1 c (by simp)
  by_cases e:b.y1=c.y0
  ·rw [dW.kj (by omega) (by have:=(h.tail.each c (by simp)).1;omega)]
   exact fun h=>h1.2 e h.symm
  ·rw [h.tail.qZ (by have:=h1.1;omega)]
   exact fun e=>(h.each b (by simp)).2.1 e.symm
theorem wE: ∀{s t:List Bd},dW s->dW t->(∀y,rowAt s y=rowAt t y)->s=t
 | [],[],_,_,_=>rfl
 | [],c::t,_,ht,h=>by
  have hc:=ht.each c (by simp)
  have:=h c.y0
  rw [dW.kj (Int.le_refl _) hc.1] at this
  exact absurd this.symm hc.2.1
 | b::s,[],hs,_,h=>by
  have hb:=hs.each b (by simp)
  have:=h b.y0
  rw [dW.kj (Int.le_refl _) hb.1] at this
  exact absurd this hb.2.1
 | b::s,c::t,hs,ht,h=>by
  have hb:=hs.each b (by simp)
  have hc:=ht.each c (by simp)
  have e0:b.y0=c.y0:=by
   rcases Int.lt_trichotomy b.y0 c.y0 with h1 | h1 | h1
   ·have h2:=h b.y0
    rw [dW.kj (Int.le_refl _) hb.1,ht.qZ h1] at h2
    exact absurd h2 hb.2.1
   ·exact h1
   ·have h2:=h c.y0
    rw [dW.kj (Int.le_refl _) hc.1,hs.qZ h1] at h2
    exact absurd h2.symm hc.2.1
  have ex:b.xs=c.xs:=by
   have h2:=h b.y0
   rw [dW.kj (Int.le_refl _) hb.1,dW.kj (by omega) (by omega)] at h2
   exact h2
  have e1:b.y1=c.y1:=by
   rcases Int.lt_trichotomy b.y1 c.y1 with h1 | h1 | h1
   ·have h2:=h b.y1
    rw [dW.kj (b:=c) (by omega) h1] at h2
    exact absurd (h2.trans ex.symm) hs.B3
   ·exact h1
   ·have h2:=h c.y1
    rw [dW.kj (b:=b) (by omega) h1] at h2
    exact absurd (h2.symm.trans ex) ht.B3
  have ebc:b=c:=by cases b;cases c;simp_all
  subst ebc
  rw [wE hs.tail ht.tail (fun y=>?_)]
  by_cases hy:b.y1<=y
  ·have h2:=h y
   unfold rowAt at h2
   rw [aC (by omega),aC (by omega)] at h2
   exact h2
  ·rw [jB (fun d hd=>by have:=hs.wD d hd;exact .inl (by omega)),jB (fun d hd=>by have:=ht.wD d hd;exact .inl (by omega))]
def tM (s:List Bd) (x y:Int):Bool:=lL (rowAt s y) x
theorem xY {s:List Bd} (h: ∀b∈s,lh b.xs) (y:Int):lh (rowAt s y):=by
 induction s with
 | nil=>exact kp
 | cons b s ih=>
  unfold rowAt
  split
  ·exact h b (by simp)
  ·exact ih fun c hc=>h c (i6 _ hc)
theorem wF {s t:List Bd} (hs:dW s) (ht:dW t) (h: ∀x y,tM s x y=tM t x y):s=t:=
 wE hs ht fun y=>wC (xY (fun b hb=>(hs.each b hb).2.2.1) y) (xY (fun b hb=>(ht.each b hb).2.2.1) y) fun x=>h x y
def ln (s:List Bd) (b:Bd):List Bd:=
 if b.xs= []\/b.y1<=b.y0 then s else
  match s.getLast? with
  | some c=>if c.y1=b.y0/\c.xs=b.xs then s.dropLast++[⟨c.y0,b.y1,c.xs⟩] else s++[b]
  | none=>[b]
theorem pq {α:Type} {s:List α} {c:α} (h:s.getLast? =some c):s=s.dropLast++[c]:=by
 have hne:s≠[]:=fun e=>by rw [e] at h;cases h
 rw [List.getLast?_eq_some_getLast hne] at h
 injection h with h
 rw [<-h];exact(List.dropLast_concat_getLast hne).symm
theorem uN {s:List Bd} {b:Bd} (hs: ∀c∈s,c.y1<=b.y0) (hg: ∀c∈s,c.y0<c.y1) (hb:b.y1<=b.y0->b.y1=b.y0) (y:Int):rowAt (ln s b) y=if b.y0<=y/\y<b.y1 then b.xs else rowAt s y:=by
 have key: ∀(s:List Bd) (c:Bd),(∀d∈s,d.y1<=c.y0)->rowAt (s++[c]) y=if c.y0<=y/\y<c.y1 then c.xs else rowAt s y:=by
  intro s c h
  rw [mU]
  by_cases h1:c.y0<=y/\y<c.y1
  ·rw [aD h1,aC (by rintro⟨d,hd,hd2⟩;have:=h d hd;omega),dW.kj h1.1 h1.2]
  ·rw [aC h1]
   by_cases h2: ∃d∈s,d.y0<=y/\y<d.y1
   ·rw [aD h2]
   ·rw [aC h2,ki,aC h1]
    refine(show rowAt [] y=_ from (jB (s:=s) fun d hd=>?_).symm)
    by_cases h3:d.y0<=y
    ·exact .inr (by have: ¬(d.y0<=y/\y<d.y1):=fun h4=>h2 ⟨d,hd,h4⟩;omega)
    ·exact .inl (by omega)
 unfold ln
 by_cases h0:b.xs= []\/b.y1<=b.y0
 ·rw [aD h0]
  by_cases h1:b.y0<=y/\y<b.y1
  ·rw [aD h1]
   rcases h0 with h0 | h0
   ·rw [h0];exact jB fun c hc=> .inr (by have:=hs c hc;omega)
   ·omega
  ·rw [aC h1]
 ·rw [aC h0]
  cases hl:s.getLast? with
  | none=>
   have:s= []:=by simpa using hl
   subst this
   rfl
  | some c=>
   dsimp only
   have hsp:=pq hl
   have hcm:c∈s:=by rw [hsp];simp
   by_cases h1:c.y1=b.y0/\c.xs=b.xs
   ·rw [aD h1]
    have hd: ∀d∈s.dropLast,d.y1<=c.y0\/True:=fun _ _=> .inr trivial
    rw [mU]
    have hrow:rowAt s y=if (∃d∈s.dropLast,d.y0<=y/\y<d.y1) then rowAt s.dropLast y else (if c.y0<=y/\y<c.y1 then c.xs else []):=by
     conv=>lhs;rw [hsp]
     rw [mU];rfl
    rw [hrow]
    have hcg:=hg c hcm
    by_cases h2: ∃d∈s.dropLast,d.y0<=y/\y<d.y1
    ·obtain⟨d,hd,hd2⟩:=h2
     have:=hs d (List.dropLast_subset _ hd)
     have he: ∃d∈s.dropLast,d.y0<=y/\y<d.y1:=⟨d,hd,hd2⟩
     rw [aD he,aD he,aC (by omega)]
    ·rw [aC h2,aC h2]
     show (if c.y0<=y/\y<b.y1 then c.xs else [])=_
     by_cases h3:b.y0<=y/\y<b.y1
     ·rw [aD h3,aD ⟨by omega,h3.2⟩,h1.2]
     ·rw [aC h3]
      by_cases h4:c.y0<=y/\y<c.y1
      ·rw [aD h4,aD ⟨h4.1,by omega⟩]
      ·rw [aC h4,aC (by omega)]
   ·rw [aC h1]
    exact key s b hs
theorem uO {s:List Bd} {b:Bd} (h:dW s) (hs: ∀c∈s,c.y1<=b.y0) (hb:lh b.xs) (he:b.xs.length % 2=0):dW (ln s b):=by
 unfold ln
 by_cases h0:b.xs= []\/b.y1<=b.y0
 ·rw [aD h0];exact h
 ·rw [aC h0]
  have hbg:b.y0<b.y1/\b.xs≠[]/\lh b.xs/\b.xs.length % 2=0:=⟨by omega,fun e=>h0 (.inl e),hb,he⟩
  cases hl:s.getLast? with
  | none=>exact⟨fun c hc=>by simp at hc;subst hc;exact hbg,List.pairwise_singleton _ _⟩
  | some c=>
   dsimp only
   have hsp:=pq hl
   have hcm:c∈s:=by rw [hsp];simp
   have hc:=h.each c hcm
   have hord:=h.ord
   rw [hsp,List.pairwise_append] at hord
   by_cases h1:c.y1=b.y0/\c.xs=b.xs
   ·rw [aD h1]
    refine⟨fun d hd=>?_,?_⟩
    ·rcases cP.1 hd with hd | hd
     ·exact h.each d (List.dropLast_subset _ hd)
     ·simp at hd;subst hd;exact⟨by show c.y0<b.y1;omega,hc.2⟩
    ·rw [List.pairwise_append]
     refine⟨hord.1,List.pairwise_singleton _ _,fun d hd e he=>?_⟩
     simp at he;subst he
     exact hord.2.2 d hd c (by simp)
   ·rw [aC h1]
    refine⟨fun d hd=>?_,?_⟩
    ·rcases cP.1 hd with hd | hd
     ·exact h.each d hd
     ·simp at hd;subst hd;exact hbg
    ·rw [List.pairwise_append]
     refine⟨h.ord,List.pairwise_singleton _ _,fun d hd e he=>?_⟩
     simp at he;subst he
     refine⟨hs d hd,fun e1 e2=>?_⟩
     rw [hsp] at hd
     rcases cP.1 hd with hd | hd
     ·have h2:=(hord.2.2 d hd c (by simp)).1
      have:=hs c hcm
      omega
     ·simp at hd;subst hd;exact h1 ⟨e1,e2⟩
theorem uP {s:List Bd} {b:Bd} (hs: ∀c∈s,c.y1<=b.y0) (hb:b.y0<=b.y1): ∀c∈ln s b,c.y1<=b.y1:=by
 intro c hc
 unfold ln at hc
 split at hc
 ·have:=hs c hc;omega
 ·split at hc
  ·split at hc
   ·rcases cP.1 hc with hc | hc
    ·have:=hs c (List.dropLast_subset _ hc);omega
    ·simp at hc;subst hc;exact Int.le_refl _
   ·rcases cP.1 hc with hc | hc
    ·have:=hs c hc;omega
    ·simp at hc;subst hc;exact Int.le_refl _
  ·simp at hc;subst hc;exact Int.le_refl _
end Go.Gk
namespace Go.Gk
open Go
section
variable {N:Nat}
def bK (b:aA):Bd:=⟨b.Y0,b.Y1,b.Xs⟩
def small (a:Int):Prop:= -1099511627776<=a/\a<=1099511627776
structure AL (r:aI):Prop where
 x:r.X0<r.X1
 y:r.Y0<r.Y1
 s1:small r.X0
 s2:small r.X1
 s3:small r.Y0
 s4:small r.Y1
def Bo (l:List aI) (x:Int):Bool:=l.any (fun r=>decide (r.X0<=x)&&decide (x<r.X1))
def vg (l:List aI) (x y:Int):Bool:=l.any (fun r=>(decide (r.X0<=x)&&decide (x<r.X1))&&(decide (r.Y0<=y)&&decide (y<r.Y1)))
theorem wG {l:List aI} {x:Int}:Bo l x=true↔∃r∈l,r.X0<=x/\x<r.X1:=by unfold Bo;simp [kr]
theorem jC {l:List aI} {x y:Int}:vg l x y=true↔∃r∈l,(r.X0<=x/\x<r.X1)/\r.Y0<=y/\y<r.Y1:=by unfold vg;simp [kr]
theorem wrap_small {a b:Int} (ha:small a) (hb:small b):IntKind.wrap .i64 (a - b)=a - b:=by unfold small at *;exact eJ (by omega) (by omega)
theorem Ag {n:Nat} (h:0<n) (hn:n<=4611686018427387904):IntKind.wrap .i64 (((n:Nat):Int) - 1)= ((n - 1:Nat):Int):=lW h hn
structure J6 (out:List Int) (m:List aI) (k:Nat):Prop where
 row: (k=0/\out= [])\/∃A s e,out=A++[s,e]/\lh A/\(∀c∈A,c<s)/\A.length % 2=0/\s<e/\∃j r,j<k/\m[j]? =some r/\s=r.X0
 lL: ∀x,lL out x=Bo (m.take k) x
 len:out.length<=2*k
 mem: ∀c∈out,∃r∈m,c=r.X0\/c=r.X1
theorem uQ (l:List aI) (r:aI) (x:Int):Bo (l++[r]) x= (Bo l x||(decide (r.X0<=x)&&decide (x<r.X1))):=by unfold Bo;rw [List.any_append];simp
theorem yV {l:List aI} (hl:l.length<=268435456) (hok: ∀r∈l,AL r): ∃row l',gR N l=some (row,l')/\l'.Perm l/\lh row/\row.length % 2=0/\(∀x,lL row x=Bo l x)/\row.length<=2*l.length/\∀c∈row,∃r∈l,c=r.X0\/c=r.X1:=by
 unfold gR
 obtain⟨m,h1,h2,h3⟩:=wz (φ:=fF N) (l:=l) (fun a b=>a.X0 - b.X0) (fun a ha b hb=>by
  unfold fF;rw [wrap_small (hok a ha).s1 (hok b hb).s1]) (fun a _=>by omega) (fun a _ b _ c _ h1 h2=>by omega) (fun a _ b _ c _ h1 h2=>by omega) (by omega)
 have hml:m.length=l.length:=h2.length_eq
 have hmok: ∀r∈m,AL r:=fun r hr=>hok r (h2.subset hr)
 rw [h1,aB]
 obtain⟨out,a1,a2⟩:=vF (m:=m.length) (s:=([]:List Int)) (body:=fun(k32:Nat) (s33: (List Int))=>((idx m (k32:Int)).bind fun x79=>(bif (decide ((IntKind.wrap .i64 ((s33.length:Int) - 1))>=0)) then ((idx s33 (IntKind.wrap .i64 ((s33.length:Int) - 1))).bind fun x86=>some (decide (x79.X0<=x86))) else (some false)).bind fun s84=>(bif s84 then ((idx s33 (IntKind.wrap .i64 ((s33.length:Int) - 1))).bind fun Dz=>(idx s33 (IntKind.wrap .i64 ((s33.length:Int) - 1))).bind fun x95=>some (s33.set (Int.toNat (IntKind.wrap .i64 ((s33.length:Int) - 1))) (if Dz<x79.X1 then x79.X1 else Dz))) else ((app 8 s33 ([x79.X0,x79.X1]: (List Int))).bind fun x97=>some x97)).bind fun s92=>some s92:Option ((List Int))))
  (fun k out=>J6 out m k) (by omega) ⟨.inl ⟨rfl,rfl⟩,fun x=>rfl,by simp,fun c hc=>by cases hc⟩ (fun k out hk ⟨i1,i2,i3,i4⟩=>by
   have hx:m[k]? =some m[k]:=aJ hk
   have hr:=hmok _ (cJ hk)
   rw [dN hx,aB]
   have hts:m.take (k+1)=m.take k++[m[k]]:=fu hk
   rcases i1 with ⟨rfl,rfl⟩ | ⟨A,s,e,rfl,hA,hAs,hAe,hse,j,r,hj,hjr,hsr⟩
   ·rw [show decide (IntKind.wrap .i64 (((([]:List Int).length:Nat):Int) - 1)>=0)=false by decide,aR,aB,aR,gV (by simp),aB,aB]
    refine⟨_,rfl, .inr ⟨[],_,_,rfl,kp,fun c hc=>by simp at hc,rfl,hr.x,0,m[0],by omega,hx,rfl⟩,fun x=>?_,by simp,fun c hc=>⟨m[0],cJ hk,by simpa using hc⟩⟩
    rw [hts,uQ,<-i2 x]
    exact tL (l:=[]) (fun c hc=>by simp at hc) rfl hr.x x
   ·have hlen: (A++[s,e]).length=A.length+2:=by simp
    have hwp:IntKind.wrap .i64 ((((A++[s,e]).length:Nat):Int) - 1)= ((A.length+1:Nat):Int):=by rw [Ag (by omega) (by omega),hlen];rfl
    have hlast: (A++[s,e])[A.length+1]? =some e:=by rw [eW (by omega)];simp
    have hs:s<=m[k].X0:=by
     have:=l5.1 h3 j k (by have:=(aW.1 hjr).1;omega) hk hj
     rw [hsr,<-(aW.1 hjr).2];omega
    rw [hwp,cA (by omega),aO,dN hlast,aB,aB]
    by_cases hc:m[k].X0<=e
    ·rw [cA hc,aO,aB,aB,aB,bO]
     have k8: (A++[s,e]).set (A.length+1) (if e<m[k].X1 then m[k].X1 else e)=A++[s,max e m[k].X1]:=by
      rw [List.set_append_right _ _ (by omega)]
      have:A.length+1 - A.length=1:=by omega
      rw [this,Int.max_def]
      simp only [List.set_cons_succ,List.set_cons_zero]
      congr 2
      split <;> split <;> simp <;> omega
     rw [k8]
     refine⟨_,rfl, .inr ⟨A,s,_,rfl,hA,hAs,hAe,by omega,j,r,by omega,hjr,hsr⟩,fun x=>?_,by simp at i3 ⊢;omega,fun c hc=>by
      rcases cP.1 hc with h | h
      ·exact i4 c (List.mem_append_left _ h)
      ·simp at h
       rcases h with h | h
       ·exact i4 c (by simp [h])
       ·rw [Int.max_def] at h
        split at h
        ·exact⟨_,cJ hk, .inr h⟩
        ·exact i4 c (by simp [h])⟩
     rw [hts,uQ,<-i2 x]
     exact Eg hAs hAe hse hs hc hr.x x
    ·rw [bC hc,aR,gV (by rw [hlen];simp;omega),aB,aB]
     have hall: ∀c∈A++[s,e],c<m[k].X0:=fun c hc'=>by
      rcases cP.1 hc' with h | h
      ·have:=hAs c h;omega
      ·simp at h;omega
     refine⟨_,rfl, .inr ⟨A++[s,e],_,_,rfl,hA.snoc hAs hse,hall,by rw [hlen];omega,hr.x,k,m[k],by omega,hx,rfl⟩,fun x=>?_,by simp at i3 ⊢;omega,fun c hc=>by
      rcases cP.1 hc with h | h
      ·exact i4 c h
      ·exact⟨m[k],cJ hk,by simpa using h⟩⟩
     rw [hts,uQ,<-i2 x]
     exact tL hall (by rw [hlen];omega) hr.x x)
 rw [a1,aB]
 refine⟨out,m,rfl,h2,?_,?_,fun x=>?_,by rw [<-hml];exact a2.len,fun c hc=>by obtain⟨r,hr,h⟩:=a2.mem c hc;exact⟨r,h2.subset hr,h⟩⟩
 ·rcases a2.row with ⟨_,h⟩ | ⟨A,s,e,rfl,hA,hAs,hAe,hse,_⟩
  ·rw [h];exact kp
  ·exact hA.snoc hAs hse
 ·rcases a2.row with ⟨_,h⟩ | ⟨A,s,e,rfl,hA,hAs,hAe,hse,_⟩
  ·rw [h];rfl
  ·simp;omega
 ·rw [a2.lL x,eX,fz,wG,wG]
  constructor
  ·rintro⟨r,hr,h⟩;exact⟨r,h2.subset hr,h⟩
  ·rintro⟨r,hr,h⟩;exact⟨r,h2.symm.subset hr,h⟩
theorem CR {l m:List Int} (hl:l.length<=4611686018427387904):kx N l m=some (decide (l=m)):=xV hl
theorem B4 {s:List aA} {b:aA} (hs:s.length<=1048576000) (hx: ∀c∈s,c.Xs.length<=1048576000): ∃s',gD N s b=some s'/\s'.map bK=ln (s.map bK) (bK b):=by
 unfold gD ln
 by_cases h0:b.Xs= []\/b.Y1<=b.Y0
 ·have e: ((((b.Xs.length:Nat):Int)==0)||(decide (b.Y1<=b.Y0)))=true:=by
   rw [dP]
   rcases h0 with h | h
   ·left;rw [h];rfl
   ·right;exact cA h
  rw [e,aO,aD (show (bK b).xs= []\/(bK b).y1<=(bK b).y0 from h0)]
  exact⟨s,rfl,rfl⟩
 ·have e: ((((b.Xs.length:Nat):Int)==0)||(decide (b.Y1<=b.Y0)))=false:=by
   rw [Bool.or_eq_false_iff]
   constructor
   ·rw [beq_eq_false_iff_ne];intro h;exact h0 (.inl (List.eq_nil_of_length_eq_zero (by omega)))
   ·exact bC fun h=>h0 (.inr h)
  rw [e,aR,aC (show ¬((bK b).xs= []\/(bK b).y1<=(bK b).y0) from h0)]
  rcases List.eq_nil_or_concat s with rfl | ⟨A,c,hA⟩
  ·rw [show decide (IntKind.wrap .i64 (((([]:List aA).length:Nat):Int) - 1)>=0)=false by decide,aR,aB,aR,gV (by simp),aB]
   exact⟨_,rfl,rfl⟩
  ·rw [List.concat_eq_append] at hA
   subst hA
   have hlen: (A++[c]).length=A.length+1:=by simp
   have hwp:IntKind.wrap .i64 ((((A++[c]).length:Nat):Int) - 1)= ((A.length:Nat):Int):=by rw [Ag (by omega) (by omega),hlen];rfl
   have hlast: (A++[c])[A.length]? =some c:=by simp
   rw [hwp,cA (by omega),aO,dN hlast,aB,aB,CR (by have:=hx c (by simp);omega),aB,aB,bO,gV (by rw [hlen];simp;omega),aB]
   have hl2: ((A++[c]).map bK).getLast? =some (bK c):=by simp
   have hd2: ((A++[c]).map bK).dropLast=A.map bK:=by simp
   rw [hl2,hd2]
   dsimp only
   by_cases h1:c.Y1=b.Y0/\c.Xs=b.Xs
   ·rw [aD (show (bK c).y1= (bK b).y0/\(bK c).xs= (bK b).xs from h1),show (c.Y1==b.Y0)=true by rw [h1.1];simp,aO,cA h1.2,aB,aO]
    refine⟨_,rfl,?_⟩
    rw [List.set_append_right _ _ (bL _),Nat.sub_self]
    simp [bK]
   ·rw [aC (show ¬((bK c).y1= (bK b).y0/\(bK c).xs= (bK b).xs) from h1)]
    have e2: (bif (c.Y1==b.Y0) then (some (decide (c.Xs=b.Xs))) else (some false))=some false:=by
     by_cases h2:c.Y1=b.Y0
     ·rw [show (c.Y1==b.Y0)=true by rw [h2];simp,aO,bC (fun h=>h1 ⟨h2,h⟩)]
     ·rw [show (c.Y1==b.Y0)=false by simpa using h2,aR]
    rw [e2,aB,aR]
    exact⟨_,rfl,by simp⟩
end
end Go.Gk
namespace Go.Gk
open Go
def nZ (l:List (Int×Int)):List Int:=l.flatMap fun s=>[s.1,s.2]
def CS (l:List (Int×Int)) (x:Int):Bool:=l.any fun s=>decide (s.1<=x)&&decide (x<s.2)
theorem lY (s:Int×Int) (l:List (Int×Int)):nZ (s::l)=s.1::s.2::nZ l:=rfl
theorem CT (l:List (Int×Int)): (nZ l).length=2*l.length:=by
 induction l with
 | nil=>rfl
 | cons s l ih=>rw [lY,jP,jP,jP,ih];omega
theorem CU (s:Int×Int) (l:List (Int×Int)) (x:Int):CS (s::l) x= ((decide (s.1<=x)&&decide (x<s.2))||CS l x):=rfl
theorem wH {l:List (Int×Int)} {x:Int}:CS l x=true↔∃s∈l,s.1<=x/\x<s.2:=by
 unfold CS;simp
theorem CV {a b:Int} {m:List Int} (h:lh (a::b::m)) (x:Int):lL (a::b::m) x= ((decide (a<=x)&&decide (x<b))||lL m x):=by
 have hab:a<b:=h.head b (by simp)
 have hm:=h.tail.head
 rw [fz,dP,bJ,bI,bI,tI,tI,kP,kP]
 by_cases h1:a<=x
 ·rw [aD h1]
  by_cases h2:b<=x
  ·rw [aD h2];omega
  ·rw [aC h2,wB (fun c hc=>by have:=hm c hc;omega)];omega
 ·rw [aC h1,aC (by omega)];omega
theorem tN: ∀{l:List (Int×Int)},lh (nZ l)->∀x,lL (nZ l) x=CS l x
 | [],_,x=>rfl
 | s::l,h,x=>by
  rw [lY] at h ⊢
  rw [CV h,CU,tN h.tail.tail]
end Go.Gk
namespace Go.Gk
open Go
end Go.Gk
namespace Go.Gk
open Go
def Ok {β:Type} (o:Option β) (P:β->Prop):Prop:=∃r,o=some r/\P r
section
variable {α β S R:Type} {P:α->Prop} {Q:β->Prop}
theorem Ok.ret {x:β} (h:Q x):Ok (some x) Q:=⟨x,rfl,h⟩
theorem Ok.of {o:Option β} {x:β} (h:o=some x) (hq:Q x):Ok o Q:=⟨x,h,hq⟩
theorem Ok.mono {o:Option α} {P':α->Prop} (h:Ok o P) (k: ∀x,P x->P' x):Ok o P':=by obtain⟨x,h1,h2⟩:=h;exact⟨x,h1,k x h2⟩
theorem Ok.bind {o:Option α} {f:α->Option β} (h:Ok o P) (k: ∀x,P x->Ok (f x) Q):Ok (o.bind f) Q:=by
 obtain⟨x,h1,h2⟩:=h;rw [h1];exact k x h2
theorem Ok.eq {o:Option α} {f:α->Option β} {x:α} (h:o=some x) (k:Ok (f x) Q):Ok (o.bind f) Q:=by rw [h];exact k
theorem Ok.bif {b:Bool} {x y:Option β} (ht:b=true->Ok x Q) (hf:b=false->Ok y Q):Ok (bif b then x else y) Q:=by
 cases b with
 | true=>exact ht rfl
 | false=>exact hf rfl
theorem Ok.get {o:Option β} {x:β} (h:Ok o (fun r=>r=x)):o=some x:=by obtain⟨r,h1,h2⟩:=h;rw [h1,h2]
def H8 (Go:S->Prop) (Rt:R->Prop):Fo S R->Prop | .go s=>Go s | .rt r=>Rt r
def F5 (Nx Br:S->Prop) (Rt:R->Prop):Fl S R->Prop | .nx s=>Nx s | .br s=>Br s | .rt r=>Rt r
theorem Ok.nx {Nx Br:S->Prop} {Rt:R->Prop} {s:S} (h:Nx s):Ok (some (Fl.nx s)) (F5 Nx Br Rt):=⟨_,rfl,h⟩
theorem Ok.br {Nx Br:S->Prop} {Rt:R->Prop} {s:S} (h:Br s):Ok (some (Fl.br s)) (F5 Nx Br Rt):=⟨_,rfl,h⟩
theorem Ok.rt {Nx Br:S->Prop} {Rt:R->Prop} {r:R} (h:Rt r):Ok (some (Fl.rt r:Fl S R)) (F5 Nx Br Rt):=⟨_,rfl,h⟩
theorem Ok.cs {Go:S->Prop} {Rt:R->Prop} {o:Fo S R} {f:S->Option β} {g:R->Option β} (h:H8 Go Rt o) (hf: ∀s,Go s->Ok (f s) Q) (hg: ∀r,Rt r->Ok (g r) Q):Ok (o.cs f g) Q:=by
 cases o with
 | go s=>exact hf s h
 | rt r=>exact hg r h
theorem Ok.iT {body:Nat->S->Option S} {m:Nat} {s:S} (Inv:Nat->S->Prop) (hm:m<=4611686018427387904) (h0:Inv 0 s) (h: ∀k s,k<m->Inv k s->Ok (body k s) (Inv (k+1))):Ok (iT m body s) (Inv m):=
 vF Inv hm h0 h
theorem Ok.pI {body:Nat->S->Option (Fl S R)} {m:Nat} {s:S} (Inv:Nat->S->Prop) {Go:S->Prop} {Rt:R->Prop} (hm:m<=4611686018427387904) (h0:Inv 0 s)
  (h: ∀k s,k<m->Inv k s->Ok (body k s) (F5 (Inv (k+1)) Go Rt)) (hg: ∀s,Inv m s->Go s):Ok (pI m body s) (H8 Go Rt):=by
 obtain⟨o,h1,h2⟩:=Fy (R:=R) Inv Go Rt hm h0 (fun k s hk hi=>by
  obtain⟨fl,a1,a2⟩:=h k s hk hi
  exact⟨fl,a1,by cases fl <;> exact a2⟩) hg
 exact⟨o,h1,by cases o <;> exact h2⟩
theorem Ok.mY {body:S->Option (Fl S R)} {N:Nat} {s:S} (Inv:S->Prop) (μ:S->Nat) {Go:S->Prop} {Rt:R->Prop}
  (h: ∀s,Inv s->Ok (body s) (F5 (fun s'=>Inv s'/\μ s'<μ s) Go Rt)) (hi:Inv s) (hn:μ s<N):Ok (mY body N s) (H8 Go Rt):=by
 obtain⟨o,h1,h2⟩:=tt (R:=R) Inv μ Go Rt (fun s hi=>by
  obtain⟨fl,a1,a2⟩:=h s hi
  exact⟨fl,a1,by cases fl <;> exact a2⟩) N s hi hn
 exact⟨o,h1,by cases o <;> exact h2⟩
theorem Ok.app {b:Nat} {l ys:List α} {f:List α->Option β} (h: (l.length+ys.length)*b<=140737488355328) (k:Ok (f (l++ys)) Q):Ok ((Go.Gk.app b l ys).bind f) Q:=by rw [gV h];exact k
theorem Ok.idx {l:List α} {i:Nat} {f:α->Option β} (h:i<l.length) (k:Ok (f l[i]) Q):Ok ((Go.Gk.idx l ((i:Nat):Int)).bind f) Q:=by rw [i7 l i h];exact k
theorem Ok.ix {l:List α} {i:Nat} {x:α} {f:α->Option β} (h:l[i]? =some x) (k:Ok (f x) Q):Ok ((Go.Gk.idx l ((i:Nat):Int)).bind f) Q:=by rw [dN h];exact k
end
theorem Ah {n:Nat} (h:n<=4611686018427387904):IntKind.wrap .i64 ((n:Nat):Int)= ((n:Nat):Int):=eJ (by omega) (by omega)
theorem wrap_add {n m:Nat} (h:n+m<=4611686018427387904):IntKind.wrap .i64 (((n:Nat):Int)+ ((m:Nat):Int))= ((n+m:Nat):Int):=by rw [eJ (by omega) (by omega)];simp
theorem gj {n:Nat} (h:n+1<=4611686018427387904):IntKind.wrap .i64 (((n:Nat):Int)+1)= ((n+1:Nat):Int):=by rw [eJ (by omega) (by omega)];simp
theorem xZ {n:Nat} (h:n+2<=4611686018427387904):IntKind.wrap .i64 (((n:Nat):Int)+2)= ((n+2:Nat):Int):=by rw [eJ (by omega) (by omega)];simp
theorem eA {α:Type} [DecidableEq α]: ∀{l m:List α},l.Nodup->(∀x∈l,x∈m)->l.length<=m.length
 | [],m,_,_=>nS _
 | a::l,m,hn,hs=>by
  have ha:a∈m:=hs a (by simp)
  have hn':=List.nodup_cons.1 hn
  have:=eA (l:=l) (m:=m.erase a) hn'.2 (fun x hx=>by
   rw [List.mem_erase_of_ne (fun e=>hn'.1 (by rw [<-e];exact hx))]
   exact hs x (i6 _ hx))
  rw [List.length_erase_of_mem ha] at this
  have:=List.length_pos_of_mem ha
  simp;omega
section
variable {α:Type} {N:Nat}
def H9 (z:α) (N:Nat) (p0:List α) (p1:α->Option Bool):Option (List α):=
 (pj p0 p1).bind fun x31=>bif (x31==(-1)) then (some p0) else ((mY (fun(s33: (List α)×Int×Int)=>(bif (decide (s33.2.2< (s33.1.length:Int))) then ((idx s33.1 s33.2.2).bind fun x54=>(p1 x54).bind fun x58=>(bif (!x58) then ((idx s33.1 s33.2.1).bind fun x63=>some ((s33.1.set (Int.toNat s33.2.1) x54),(IntKind.wrap .i64 (s33.2.1+1)))) else (some (s33.1,s33.2.1))).bind fun s61=>some (.nx (s61.1,s61.2,(IntKind.wrap .i64 (s33.2.2+1))))) else (some (.br (s33.1,s33.2.1,s33.2.2))):Option (Fl ((List α)×Int×Int) Empty))) N (p0,x31,(IntKind.wrap .i64 (x31+1)))).bind fun o67=>o67.cs (fun(s33: (List α)×Int×Int)=>(rK s33.1 s33.2.1 (s33.1.length:Int)).bind fun x64=>(rK (s33.1.take (Int.toNat s33.2.1)++List.replicate (s33.1.length - Int.toNat s33.2.1) z) 0 s33.2.1).bind fun x65=>some x65) (fun r=>r.elim))
theorem Eh {z:α} {l:List α} {φ:α->Option Bool} (p:α->Bool) (hφ: ∀x∈l,φ x=some (p x)) (hl:l.length<=4611686018427387000) (hN:l.length<N):H9 z N l φ=some (l.filter (fun x=> !p x)):=by
 unfold H9
 rw [oj p (by omega) hφ,aB]
 rcases qY l p with ⟨h1,h2⟩ | ⟨k,x,h1,h2,h3,h4⟩
 ·rw [h1]
  have:l.filter (fun x=> !p x)=l:=List.filter_eq_self.2 fun a ha=>by rw [h2 a ha];rfl
  rw [this];rfl
 ·rw [h1,show (((k:Nat):Int)== -1)=false by simp,aR]
  have hk:=(aW.1 h2).1
  have hpre: (l.take k).filter (fun x=> !p x)=l.take k:=List.filter_eq_self.2 fun a ha=>by
   obtain⟨j,hj⟩:=fP ha
   have hjk:j<k:=by have:=(aW.1 hj).1;rw [cY] at this;omega
   rw [List.getElem?_take_of_lt hjk] at hj
   rw [h4 j a hjk hj];rfl
  have hst:l.take (k+1)=l.take k++[x]:=by
   rw [fu hk];congr 1
   have:=(aW.1 h2).2;rw [this]
  have hk1:IntKind.wrap .i64 (((k:Nat):Int)+1)= ((k+1:Nat):Int):=by rw [eJ (by omega) (by omega)];omega
  rw [hk1]
  obtain⟨o,a1,a2⟩:=tt (S:=(List α)×Int×Int) (R:=Empty) (body:=fun(s33: (List α)×Int×Int)=>(bif (decide (s33.2.2< (s33.1.length:Int))) then ((idx s33.1 s33.2.2).bind fun x54=>(φ x54).bind fun x58=>(bif (!x58) then ((idx s33.1 s33.2.1).bind fun x63=>some ((s33.1.set (Int.toNat s33.2.1) x54),(IntKind.wrap .i64 (s33.2.1+1)))) else (some (s33.1,s33.2.1))).bind fun s61=>some (.nx (s61.1,s61.2,(IntKind.wrap .i64 (s33.2.2+1))))) else (some (.br (s33.1,s33.2.1,s33.2.2))):Option (Fl ((List α)×Int×Int) Empty)))
   (fun s=>∃i j:Nat,s.2.1= ((i:Nat):Int)/\s.2.2= ((j:Nat):Int)/\i<j/\j<=l.length/\s.1.length=l.length/\s.1.take i= (l.take j).filter (fun x=> !p x)/\∀m,j<=m->s.1[m]? =l[m]?)
   (fun s=>l.length - s.2.2.toNat) (fun s=>∃i:Nat,s.2.1= ((i:Nat):Int)/\i<=l.length/\s.1.length=l.length/\s.1.take i=l.filter (fun x=> !p x)) (fun _=>True) (fun s ⟨i,j,e1,e2,hij,hj,hlen,ht,hd⟩=>by
    obtain⟨s,a,b⟩:=s
    dsimp only at e1 e2 hlen ht hd ⊢
    subst e1;subst e2
    by_cases hlt:j<l.length
    ·rw [cA (by rw [hlen];omega),aO]
     have hx:s[j]? =some l[j]:=by rw [hd j (bL _)];exact aJ hlt
     have w1:IntKind.wrap .i64 (((j:Nat):Int)+1)= ((j+1:Nat):Int):=by rw [eJ (by omega) (by omega)];omega
     have w2:IntKind.wrap .i64 (((i:Nat):Int)+1)= ((i+1:Nat):Int):=by rw [eJ (by omega) (by omega)];omega
     have hs2:l.take (j+1)=l.take j++[l[j]]:=fu hlt
     rw [dN hx,aB,hφ _ (cJ hlt),aB,w1]
     cases hp:p l[j] with
     | true=>
      refine⟨.nx (s,((i:Nat):Int),((j+1:Nat):Int)),by rw [lz,aR,aB],⟨i,j+1,rfl,rfl,by omega,by omega,hlen,?_,fun m hm=>hd m (by omega)⟩,?_⟩
      ·rw [hs2,gY,ht];simp [hp]
      ·simp only [bO];omega
     | false=>
      refine⟨.nx (s.set i l[j],((i+1:Nat):Int),((j+1:Nat):Int)),by rw [l6,aO,i7 _ _ (by omega),aB,bO,w2,aB],⟨i+1,j+1,rfl,rfl,by omega,by omega,by simp [hlen],?_,fun m hm=>?_⟩,?_⟩
      ·rw [hs2,gY,<-ht]
       have: (s.set i l[j]).take (i+1)=s.take i++[l[j]]:=by
        rw [fu (by simp;omega),List.take_set_of_le (bL _)];simp
       rw [this];simp [hp]
      ·rw [eO,aC (by omega)];exact hd m (by omega)
      ·simp only [bO];omega
    ·rw [bC (by rw [hlen];omega),aR]
     have hje:j=l.length:=by omega
     subst hje
     rw [eX] at ht
     exact⟨.br (s,((i:Nat):Int),((l.length:Nat):Int)),rfl,i,rfl,by omega,hlen,ht⟩)
   N (l,((k:Nat):Int),((k+1:Nat):Int)) ⟨k,k+1,rfl,rfl,by omega,by omega,rfl,by rw [hst,gY,hpre];simp [h3],fun _ _=>rfl⟩ (by simp only [bO];omega)
  rw [a1,aB]
  cases o with
  | rt r=>exact r.elim
  | go s=>
   obtain⟨i,e1,hi,hlen,ht⟩:=a2
   obtain⟨s,a,b⟩:=s
   dsimp only at e1 hlen ht
   subst e1
   simp only [Fo.cs]
   rw [tv _ _ (by omega),aB,bO,tu _ _ (by simp;omega),aB,List.take_append_of_le_length (by simp;omega),List.take_take,Nat.min_self,ht]
end
section
variable {κ ν:Type} [DecidableEq κ]
theorem iJ (m:List (κ×ν)) (k k':κ) (x z:ν):dG (oe m k x) k' z=if k'=k then x else dG m k' z:=by
 induction m with
 | nil=>unfold oe dG;by_cases h:k'=k <;> simp [h]
 | cons p m ih=>
  unfold oe
  by_cases h:k=p.1
  ·rw [aD h]
   by_cases h':k'=k
   ·subst h';simp [dG]
   ·simp only [dG,List.find?_cons,aC h',bC h']
    rw [bC (fun e=>h' (e.trans h.symm))]
  ·rw [aC h]
   by_cases h':k'=p.1
   ·have:k'≠k:=fun e=>h (e.symm.trans h')
    simp only [dG,List.find?_cons,cA h',aC this]
   ·unfold dG at ih ⊢
    simp only [List.find?_cons,bC h']
    exact ih
theorem kE (m:List (κ×ν)) (k k':κ) (x:ν):iB (oe m k x) k'= (decide (k'=k)||iB m k'):=by
 induction m with
 | nil=>unfold oe iB;simp
 | cons p m ih=>
  unfold oe
  by_cases h:k=p.1
  ·rw [aD h]
   by_cases h':k'=k
   ·simp [iB,h']
   ·simp only [iB,List.any_cons,bC h',Bool.false_or]
    rw [bC (fun e=>h' (e.trans h.symm)),Bool.false_or]
  ·rw [aC h]
   unfold iB at ih ⊢
   simp only [List.any_cons]
   rw [ih]
   cases decide (k'=p.1) <;> cases decide (k'=k) <;> simp
end
end Go.Gk
namespace Go.Gk
open Go
section
variable {N:Nat}
theorem wI (l:List Int) (a b:Nat) (h:a+b<l.length):AV l ((a:Nat):Int) ((b:Nat):Int)=some l[a+b]:=by
 unfold AV
 rw [aD (by omega),show ((a:Nat):Int)+ ((b:Nat):Int)= ((a+b:Nat):Int) by omega,i7 _ _ h]
theorem lh.Ei {l:List Int} {a:Int} (h:lh l) (hl: ∀c∈l,c<a):lh (l++[a]):=by
 unfold lh
 rw [List.pairwise_append]
 exact⟨h,List.pairwise_singleton _ _,fun c hc d hd=>by simp at hd;subst hd;exact hl c hc⟩
theorem lh.last {l:List Int} {a:Int} (h:lh l) (hl:l.getLast? =some a): ∀c∈l,c<=a:=by
 intro c hc
 have hs:=pq hl
 rw [hs] at h hc
 rcases cP.1 hc with h1 | h1
 ·have:=(List.pairwise_append.1 h).2.2 c h1 a (by simp);omega
 ·simp at h1;omega
theorem yW {l:List Int} (hs:l.Pairwise (fun x y=>x<=y)) (hl:l.length<=4611686018427387000) (hN:l.length<N):
  Ok (fE N l) (fun m=>lh m/\∀c,c∈m↔c∈l):=by
 unfold fE
 refine Ok.bif (fun h2=>Ok.ret ⟨?_,fun c=>Iff.rfl⟩) (fun h2=>?_)
 ·have h2:=of_decide_eq_true h2
  match l,h2 with
  | [],_=>exact kp
  | [a],_=>exact List.pairwise_singleton _ _
  | a::b::l,h2=>simp at h2;omega
 ·have h2:=of_decide_eq_false h2
  have le: ∀(i j:Nat) (x y:Int),i<j->l[i]? =some x->l[j]? =some y->x<=y:=fun i j x y hij hx hy=>by
   have:=l5.1 hs i j (aW.1 hx).1 (aW.1 hy).1 hij
   rw [(aW.1 hx).2,(aW.1 hy).2] at this;exact this
  refine Ok.bind (Ok.mY (Go:=fun _=>lh l) (Rt:=fun m=>lh m/\∀c,c∈m↔c∈l) (fun s=>∃k:Nat,s= ((k:Nat):Int)/\1<=k/\k<=l.length/\lh (l.take k)) (fun s=>l.length - s.toNat) ?_ ⟨1,rfl,bL _,by omega,?_⟩ (by simp;omega)) ?_
  ·rintro s ⟨k,rfl,hk1,hkl,hinc⟩
   refine Ok.bif (fun h=>?_) (fun h=>Ok.br ?_)
   ·have hk:k<l.length:=by have:=of_decide_eq_true h;omega
    refine Ok.idx hk ?_
    rw [lW hk1 (by omega)]
    refine Ok.idx (by omega) ?_
    refine Ok.bif (fun he=>?_) (fun he=>?_)
    ·have he:l[k]=l[k - 1]:=by simpa using he
     refine Ok.eq (tv l k hkl) ?_
     refine Ok.bind (Ok.mY (Go:=fun s=>∃i:Nat,s.2.1= ((i:Nat):Int)/\i<=l.length/\s.1.length=l.length/\lh (s.1.take i)/\∀c,c∈s.1.take i↔c∈l) (Rt:=fun _=>True)
      (fun s=>∃i j:Nat,s.2.1= ((i:Nat):Int)/\s.2.2= ((j:Nat):Int)/\1<=j/\k+j<=l.length/\i<=k+j - 1/\s.1.length=l.length/\lh (s.1.take i)/\(s.1.take i).getLast? =l[k+j - 1]? /\
       (∀c,c∈s.1.take i↔c∈l.take (k+j))/\∀m,k+j - 1<=m->s.1[m]? =l[m]?) (fun s=>l.length - s.2.2.toNat) ?_ ?_ (by simp;omega)) ?_
     ·rintro⟨u,a,b⟩ ⟨i,j,e1,e2,hj,hjl,hij,hlen,hi,hlast,hmem,hrest⟩
      dsimp only at e1 e2 hlen hi hlast hmem hrest ⊢
      subst e1;subst e2
      rw [bO]
      refine Ok.bif (fun h=>?_) (fun h=>Ok.br ?_)
      ·have hlt:k+j<l.length:=by have:=of_decide_eq_true h;omega
       have hx:u[k+j]'(by omega)=l[k+j]:=by have:=hrest (k+j) (by omega);rw [aJ (by omega),aJ hlt] at this;injection this
       have hy:u[k+ (j - 1)]'(by omega)=l[k+ (j - 1)]:=by have:=hrest (k+ (j - 1)) (by omega);rw [aJ (by omega),aJ (by omega)] at this;injection this
       refine Ok.eq (wI u k j (by omega)) ?_
       rw [lW hj (by omega)]
       refine Ok.eq (wI u k (j - 1) (by omega)) ?_
       rw [hx,hy]
       have hts:l.take (k+j+1)=l.take (k+j)++[l[k+j]]:=fu hlt
       have hlast': (u.take i).getLast? =some l[k+ (j - 1)]:=by rw [hlast,show k+j - 1=k+ (j - 1) by omega,aJ (by omega)]
       have hxy:l[k+ (j - 1)]<=l[k+j]:=le (k+ (j - 1)) (k+j) _ _ (by omega) (aJ _) (aJ _)
       refine Ok.bind (P:=fun s'=>s'.1.length=l.length/\∃i':Nat,s'.2= ((i':Nat):Int)/\i'<=k+j/\lh (s'.1.take i')/\(s'.1.take i').getLast? =l[k+j]? /\(∀c,c∈s'.1.take i'↔c∈l.take (k+j+1))/\∀m,k+j<=m->s'.1[m]? =l[m]?) ?_ ?_
       ·refine Ok.bif (fun hne=>?_) (fun hne=>Ok.ret ?_)
        ·have hne:l[k+j]≠l[k+ (j - 1)]:=by simpa using hne
         refine Ok.eq (wI u k j (by omega)) ?_
         rw [hx]
         refine Ok.idx (by omega) (Ok.ret ⟨by simp [hlen],i+1,?_,by omega,?_⟩)
         ·rw [gj (by omega)]
         ·dsimp only
          rw [bO]
          have ht: (u.set i l[k+j]).take (i+1)=u.take i++[l[k+j]]:=by
           rw [fu (by simp;omega),List.take_set_of_le (bL _)];simp
          rw [ht]
          refine⟨hi.Ei fun c hc=>?_,by simp [aJ hlt],fun c=>?_,fun m hm=>?_⟩
          ·have:=hi.last hlast' c hc;omega
          ·rw [hts,cP,cP,hmem]
          ·rw [eO,aC (by omega)];exact hrest m (by omega)
        ·have he:l[k+j]=l[k+ (j - 1)]:=by simpa using hne
         refine⟨hlen,i,rfl,by omega,hi,?_,fun c=>?_,fun m hm=>hrest m (by omega)⟩
         ·dsimp only;rw [hlast',aJ hlt,he]
         ·rw [hts,cP,<-hmem]
          constructor
          ·exact .inl
          ·rintro(h | h)
           ·exact h
           ·simp at h;subst h
            rw [he];exact List.mem_of_getLast? hlast'
       ·rintro⟨v,a⟩ ⟨g1,i',g2,g3,g4,g5,g6,g7⟩
        dsimp only at g1 g2 g4 g5 g6 g7 ⊢
        refine Ok.nx ⟨⟨i',j+1,g2,?_,by omega,by omega,by omega,g1,g4,?_,g6,fun m hm=>g7 m (by omega)⟩,?_⟩
        ·rw [gj (by omega)]
        ·rw [show k+ (j+1) - 1=k+j by omega];exact g5
        ·rw [gj (by omega)];simp only [bO];omega
      ·have hge:k+j=l.length:=by have:=of_decide_eq_false h;omega
       refine⟨i,rfl,by omega,hlen,hi,fun c=>?_⟩
       rw [hmem,hge,eX]
     ·refine⟨k,1,rfl,rfl,bL _,by omega,by omega,rfl,hinc,?_,fun c=>?_,fun m _=>rfl⟩
      ·dsimp only
       rw [show k+1 - 1=k by omega,aJ hk,he,List.getLast?_eq_getElem?,cY,Nat.min_eq_left hkl,List.getElem?_take_of_lt (by omega),aJ (by omega)]
      ·dsimp only
       rw [fu hk,cP]
       constructor
       ·exact .inl
       ·rintro(h | h)
        ·exact h
        ·simp at h;subst h;rw [he]
         refine gw (i:=k - 1) ?_
         rw [List.getElem?_take_of_lt (by omega),aJ (by omega)]
     ·rintro o ho
      refine Ok.cs ho ?_ (fun r=>r.elim)
      rintro⟨u,a,b⟩ ⟨i,e1,hi,hlen,hinc',hmem⟩
      dsimp only at e1 hlen hinc' hmem ⊢
      subst e1
      refine Ok.eq (tv u i (by omega)) ?_
      rw [bO]
      refine Ok.eq (tu _ i (by simp;omega)) (Ok.rt ?_)
      rw [List.take_append_of_le_length (by simp;omega),List.take_take,Nat.min_self]
      exact⟨hinc',hmem⟩
    ·have he:l[k]≠l[k - 1]:=by simpa using he
     refine Ok.nx ⟨⟨k+1,by rw [gj (by omega)],by omega,by omega,?_⟩,by rw [gj (by omega)];simp only [bO];omega⟩
     rw [fu hk]
     refine hinc.Ei fun c hc=>?_
     have hlast: (l.take k).getLast? =some l[k - 1]:=by
      rw [List.getLast?_eq_getElem?,cY,Nat.min_eq_left hkl,List.getElem?_take_of_lt (by omega),aJ (by omega)]
     have h3:=hinc.last hlast c hc
     have h4:=le (k - 1) k _ _ (by omega) (aJ (by omega:k - 1<l.length)) (aJ hk)
     omega
   ·have hge:k=l.length:=by have:=of_decide_eq_false h;omega
    subst hge;rw [eX] at hinc;exact hinc
  ·match l,h2 with
   | [],h2=>simp at h2
   | a::l,_=>exact List.pairwise_singleton _ _
  ·rintro o ho
   exact Ok.cs ho (fun s h=>Ok.ret ⟨h,fun c=>Iff.rfl⟩) (fun r h=>Ok.ret h)
def oU (l:List aI):List Int:=l.flatMap fun r=>[r.X0,r.X1]
def kQ (l:List aI):List Int:=l.flatMap fun r=>[r.Y0,r.Y1]
theorem oV {l:List aI} {c:Int}:c∈oU l↔∃r∈l,c=r.X0\/c=r.X1:=by unfold oU;simp [List.mem_flatMap]
theorem kl {l:List aI} {c:Int}:c∈kQ l↔∃r∈l,c=r.Y0\/c=r.Y1:=by unfold kQ;simp [List.mem_flatMap]
theorem kR (l:List aI): (oU l).length=2*l.length:=by
 induction l with
 | nil=>rfl
 | cons r l ih=>unfold oU at *;simp [List.flatMap_cons,ih];omega
theorem jl (l:List aI): (kQ l).length=2*l.length:=by
 induction l with
 | nil=>rfl
 | cons r l ih=>unfold kQ at *;simp [List.flatMap_cons,ih];omega
def sU (X Y:List Int) (s:List Bd):Prop:=∀b∈s,b.y0∈Y/\b.y1∈Y/\∀c∈b.xs,c∈X
theorem sU.push {X Y:List Int} {s:List Bd} {b:Bd} (h:sU X Y s) (h0:b.y0∈Y) (h1:b.y1∈Y) (h2: ∀c∈b.xs,c∈X):sU X Y (ln s b):=by
 intro c hc
 unfold ln at hc
 split at hc
 ·exact h c hc
 ·split at hc
  ·rename_i d hd
   have hdm:d∈s:=List.mem_of_getLast? hd
   split at hc
   ·rcases cP.1 hc with hc | hc
    ·exact h c (List.dropLast_subset _ hc)
    ·simp at hc;subst hc;exact⟨(h d hdm).1,h1,(h d hdm).2.2⟩
   ·rcases cP.1 hc with hc | hc
    ·exact h c hc
    ·simp at hc;subst hc;exact⟨h0,h1,h2⟩
  ·simp at hc;subst hc;exact⟨h0,h1,h2⟩
theorem lh.nodup {l:List Int} (h:lh l):l.Nodup:=List.Pairwise.imp (fun h=>by omega) h
theorem sU.row {X Y:List Int} {s:List Bd} (h:sU X Y s) (hc:dW s) {b:Bd} (hb:b∈s):b.xs.length<=X.length:=eA (hc.each b hb).2.2.1.nodup (h b hb).2.2
theorem sU.len {X Y:List Int} {s:List Bd} (h:sU X Y s) (hc:dW s):s.length<=Y.length:=by
 have hn: (s.map Bd.y0).Nodup:=by
  unfold List.Nodup
  rw [List.pairwise_map]
  refine List.Pairwise.imp_of_mem (fun{a b} ha hb hab=>?_) hc.ord
  have:=(hc.each a ha).1
  have:=hab.1
  omega
 have:=eA hn (m:=Y) (fun x hx=>by
  obtain⟨b,hb,rfl⟩:=cM.1 hx
  exact(h b hb).1)
 rwa [gQ] at this
theorem sU.mono {X Y X' Y':List Int} {s:List Bd} (h:sU X Y s) (hx: ∀c∈X,c∈X') (hy: ∀c∈Y,c∈Y'):sU X' Y' s:=fun b hb=>⟨hy _ (h b hb).1,hy _ (h b hb).2.1,fun c hc=>hx c ((h b hb).2.2 c hc)⟩
theorem lh.lt {l:List Int} (h:lh l) {i j:Nat} {x y:Int} (hij:i<j) (hx:l[i]? =some x) (hy:l[j]? =some y):x<y:=by
 have:=l5.1 h i j (aW.1 hx).1 (aW.1 hy).1 hij
 rw [(aW.1 hx).2,(aW.1 hy).2] at this;exact this
theorem lh.next {l:List Int} (h:lh l) {k:Nat} {x y c:Int} (hx:l[k]? =some x) (hy:l[k+1]? =some y) (hc:c∈l) (hxc:x<c):y<=c:=by
 obtain⟨j,hj⟩:=fP hc
 rcases Nat.lt_trichotomy j (k+1) with h1 | h1 | h1
 ·exfalso
  by_cases e:j=k
  ·subst e;rw [hx] at hj;injection hj with hj;omega
  ·have:=h.lt (show j<k by omega) hj hx;omega
 ·subst h1;rw [hy] at hj;injection hj with hj;omega
 ·have:=h.lt h1 hy hj;omega
theorem sF {l:List aI} {φ:aI->Option Bool} (p:aI->Bool) (hφ: ∀x∈l,φ x=some (p x)) (hl:l.length<=4611686018427387000) (hN:l.length<N):fQ N l φ=some (l.filter (fun x=> !p x)):=
 Eh (z:=(⟨0,0,0,0⟩:aI)) p hφ hl hN
theorem xt {l:List aI} (hl:l.length<=268435456):gJ N l=some l:=by
 unfold gJ;rw [gV (by simp;omega),aB,List.nil_append]
structure Ia (l m:List aI) (ys:List Int) (k:Nat) (out:List aA) (now:List aI) (nx:Nat):Prop where
 can:dW (out.map bK)
 top: ∀c∈out,∀y,ys[k]? =some y->c.Y1<=y
 cover: ∀x y,tM (out.map bK) x y= (vg l x y&&decide (∀a,ys[k]? =some a->y<a))
 lim:sU (oU l) (kQ l) (out.map bK)
 Kx: ∀r∈now,r∈m.take nx
 Ky: ∀r∈m.take nx,∀y,ys[k]? =some y->y<r.Y1->r∈now
 len:now.length<=nx
 J7:nx<=m.length
 rest: ∀(j:Nat) r y,nx<=j->m[j]? =some r->ys[k]? =some y->y<=r.Y0
 low: ∀r∈now,∀y,ys[k]? =some y->r.Y0<=y
structure n0 (l:List aI) (s:List aA):Prop where
 can:dW (s.map bK)
 cover: ∀x y,tM (s.map bK) x y=vg l x y
 lim:sU (oU l) (kQ l) (s.map bK)
theorem pr {l:List aI} (hl:l.length<=134217728) (hok: ∀r∈l,AL r) (hN:4294967296<=N):Ok (fJ N l) (n0 l):=by
 unfold fJ
 refine Ok.eq (xt (by omega)) ?_
 obtain⟨m,h1,h2,h3⟩:=wz (φ:=ij N) (l:=l) (fun a b=>a.Y0 - b.Y0) (fun a ha b hb=>by
  unfold ij;rw [wrap_small (hok a ha).s3 (hok b hb).s3]) (fun a _=>by omega) (fun a _ b _ c _ h1 h2=>by omega) (fun a _ b _ c _ h1 h2=>by omega) (by omega)
 refine Ok.eq h1 ?_
 have hml:m.length=l.length:=h2.length_eq
 have hmem: ∀r,r∈m↔r∈l:=fun r=>h2.mem_iff
 refine Ok.bind (Ok.iT (fun k s=>s=kQ (m.take k)) (by omega) rfl (fun k s hk e=>?_)) ?_
 ·subst e
  refine Ok.idx hk (Ok.app ?_ (Ok.ret ?_))
  ·rw [jl];simp;omega
  ·rw [fu hk]
   unfold kQ;rw [List.flatMap_append];rfl
 rintro s rfl
 rw [eX]
 have hgs:pY (kQ m)=some ((kQ m).mergeSort (fun x y=>decide (x<=y))):=by unfold pY;rw [aD (by rw [jl];omega)]
 refine Ok.eq hgs ?_
 have hsp: ((kQ m).mergeSort (fun x y=>decide (x<=y))).Pairwise (fun x y=>x<=y):=by
  have:=List.pairwise_mergeSort (le:=fun(x y:Int)=>decide (x<=y)) (fun a b c h1 h2=>by simp at *;omega) (fun a b=>by simp;omega) (kQ m)
  exact List.Pairwise.imp (fun h=>by simpa using h) this
 have hsm: ∀c,c∈(kQ m).mergeSort (fun x y=>decide (x<=y))↔c∈kQ m:=fun c=>List.mem_mergeSort
 have hsl: ((kQ m).mergeSort (fun x y=>decide (x<=y))).length=2*m.length:=by rw [List.length_mergeSort,jl]
 generalize (kQ m).mergeSort (fun x y=>decide (x<=y))=sy at hsp hsm hsl
 refine Ok.bind (yW (N:=N) hsp (by omega) (by omega)) ?_
 rintro ys ⟨hy,hym⟩
 have hyl:ys.length<=2*m.length:=by
  have:=eA hy.nodup (m:=sy) (fun c hc=>(hym c).1 hc)
  omega
 have y0m: ∀r∈m,r.Y0∈ys:=fun r hr=>(hym _).2 ((hsm _).2 (kl.2 ⟨r,hr, .inl rfl⟩))
 have y1m: ∀r∈m,r.Y1∈ys:=fun r hr=>(hym _).2 ((hsm _).2 (kl.2 ⟨r,hr, .inr rfl⟩))
 have yml: ∀c∈ys,c∈kQ l:=fun c hc=>by
  obtain⟨r,hr,h⟩:=kl.1 ((hsm _).1 ((hym _).1 hc))
  exact kl.2 ⟨r,(hmem r).1 hr,h⟩
 refine Ok.bind (Ok.mY (Go:=fun s=>n0 l s.1) (Rt:=fun _=>True) (fun s=>∃k nx:Nat,s.2.2.2= ((k:Nat):Int)/\s.2.2.1= ((nx:Nat):Int)/\(k<ys.length\/k=0)/\Ia l m ys k s.1 s.2.1 nx) (fun s=>ys.length - s.2.2.2.toNat) ?_ ?_ (by simp;omega)) ?_
 ·rintro⟨out,now,a,b⟩ ⟨k,nx,e1,e2,hk,I⟩
  dsimp only at e1 e2 I ⊢
  subst e1;subst e2
  rw [gj (by omega)]
  refine Ok.bif (fun h=>?_) (fun h=>Ok.br ?_)
  ·have hk1:k+1<ys.length:=by have:=of_decide_eq_true h;omega
   have hyk:ys[k]? =some ys[k]:=aJ _
   have hyk1:ys[k+1]? =some ys[k+1]:=aJ hk1
   have hlt:=hy.lt (Nat.lt_succ_self k) hyk hyk1
   have hcov:=I.cover
   simp only [hyk,Option.some.injEq,forall_eq'] at hcov
   refine Ok.eq (sF (fun r=>decide (r.Y1<=ys[k])) (fun r _=>by unfold lC;rw [i7 ys k (by omega),aB]) (by have:=I.len;have:=I.J7;omega) (by have:=I.len;have:=I.J7;omega)) ?_
   have hfl:=kq (fun r:aI=> !decide (r.Y1<=ys[k])) now
   have hIl:=I.len
   have hIn:=I.J7
   refine Ok.bind (Ok.mY (Go:=fun s=>∃nx':Nat,s.2= ((nx':Nat):Int)/\nx'<=m.length/\s.1.length<=nx'/\(∀r∈s.1,r∈m.take nx')/\(∀r∈m.take nx',ys[k]<r.Y1->r∈s.1)/\(∀r∈s.1,r.Y0<=ys[k]/\ys[k]<r.Y1)/\(∀(j:Nat) r,nx'<=j->m[j]? =some r->ys[k]<r.Y0)) (Rt:=fun _=>True)
    (fun s=>∃nx':Nat,s.2= ((nx':Nat):Int)/\nx<=nx'/\nx'<=m.length/\s.1.length<=nx'/\(∀r∈s.1,r∈m.take nx')/\(∀r∈m.take nx',ys[k]<r.Y1->r∈s.1)/\(∀r∈s.1,r.Y0<=ys[k]/\ys[k]<r.Y1)) (fun s=>m.length - s.2.toNat) ?_ ?_ (by simp;omega)) ?_
   ·rintro⟨nw,b⟩ ⟨nx',e1,g0,g1,g2,g3,g4,g5⟩
    dsimp only at e1 g2 g3 g4 g5 ⊢
    subst e1
    refine Ok.bind (P:=fun b=>b=true↔∃h:nx'<m.length,m[nx'].Y0<=ys[k]) ?_ ?_
    ·refine Ok.bif (fun h=>?_) (fun h=>Ok.ret ?_)
     ·have hlt:nx'<m.length:=by have:=of_decide_eq_true h;omega
      refine Ok.idx hlt (Ok.idx (by omega) (Ok.ret ?_))
      rw [bI];exact⟨fun h=>⟨hlt,h⟩,fun⟨_,h⟩=>h⟩
     ·have:=of_decide_eq_false h
      constructor
      ·intro h;cases h
      ·rintro⟨h,_⟩;omega
    ·intro bb hbb
     refine Ok.bif (fun h=>?_) (fun h=>Ok.br ?_)
     ·obtain⟨hlt,h0⟩:=hbb.1 h
      have hts:m.take (nx'+1)=m.take nx'++[m[nx']]:=fu hlt
      refine Ok.idx hlt (Ok.app (by simp;omega) (Ok.nx ⟨⟨nx'+1,by rw [gj (by omega)],by omega,by omega,by simp;omega,fun r hr=>?_,fun r hr hr2=>?_,fun r hr=>?_⟩,by rw [gj (by omega)];simp only [bO];omega⟩))
      ·rw [hts]
       rcases cP.1 hr with h | h
       ·exact List.mem_append_left _ (g3 r h)
       ·exact List.mem_append_right _ h
      ·rw [hts] at hr
       rcases cP.1 hr with h | h
       ·exact List.mem_append_left _ (g4 r h hr2)
       ·exact List.mem_append_right _ h
      ·rcases cP.1 hr with h | h
       ·exact g5 r h
       ·simp at h;subst h
        refine⟨h0,?_⟩
        have:=(hok m[nx'] ((hmem _).1 (cJ hlt))).y
        have:=I.rest nx' _ ys[k] g0 (aJ hlt) hyk
        omega
     ·refine⟨nx',rfl,g1,g2,g3,g4,g5,fun j r hj hr=>?_⟩
      have hjl:=(aW.1 hr).1
      have hlt:nx'<m.length:=by omega
      have h0: ¬m[nx'].Y0<=ys[k]:=fun h0=>by rw [hbb.2 ⟨hlt,h0⟩] at h;cases h
      by_cases e:nx'=j
      ·subst e;rw [aJ hlt] at hr;injection hr with hr;subst hr;omega
      ·have:=l5.1 h3 nx' j hlt hjl (by omega)
       have hr':=(aW.1 hr).2
       rw [hr'] at this;omega
   ·refine⟨nx,rfl,bL _,hIn,by dsimp only;omega,fun r hr=>I.Kx r (gI.1 hr).1,fun r hr h=>gI.2 ⟨I.Ky r hr ys[k] hyk h,by simpa using h⟩,fun r hr=>?_⟩
    have hr:=gI.1 hr
    have hr2:ys[k]<r.Y1:=by simpa using hr.2
    exact⟨I.low r hr.1 ys[k] hyk,hr2⟩
   ·rintro o ho
    refine Ok.cs ho ?_ (fun r=>r.elim)
    rintro⟨nw,b⟩ ⟨nx',e1,g1,g2,g3,g4,g5,g6⟩
    dsimp only at e1 g2 g3 g4 g5 ⊢
    subst e1
    refine Ok.idx (by omega) (Ok.idx hk1 ?_)
    have hnm: ∀r∈nw,r∈l:=fun r hr=>(hmem r).1 (List.take_subset _ _ (g3 r hr))
    obtain⟨row,nw',s1,s2,s3,s4,s5,s6,s7⟩:=yV (N:=N) (l:=nw) (by omega) (fun r hr=>hok r (hnm r hr))
    refine Ok.eq s1 ?_
    have hlimx: ∀c∈row,c∈oU l:=fun c hc=>by
     obtain⟨r,hr,h⟩:=s7 c hc
     exact oV.2 ⟨r,hnm r hr,h⟩
    have hol:out.length<=2*l.length:=by have:=I.lim.len I.can;rw [jl,gQ] at this;exact this
    have hox: ∀c∈out,c.Xs.length<=2*l.length:=fun c hc=>by
     have:=I.lim.row I.can (b:=bK c) (cM.2 ⟨c,hc,rfl⟩)
     rw [kR] at this;exact this
    obtain⟨out',p1,p2⟩:=B4 (N:=N) (s:=out) (b:=⟨ys[k],ys[k+1],row⟩) (by omega) (fun c hc=>by have:=hox c hc;omega)
    refine Ok.eq p1 ?_
    have htop: ∀c∈out.map bK,c.y1<=(bK ⟨ys[k],ys[k+1],row⟩).y0:=fun c hc=>by
     obtain⟨d,hd,rfl⟩:=cM.1 hc
     exact I.top d hd ys[k] hyk
    have hcan:=uO I.can htop s3 s4
    refine Ok.nx ⟨⟨k+1,nx',rfl,rfl, .inl hk1,⟨by dsimp only;rw [p2];exact hcan,fun c hc y hy1=>?_,fun x y=>?_,?_,fun r hr=>g3 r (s2.subset hr),fun r hr y hy1 h=>?_,by rw [s2.length_eq];exact g2,g1,fun j r y hj hr hy1=>?_,fun r hr y hy1=>?_⟩⟩,by simp only [bO];omega⟩
    ·rw [hyk1] at hy1;injection hy1 with hy1;subst hy1
     have hm':bK c∈ln (out.map bK) (bK ⟨ys[k],ys[k+1],row⟩):=by rw [<-p2];exact cM.2 ⟨c,hc,rfl⟩
     exact uP htop (by show ys[k]<=ys[k+1];omega) _ hm'
    ·simp only [hyk1,Option.some.injEq,forall_eq']
     unfold tM
     rw [p2,uN htop (fun c hc=>(I.can.each c hc).1) (fun h=>absurd h (by show ¬ys[k+1]<=ys[k];omega))]
     by_cases hyy:ys[k]<=y/\y<ys[k+1]
     ·rw [aD (show (bK ⟨ys[k],ys[k+1],row⟩).y0<=y/\y< (bK ⟨ys[k],ys[k+1],row⟩).y1 from hyy),cA hyy.2,Bool.and_true]
      show lL row x=_
      rw [s5,fz,wG,jC]
      constructor
      ·rintro⟨r,hr,h⟩
       have hrm:=List.take_subset _ _ (g3 r hr)
       have h5:=g5 r hr
       have:=hy.next hyk hyk1 (y1m r hrm) h5.2
       exact⟨r,hnm r hr,h,by omega,by omega⟩
      ·rintro⟨r,hr,h,h7,h8⟩
       have hrm:=(hmem r).2 hr
       have h9:r.Y0<=ys[k]:=by
        by_cases h10:r.Y0<=ys[k]
        ·exact h10
        ·have:=hy.next hyk hyk1 (y0m r hrm) (by omega);omega
       have h11:r∈m.take nx':=by
        obtain⟨j,hj⟩:=fP hrm
        by_cases h12:j<nx'
        ·exact gw (i:=j) (by rw [List.getElem?_take_of_lt h12];exact hj)
        ·have:=g6 j r (by omega) hj;omega
       exact⟨r,g4 r h11 (by omega),h⟩
     ·rw [aC (show ¬((bK ⟨ys[k],ys[k+1],row⟩).y0<=y/\y< (bK ⟨ys[k],ys[k+1],row⟩).y1) from hyy)]
      show tM (out.map bK) x y=_
      rw [hcov]
      by_cases h1:y<ys[k]
      ·rw [cA h1,cA (show y<ys[k+1] by omega)]
      ·rw [bC h1,bC (show ¬y<ys[k+1] by omega)]
    ·show sU (oU l) (kQ l) (out'.map bK)
     rw [p2]
     exact I.lim.push (yml _ (cJ _)) (yml _ (cJ _)) hlimx
    ·rw [hyk1] at hy1;injection hy1 with hy1;subst hy1
     exact s2.symm.subset (g4 r hr (by omega))
    ·rw [hyk1] at hy1;injection hy1 with hy1;subst hy1
     exact hy.next hyk hyk1 (y0m r (gw hr)) (g6 j r hj hr)
    ·rw [hyk1] at hy1;injection hy1 with hy1;subst hy1
     have:=(g5 r (s2.subset hr)).1;omega
  ·have hge: ¬k+1<ys.length:=by have:=of_decide_eq_false h;omega
   refine⟨I.can,fun x y=>?_,I.lim⟩
   rw [I.cover]
   by_cases hyn:ys= []
   ·have:vg l x y=false:=by
     rw [<-nQ,jC]
     rintro⟨r,hr,_⟩
     have:=y0m r ((hmem r).2 hr)
     rw [hyn] at this;cases this
    rw [this];rfl
   ·have hkl:k<ys.length:=by
     rcases hk with h | h
     ·exact h
     ·subst h;exact List.length_pos_iff.2 hyn
    rw [aJ hkl]
    simp only [Option.some.injEq,forall_eq']
    cases hc:vg l x y with
    | false=>rfl
    | true=>
     obtain⟨r,hr,_,h7,h8⟩:=jC.1 hc
     have:=y1m r ((hmem r).2 hr)
     obtain⟨j,hj⟩:=fP this
     have hjl:=(aW.1 hj).1
     have:r.Y1<=ys[k]:=by
      by_cases e:j=k
      ·subst e;rw [aJ hkl] at hj;injection hj with hj;omega
      ·have:=hy.lt (show j<k by omega) hj (aJ hkl);omega
     rw [cA (show y<ys[k] by omega)];rfl
 ·refine⟨0,0,rfl,rfl, .inr rfl,?_⟩
  show Ia l m ys 0 [] [] 0
  refine⟨dW.nil,fun c hc=>(by cases hc),fun x y=>?_,fun b hb=>(by cases hb),fun r hr=>(by cases hr),fun r hr=>(by rw [List.take_zero] at hr;cases hr),bL _,nS _,fun j r y _ hr hy0=>?_,fun r hr=>(by cases hr)⟩
  ·show false=_
   symm
   rw [Bool.and_eq_false_iff]
   cases hc:vg l x y with
   | false=>exact .inl rfl
   | true=>
    right
    obtain⟨r,hr,_,h7,h8⟩:=jC.1 hc
    have hr0:=y0m r ((hmem r).2 hr)
    have hpos:0<ys.length:=List.length_pos_of_mem hr0
    rw [decide_eq_false_iff_not]
    intro h
    have h:=h ys[0] (aJ hpos)
    obtain⟨j,hj⟩:=fP hr0
    by_cases e:j=0
    ·subst e;rw [aJ hpos] at hj;injection hj with hj;omega
    ·have:=hy.lt (show 0<j by omega) (aJ hpos) hj;omega
  ·obtain⟨j',hj'⟩:=fP (y0m r (gw hr))
   by_cases e:j'=0
   ·subst e;rw [hy0] at hj';injection hj' with hj';omega
   ·have:=hy.lt (show 0<j' by omega) hy0 hj';omega
 ·rintro o ho
  refine Ok.cs ho (fun s h=>Ok.ret h) (fun r=>r.elim)
end
end Go.Gk
namespace Go.Gk
open Go
section
variable {N:Nat}
def x0:List Int->List (Int×Int)
 | a::b::l=>(a,b)::x0 l
 | _=>[]
theorem vH: ∀(xs:List Int),(x0 xs).length=xs.length / 2
 | []=>rfl
 | [a]=>by simp [x0]
 | a::b::l=>by unfold x0;rw [jP,vH l];simp only [jP];omega
theorem tO: ∀(xs:List Int) (j:Nat) (h:2*j+1<xs.length),(x0 xs)[j]? =some (xs[2*j],xs[2*j+1])
 | [],j,h=>by simp at h
 | [a],j,h=>by simp at h
 | a::b::l,0,h=>rfl
 | a::b::l,j+1,h=>by
  have:=tO l j (by simp at h;omega)
  unfold x0
  rw [List.getElem?_cons_succ,this]
  have e1: (a::b::l)[2* (j+1)]=l[2*j]'(by simp at h;omega):=by simp [show 2* (j+1)=2*j+1+1 by omega]
  have e2: (a::b::l)[2* (j+1)+1]=l[2*j+1]'(by simp at h;omega):=by simp [show 2* (j+1)+1=2*j+1+1+1 by omega]
  rw [e1,e2]
theorem tP: ∀{xs:List Int},xs.length % 2=0->nZ (x0 xs)=xs
 | [],_=>rfl
 | [a],h=>by simp at h
 | a::b::l,h=>by unfold x0;rw [lY,tP (by simp at h;omega)]
theorem FG {xs:List Int} (h:lh xs) (he:xs.length % 2=0) (x:Int):lL xs x=CS (x0 xs) x:=by
 have:=tN (l:=x0 xs) (by rw [tP he];exact h) x
 rwa [tP he] at this
theorem yX {xs:List Int}: ∀p∈x0 xs,p.1∈xs/\p.2∈xs:=by
 intro p hp
 obtain⟨j,hj⟩:=fP hp
 have hjl:=(aW.1 hj).1
 rw [vH] at hjl
 rw [tO xs j (by omega)] at hj
 injection hj with hj;subst hj
 exact⟨cJ _,cJ _⟩
theorem Bp {xs:List Int} (h:lh xs): ∀p∈x0 xs,p.1<p.2:=by
 intro p hp
 obtain⟨j,hj⟩:=fP hp
 have hjl:=(aW.1 hj).1
 rw [vH] at hjl
 rw [tO xs j (by omega)] at hj
 injection hj with hj;subst hj
 exact h.lt (show 2*j<2*j+1 by omega) (aJ _) (aJ _)
def lq (b:aA):List aI:=(x0 b.Xs).map fun p=>⟨p.1,b.Y0,p.2,b.Y1⟩
def aM (s:List aA):List aI:=s.flatMap lq
theorem lr (b:aA) (s:List aA):aM (b::s)=lq b++aM s:=rfl
theorem kF (b:aA): (lq b).length=b.Xs.length / 2:=by unfold lq;rw [gQ,vH]
theorem kS (s t:List aA):aM (s++t)=aM s++aM t:=List.flatMap_append
theorem uR (s:List aA) (k:Nat): (aM (s.take k)).length<=(aM s).length:=by
 conv=>rhs;rw [<-List.take_append_drop k s,kS,dK]
 omega
theorem wJ {s:List aA} {A B:Nat} (h1:s.length<=A) (h2: ∀b∈s,b.Xs.length<=B): (aM s).length<=A*B:=by
 induction s generalizing A with
 | nil=>simp [aM]
 | cons b s ih=>
  rw [lr,dK,kF]
  simp at h1
  obtain⟨A',rfl⟩: ∃A',A=A'+1:=⟨A - 1,by omega⟩
  have:=ih (A:=A') (by omega) (fun c hc=>h2 c (i6 _ hc))
  have:=h2 b (by simp)
  rw [Nat.add_mul];omega
theorem wK {s:List aA} (he: ∀b∈s,b.Xs.length % 2=0) (h1:s.length<=1099511627776) (h2: ∀b∈s,b.Xs.length<=1099511627776/\b.Xs.length<N) (h3: (aM s).length<=1099511627776):gS N s=some (aM s):=by
 refine Ok.get ?_
 unfold gS
 refine Ok.bind (Ok.iT (fun k t=>t=aM (s.take k)) (by omega) rfl (fun k t hk e=>?_)) (fun t e=>Ok.ret (by rw [e,eX]))
 subst e
 refine Ok.idx hk ?_
 have hm:=cJ hk
 generalize hb:s[k]=b at hm ⊢
 have heb:=he b hm
 have hbl:=h2 b hm
 have hts:aM (s.take (k+1))=aM (s.take k)++lq b:=by
  rw [fu hk,kS,hb];simp [aM]
 have hle:=uR s (k+1)
 rw [hts,dK,kF] at hle
 refine Ok.bind (Ok.mY (Go:=fun s'=>s'.1=aM (s.take (k+1))) (Rt:=fun _=>True) (fun s'=>∃j:Nat,s'.2= ((2*j:Nat):Int)/\2*j<=b.Xs.length/\s'.1=aM (s.take k)++(lq b).take j) (fun s'=>b.Xs.length - s'.2.toNat) ?_ ⟨0,rfl,by omega,by simp⟩ (by simp;omega)) ?_
 ·rintro⟨acc,i⟩ ⟨j,e1,hj,e2⟩
  dsimp only at e1 e2 ⊢
  subst e1;subst e2
  refine Ok.bif (fun h=>?_) (fun h=>Ok.br ?_)
  ·have hlt:2*j+1<b.Xs.length:=by have:=of_decide_eq_true h;omega
   refine Ok.idx (by omega) ?_
   rw [gj (by omega)]
   refine Ok.idx hlt (Ok.app ?_ (Ok.nx ⟨⟨j+1,?_,by omega,?_⟩,?_⟩))
   ·simp;rw [kF];omega
   ·rw [xZ (by omega)];congr 1
   ·rw [iK]
    congr 1
    have hg: (lq b)[j]? =some ⟨b.Xs[2*j],b.Y0,b.Xs[2*j+1],b.Y1⟩:=by
     unfold lq;rw [gX,tO _ _ hlt];rfl
    have hjl:=(aW.1 hg).1
    rw [fu hjl,(aW.1 hg).2]
   ·rw [xZ (by omega)];simp only [bO];omega
  ·have hge:2*j=b.Xs.length:=by have:=of_decide_eq_false h;omega
   show aM (s.take k)++(lq b).take j=_
   rw [hts,nR (l:=lq b) (by rw [kF];omega)]
 ·rintro o ho
  exact Ok.cs ho (fun s' h=>Ok.ret h) (fun r=>r.elim)
theorem FH {s:List aA} (h1:s.length<=1099511627776) (h2: ∀b∈s,b.Xs.length<=1099511627776) (h3: (aM s).length<=1099511627776):kb N s=some (((aM s).length:Nat):Int):=by
 refine Ok.get ?_
 unfold kb
 refine Ok.bind (Ok.iT (fun k t=>t= (((aM (s.take k)).length:Nat):Int)) (by omega) rfl (fun k t hk e=>?_)) (fun t e=>Ok.ret (by rw [e,eX]))
 subst e
 refine Ok.idx hk (Ok.ret ?_)
 have hm:=cJ hk
 have hbl:=h2 _ hm
 have hts:aM (s.take (k+1))=aM (s.take k)++lq s[k]:=by
  rw [fu hk,kS];simp [aM]
 have hle:=uR s (k+1)
 rw [hts,dK,kF] at hle
 have e:Int.tdiv ((s[k].Xs.length:Nat):Int) 2= ((s[k].Xs.length / 2:Nat):Int):=by
  rw [show (2:Int)= ((2:Nat):Int) by rfl,<-Int.ofNat_tdiv]
 rw [e,Ah (by omega),wrap_add (by omega),hts,dK,kF]
theorem Bq (l m:List aI) (x y:Int):vg (l++m) x y= (vg l x y||vg m x y):=List.any_append
theorem Ej {b:aA} (h:lh b.Xs) (he:b.Xs.length % 2=0) (x y:Int):vg (lq b) x y= (lL b.Xs x&&(decide (b.Y0<=y)&&decide (y<b.Y1))):=by
 rw [FG h he,fz,jC,bJ,wH,bJ,bI,bI]
 unfold lq
 constructor
 ·rintro⟨r,hr,h1,h2⟩
  obtain⟨p,hp,rfl⟩:=cM.1 hr
  exact⟨⟨p,hp,h1⟩,h2⟩
 ·rintro⟨⟨p,hp,h1⟩,h2⟩
  exact⟨_,cM.2 ⟨p,hp,rfl⟩,h1,h2⟩
theorem q9: ∀{s:List aA},dW (s.map bK)->∀x y,vg (aM s) x y=tM (s.map bK) x y
 | [],_,x,y=>rfl
 | b::s,h,x,y=>by
  rw [lr,Bq,q9 h.tail x y]
  have hb:=h.each (bK b) (by simp)
  rw [Ej hb.2.2.1 hb.2.2.2]
  unfold tM
  rw [eI,ki]
  by_cases hy:b.Y0<=y/\y<b.Y1
  ·rw [aD (show (bK b).y0<=y/\y< (bK b).y1 from hy),jB (fun c hc=> .inl (by have:=h.wD c hc;have e: (bK b).y1=b.Y1:=rfl;omega)),cA hy.1,cA hy.2]
   show (lL b.Xs x&&true||false)=lL b.Xs x
   simp
  ·rw [aC (show ¬((bK b).y0<=y/\y< (bK b).y1) from hy)]
   have: (decide (b.Y0<=y)&&decide (y<b.Y1))=false:=by rw [Bool.and_eq_false_iff,decide_eq_false_iff_not,decide_eq_false_iff_not];omega
   rw [this];simp
theorem m6 {s:List aA} {r:aI} (h:r∈aM s): ∃b∈s,∃p∈x0 b.Xs,r= ⟨p.1,b.Y0,p.2,b.Y1⟩:=by
 unfold aM lq at h
 obtain⟨b,hb,h⟩:=List.mem_flatMap.1 h
 obtain⟨p,hp,rfl⟩:=cM.1 h
 exact⟨b,hb,p,hp,rfl⟩
theorem wL {s:List aA} {X Y:List Int} (h:dW (s.map bK)) (hl:sU X Y (s.map bK)) (hx: ∀c∈X,small c) (hy: ∀c∈Y,small c): ∀r∈aM s,AL r/\(r.X0∈X/\r.X1∈X)/\r.Y0∈Y/\r.Y1∈Y:=by
 intro r hr
 obtain⟨b,hb,p,hp,rfl⟩:=m6 hr
 have hm:bK b∈s.map bK:=cM.2 ⟨b,hb,rfl⟩
 have hc:=h.each _ hm
 have hll:=hl _ hm
 have h1:=yX p hp
 have h2:=hll.2.2 p.1 h1.1
 have h3:=hll.2.2 p.2 h1.2
 exact⟨⟨Bp hc.2.2.1 p hp,hc.1,hx _ h2,hx _ h3,hy _ hll.1,hy _ hll.2.1⟩,⟨h2,h3⟩,hll.1,hll.2.1⟩
theorem sG {l:List Int} {x:Int} (h: ∀c∈l,c<=x):lL l x= (l.length % 2==1):=by unfold lL;rw [B2 h]
theorem uS {l:List Int} {a x:Int} (h:x<a):lL (l++[a]) x=lL l x:=by unfold lL;rw [wA,kP,aC (by omega),yU];rfl
def CW (l:List Int):Bool:=l.length % 2==1
theorem wM (l:List Int) (a:Int):CW (l++[a]) = !CW l:=by
 unfold CW
 rw [dK,fz,Bool.not_eq_true',beq_iff_eq,beq_eq_false_iff_ne]
 simp;omega
structure Ai (jz:Bool->Bool->Bool) (a b a' b' out:List Int) (inA inB is:Bool) (pa pb:List Int):Prop where
 ea:a=pa++a'
 eb:b=pb++b'
 oa:inA=CW pa
 ob:inB=CW pb
 oo:is=CW out
 ok:is=jz inA inB
 low: ∀c,(c∈pa\/c∈pb\/c∈out)->∀d,(d∈a'\/d∈b')->c<d
 inc:lh out
 Ib: ∀x,(∀d,(d∈a'\/d∈b')->x<d)->lL out x=jz (lL pa x) (lL pb x)
 mem: ∀c∈out,c∈pa\/c∈pb
 len:out.length<=pa.length+pb.length
theorem Ai.step {jz:Bool->Bool->Bool} {a b a' b' out:List Int} {inA inB is:Bool} {pa pb:List Int} (I:Ai jz a b a' b' out inA inB is pa pb) (ha:lh a) (hb:lh b) (x:Int) (ta tb:List Int) (wa wb:Bool)
  (h1:a'= (if wa then x::ta else ta)) (h2:b'= (if wb then x::tb else tb)) (hw:wa=true\/wb=true) (hx: ∀d,(d∈ta\/d∈tb)->x<d):
  Ai jz a b ta tb (if jz (inA ^^ wa) (inB ^^ wb)=is then out else out++[x]) (inA ^^ wa) (inB ^^ wb) (jz (inA ^^ wa) (inB ^^ wb)) (if wa then pa++[x] else pa) (if wb then pb++[x] else pb):=by
 have hxm:x∈a'\/x∈b':=by
  rcases hw with h | h
  ·left;rw [h1,aD h];simp
  ·right;rw [h2,aD h];simp
 have hsub: ∀d,(d∈ta\/d∈tb)->d∈a'\/d∈b':=fun d hd=>by
  rcases hd with h | h
  ·left;rw [h1];split
   ·exact i6 _ h
   ·exact h
  ·right;rw [h2];split
   ·exact i6 _ h
   ·exact h
 have hlow: ∀c,(c∈pa\/c∈pb\/c∈out)->c<x:=fun c hc=>I.low c hc x hxm
 have hpa: ∀c∈(if wa then pa++[x] else pa),c∈pa\/(wa=true/\c=x):=fun c hc=>by
  split at hc
  ·rename_i h
   rcases cP.1 hc with h' | h'
   ·exact .inl h'
   ·simp at h';exact .inr ⟨h,h'⟩
  ·exact .inl hc
 have hpb: ∀c∈(if wb then pb++[x] else pb),c∈pb\/(wb=true/\c=x):=fun c hc=>by
  split at hc
  ·rename_i h
   rcases cP.1 hc with h' | h'
   ·exact .inl h'
   ·simp at h';exact .inr ⟨h,h'⟩
  ·exact .inl hc
 have hout: ∀c∈(if jz (inA ^^ wa) (inB ^^ wb)=is then out else out++[x]),c∈out\/c=x:=fun c hc=>by
  split at hc
  ·exact .inl hc
  ·rcases cP.1 hc with h' | h'
   ·exact .inl h'
   ·simp at h';exact .inr h'
 have ooA: (inA ^^ wa)=CW (if wa then pa++[x] else pa):=by
  rw [I.oa];cases wa <;> simp [wM]
 have ooB: (inB ^^ wb)=CW (if wb then pb++[x] else pb):=by
  rw [I.ob];cases wb <;> simp [wM]
 have ooO:jz (inA ^^ wa) (inB ^^ wb)=CW (if jz (inA ^^ wa) (inB ^^ wb)=is then out else out++[x]):=by
  split
  ·rename_i h;rw [h];exact I.oo
  ·rename_i h
   rw [wM,<-I.oo]
   cases hk:jz (inA ^^ wa) (inB ^^ wb) <;> cases his:is <;> simp_all
 refine⟨?_,?_,ooA,ooB,ooO,rfl,?_,?_,?_,?_,?_⟩
 ·rw [I.ea,h1];split <;> simp
 ·rw [I.eb,h2];split <;> simp
 ·intro c hc d hd
  have hd':=hx d hd
  have hdd:=hsub d hd
  rcases hc with h | h | h
  ·rcases hpa c h with h' | ⟨_,rfl⟩
   ·exact I.low c (.inl h') d hdd
   ·exact hd'
  ·rcases hpb c h with h' | ⟨_,rfl⟩
   ·exact I.low c (.inr (.inl h')) d hdd
   ·exact hd'
  ·rcases hout c h with h' | rfl
   ·exact I.low c (.inr (.inr h')) d hdd
   ·exact hd'
 ·split
  ·exact I.inc
  ·exact I.inc.Ei fun c hc=>hlow c (.inr (.inr hc))
 ·intro y hy
  by_cases hxy:y<x
  ·have e1:lL (if wa then pa++[x] else pa) y=lL pa y:=by split;exact uS hxy;rfl
   have e2:lL (if wb then pb++[x] else pb) y=lL pb y:=by split;exact uS hxy;rfl
   have e3:lL (if jz (inA ^^ wa) (inB ^^ wb)=is then out else out++[x]) y=lL out y:=by split;rfl;exact uS hxy
   rw [e1,e2,e3]
   refine I.Ib y fun d hd=>?_
   have:x<=d:=by
    rcases hd with h | h
    ·rw [h1] at h
     split at h
     ·rcases f9.1 h with rfl | h
      ·exact Int.le_refl _
      ·have:=hx d (.inl h);omega
     ·have:=hx d (.inl h);omega
    ·rw [h2] at h
     split at h
     ·rcases f9.1 h with rfl | h
      ·exact Int.le_refl _
      ·have:=hx d (.inr h);omega
     ·have:=hx d (.inr h);omega
   omega
  ·rw [sG (l:=if wa then pa++[x] else pa),sG (l:=if wb then pb++[x] else pb),sG]
   ·have e1:=ooA;have e2:=ooB;have e3:=ooO
    unfold CW at e1 e2 e3
    rw [<-e1,<-e2,<-e3]
   ·intro c hc
    rcases hout c hc with h | rfl
    ·have:=hlow c (.inr (.inr h));omega
    ·omega
   ·intro c hc
    rcases hpb c hc with h | ⟨_,rfl⟩
    ·have:=hlow c (.inr (.inl h));omega
    ·omega
   ·intro c hc
    rcases hpa c hc with h | ⟨_,rfl⟩
    ·have:=hlow c (.inl h);omega
    ·omega
 ·intro c hc
  have m1: ∀c,c∈pa->c∈(if wa then pa++[x] else pa):=fun c h=>by split;exact List.mem_append_left _ h;exact h
  have m2: ∀c,c∈pb->c∈(if wb then pb++[x] else pb):=fun c h=>by split;exact List.mem_append_left _ h;exact h
  rcases hout c hc with h | rfl
  ·rcases I.mem c h with h | h
   ·exact .inl (m1 c h)
   ·exact .inr (m2 c h)
  ·rcases hw with h | h
   ·left;rw [aD h];simp
   ·right;rw [aD h];simp
 ·have:=I.len
  have h3: (if wa then pa++[x] else pa).length+ (if wb then pb++[x] else pb).length>=pa.length+pb.length+1:=by
   rcases hw with h | h
   ·subst h;cases wb <;> simp <;> omega
   ·subst h;cases wa <;> simp <;> omega
  split
  ·omega
  ·simp at h3 ⊢;omega
end
end Go.Gk
namespace Go.Gk
open Go
section
variable {N:Nat}
theorem gW (x:Int) (l:List Int):idx (x::l) 0=some x:=rfl
theorem oW {α:Type} (x:α) (l:List α):rK (x::l) 1 (((x::l).length:Nat):Int)=some l:=tv (x::l) 1 (by simp)
theorem iQ {α:Type} (x:α) (l:List α):decide ((((x::l).length:Nat):Int)>0)=true:=cA (by simp)
theorem ra {α:Type} (x:α) (l:List α): ((((x::l).length:Nat):Int)==0)=false:=by rw [beq_eq_false_iff_ne];simp;omega
theorem Bs {a b:List Int} (ha:lh a) (hb:lh b) (h:a≠[]\/b≠[]): ∃x ta tb wa wb,a= (if wa then x::ta else ta)/\b= (if wb then x::tb else tb)/\(wa=true\/wb=true)/\(∀d,(d∈ta\/d∈tb)->x<d):=by
 match a,b,ha,hb,h with
 | [],[],_,_,h=>rcases h with h | h <;> exact absurd rfl h
 | x::ta,[],ha,_,_=>exact⟨x,ta,[],true,false,rfl,rfl, .inl rfl,fun d hd=>by rcases hd with h | h;exact ha.head d h;cases h⟩
 | [],y::tb,_,hb,_=>exact⟨y,[],tb,false,true,rfl,rfl, .inr rfl,fun d hd=>by rcases hd with h | h;cases h;exact hb.head d h⟩
 | x::ta,y::tb,ha,hb,_=>
  rcases Int.lt_trichotomy x y with h | h | h
  ·refine⟨x,ta,y::tb,true,false,rfl,rfl, .inl rfl,fun d hd=>?_⟩
   rcases hd with h1 | h1
   ·exact ha.head d h1
   ·rcases f9.1 h1 with rfl | h1
    ·exact h
    ·have:=hb.head d h1;omega
  ·subst h
   exact⟨x,ta,tb,true,true,rfl,rfl, .inl rfl,fun d hd=>by rcases hd with h | h;exact ha.head d h;exact hb.head d h⟩
  ·refine⟨y,x::ta,tb,false,true,rfl,rfl, .inr rfl,fun d hd=>?_⟩
   rcases hd with h1 | h1
   ·rcases f9.1 h1 with rfl | h1
    ·exact h
    ·have:=ha.head d h1;omega
   ·exact hb.head d h1
theorem CX {φ:Bool->Bool->Option Bool} {jz:Bool->Bool->Bool} (hφ: ∀p q,φ p q=some (jz p q)) (hk:jz false false=false) {a b:List Int} (ha:lh a) (hb:lh b) (hae:a.length % 2=0) (hbe:b.length % 2=0)
  (jS:a.length<=1099511627776) (hbl:b.length<=1099511627776) (hN:a.length+b.length<N):
  Ok (m8 N a b φ) (fun m=>lh m/\m.length % 2=0/\(∀x,lL m x=jz (lL a x) (lL b x))/\∀c∈m,c∈a\/c∈b):=by
 unfold m8
 refine Ok.bind (Ok.mY (Go:=fun s=>lh s.2.2.1/\s.2.2.1.length % 2=0/\(∀x,lL s.2.2.1 x=jz (lL a x) (lL b x))/\∀c∈s.2.2.1,c∈a\/c∈b) (Rt:=fun _=>True)
  (fun s=>∃pa pb,Ai jz a b s.1 s.2.1 s.2.2.1 s.2.2.2.1 s.2.2.2.2.1 s.2.2.2.2.2 pa pb) (fun s=>s.1.length+s.2.1.length) ?_ ?_ hN) ?_
 ·rintro⟨a',b',out,inA,inB,is⟩ ⟨pa,pb,I⟩
  dsimp only at I ⊢
  have ha':lh a':=by have:=ha;rw [I.ea] at this;exact(List.pairwise_append.1 this).2.1
  have hb':lh b':=by have:=hb;rw [I.eb] at this;exact(List.pairwise_append.1 this).2.1
  have hle:pa.length+a'.length=a.length:=by rw [I.ea];simp
  have hlb:pb.length+b'.length=b.length:=by rw [I.eb];simp
  have hlo:=I.len
  by_cases hne:a'≠[]\/b'≠[]
  ·obtain⟨x,ta,tb,wa,wb,h1,h2,hw,hx⟩:=Bs ha' hb' hne
   have J:=I.step ha hb x ta tb wa wb h1 h2 hw hx
   have fin: ∀(sa sb:List Int×Bool),sa= (ta,inA ^^ wa)->sb= (tb,inB ^^ wb)->
     Ok ((φ sa.2 sb.2).bind fun x220=>(bif (x220 != is) then ((app 8 out ([x]: (List Int))).bind fun x227=>some (x227,x220)) else (some (out,is))).bind fun s224=>some (Fl.nx (sa.1,sb.1,s224.1,sa.2,sb.2,s224.2)))
      (F5 (fun s':List Int×List Int×List Int×Bool×Bool×Bool=>(∃pa pb,Ai jz a b s'.1 s'.2.1 s'.2.2.1 s'.2.2.2.1 s'.2.2.2.2.1 s'.2.2.2.2.2 pa pb)/\s'.1.length+s'.2.1.length<a'.length+b'.length) (fun s=>lh s.2.2.1/\s.2.2.1.length % 2=0/\(∀x,lL s.2.2.1 x=jz (lL a x) (lL b x))/\∀c∈s.2.2.1,c∈a\/c∈b) (fun _:Empty=>True)):=by
    rintro _ _ rfl rfl
    refine Ok.eq (hφ _ _) ?_
    have hlt:ta.length+tb.length<a'.length+b'.length:=by
     rw [h1,h2]
     rcases hw with h | h
     ·subst h;cases wb <;> simp <;> omega
     ·subst h;cases wa <;> simp <;> omega
    by_cases he:jz (inA ^^ wa) (inB ^^ wb)=is
    ·rw [aD he] at J
     refine Ok.eq (x:=(out,is)) (by rw [he,show (is != is)=false by simp,aR]) ?_
     rw [he] at J
     exact Ok.nx ⟨⟨_,_,J⟩,hlt⟩
    ·rw [aC he] at J
     refine Ok.eq (x:=(out++[x],jz (inA ^^ wa) (inB ^^ wb))) (by rw [show (jz (inA ^^ wa) (inB ^^ wb) != is)=true by simp [he],aO,gV (by simp;omega),aB]) (Ok.nx ⟨⟨_,_,J⟩,hlt⟩)
   rcases hw with rfl | rfl
   ·rw [aD rfl] at h1
    subst h1
    refine Ok.eq (x:=true) (by rw [iQ,aO]) ?_
    rw [aO]
    have hle2: (bif (((b'.length:Nat):Int)==0) then (some true) else (bif (decide ((((x::ta).length:Nat):Int)>0)) then ((idx (x::ta) 0).bind fun x181=>(idx b' 0).bind fun x183=>some (decide (x181<=x183))) else (some false)))=some true:=by
     cases b' with
     | nil=>rfl
     | cons y b''=>
      rw [ra,aR,iQ,aO,gW,aB,gW,aB]
      have:x<=y:=by
       cases wb with
       | true=>simp at h2;omega
       | false=>have:=hx y (.inr (by simp at h2;rw [<-h2];simp));omega
      rw [cA this]
    refine Ok.eq hle2 ?_
    rw [aO]
    refine Ok.eq (x:=x) (by rw [gW,aB]) ?_
    refine Ok.eq (x:=true) (by rw [iQ,aO,gW,aB];simp) ?_
    refine Ok.eq (x:=(ta,!inA)) (by rw [aO,oW,aB]) ?_
    cases wb with
    | true=>
     rw [aD rfl] at h2
     subst h2
     refine Ok.eq (x:=true) (by rw [iQ,aO,gW,aB];simp) ?_
     refine Ok.eq (x:=(tb,!inB)) (by rw [aO,oW,aB]) ?_
     exact fin _ _ (by simp) (by simp)
    | false=>
     have h2:b'=tb:=h2
     subst h2
     refine Ok.eq (x:=false) ?_ ?_
     ·cases b' with
      | nil=>rfl
      | cons y b''=>
       have:=hx y (.inr (by simp))
       rw [iQ,aO,gW,aB,show (y==x)=false by rw [beq_eq_false_iff_ne];omega]
     ·refine Ok.eq (x:=(b',inB)) (by rw [aR]) ?_
      exact fin _ _ (by simp) (by simp)
   ·cases wa with
    | true=>
     rw [aD rfl] at h1 h2
     subst h1;subst h2
     refine Ok.eq (x:=true) (by rw [iQ,aO]) ?_
     rw [aO]
     refine Ok.eq (x:=true) (by rw [ra,aR,iQ,aO,gW,aB,gW,aB];simp) ?_
     rw [aO]
     refine Ok.eq (x:=x) (by rw [gW,aB]) ?_
     refine Ok.eq (x:=true) (by rw [iQ,aO,gW,aB];simp) ?_
     refine Ok.eq (x:=(ta,!inA)) (by rw [aO,oW,aB]) ?_
     refine Ok.eq (x:=true) (by rw [iQ,aO,gW,aB];simp) ?_
     refine Ok.eq (x:=(tb,!inB)) (by rw [aO,oW,aB]) ?_
     exact fin _ _ (by simp) (by simp)
    | false=>
     have h1:a'=ta:=h1
     rw [aD rfl] at h2
     subst h1;subst h2
     refine Ok.eq (x:=true) (by rw [iQ,FB];simp) ?_
     rw [aO]
     refine Ok.eq (x:=false) ?_ ?_
     ·rw [ra,aR]
      cases a' with
      | nil=>rfl
      | cons y a''=>
       have:=hx y (.inl (by simp))
       rw [iQ,aO,gW,aB,gW,aB,bC (by omega)]
     ·rw [aR]
      refine Ok.eq (x:=x) (by rw [gW,aB]) ?_
      refine Ok.eq (x:=false) ?_ ?_
      ·cases a' with
       | nil=>rfl
       | cons y a''=>
        have:=hx y (.inl (by simp))
        rw [iQ,aO,gW,aB,show (y==x)=false by rw [beq_eq_false_iff_ne];omega]
      ·refine Ok.eq (x:=(a',inA)) (by rw [aR]) ?_
       refine Ok.eq (x:=true) (by rw [iQ,aO,gW,aB];simp) ?_
       refine Ok.eq (x:=(tb,!inB)) (by rw [aO,oW,aB]) ?_
       exact fin _ _ (by simp) (by simp)
  ·have ea:a'= []:=Classical.byContradiction fun h=>hne (.inl h)
   have eb:b'= []:=Classical.byContradiction fun h=>hne (.inr h)
   subst ea;subst eb
   refine Ok.eq (x:=false) rfl ?_
   refine Ok.br ⟨I.inc,?_,fun x=>?_,fun c hc=>?_⟩
   ·have h1:=I.ea;have h2:=I.eb
    rw [kW] at h1 h2
    have h3:CW out=false:=by
     rw [<-I.oo,I.ok,I.oa,I.ob,<-h1,<-h2]
     unfold CW;rw [hae,hbe];exact hk
    unfold CW at h3
    rw [beq_eq_false_iff_ne] at h3
    dsimp only;omega
   ·have:=I.Ib x (fun d hd=>by rcases hd with h | h <;> cases h)
    have h1:=I.ea;have h2:=I.eb
    rw [kW] at h1 h2
    rw [h1,h2];exact this
   ·have h1:=I.ea;have h2:=I.eb
    rw [kW] at h1 h2
    rw [h1,h2];exact I.mem c hc
 ·exact⟨[],[],rfl,rfl,rfl,rfl,rfl,hk.symm,fun c hc=>(by rcases hc with h | h | h <;> cases h),kp,fun x _=>hk.symm,fun c hc=>(by cases hc),bL _⟩
 ·rintro o ho
  exact Ok.cs ho (fun s h=>Ok.ret h) (fun r=>r.elim)
theorem dW.app {s t:List Bd} (h:dW (s++t)):dW t:=⟨fun b hb=>h.each b (List.mem_append_right _ hb),(List.pairwise_append.1 h.ord).2.1⟩
theorem dW.low {b:Bd} {s:List Bd} (h:dW (b::s)): ∀c∈b::s,b.y0<=c.y0:=fun c hc=>by
 rcases f9.1 hc with rfl | hc
 ·exact Int.le_refl _
 ·have:=h.wD c hc;have:=(h.each b (by simp)).1;omega
theorem dW.high {s:List Bd} {b:Bd} (h:dW (s++[b])): ∀c∈s++[b],c.y1<=b.y1:=fun c hc=>by
 rcases cP.1 hc with hc | hc
 ·have:=((List.pairwise_append.1 h.ord).2.2 c hc b (by simp)).1
  have:=(h.each b (by simp)).1;omega
 ·simp at hc;subst hc;exact Int.le_refl _
def AM (s:List aA) (y e:Int):List Int×Int:=match s with
 | []=>([],e)
 | b::_=>if y<b.Y0 then ([],if b.Y0<e then b.Y0 else e) else (b.Xs,if b.Y1<e then b.Y1 else e)
theorem Ek {α:Type} (x:α) (l:List α):idx (x::l) 0=some x:=rfl
theorem F6 (s:List aA) (y e:Int):kA N s y e=some (AM s y e):=by
 unfold kA AM
 cases s with
 | nil=>rfl
 | cons b s=>
  dsimp only
  rw [ra,aR,Ek,aB,aB,aB,aB]
  by_cases h:y<b.Y0
  ·rw [cA h,aO,aD h]
  ·rw [bC h,aR,aC h]
theorem B5 {s:List aA} {y e:Int} {X Y:List Int} (hc:dW (s.map bK)) (hl:sU X Y (s.map bK)) (hh: ∀b t,s=b::t->y<b.Y1) (hy:y<e):
  y< (AM s y e).2/\(AM s y e).2<=e/\(∀y',y<=y'->y'< (AM s y e).2->rowAt (s.map bK) y'= (AM s y e).1)/\lh (AM s y e).1/\(AM s y e).1.length % 2=0/\((AM s y e).2=e\/(AM s y e).2∈Y)/\∀c∈(AM s y e).1,c∈X:=by
 cases s with
 | nil=>exact⟨hy,Int.le_refl _,fun y' _ _=>rfl,kp,rfl, .inl rfl,fun c hc=>(by cases hc)⟩
 | cons b t=>
  have hb:=hc.each (bK b) (by simp)
  have hlb:=hl (bK b) (by simp)
  have h1:=hh b t rfl
  unfold AM
  dsimp only
  by_cases h:y<b.Y0
  ·rw [aD h]
   dsimp only
   refine⟨by split <;> omega,by split <;> omega,fun y' h2 h3=>?_,kp,rfl,?_,fun c hc=>(by cases hc)⟩
   ·exact hc.qZ (by show y'<b.Y0;split at h3 <;> omega)
   ·split
    ·exact .inr hlb.1
    ·exact .inl rfl
  ·rw [aC h]
   dsimp only
   refine⟨by split <;> omega,by split <;> omega,fun y' h2 h3=>?_,hb.2.2.1,hb.2.2.2,?_,hlb.2.2⟩
   ·exact dW.kj (b:=bK b) (by show b.Y0<=y';omega) (by show y'<b.Y1;split at h3 <;> omega)
   ·split
    ·exact .inr hlb.2.1
    ·exact .inl rfl
theorem x4 {y:Int} {a:List aA} (hN:a.length<N) {body:List aA->Option (Fl (List aA) Empty)}
  (hb:body=fun(s373: (List aA))=>((bif (decide ((s373.length:Int)>0)) then ((idx s373 0).bind fun x407=>some (decide (x407.Y1<=y))) else (some false)).bind fun s405=>bif s405 then ((rK s373 1 (s373.length:Int)).bind fun x410=>some (.nx x410)) else (some (.br s373)):Option (Fl ((List aA)) Empty))):
  Ok (mY body N a) (H8 (fun a'=>∃p,a=p++a'/\(∀c∈p,c.Y1<=y)/\∀b t,a'=b::t->y<b.Y1) (fun _=>True)):=by
 subst hb
 refine Ok.mY (fun a'=>∃p,a=p++a'/\∀c∈p,c.Y1<=y) List.length ?_ ⟨[],rfl,fun c hc=>(by cases hc)⟩ hN
 rintro a' ⟨p,e,hp⟩
 cases a' with
 | nil=>exact Ok.eq (x:=false) rfl (Ok.br ⟨p,e,hp,fun b t h=>(by cases h)⟩)
 | cons b t=>
  refine Ok.eq (x:=decide (b.Y1<=y)) (by rw [iQ,aO,Ek,aB]) ?_
  refine Ok.bif (fun h=>?_) (fun h=>Ok.br ⟨p,e,hp,fun b' t' h'=>?_⟩)
  ·have h:=of_decide_eq_true h
   refine Ok.eq (oW b t) (Ok.nx ⟨⟨p++[b],by rw [e];simp,fun c hc=>?_⟩,by simp⟩)
   rcases cP.1 hc with hc | hc
   ·exact hp c hc
   ·simp at hc;subst hc;exact h
  ·have h:=of_decide_eq_false h
   injection h' with h1 h2;subst h1;omega
theorem Aj {p a':List Bd} {y y':Int} (hp: ∀c∈p,c.y1<=y) (h:y<=y'):rowAt (p++a') y'=rowAt a' y':=by
 rw [mU,aC]
 rintro⟨b,hb,h1⟩
 have:=hp b hb;omega
structure yY (jz:Bool->Bool->Bool) (X Y:List Int) (a b s:List aA):Prop where
 can:dW (s.map bK)
 cover: ∀x y,tM (s.map bK) x y=jz (tM (a.map bK) x y) (tM (b.map bK) x y)
 lim:sU X Y (s.map bK)
theorem wN {s:List aA} (hs:s≠[]) (hl:s.length<=1099511627776) (hc:dW (s.map bK)): ∃f l,idx s 0=some f/\idx s (IntKind.wrap .i64 (((s.length:Nat):Int) - 1))=some l/\f∈s/\l∈s/\∀c∈s,f.Y0<=c.Y0/\c.Y1<=l.Y1:=by
 cases s with
 | nil=>exact absurd rfl hs
 | cons f t=>
  rw [lW (by simp) (by omega)]
  have hlt: (f::t).length - 1< (f::t).length:=by simp
  refine⟨f,(f::t)[(f::t).length - 1],rfl,i7 _ _ hlt,by simp,cJ _,fun c hcm=>⟨?_,?_⟩⟩
  ·exact hc.low (bK c) (cM.2 ⟨c,hcm,rfl⟩)
  ·have e: (f::t)= (f::t).dropLast++[(f::t)[(f::t).length - 1]]:=by
    have:=List.dropLast_concat_getLast (show f::t≠[] by simp)
    rw [<-List.getLast_eq_getElem (h:=by simp)];exact this.symm
   generalize (f::t)[(f::t).length - 1]=l at e
   have hc2:=hc
   rw [e,eV] at hc2
   have hm:bK c∈(List.map bK (f::t).dropLast++[bK l]):=by
    have:bK c∈(f::t).map bK:=cM.2 ⟨c,hcm,rfl⟩
    rw [e,eV] at this;exact this
   exact dW.high hc2 (bK c) hm
theorem Bt {φ:Bool->Bool->Option Bool} {jz:Bool->Bool->Bool} (hφ: ∀p q,φ p q=some (jz p q)) (hk:jz false false=false) {a b:List aA} {X Y:List Int} (ca:dW (a.map bK)) (cb:dW (b.map bK))
  (la:sU X Y (a.map bK)) (lb:sU X Y (b.map bK)) (hX:X.length<=1048576000) (hY:Y.length<=1048576000) (hs: ∀c∈Y,small c) (hN:4398046511104<=N):Ok (mf N a b φ) (yY jz X Y a b):=by
 have jS:a.length<=Y.length:=by have:=la.len ca;rwa [gQ] at this
 have hbl:b.length<=Y.length:=by have:=lb.len cb;rwa [gQ] at this
 unfold mf
 rw [wrap_add (by omega)]
 refine Ok.bif (fun h=>Ok.ret ?_) (fun h=>?_)
 ·have h:a.length+b.length=0:=by have:=beq_iff_eq.1 h;omega
  have e1:a= []:=List.eq_nil_of_length_eq_zero (by omega)
  have e2:b= []:=List.eq_nil_of_length_eq_zero (by omega)
  subst e1;subst e2
  exact⟨dW.nil,fun x y=>hk.symm,fun c hc=>(by cases hc)⟩
 have h0:a≠[]\/b≠[]:=by
  rw [beq_eq_false_iff_ne] at h
  by_cases e:a= []
  ·right;intro e2;subst e;subst e2;exact h rfl
  ·exact .inl e
 refine Ok.bind (Ok.iT (fun k s=>match k with | 0=>True | 1=>a= []\/((∀c∈a,s.1<=c.Y0/\c.Y1<=s.2)/\s.1∈Y/\s.2∈Y) | _=>((∀c∈a,s.1<=c.Y0/\c.Y1<=s.2)/\(∀c∈b,s.1<=c.Y0/\c.Y1<=s.2)/\s.1∈Y/\s.2∈Y)) (by simp) trivial (fun k s hk hI=>?_)) ?_
 ·obtain⟨y,e⟩:=s
  have hk:k=0\/k=1:=by simp at hk;omega
  rcases hk with rfl | rfl
  ·refine Ok.ix (x:=a) rfl ?_
   by_cases ea:a= []
   ·subst ea
    exact Ok.eq (x:=(y,e)) rfl (Ok.ret (.inl rfl))
   ·obtain⟨f,l,f1,f2,f3,f4,f5⟩:=wN ea (by omega) ca
    have hpos:decide (((a.length:Nat):Int)>0)=true:=cA (by have:=List.length_pos_iff.2 ea;omega)
    refine Ok.eq (x:=(f.Y0,l.Y1)) ?_ (Ok.ret (.inr ⟨f5,(la _ (cM.2 ⟨f,f3,rfl⟩)).1,(la _ (cM.2 ⟨l,f4,rfl⟩)).2.1⟩))
    rw [hpos,aO]
    show ((some true).bind _)=_
    rw [aB,aO,f1,aB,f2,aB,aB,aB,aB]
    simp
  ·refine Ok.ix (x:=b) rfl ?_
   have hI:a= []\/((∀c∈a,y<=c.Y0/\c.Y1<=e)/\y∈Y/\e∈Y):=hI
   by_cases eb:b= []
   ·subst eb
    refine Ok.eq (x:=(y,e)) rfl (Ok.ret ?_)
    rcases hI with h | ⟨h1,h2,h3⟩
    ·rcases h0 with h' | h'
     ·exact absurd h h'
     ·exact absurd rfl h'
    ·exact⟨h1,fun c hc=>(by cases hc),h2,h3⟩
   ·obtain⟨f,l,f1,f2,f3,f4,f5⟩:=wN eb (by omega) cb
    have hpos:decide (((b.length:Nat):Int)>0)=true:=cA (by have:=List.length_pos_iff.2 eb;omega)
    have g1:f.Y0∈Y:=(lb _ (cM.2 ⟨f,f3,rfl⟩)).1
    have g2:l.Y1∈Y:=(lb _ (cM.2 ⟨l,f4,rfl⟩)).2.1
    by_cases ea:a= []
    ·subst ea
     refine Ok.eq (x:=(f.Y0,l.Y1)) ?_ (Ok.ret ⟨fun c hc=>(by cases hc),f5,g1,g2⟩)
     rw [hpos,aO]
     show ((some true).bind _)=_
     rw [aB,aO,f1,aB,f2,aB,aB,aB,aB]
     simp
    ·obtain⟨h1,h2,h3⟩:=hI.resolve_left ea
     refine Ok.eq (x:=(if f.Y0<y then f.Y0 else y,if e<l.Y1 then l.Y1 else e)) ?_ (Ok.ret ⟨fun c hc=>?_,fun c hc=>?_,?_,?_⟩)
     ·rw [hpos,aO]
      have ez: (((a.length:Nat):Int)==0)=false:=by rw [beq_eq_false_iff_ne];have:=List.length_pos_iff.2 ea;omega
      rw [ez]
      show ((some false).bind _)=_
      rw [aB,aR,aB,f1,aB,f2,aB]
     ·have:=h1 c hc;dsimp only;split <;> split <;> omega
     ·have:=f5 c hc;dsimp only;split <;> split <;> omega
     ·dsimp only;split
      ·exact g1
      ·exact h2
     ·dsimp only;split
      ·exact g2
      ·exact h3
 ·rintro⟨y0,e0⟩ hI
  have hI: (∀c∈a,y0<=c.Y0/\c.Y1<=e0)/\(∀c∈b,y0<=c.Y0/\c.Y1<=e0)/\y0∈Y/\e0∈Y:=hI
  obtain⟨ia,ib,iy,ie⟩:=hI
  have sy:=hs _ iy
  have se:=hs _ ie
  unfold small at sy se
  dsimp only
  refine Ok.bind (Ok.mY (Go:=fun s=>yY jz X Y a b s.2.2.1) (Rt:=fun _=>True)
   (fun s=>∃pa pb,a=pa++s.1/\b=pb++s.2.1/\(∀c∈pa,c.Y1<=s.2.2.2)/\(∀c∈pb,c.Y1<=s.2.2.2)/\y0<=s.2.2.2/\s.2.2.2<=max y0 e0/\s.2.2.2∈Y/\dW (s.2.2.1.map bK)/\sU X Y (s.2.2.1.map bK)/\(∀c∈s.2.2.1,c.Y1<=s.2.2.2)/\
    ∀x y,tM (s.2.2.1.map bK) x y= (jz (tM (a.map bK) x y) (tM (b.map bK) x y)&&decide (y<s.2.2.2)))
   (fun s=>(e0 - s.2.2.2).toNat) ?_ ?_ (by dsimp only;omega)) ?_
  ·rintro⟨a',b',out,y⟩ ⟨pa,pb,ea,eb,hpa,hpb,hy0,hye,hyY,hcan,hlim,htop,hcov⟩
   dsimp only at ea eb hpa hpb hy0 hye hyY hcan hlim htop hcov ⊢
   refine Ok.bif (fun h=>?_) (fun h=>Ok.br ?_)
   ·have hlt:y<e0:=of_decide_eq_true h
    have hsl: ∀(p s t:List aA),t=p++s->s.length<=t.length:=fun p s t e=>by rw [e];simp
    have hal':=hsl _ _ _ ea
    have hbl':=hsl _ _ _ eb
    refine Ok.bind (x4 (y:=y) (a:=a') (by omega) rfl) (fun o ho=>Ok.cs ho ?_ (fun r=>r.elim))
    rintro a2 ⟨qa,ea2,hqa,hha⟩
    refine Ok.bind (x4 (y:=y) (a:=b') (by omega) rfl) (fun o ho=>Ok.cs ho ?_ (fun r=>r.elim))
    rintro b2 ⟨qb,eb2,hqb,hhb⟩
    have ea3:a= (pa++qa)++a2:=by rw [ea,ea2];simp
    have eb3:b= (pb++qb)++b2:=by rw [eb,eb2];simp
    have hPa: ∀c∈pa++qa,c.Y1<=y:=fun c hc=>by rcases cP.1 hc with h | h;exact hpa c h;exact hqa c h
    have hPb: ∀c∈pb++qb,c.Y1<=y:=fun c hc=>by rcases cP.1 hc with h | h;exact hpb c h;exact hqb c h
    have ca2:dW (a2.map bK):=by have:=ca;rw [ea3,eV] at this;exact this.app
    have cb2:dW (b2.map bK):=by have:=cb;rw [eb3,eV] at this;exact this.app
    have la2:sU X Y (a2.map bK):=fun c hc=>la c (by rw [ea3,eV];exact List.mem_append_right _ hc)
    have lb2:sU X Y (b2.map bK):=fun c hc=>lb c (by rw [eb3,eV];exact List.mem_append_right _ hc)
    refine Ok.eq (F6 a2 y e0) (Ok.eq (F6 b2 y e0) ?_)
    obtain⟨a1,a3,a4,a5,a6,a7,a8⟩:=B5 ca2 la2 hha hlt
    obtain⟨b1,b3,b4,b5,b6,b7,b8⟩:=B5 cb2 lb2 hhb hlt
    have hal2: (AM a2 y e0).1.length<=X.length:=eA a5.nodup a8
    have hbl2: (AM b2 y e0).1.length<=X.length:=eA b5.nodup b8
    generalize AM a2 y e0=pa2 at *
    generalize AM b2 y e0=pb2 at *
    obtain⟨xa,n⟩:=pa2
    obtain⟨xb,m⟩:=pb2
    dsimp only at *
    refine Ok.bind (CX hφ hk a5 b5 a6 b6 (by omega) (by omega) (by omega)) ?_
    rintro row ⟨r1,r2,r3,r4⟩
    have hnx: ∃nx,nx= (if m<n then m else n)/\y<nx/\nx<=e0/\nx<=n/\nx<=m/\nx∈Y:=by
     refine⟨_,rfl,by split <;> omega,by split <;> omega,by split <;> omega,by split <;> omega,?_⟩
     split
     ·rcases b7 with h | h
      ·rw [h];exact ie
      ·exact h
     ·rcases a7 with h | h
      ·rw [h];exact ie
      ·exact h
    obtain⟨nx,hnx,n1,n2,n3,n4,n5⟩:=hnx
    rw [<-hnx]
    have hol:out.length<=Y.length:=by have:=hlim.len hcan;rwa [gQ] at this
    obtain⟨out',p1,p2⟩:=B4 (N:=N) (s:=out) (b:=⟨y,nx,row⟩) (by omega) (fun c hc=>by
     have:=hlim.row hcan (b:=bK c) (cM.2 ⟨c,hc,rfl⟩)
     have e: (bK c).xs=c.Xs:=rfl
     rw [e] at this;omega)
    refine Ok.eq p1 ?_
    have htop': ∀c∈out.map bK,c.y1<=(bK ⟨y,nx,row⟩).y0:=fun c hc=>by
     obtain⟨d,hd,rfl⟩:=cM.1 hc
     exact htop d hd
    refine Ok.nx ⟨⟨pa++qa,pb++qb,ea3,eb3,fun c hc=>by have:=hPa c hc;dsimp only;omega,fun c hc=>by have:=hPb c hc;dsimp only;omega,by dsimp only;omega,by dsimp only;omega,n5,by dsimp only;rw [p2];exact uO hcan htop' r1 r2,?_,fun c hc=>?_,fun x y'=>?_⟩,by dsimp only;omega⟩
    ·dsimp only;rw [p2]
     refine hlim.push hyY n5 (fun c hc=>?_)
     rcases r4 c hc with h | h
     ·exact a8 c h
     ·exact b8 c h
    ·have hm':bK c∈ln (out.map bK) (bK ⟨y,nx,row⟩):=by rw [<-p2];exact cM.2 ⟨c,hc,rfl⟩
     exact uP htop' (by show y<=nx;omega) _ hm'
    ·show lL (rowAt (out'.map bK) y') x=_
     rw [p2,uN htop' (fun c hc=>(hcan.each c hc).1) (fun h=>absurd h (by show ¬nx<=y;omega))]
     by_cases hyy:y<=y'/\y'<nx
     ·rw [aD (show (bK ⟨y,nx,row⟩).y0<=y'/\y'< (bK ⟨y,nx,row⟩).y1 from hyy),cA hyy.2,Bool.and_true]
      show lL row x=_
      have mp: ∀p q:List aA,(∀c∈p++q,c.Y1<=y)->∀c∈(p++q).map bK,c.y1<=y:=fun p q h c hc=>by
       obtain⟨d,hd,rfl⟩:=cM.1 hc
       exact h d hd
      have q1:tM (a.map bK) x y'=lL xa x:=by
       unfold tM
       rw [ea3,eV,Aj (mp _ _ hPa) hyy.1,a4 y' hyy.1 (by omega)]
      have q2:tM (b.map bK) x y'=lL xb x:=by
       unfold tM
       rw [eb3,eV,Aj (mp _ _ hPb) hyy.1,b4 y' hyy.1 (by omega)]
      rw [r3,q1,q2]
     ·rw [aC (show ¬((bK ⟨y,nx,row⟩).y0<=y'/\y'< (bK ⟨y,nx,row⟩).y1) from hyy)]
      show tM (out.map bK) x y'=_
      rw [hcov]
      by_cases h1:y'<y
      ·rw [cA h1,cA (show y'<nx by omega)]
      ·rw [bC h1,bC (show ¬y'<nx by omega)]
   ·have hge:e0<=y:=by have:=of_decide_eq_false h;omega
    refine⟨hcan,fun x y'=>?_,hlim⟩
    dsimp only
    rw [hcov]
    by_cases h1:y'<y
    ·rw [cA h1,Bool.and_true]
    ·have z: ∀s:List aA,(∀c∈s,y0<=c.Y0/\c.Y1<=e0)->tM (s.map bK) x y'=false:=fun s h=>by
      unfold tM
      rw [jB fun c hc=>?_]
      ·rfl
      ·obtain⟨d,hd,rfl⟩:=cM.1 hc
       exact .inr (by have:=(h d hd).2;show d.Y1<=y';omega)
     rw [z a ia,z b ib,hk];rfl
  ·refine⟨[],[],rfl,rfl,fun c hc=>(by cases hc),fun c hc=>(by cases hc),Int.le_refl _,by dsimp only;omega,iy,dW.nil,fun c hc=>(by cases hc),fun c hc=>(by cases hc),fun x y=>?_⟩
   dsimp only
   show false=_
   by_cases h1:y<y0
   ·have z: ∀s:List aA,(∀c∈s,y0<=c.Y0/\c.Y1<=e0)->tM (s.map bK) x y=false:=fun s h=>by
     unfold tM
     rw [jB fun c hc=>?_]
     ·rfl
     ·obtain⟨d,hd,rfl⟩:=cM.1 hc
      exact .inl (by have:=(h d hd).1;show y<d.Y0;omega)
    rw [z a ia,z b ib,hk];rfl
   ·rw [bC h1,Bool.and_false]
  ·rintro o ho
   exact Ok.cs ho (fun s h=>Ok.ret h) (fun r=>r.elim)
theorem CY {a b:List aA} {X Y:List Int} (ca:dW (a.map bK)) (cb:dW (b.map bK)) (la:sU X Y (a.map bK)) (lb:sU X Y (b.map bK)) (hX:X.length<=1048576000) (hY:Y.length<=1048576000) (hs: ∀c∈Y,small c) (hN:4398046511104<=N):
  Ok (jg N a b) (yY (fun p q=>p&& !q) X Y a b):=by
 unfold jg
 exact Ok.bind (Bt (jz:=fun p q=>p&& !q) (fun p q=>rfl) rfl ca cb la lb hX hY hs hN) (fun s h=>Ok.ret h)
end
end Go.Gk
namespace Go.Gk
open Go
section
variable {N:Nat}
structure UF (n:Nat) (up:List Int) (r:Nat->Nat):Prop where
 len:up.length=n
 rt: ∀i,i<n->∃u:Nat,up[i]? =some ((u:Nat):Int)/\u<=i/\r u=r i/\(u=i↔r i=i)
theorem UF.le {n:Nat} {up:List Int} {r:Nat->Nat} (h:UF n up r): ∀i,i<n->r i<=i:=by
 intro i
 induction i using Nat.strongRecOn with
 | ind i ih=>
  intro hi
  obtain⟨u,_,h2,h3,h4⟩:=h.rt i hi
  by_cases e:u=i
  ·rw [h4.1 e];exact bL _
  ·rw [<-h3];have:=ih u (by omega) (by omega);omega
theorem UF.rr {n:Nat} {up:List Int} {r:Nat->Nat} (h:UF n up r): ∀i,i<n->r (r i)=r i:=by
 intro i
 induction i using Nat.strongRecOn with
 | ind i ih=>
  intro hi
  obtain⟨u,_,h2,h3,h4⟩:=h.rt i hi
  by_cases e:u=i
  ·rw [h4.1 e,h4.1 e]
  ·rw [<-h3];exact ih u (by omega) (by omega)
theorem k7 {l:List Int} {j:Nat} {v:Int} {i:Nat} (hj:j<l.length): (l.set j v)[i]? =if i=j then some v else l[i]? :=by
 rw [eO]
 by_cases e:j=i
 ·rw [aD e,aD e.symm,aD hj]
 ·rw [aC e,aC (fun h=>e h.symm)]
theorem UF.init (n:Nat) (up:List Int) (h1:up.length=n) (h2: ∀i,i<n->up[i]? =some ((i:Nat):Int)):UF n up (fun i=>i):=
 ⟨h1,fun i hi=>⟨i,h2 i hi,bL _,rfl,by simp⟩⟩
theorem qF {n:Nat} (hn:n<=1048576000): ∃up,hG N ((n:Nat):Int)=some up/\UF n up (fun i=>i):=by
 unfold hG
 rw [ph 0 (by omega),aB]
 have h0: (List.replicate n (0:Int)).length=n:=by simp
 obtain⟨s',h1,h2⟩:=vF (m:=(List.replicate n (0:Int)).length) (s:=List.replicate n (0:Int)) (body:=fun(k34:Nat) (s35: (List Int))=>((idx s35 (k34:Int)).bind fun x38=>some (s35.set (Int.toNat (k34:Int)) (k34:Int)):Option ((List Int))))
  (fun k s=>s.length=n/\∀i,i<k->s[i]? =some ((i:Nat):Int)) (by omega) ⟨h0,fun i hi=>by omega⟩ (fun k s hk ⟨hs,hi⟩=>by
   refine⟨s.set k ((k:Nat):Int),?_,by simp [hs],fun i hi'=>?_⟩
   ·rw [i7 _ _ (by omega),aB,bO]
   ·rw [k7 (by omega)]
    split
    ·rename_i e;rw [e]
    ·exact hi i (by omega))
 rw [h1,aB]
 exact⟨s',rfl,UF.init n s' h2.1 (fun i hi=>h2.2 i (by omega))⟩
theorem mH {n:Nat} {up:List Int} {r:Nat->Nat} (h:UF n up r) {i:Nat} (hi:i<n) (hn:n<N): ∃up',dJ N up ((i:Nat):Int)=some (((r i:Nat):Int),up')/\UF n up' r:=by
 unfold dJ
 obtain⟨o,h1,h2⟩:=tt (R:=Empty) (body:=fun(s32: (List Int)×Int)=>((idx s32.1 s32.2).bind fun x43=>bif (x43 != s32.2) then ((idx s32.1 s32.2).bind fun x44=>(idx s32.1 x44).bind fun x45=>(idx s32.1 s32.2).bind fun x46=>(idx (s32.1.set (Int.toNat s32.2) x45) s32.2).bind fun x47=>some (.nx ((s32.1.set (Int.toNat s32.2) x45),x47))) else (some (.br (s32.1,s32.2))):Option (Fl ((List Int)×Int) Empty)))
  (fun s=>UF n s.1 r/\∃j:Nat,s.2= ((j:Nat):Int)/\j<n/\r j=r i) (fun s=>s.2.toNat) (fun s=>s.2= ((r i:Nat):Int)/\UF n s.1 r) (fun _=>True) (fun s ⟨hu,j,hj,hjn,hr⟩=>by
   obtain⟨l,y⟩:=s
   dsimp only at hu hj ⊢
   subst hj
   obtain⟨u,a1,a2,a3,a4⟩:=hu.rt j hjn
   rw [dN a1,aB]
   by_cases e:u=j
   ·subst e
    refine⟨.br (l,((u:Nat):Int)),by rw [show (((u:Nat):Int) != ((u:Nat):Int))=false by simp,aR],?_,hu⟩
    show ((u:Nat):Int)=_
    rw [<-hr,a4.1 rfl]
   ·obtain⟨v,b1,b2,b3,b4⟩:=hu.rt u (by omega)
    have hl:=hu.len
    refine⟨.nx (l.set j ((v:Nat):Int),((v:Nat):Int)),by
     rw [show (((u:Nat):Int) != ((j:Nat):Int))=true by simp;omega,aO,aB,dN b1,aB,aB,bO,
      dN (x:=((v:Nat):Int)) (by rw [k7 (by omega),aD rfl]),aB],⟨⟨by simp [hl],fun k hk=>?_⟩,v,rfl,by omega,?_⟩,?_⟩
    ·rw [k7 (by omega)]
     by_cases e2:k=j
     ·subst e2
      rw [aD rfl]
      refine⟨v,rfl,by omega,by rw [b3,a3],?_⟩
      constructor
      ·intro h;omega
      ·intro h;exact absurd (a4.2 h) e
     ·rw [aC e2];exact hu.rt k hk
    ·rw [b3,a3,hr]
    ·simp only [bO];omega)
  N (up,((i:Nat):Int)) ⟨h,i,rfl,hi,rfl⟩ (by simp only [bO];omega)
 rw [h1,aB]
 cases o with
 | go s'=>exact⟨s'.1,by rw [<-h2.1];rfl,h2.2⟩
 | rt r=>exact r.elim
def lO (r:Nat->Nat) (a b:Nat):Nat->Nat:=fun x=>if r x=max a b then min a b else r x
theorem El (a b:Nat): (if ((a:Nat):Int)< ((b:Nat):Int) then ((b:Nat):Int) else ((a:Nat):Int))= ((max a b:Nat):Int):=by
 rw [Nat.max_def];split <;> split <;> omega
theorem Em (a b:Nat): (if ((b:Nat):Int)< ((a:Nat):Int) then ((b:Nat):Int) else ((a:Nat):Int))= ((min a b:Nat):Int):=by
 rw [Nat.min_def];split <;> split <;> omega
theorem B6 {n:Nat} {up:List Int} {r:Nat->Nat} (h:UF n up r) {i k:Nat} (hi:i<n) (hk:k<n) (hn:n<N):
  ∃up',dA N up ((i:Nat):Int) ((k:Nat):Int)=some up'/\UF n up' (lO r (r i) (r k)):=by
 obtain⟨u1,a1,a2⟩:=mH h hi hn
 obtain⟨u2,b1,b2⟩:=mH a2 hk hn
 have hri:=h.le i hi
 have hrk:=h.le k hk
 have rri:=h.rr i hi
 have rrk:=h.rr k hk
 unfold dA
 rw [a1,aB,b1,aB]
 dsimp only
 rw [El,Em]
 have hm:max (r i) (r k)<n:=by omega
 have hl:=b2.len
 rw [i7 _ _ (by omega),aB,bO]
 refine⟨_,rfl,by simp [hl],fun x hx=>?_⟩
 have rmax:r (max (r i) (r k))=max (r i) (r k):=by rcases Nat.le_total (r i) (r k) with e | e <;> simp [Nat.max_def] <;> split <;> omega
 have rmin:r (min (r i) (r k))=min (r i) (r k):=by rcases Nat.le_total (r i) (r k) with e | e <;> simp [Nat.min_def] <;> split <;> omega
 rw [k7 (by omega)]
 by_cases e:x=max (r i) (r k)
 ·subst e
  rw [aD rfl]
  refine⟨min (r i) (r k),rfl,by omega,?_,?_⟩
  ·unfold lO;rw [rmin,rmax,aD rfl];split <;> rfl
  ·unfold lO;rw [rmax,aD rfl]
 ·rw [aC e]
  obtain⟨u,c1,c2,c3,c4⟩:=b2.rt x hx
  refine⟨u,c1,c2,?_,?_⟩
  ·unfold lO;rw [c3]
  ·unfold lO
   split
   ·rename_i e2
    constructor
    ·intro hu;have:=c4.1 hu;omega
    ·intro hu
     have h1:=b2.le x hx
     have:min (r i) (r k)=max (r i) (r k)\/x<max (r i) (r k):=by omega
     have h3:x=max (r i) (r k):=by omega
     exact absurd h3 e
   ·exact c4
def lZ (r:Nat->Nat) (E:List (Nat×Nat)):Prop:=∀p∈E,r p.1=r p.2
def uT (n:Nat) (r:Nat->Nat) (E:List (Nat×Nat)):Prop:=∀S:Nat->Prop,(∀p∈E,S p.1↔S p.2)->∀i j,i<n->j<n->r i=r j->S i->S j
theorem lZ.join {r:Nat->Nat} {E:List (Nat×Nat)} (h:lZ r E) (i k:Nat) (_h2:r (r i)=r i):lZ (lO r (r i) (r k)) (E++[(i,k)]):=fun p hp=>by
 rcases cP.1 hp with hp | hp
 ·unfold lO;rw [h p hp]
 ·simp at hp;subst hp
  unfold lO
  dsimp only
  split <;> split <;> omega
theorem uT.join {n:Nat} {r:Nat->Nat} {E:List (Nat×Nat)} (h:uT n r E) {i k:Nat} (hi:i<n) (hk:k<n):uT n (lO r (r i) (r k)) (E++[(i,k)]):=fun S hS x y hx hy hr hSx=>by
 have hE: ∀p∈E,S p.1↔S p.2:=fun p hp=>hS p (List.mem_append_left _ hp)
 have hik:S i↔S k:=hS (i,k) (by simp)
 have key:=h S hE
 unfold lO at hr
 by_cases h1:r x=r y
 ·exact key x y hx hy h1 hSx
 ·have: (r x=r i/\r y=r k)\/(r x=r k/\r y=r i):=by
   split at hr <;> split at hr <;> omega
  rcases this with ⟨e1,e2⟩ | ⟨e1,e2⟩
  ·exact key k y hk hy e2.symm (hik.1 (key x i hx hi e1 hSx))
  ·exact key i y hi hy e2.symm (hik.2 (key x k hx hk e1 hSx))
theorem uT.id (n:Nat):uT n (fun i=>i) []:=fun S _ i j _ _ h hs=>by
 have h:i=j:=h
 subst h;exact hs
theorem lZ.id:lZ (fun i=>i) []:=fun p hp=>by simp at hp
def bN (n:Nat) (r:Nat->Nat):List Nat:=(List.range n).filter (fun k=>decide (r k=k))
def cls (n:Nat) (r:Nat->Nat) (k:Nat):List Nat:=(List.range n).filter (fun i=>decide (r i=k))
theorem iY (n:Nat) (r:Nat->Nat):bN (n+1) r=if r n=n then bN n r++[n] else bN n r:=by
 unfold bN
 rw [List.range_succ,gY]
 by_cases h:r n=n
 ·rw [aD h];simp [h]
 ·rw [aC h];simp [h]
theorem qG (n:Nat) (r:Nat->Nat) (k:Nat):cls (n+1) r k=if r n=k then cls n r k++[n] else cls n r k:=by
 unfold cls
 rw [List.range_succ,gY]
 by_cases h:r n=k
 ·rw [aD h];simp [h]
 ·rw [aC h];simp [h]
theorem l3 (n:Nat) (r:Nat->Nat): (bN n r).length<=n:=by
 have:=kq (fun k=>decide (r k=k)) (List.range n)
 rw [List.length_range] at this;exact this
theorem yZ (n:Nat) (r:Nat->Nat) (k:Nat): (cls n r k).length<=n:=by
 have:=kq (fun i=>decide (r i=k)) (List.range n)
 rw [List.length_range] at this;exact this
theorem gN {n k:Nat} {r:Nat->Nat}:k∈bN n r↔k<n/\r k=k:=by unfold bN;simp
theorem lu (n:Nat) (r:Nat->Nat): (bN n r).Nodup:=List.Nodup.sublist List.filter_sublist List.nodup_range
def nA (n:Nat) (r:Nat->Nat):List (List Int):=(bN n r).map (fun k=>(cls n r k).map (fun i=>((i:Nat):Int)))
theorem B7 {n k:Nat} {r:Nat->Nat} (h: ∀i,i<n->r i<=i) (hk:n<=k):cls n r k= []:=by
 unfold cls
 rw [List.filter_eq_nil_iff]
 intro i hi
 have h1:=i5.1 hi
 have:=h i h1
 simp;omega
theorem qH {α β:Type} (f g:α->β) (l:List α) (j:Nat) (a:α) (hn:l.Nodup) (hj:l[j]? =some a) (hf: ∀b,b∈l->b≠a->f b=g b): (l.map f).set j (g a)=l.map g:=by
 apply List.ext_getElem?
 intro i
 have hjl:=(aW.1 hj).1
 rw [eO,gQ,gX,gX]
 by_cases e:j=i
 ·subst e;rw [aD rfl,aD hjl,hj];rfl
 ·rw [aC e]
  cases hb:l[i]? with
  | none=>rfl
  | some b=>
   have hne:b≠a:=fun he=>by
    subst he
    have hil:=(aW.1 hb).1
    exact e ((List.getElem_inj hn).1 (by rw [(aW.1 hb).2,(aW.1 hj).2]) |>.symm)
   show some (f b)=some (g b)
   rw [hf b (gw hb) hne]
def Ic (n:Nat) (r:Nat->Nat) (m:List (Int×Int)):Prop:=∀(j k:Nat),(bN n r)[j]? =some k->dG m ((k:Nat):Int) 0= ((j:Nat):Int)
theorem FI {n:Nat} {up:List Int} {r:Nat->Nat} (h:UF n up r) (hn:n<N) (hn2:n<=1048576000): ∃up',iq N up=some (nA n r,up')/\UF n up' r:=by
 unfold iq
 have hlen:=h.len
 have hle:=h.le
 have hrr:=h.rr
 obtain⟨s',h1,h2⟩:=vF (m:=up.length) (s:=(up,([]: (List (List Int))),([]: (List (Int×Int)))))
  (body:=fun(k32:Nat) (s33: (List Int)×(List (List Int))×(List (Int×Int)))=>((dJ N s33.1 (k32:Int)).bind fun dH=>(bif (dH.1==(k32:Int)) then ((app 24 s33.2.1 [([]: (List Int))]).bind fun x126=>some (x126,(oe s33.2.2 (k32:Int) (s33.2.1.length:Int)))) else (some (s33.2.1,s33.2.2))).bind fun s122=>(idx s122.1 (dG s122.2 dH.1 (0:Int))).bind fun x128=>(app 8 x128 ([(k32:Int)]: (List Int))).bind fun x134=>(idx s122.1 (dG s122.2 dH.1 (0:Int))).bind fun x136=>some (dH.2,(s122.1.set (Int.toNat (dG s122.2 dH.1 (0:Int))) x134),s122.2):Option ((List Int)×(List (List Int))×(List (Int×Int)))))
  (fun k s=>UF n s.1 r/\s.2.1=nA k r/\Ic k r s.2.2) (by omega) ⟨h,rfl,fun j k hj=>by simp [bN] at hj⟩ (fun k s hk ⟨hu,hs,hm⟩=>by
   obtain⟨l,ss,m⟩:=s
   dsimp only at hu hs hm ⊢
   subst hs
   rw [hlen] at hk
   obtain⟨u',a1,a2⟩:=mH hu hk hn
   rw [a1,aB]
   dsimp only
   have hhl:=l3 k r
   have hsl: (nA k r).length= (bN k r).length:=by unfold nA;simp
   have hrk:=hle k hk
   by_cases e:r k=k
   ·
    rw [show (((r k:Nat):Int)==((k:Nat):Int))=true by rw [e];simp,aO,gV (by rw [hsl];simp;omega),aB,aB]
    dsimp only
    rw [e,iJ,aD rfl,hsl]
    have hi: (nA k r++[([]:List Int)])[(bN k r).length]? =some []:=by rw [<-hsl,eW (bL _),Nat.sub_self];rfl
    rw [dN hi,aB,gV (by simp),aB,aB,bO]
    refine⟨_,rfl,a2,?_,fun j q hj=>?_⟩
    ·dsimp only
     rw [<-hsl,List.set_append_right _ _ (bL _),Nat.sub_self]
     unfold nA
     rw [iY,aD e,eV]
     congr 1
     ·apply List.map_congr_left
      intro a ha
      have:=(gN.1 ha).1
      rw [qG,aC (by omega)]
     ·simp only [List.set_cons_zero,eI,List.map_nil,List.nil_append]
      rw [qG,aD e,B7 (fun i hi=>hle i (by omega)) (bL _)];rfl
    ·dsimp only
     rw [iY,aD e] at hj
     rw [iJ]
     by_cases e2:j< (bN k r).length
     ·rw [fy e2] at hj
      have:=(gN.1 (gw hj)).1
      rw [aC (by omega)];exact hm j q hj
     ·rw [eW (by omega)] at hj
      have hj0:j - (bN k r).length=0:=by
       have:=(aW.1 hj).1;simp at this;omega
      rw [hj0] at hj;simp at hj;subst hj
      rw [aD rfl];congr 1;omega
   ·rw [show (((r k:Nat):Int)==((k:Nat):Int))=false by simp;omega,aR,aB]
    dsimp only
    have hh:r k∈bN k r:=gN.2 ⟨by omega,hrr k hk⟩
    obtain⟨j,hj⟩:=fP hh
    rw [hm j (r k) hj]
    have hcl:=yZ k r (r k)
    have hi: (nA k r)[j]? =some ((cls k r (r k)).map (fun i=>((i:Nat):Int))):=by unfold nA;rw [gX,hj];rfl
    rw [dN hi,aB,gV (by simp;omega),aB,aB,bO]
    refine⟨_,rfl,a2,?_,fun j' q hj'=>?_⟩
    ·unfold nA
     rw [iY,aC e]
     have:=qH (fun a=>(cls k r a).map (fun i=>((i:Nat):Int))) (fun a=>(cls (k+1) r a).map (fun i=>((i:Nat):Int))) (bN k r) j (r k) (lu k r) hj (fun b hb hne=>by
      rw [qG,aC (fun h=>hne h.symm)])
     rw [qG,aD rfl,eV] at this
     exact this
    ·rw [iY,aC e] at hj';exact hm j' q hj')
 rw [h1,aB]
 obtain⟨l,ss,m⟩:=s'
 dsimp only at h2
 rw [hlen] at h2
 refine⟨l,?_,h2.1⟩
 rw [<-h2.2.1]
end
end Go.Gk
namespace Go.Gk
open Go
section
variable {N:Nat}
theorem y4 {n:Nat} {up:List Int} {r:Nat->Nat} (h:UF n up r) {i:Nat} (hi:i<n) (hn:n<N): ∃up',dV N ((i:Nat):Int) up=some (((r i:Nat):Int),up')/\UF n up' r:=by
 unfold dV
 have:=Ok.bind (β:=Int×List Int) (Q:=fun x=>x.1= ((r i:Nat):Int)/\UF n x.2 r) (Ok.mY (body:=fun(s32:Int×(List Int))=>((idx s32.2 s32.1).bind fun x43=>bif (x43 != s32.1) then ((idx s32.2 s32.1).bind fun x44=>(idx s32.2 x44).bind fun x45=>(idx s32.2 s32.1).bind fun x46=>(idx (s32.2.set (Int.toNat s32.1) x45) s32.1).bind fun x47=>some (.nx (x47,(s32.2.set (Int.toNat s32.1) x45)))) else (some (.br (s32.1,s32.2))):Option (Fl (Int×(List Int)) Empty)))
  (N:=N) (s:=(((i:Nat):Int),up)) (Go:=fun s=>s.1= ((r i:Nat):Int)/\UF n s.2 r) (Rt:=fun _=>True) (fun s=>UF n s.2 r/\∃j:Nat,s.1= ((j:Nat):Int)/\j<n/\r j=r i) (fun s=>s.1.toNat) (by
   rintro⟨y,l⟩ ⟨hu,j,hj,hjn,hr⟩
   dsimp only at hu hj ⊢
   subst hj
   obtain⟨u,a1,a2,a3,a4⟩:=hu.rt j hjn
   refine Ok.ix a1 ?_
   by_cases e:u=j
   ·subst e
    rw [show (((u:Nat):Int) != ((u:Nat):Int))=false by simp,aR]
    refine Ok.br ⟨?_,hu⟩
    show ((u:Nat):Int)=_
    rw [<-hr,a4.1 rfl]
   ·obtain⟨v,b1,b2,b3,b4⟩:=hu.rt u (by omega)
    have hl:=hu.len
    rw [show (((u:Nat):Int) != ((j:Nat):Int))=true by simp;omega,aO]
    refine Ok.ix a1 (Ok.ix b1 (Ok.ix a1 (Ok.ix (x:=((v:Nat):Int)) (by rw [bO,k7 (by omega),aD rfl]) (Ok.nx ⟨⟨⟨by simp [hl],fun k hk=>?_⟩,v,rfl,by omega,?_⟩,?_⟩))))
    ·rw [bO,k7 (by omega)]
     by_cases e2:k=j
     ·subst e2
      rw [aD rfl]
      refine⟨v,rfl,by omega,by rw [b3,a3],?_⟩
      constructor
      ·intro h;omega
      ·intro h;exact absurd (a4.2 h) e
     ·rw [aC e2];exact hu.rt k hk
    ·rw [b3,a3,hr]
    ·simp only [bO];omega)
  ⟨h,i,rfl,hi,rfl⟩ (by simp only [bO];omega))
  (fun o ho=>Ok.cs (f:=fun(s32:Int×(List Int))=>some (s32.1,s32.2)) (g:=fun r:Empty=>r.elim) ho (fun s h=>Ok.ret h) (fun r=>r.elim))
 obtain⟨⟨x,up'⟩,h1,h2,h3⟩:=this
 exact⟨up',by rw [<-h2];exact h1,h3⟩
theorem En {n:Nat} {up:List Int} {r:Nat->Nat} (h:UF n up r) {i k:Nat} (hi:i<n) (hk:k<n) {f:List Int->Option (List Int)} (hn:n<N):
  ∃up',((dV N ((i:Nat):Int) up).bind fun x840=>(dV N ((k:Nat):Int) x840.2).bind fun x842=>(idx x842.2 (if x840.1<x842.1 then x842.1 else x840.1)).bind fun x844=>some (x842.2.set (Int.toNat (if x840.1<x842.1 then x842.1 else x840.1)) (if x842.1<x840.1 then x842.1 else x840.1)))=some up'/\UF n up' (lO r (r i) (r k)):=by
 obtain⟨u1,a1,a2⟩:=y4 h hi hn
 obtain⟨u2,b1,b2⟩:=y4 a2 hk hn
 obtain⟨v1,c1,c2⟩:=mH h hi hn
 have hri:=h.le i hi
 have hrk:=h.le k hk
 have rri:=h.rr i hi
 have rrk:=h.rr k hk
 rw [a1,aB,b1,aB]
 dsimp only
 rw [El,Em]
 have hm:max (r i) (r k)<n:=by omega
 have hl:=b2.len
 rw [i7 _ _ (by omega),aB,bO]
 refine⟨_,rfl,by simp [hl],fun x hx=>?_⟩
 have rmax:r (max (r i) (r k))=max (r i) (r k):=by rcases Nat.le_total (r i) (r k) with e | e <;> simp [Nat.max_def] <;> split <;> omega
 have rmin:r (min (r i) (r k))=min (r i) (r k):=by rcases Nat.le_total (r i) (r k) with e | e <;> simp [Nat.min_def] <;> split <;> omega
 rw [k7 (by omega)]
 by_cases e:x=max (r i) (r k)
 ·subst e
  rw [aD rfl]
  refine⟨min (r i) (r k),rfl,by omega,?_,?_⟩
  ·unfold lO;rw [rmin,rmax,aD rfl];split <;> rfl
  ·unfold lO;rw [rmax,aD rfl]
 ·rw [aC e]
  obtain⟨u,c1,c2,c3,c4⟩:=b2.rt x hx
  refine⟨u,c1,c2,?_,?_⟩
  ·unfold lO;rw [c3]
  ·unfold lO
   split
   ·rename_i e2
    constructor
    ·intro hu;have:=c4.1 hu;omega
    ·intro hu
     have h1:=b2.le x hx
     have h3:x=max (r i) (r k):=by omega
     exact absurd h3 e
   ·exact c4
def gk (s:List aA) (k:Nat):Nat:=(aM (s.take k)).length
theorem uU {s:List aA} {k:Nat} (h:k<s.length):gk s (k+1)=gk s k+s[k].Xs.length / 2:=by
 unfold gk
 rw [fu h,kS,dK]
 show _+ (aM [s[k]]).length=_
 rw [show aM [s[k]]=lq s[k] by simp [aM],kF]
theorem uV {s:List aA} {k m:Nat} (h:k<=m):gk s k<=gk s m:=by
 unfold gk
 have:=uR (s.take m) k
 rwa [List.take_take,Nat.min_eq_left h] at this
theorem Ak (s:List aA):gk s s.length= (aM s).length:=by unfold gk;rw [eX]
theorem FJ {s:List aA} {k t:Nat} (h:k<s.length) (ht:2*t+1<s[k].Xs.length): (aM s)[gk s k+t]? =some ⟨s[k].Xs[2*t],s[k].Y0,s[k].Xs[2*t+1],s[k].Y1⟩:=by
 have e:aM s=aM (s.take k)++(lq s[k]++aM (s.drop (k+1))):=by
  conv=>lhs;rw [<-List.take_append_drop k s,qR h]
  rw [kS,lr]
 rw [e]
 unfold gk
 rw [eW (by omega),Nat.add_sub_cancel_left,fy (by rw [kF];omega)]
 unfold lq
 rw [gX,tO _ _ ht];rfl
theorem B8 {s:List aA} {i:Nat} (h:i< (aM s).length): ∃k,k<s.length/\gk s k<=i/\i<gk s (k+1):=by
 have key: ∀m,m<=s.length->i<gk s m->∃k,k<m/\gk s k<=i/\i<gk s (k+1):=by
  intro m
  induction m with
  | zero=>intro _ h;unfold gk at h;simp [aM] at h
  | succ m ih=>
   intro hm hi
   by_cases h1:i<gk s m
   ·obtain⟨k,hk,h2⟩:=ih (by omega) h1
    exact⟨k,by omega,h2⟩
   ·exact⟨m,by omega,by omega,hi⟩
 exact key s.length (bL _) (by rw [Ak];exact h)
def GM (a c:aI):Prop:=a.Y1=c.Y0/\a.X0<c.X1/\c.X0<a.X1
def CZ (all:List aI) (i j:Nat):Prop:=∃a c,all[i]? =some a/\all[j]? =some c/\GM a c
theorem re {s:List aA} (he: ∀b∈s,b.Xs.length % 2=0) {k i:Nat} (hk:k<s.length) (h1:gk s k<=i) (h2:i<gk s (k+1)): ∃t,i=gk s k+t/\∃h:2*t+1<s[k].Xs.length,(aM s)[i]? =some ⟨s[k].Xs[2*t],s[k].Y0,s[k].Xs[2*t+1],s[k].Y1⟩:=by
 rw [uU hk] at h2
 have:=he _ (cJ hk)
 refine⟨i - gk s k,by omega,by omega,?_⟩
 have h3:=FJ (t:=i - gk s k) hk (by omega)
 rwa [show gk s k+ (i - gk s k)=i by omega] at h3
theorem wO {s:List aA} (hc:dW (s.map bK)) {p q:Nat} (hp:p<s.length) (hq:q<s.length) (h:p<q):s[p].Y1<=s[q].Y0:=by
 have:=l5.1 hc.ord p q (by simp;omega) (by simp;omega) h
 simp only [List.getElem_map] at this
 exact this.1
theorem wP {s:List aA} (hc:dW (s.map bK)) {p:Nat} (hp:p<s.length):s[p].Y0<s[p].Y1:=(hc.each (bK s[p]) (cM.2 ⟨_,cJ hp,rfl⟩)).1
theorem oX {s:List aA} (hc:dW (s.map bK)): ∀b∈s,b.Xs.length % 2=0:=fun b hb=>(hc.each (bK b) (cM.2 ⟨b,hb,rfl⟩)).2.2.2
theorem B9 {s:List aA} (hc:dW (s.map bK)): ∀b∈s,lh b.Xs:=fun b hb=>(hc.each (bK b) (cM.2 ⟨b,hb,rfl⟩)).2.2.1
theorem Al {s:List aA} (hc:dW (s.map bK)) {i j q:Nat} (hq:q<s.length) (h1:gk s q<=j) (h2:j<gk s (q+1)) (ht:CZ (aM s) i j): ∃hq0:0<q,s[q - 1].Y1=s[q].Y0/\gk s (q - 1)<=i/\i<gk s q:=by
 obtain⟨a,c,ha,hb,e1,e2,e3⟩:=ht
 obtain⟨t,e4,ht,hj⟩:=re (oX hc) hq h1 h2
 rw [hj] at hb;injection hb with hb;subst hb
 have hil:=(aW.1 ha).1
 obtain⟨p,hp,p1,p2⟩:=B8 hil
 obtain⟨u,e5,hu,hi⟩:=re (oX hc) hp p1 p2
 rw [hi] at ha;injection ha with ha;subst ha
 have e1:s[p].Y1=s[q].Y0:=e1
 have hpp:=wP hc hp
 have hqq:=wP hc hq
 have hpq:p+1=q:=by
  rcases Nat.lt_trichotomy p q with h | h | h
  ·by_cases h':p+1=q
   ·exact h'
   ·have h3:=wO hc hp (show p+1<s.length by omega) (by omega)
    have h4:=wO hc (show p+1<s.length by omega) hq (by omega)
    have h5:=wP hc (show p+1<s.length by omega)
    omega
  ·subst h;omega
  ·have:=wO hc hq hp h;omega
 subst hpq
 exact⟨by omega,e1,p1,p2⟩
structure PJ (all:List aI) (n:Nat) (up:List Int) (r:Nat->Nat) (E:List (Nat×Nat)):Prop where
 uf:UF n up r
 co:lZ r E
 fi:uT n r E
 so: ∀p∈E,CZ all p.1 p.2
theorem PJ.join {all:List aI} {n:Nat} {up up':List Int} {r:Nat->Nat} {E:List (Nat×Nat)} (h:PJ all n up r E) {i j:Nat} (hi:i<n) (hj:j<n) (hu:UF n up' (lO r (r i) (r j))) (ht:CZ all i j):PJ all n up' (lO r (r i) (r j)) (E++[(i,j)]):=
 ⟨hu,h.co.join i j (h.uf.rr i hi),h.fi.join hi hj,fun p hp=>by
  rcases cP.1 hp with hp | hp
  ·exact h.so p hp
  ·simp at hp;subst hp;exact ht⟩
structure Joined (all:List aI) (r:Nat->Nat):Prop where
 le: ∀i,i<all.length->r i<=i
 rr: ∀i,i<all.length->r (r i)=r i
 co: ∀i j,CZ all i j->r i=r j
 fi: ∀S:Nat->Prop,(∀i j,CZ all i j->(S i↔S j))->∀i j,i<all.length->j<all.length->r i=r j->S i->S j
def ly (all:List aI) (n:Nat) (r:Nat->Nat) (h:Nat):List aI:=(cls n r h).filterMap (fun i=>all[i]?)
theorem wQ (all:List aI) (n:Nat) (r:Nat->Nat) (h:Nat): (ly all n r h).length<=n:=by
 have h1:=List.length_filterMap_le (fun i=>all[i]?) (cls n r h)
 have h2:=yZ n r h
 unfold ly;omega
theorem rf {all:List aI} {n:Nat} {r:Nat->Nat} (h:Nat) {x:aI} (hx:all[n]? =some x):ly all (n+1) r h=if r n=h then ly all n r h++[x] else ly all n r h:=by
 unfold ly
 rw [qG]
 split
 ·rw [List.filterMap_append];simp [hx]
 ·rfl
theorem mq {all:List aI} {n:Nat} {r:Nat->Nat} {h:Nat} {x:aI}:x∈ly all n r h↔∃i,i<n/\r i=h/\all[i]? =some x:=by
 unfold ly cls
 rw [List.mem_filterMap]
 constructor
 ·rintro⟨i,hi,h⟩
  have:=gI.1 hi
  exact⟨i,i5.1 this.1,by simpa using this.2,h⟩
 ·rintro⟨i,h1,h2,h3⟩
  exact⟨i,gI.2 ⟨i5.2 h1,by simpa using h2⟩,h3⟩
structure pw (s:List aA) (r:Nat->Nat) (ps:List (List aA)):Prop where
 join:Joined (aM s) r
 len:ps.length= (bN (aM s).length r).length
 each: ∀(j h:Nat) (p:List aA),(bN (aM s).length r)[j]? =some h->ps[j]? =some p->n0 (ly (aM s) (aM s).length r h) p
def J8 (n:Nat) (r:Nat->Nat) (m:List (Int×Int)):Prop:=(∀(j k:Nat),(bN n r)[j]? =some k->dG m ((k:Nat):Int) 0= ((j:Nat):Int))/\∀k:Nat,iB m ((k:Nat):Int)=decide (k∈bN n r)
theorem Bu {s:List aA} {X Y:List Int} (hc:dW (s.map bK)) (hl:sU X Y (s.map bK)) (hX: ∀c∈X,small c) (hY: ∀c∈Y,small c) (h1:s.length<=1073741824) (h2: ∀b∈s,b.Xs.length<=1073741824) (h3: (aM s).length<=134217728) (hN:4398046511104<=N):
  Ok (jE N s) (fun ps=>∃r,pw s r ps):=by
 unfold jE
 have hev:=oX hc
 have hinc:=B9 hc
 refine Ok.eq (wK hev (by omega) (fun b hb=>by have:=h2 b hb;omega) (by omega)) ?_
 have hok:=wL hc hl hX hY
 have hall:gk s s.length= (aM s).length:=Ak s
 generalize hn: (aM s).length=n at *
 refine Ok.eq (ph 0 (by omega)) ?_
 rw [show ((List.replicate n (0:Int)).length)=n by simp]
 refine Ok.bind (Ok.iT (fun k up=>up.length=n/\∀i,i<k->up[i]? =some ((i:Nat):Int)) (by omega) ⟨by simp,fun i hi=>by omega⟩ (fun k up hk hI=>?_)) ?_
 ·obtain⟨hs,hi⟩:=hI
  refine Ok.idx (by omega) (Ok.ret ⟨by simp [hs],fun i hi'=>?_⟩)
  rw [bO,k7 (by omega)]
  split
  ·rename_i e;rw [e]
  ·exact hi i (by omega)
 rintro up0 ⟨hu1,hu2⟩
 refine Ok.bind (Ok.iT (fun k st=>st.2.1= ((gk s k:Nat):Int)/\(0<k->st.2.2= ((gk s (k - 1):Nat):Int))/\∃r E,PJ (aM s) n st.1 r E/\∀q,q<k->∀i j,gk s q<=j->j<gk s (q+1)->CZ (aM s) i j->(i,j)∈E) (by omega)
  ⟨rfl,fun h=>by omega,_,_,⟨UF.init n up0 hu1 hu2,lZ.id,uT.id n,fun p hp=>(by cases hp)⟩,fun q hq=>by omega⟩ (fun k st hk hI=>?_)) ?_
 ·obtain⟨up,a,b⟩:=st
  obtain⟨e1,e2,r,E,hP,hE⟩:=hI
  dsimp only at e1 e2 hP ⊢
  subst e1
  refine Ok.idx hk ?_
  have hoff:=uU hk
  have hoffle:gk s (k+1)<=n:=by rw [<-hall];exact uV hk
  have hkm:=cJ hk
  have hlen:IntKind.wrap .i64 (Int.tdiv ((s[k].Xs.length:Nat):Int) 2)= ((s[k].Xs.length / 2:Nat):Int):=by
   have:=h2 _ hkm
   rw [show (2:Int)= ((2:Nat):Int) by rfl,<-Int.ofNat_tdiv,Ah (by omega)]
  rw [hlen,wrap_add (by omega),<-hoff]
  refine Ok.bind (P:=fun c=>c=true↔∃h0:0<k,s[k - 1].Y1=s[k].Y0) ?_ (fun c hcc=>?_)
  ·refine Ok.bif (fun h=>?_) (fun h=>Ok.ret ?_)
   ·have hpos:0<k:=by have:=of_decide_eq_true h;omega
    rw [lW hpos (by omega)]
    refine Ok.idx (by omega) (Ok.ret ?_)
    rw [beq_iff_eq]
    exact⟨fun h=>⟨hpos,h⟩,fun⟨_,h⟩=>h⟩
   ·have:=of_decide_eq_false h
    constructor
    ·intro h;cases h
    ·rintro⟨h0,_⟩;omega
  refine Ok.bind (P:=fun up'=>∃r E,PJ (aM s) n up' r E/\∀q,q<k+1->∀i j,gk s q<=j->j<gk s (q+1)->CZ (aM s) i j->(i,j)∈E) ?_ (fun up' hI=>Ok.ret ⟨rfl,fun _=>rfl,hI⟩)
  refine Ok.bif (fun h=>?_) (fun h=>Ok.ret ⟨r,E,hP,fun q hq i j q1 q2 ht=>?_⟩)
  ·obtain⟨hpos,hyy⟩:=hcc.1 h
   rw [e2 hpos]
   have hoffp:=uU (show k - 1<s.length by omega)
   rw [show k - 1+1=k by omega] at hoffp
   refine Ok.bind (Ok.mY (Go:=fun st=>∃r E,PJ (aM s) n st.1 r E/\∀q,q<k+1->∀i j,gk s q<=j->j<gk s (q+1)->CZ (aM s) i j->(i,j)∈E) (Rt:=fun _=>True)
    (fun st=>∃i j:Nat,st.2.1= ((i:Nat):Int)/\st.2.2= ((j:Nat):Int)/\gk s (k - 1)<=i/\i<=gk s k/\gk s k<=j/\j<=gk s (k+1)/\∃r E,PJ (aM s) n st.1 r E/\(∀q,q<k->∀i j,gk s q<=j->j<gk s (q+1)->CZ (aM s) i j->(i,j)∈E)/\
     ∀i' j',gk s (k - 1)<=i'->i'<gk s k->gk s k<=j'->j'<gk s (k+1)->(i'<i\/j'<j)->CZ (aM s) i' j'->(i',j')∈E)
    (fun st=>(n - st.2.1.toNat)+ (n - st.2.2.toNat)) ?_ ?_ (by simp only [bO];omega)) (fun o ho=>Ok.cs ho (fun st h=>Ok.ret h) (fun r=>r.elim))
   ·rintro⟨up,a,b⟩ ⟨i,j,e3,e4,i1,i2,j1,j2,r,E,hP,hE,hE2⟩
    dsimp only at e3 e4 hP ⊢
    subst e3;subst e4
    refine Ok.bif (fun h=>?_) (fun h=>Ok.br ?_)
    ·rw [bJ,bI,bI] at h
     have hi:i<gk s k:=by omega
     have hj:j<gk s (k+1):=by omega
     obtain⟨t,et,_,hri⟩:=re hev (show k - 1<s.length by omega) i1 (by rw [show k - 1+1=k by omega];exact hi)
     obtain⟨u,eu,_,hrj⟩:=re hev hk j1 hj
     have xi:=hinc _ (cJ (show k - 1<s.length by omega))
     have xj:=hinc _ hkm
     have farI: ∀i' a,i<i'->i'<gk s k->(aM s)[i']? =some a->s[k - 1].Xs[2*t+1]<a.X0:=fun i' a h4 h5 h6=>by
      obtain⟨t',et',ht',hr'⟩:=re hev (show k - 1<s.length by omega) (show gk s (k - 1)<=i' by omega) (by rw [show k - 1+1=k by omega];exact h5)
      rw [hr'] at h6;injection h6 with h6;subst h6
      exact xi.lt (show 2*t+1<2*t' by omega) (aJ _) (aJ _)
     have farJ: ∀j' a,j<j'->j'<gk s (k+1)->(aM s)[j']? =some a->s[k].Xs[2*u+1]<a.X0:=fun j' a h4 h5 h6=>by
      obtain⟨u',eu',hu',hr'⟩:=re hev hk (show gk s k<=j' by omega) h5
      rw [hr'] at h6;injection h6 with h6;subst h6
      exact xj.lt (show 2*u+1<2*u' by omega) (aJ _) (aJ _)
     refine Ok.bind (P:=fun c=>c=true↔CZ (aM s) i j) ?_ (fun c hct=>?_)
     ·refine Ok.ix hri (Ok.ix hrj (Ok.bif (fun h=>Ok.ix hrj (Ok.ix hri (Ok.ret ?_))) (fun h=>Ok.ret ?_)))
      ·rw [bI] at h ⊢
       constructor
       ·intro h';exact⟨_,_,hri,hrj,hyy,h,h'⟩
       ·rintro⟨a,c,ha,hc',_,_,h'⟩
        rw [hri] at ha;injection ha with ha;subst ha
        rw [hrj] at hc';injection hc' with hc';subst hc'
        exact h'
      ·constructor
       ·intro h;cases h
       ·rintro⟨a,c,ha,hc',_,h',_⟩
        rw [hri] at ha;injection ha with ha;subst ha
        rw [hrj] at hc';injection hc' with hc';subst hc'
        rw [decide_eq_false_iff_not] at h;exact absurd h' h
     refine Ok.bind (P:=fun up'=>∃r E',PJ (aM s) n up' r E'/\(∀p∈E,p∈E')/\(CZ (aM s) i j->(i,j)∈E')) ?_ ?_
     ·refine Ok.bif (fun h=>?_) (fun h=>Ok.ret ⟨r,E,hP,fun p hp=>hp,fun ht=>by rw [hct.2 ht] at h;cases h⟩)
      obtain⟨up',u1,u2⟩:=En (N:=N) (f:=fun x=>some x) hP.uf (i:=i) (k:=j) (by omega) (by omega) (by omega)
      refine⟨up',u1,_,_,hP.join (by omega) (by omega) u2 (hct.1 h),fun p hp=>List.mem_append_left _ hp,fun _=>by simp⟩
     ·rintro up' ⟨r',E',hP',hsub,hij⟩
      refine Ok.ix hri (Ok.ix hrj ?_)
      dsimp only
      by_cases hx:s[k - 1].Xs[2*t+1]<s[k].Xs[2*u+1]
      ·rw [cA hx,aO]
       refine Ok.eq (x:=(((i+1:Nat):Int),((j:Nat):Int))) (by rw [gj (by omega)]) (Ok.nx ⟨⟨i+1,j,rfl,rfl,by omega,by omega,j1,j2,r',E',hP',fun q hq i j q1 q2 ht=>hsub _ (hE q hq i j q1 q2 ht),fun i' j' g1 g2 g3 g4 g5 ht=>?_⟩,by simp only [bO];omega⟩)
       by_cases h5:i'<i\/j'<j
       ·exact hsub _ (hE2 i' j' g1 g2 g3 g4 h5 ht)
       ·have:i'=i:=by omega
        subst this
        by_cases h6:j'=j
        ·subst h6;exact hij ht
        ·exfalso
         obtain⟨a,c,ha,hc',_,_,h'⟩:=ht
         rw [hri] at ha;injection ha with ha;subst ha
         have:=farJ j' c (by omega) g4 hc'
         dsimp only at h';omega
      ·rw [bC hx,aR]
       refine Ok.eq (x:=(((i:Nat):Int),((j+1:Nat):Int))) (by rw [gj (by omega)]) (Ok.nx ⟨⟨i,j+1,rfl,rfl,i1,i2,by omega,by omega,r',E',hP',fun q hq i j q1 q2 ht=>hsub _ (hE q hq i j q1 q2 ht),fun i' j' g1 g2 g3 g4 g5 ht=>?_⟩,by simp only [bO];omega⟩)
       by_cases h5:i'<i\/j'<j
       ·exact hsub _ (hE2 i' j' g1 g2 g3 g4 h5 ht)
       ·have:j'=j:=by omega
        subst this
        by_cases h6:i'=i
        ·subst h6;exact hij ht
        ·exfalso
         obtain⟨a,c,ha,hc',_,h',_⟩:=ht
         rw [hrj] at hc';injection hc' with hc';subst hc'
         have:=farI i' a (by omega) g2 ha
         dsimp only at h';omega
    ·refine⟨r,E,hP,fun q hq i' j' q1 q2 ht=>?_⟩
     by_cases hqk:q<k
     ·exact hE q hqk i' j' q1 q2 ht
     ·have:q=k:=by omega
      subst this
      obtain⟨_,_,g1,g2⟩:=Al hc hk q1 q2 ht
      refine hE2 i' j' g1 g2 q1 q2 ?_ ht
      rw [Bool.and_eq_false_iff,decide_eq_false_iff_not,decide_eq_false_iff_not] at h
      omega
   ·exact⟨gk s (k - 1),gk s k,rfl,rfl,bL _,uV (by omega),bL _,uV (by omega),r,E,hP,hE,fun i' j' g1 g2 g3 g4 g5=>by omega⟩
  ·by_cases hqk:q<k
   ·exact hE q hqk i j q1 q2 ht
   ·have:q=k:=by omega
    subst this
    obtain⟨g0,g1,_⟩:=Al hc hk q1 q2 ht
    rw [hcc.2 ⟨g0,g1⟩] at h;cases h
 ·rintro⟨up,a,b⟩ ⟨_,_,r,E,hP,hE⟩
  dsimp only at hP ⊢
  have hEq: ∀i j,CZ (aM s) i j->(i,j)∈E:=fun i j ht=>by
   have hjl:j< (aM s).length:=by obtain⟨a,c,_,hb,_⟩:=ht;exact(aW.1 hb).1
   obtain⟨q,hq,q1,q2⟩:=B8 hjl
   exact hE q hq i j q1 q2 ht
  have hJ:Joined (aM s) r:=⟨by rw [hn];exact hP.uf.le,by rw [hn];exact hP.uf.rr,fun i j ht=>hP.co (i,j) (hEq i j ht),fun S hS i j hi hj=>by
   rw [hn] at hi hj
   exact hP.fi S (fun p hp=>hS p.1 p.2 (hP.so p hp)) i j hi hj⟩
  refine Ok.bind (Ok.iT (fun k st=>UF n st.1 r/\J8 k r st.2.1/\st.2.2= (bN k r).map (ly (aM s) k r)) (by omega) ⟨hP.uf,⟨fun j k hj=>by simp [bN] at hj,fun k=>rfl⟩,rfl⟩ (fun k st hk hI=>?_)) ?_
  ·obtain⟨l,m,ls⟩:=st
   obtain⟨hu,⟨hm1,hm2⟩,hs⟩:=hI
   dsimp only at hu hm1 hm2 hs ⊢
   subst hs
   have hkx: (aM s)[k]? =some ((aM s)[k]'(by omega)):=aJ (by omega)
   refine Ok.ix hkx ?_
   obtain⟨u',a1,a2⟩:=y4 (N:=N) hu hk (by omega)
   refine Ok.eq a1 ?_
   dsimp only
   have hhl:=l3 k r
   have hrk:=hP.uf.le k hk
   have hrr:=hP.uf.rr k hk
   have hcl:=wQ (aM s) k r (r k)
   have hmap: ((bN k r).map (ly (aM s) k r)).length= (bN k r).length:=by simp
   rw [hm2]
   by_cases e:r k=k
   ·have hnot:r k∉bN k r:=fun h=>by have:=(gN.1 h).1;omega
    refine Ok.eq (x:=(oe m ((r k:Nat):Int) (((bN k r).length:Nat):Int),(bN k r).map (ly (aM s) k r)++[([]:List aI)],(((bN k r).length:Nat):Int))) ?_ ?_
    ·rw [bC hnot,l6,aO,gV (by simp;omega),aB,hmap]
    ·dsimp only
     have hi: ((bN k r).map (ly (aM s) k r)++[([]:List aI)])[(bN k r).length]? =some []:=by rw [<-hmap,eW (bL _),Nat.sub_self];rfl
     refine Ok.ix hi (Ok.app (by simp) (Ok.ix hi (Ok.ret ⟨a2,⟨fun j q hj=>?_,fun q=>?_⟩,?_⟩)))
     ·dsimp only
      rw [iY,aD e] at hj
      rw [iJ]
      by_cases e2:j< (bN k r).length
      ·rw [fy e2] at hj
       have:=(gN.1 (gw hj)).1
       rw [aC (by omega)];exact hm1 j q hj
      ·rw [eW (by omega)] at hj
       have hj0:j - (bN k r).length=0:=by
        have:=(aW.1 hj).1;simp at this;omega
       rw [hj0] at hj;simp at hj;subst hj
       rw [aD (by rw [e])];congr 1;omega
     ·dsimp only
      rw [kE,hm2,iY,aD e,fz]
      rw [dP,bI,bI,bI,cP,List.mem_singleton,e]
      constructor
      ·rintro(h | h)
       ·exact .inr (by omega)
       ·exact .inl h
      ·rintro(h | h)
       ·exact .inr h
       ·exact .inl (by omega)
     ·dsimp only
      rw [bO,<-hmap,List.set_append_right _ _ (bL _),Nat.sub_self,iY,aD e,eV]
      congr 1
      ·apply List.map_congr_left
       intro a ha
       have:=(gN.1 ha).1
       rw [rf a hkx,aC (by omega)]
      ·simp only [List.set_cons_zero,eI,List.map_nil,List.nil_append]
       rw [rf k hkx,aD e]
       have:ly (aM s) k r k= []:=by unfold ly;rw [B7 (fun i hi=>hP.uf.le i (by omega)) (bL _)];rfl
       rw [this];rfl
   ·have hh:r k∈bN k r:=gN.2 ⟨by omega,hrr⟩
    obtain⟨j,hj⟩:=fP hh
    refine Ok.eq (x:=(m,(bN k r).map (ly (aM s) k r),((j:Nat):Int))) ?_ ?_
    ·rw [cA hh,lz,aR,hm1 j (r k) hj]
    ·dsimp only
     have hi: ((bN k r).map (ly (aM s) k r))[j]? =some (ly (aM s) k r (r k)):=by rw [gX,hj];rfl
     refine Ok.ix hi (Ok.app (by simp;omega) (Ok.ix hi (Ok.ret ⟨a2,⟨fun j' q hj'=>?_,fun q=>?_⟩,?_⟩)))
     ·rw [iY,aC e] at hj';exact hm1 j' q hj'
     ·rw [iY,aC e];exact hm2 q
     ·dsimp only
      rw [bO,iY,aC e]
      have:=qH (ly (aM s) k r) (ly (aM s) (k+1) r) (bN k r) j (r k) (lu k r) hj (fun b hb hne=>by
       rw [rf b hkx,aC (fun h=>hne h.symm)])
      rw [rf (r k) hkx,aD rfl] at this
      exact this
  ·rintro⟨l,m,ls⟩ ⟨_,_,hs⟩
   dsimp only at hs ⊢
   subst hs
   have hhl:=l3 n r
   refine Ok.bind (Ok.iT (fun k ps=>ps.length=k/\∀(j h:Nat) (p:List aA),j<k->(bN n r)[j]? =some h->ps[j]? =some p->n0 (ly (aM s) n r h) p) (by simp;omega) ⟨rfl,fun j h p hj=>by omega⟩ (fun k ps hk hI=>?_)) ?_
   ·obtain⟨hp1,hp2⟩:=hI
    have hk':k< (bN n r).length:=by simpa using hk
    refine Ok.ix (x:=ly (aM s) n r (bN n r)[k]) (by rw [gX,aJ hk'];rfl) ?_
    have hcl:=wQ (aM s) n r (bN n r)[k]
    refine Ok.bind (pr (N:=N) (by omega) (fun x hx=>?_) (by omega)) ?_
    ·obtain⟨i,_,_,h⟩:=mq.1 hx
     exact(hok x (gw h)).1
    ·intro p hp
     refine Ok.app (by rw [hp1];simp;omega) (Ok.ret ⟨by simp [hp1],fun j h q hj hh hq=>?_⟩)
     by_cases hjk:j<k
     ·rw [fy (by omega)] at hq
      exact hp2 j h q hjk hh hq
     ·have:j=k:=by omega
      subst this
      rw [eW (by omega),hp1,Nat.sub_self] at hq
      simp at hq;subst hq
      rw [aJ hk'] at hh;injection hh with hh;subst hh
      exact hp
   ·rintro ps ⟨hp1,hp2⟩
    refine Ok.ret ⟨r,hJ,?_,fun j h p hh hp=>?_⟩
    ·rw [hp1,hn];simp
    ·rw [hn] at hh ⊢
     exact hp2 j h p (by have:=(aW.1 hp).1;omega) hh hp
end
end Go.Gk
namespace Go.Gk
open Go
section
variable {N:Nat}
theorem l8 {n:Int} (h: -9223372036854775808<=n/\n<=9223372036854775807):IntKind.wrap .i64 n=n:=by rw [IntKind.wrap_i64];omega
def gO (n lo hi:Int):Bool:=decide (n>=lo)&&decide (n<=hi)
def nB (n:Int):Bool:=gO n (-1000000) 1000000
def rQ (p:eF):Bool:=nB p.X&&nB p.Y
def cU (r:aI):Bool:=nB r.X0&&(nB r.Y0&&(nB r.X1&&nB r.Y1))
theorem wR (n:Int):jt N n=some (nB n):=rfl
theorem vh (p:eF):g8 N p=some (rQ p):=by
 unfold g8 rQ
 rw [wR,aB,wR]
 cases nB p.X <;> rfl
theorem wS (r:aI):ku N r=some (cU r):=by
 unfold ku cU
 simp only [wR,aB]
 cases nB r.X0 <;> cases nB r.Y0 <;> cases nB r.X1 <;> rfl
theorem Am {a b:Int} (h:a≠b):fE (N+4) [a,b]=some [a,b]:=by
 have e: (b==a)=false:=by rw [beq_eq_false_iff_ne];exact fun e=>h e.symm
 have w1:IntKind.wrap .i64 ((1:Int) - 1)=0:=by decide
 have w2:IntKind.wrap .i64 ((1:Int)+1)=2:=by decide
 unfold fE
 have e1:idx [a,b] 1=some b:=rfl
 have e2:idx [a,b] 0=some a:=rfl
 have l2: (([a,b]:List Int).length:Int)=2:=rfl
 rw [l2,show decide ((2:Int)<2)=false by decide,aR]
 rw [mY.eq_def]
 dsimp only
 rw [show decide ((1:Int)<2)=true by decide,aO,e1,aB,w1,e2,aB,e,aR,aB,w2]
 dsimp only
 rw [mY.eq_def]
 dsimp only
 rw [show decide ((2:Int)<2)=false by decide,aR,aB]
 rfl
theorem F7 (x:Int):IntKind.wrap .i64 (x - x)=0:=by rw [Int.sub_self];decide
theorem C0 {r:aI} (hx:r.X0<r.X1) (hy:r.Y0<r.Y1):fJ (N+16) [r]=some [⟨r.Y0,r.Y1,[r.X0,r.X1]⟩]:=by
 have s1:tc (ij (N+16)) [r]=some [r]:=xX (by unfold ij;rw [F7])
 have s2:tc (fF (N+16)) [r]=some [r]:=xX (by unfold fF;rw [F7])
 have s3:pY [r.Y0,r.Y1]=some [r.Y0,r.Y1]:=xq (by simp;omega) (by simp)
 have c1:gJ (N+16) [r]=some [r]:=rfl
 have f1: ∀φ,fQ (N+16) [] φ=some []:=fun φ=>rfl
 have st:gR (N+16) [r]=some ([r.X0,r.X1],[r]):=by
  unfold gR
  rw [s2,aB]
  rfl
 have pu: ∀b:aA,b.Xs= [r.X0,r.X1]->b.Y0<b.Y1->gD (N+16) [] b=some [b]:=fun b h1 h2=>by
  unfold gD
  rw [h1,bC (show ¬b.Y1<=b.Y0 by omega)]
  rfl
 unfold fJ
 rw [c1,aB,s1,aB]
 have ys: (iT ([r]:List aI).length (fun(k35:Nat) (s36: (List Int))=>((idx [r] (k35:Int)).bind fun x54=>(app 8 s36 ([x54.Y0,x54.Y1]: (List Int))).bind fun x58=>some x58:Option ((List Int)))) ([]: (List Int)))=some [r.Y0,r.Y1]:=rfl
 rw [ys,aB,s3,aB,Am (N:=N+12) (by omega),aB]
 have l2: (([r.Y0,r.Y1]:List Int).length:Int)=2:=rfl
 have l1: (([r]:List aI).length:Int)=1:=rfl
 have w1:IntKind.wrap .i64 ((0:Int)+1)=1:=by decide
 have w2:IntKind.wrap .i64 ((1:Int)+1)=2:=by decide
 have i0:idx [r.Y0,r.Y1] 0=some r.Y0:=rfl
 have i1:idx [r.Y0,r.Y1] 1=some r.Y1:=rfl
 have j0:idx [r] 0=some r:=rfl
 have a1:app 32 ([]:List aI) [r]=some [r]:=rfl
 rw [l2,l1]
 rw [mY.eq_def]
 dsimp only
 rw [w1,show decide ((1:Int)<2)=true by decide,aO,f1,aB]
 rw [mY.eq_def]
 dsimp only
 rw [show decide ((0:Int)<1)=true by decide,aO,j0,aB,i0,aB,aB,show decide (r.Y0<=r.Y0)=true by simp,aO,aB,a1,aB,w1,aB]
 dsimp only
 rw [mY.eq_def]
 dsimp only
 rw [show decide ((1:Int)<1)=false by decide,aR,aB,aR,aB,aB]
 unfold Fo.cs
 dsimp only
 rw [aB,i1,aB,st,aB,pu _ rfl hy,aB,aB]
 dsimp only
 rw [mY.eq_def]
 dsimp only
 rw [w2,show decide ((2:Int)<2)=false by decide,aR,aB]
 rfl
theorem Eo {r:aI} (hx:r.X0<r.X1):j9 N [⟨r.Y0,r.Y1,[r.X0,r.X1]⟩]=some (cU r):=by
 have ar:ky N [⟨r.Y0,r.Y1,[r.X0,r.X1]⟩]=some r:=by
  have e1: (if r.X0<r.X0 then r.X0 else r.X0)=r.X0:=by split <;> rfl
  have e2: (if r.X1<r.X1 then r.X1 else r.X1)=r.X1:=by split <;> rfl
  show some ({X0:=(if r.X0<r.X0 then r.X0 else r.X0),Y0:=r.Y0,X1:=(if r.X1<r.X1 then r.X1 else r.X1),Y1:=r.Y1}:aI)=some r
  rw [e1,e2]
 unfold j9
 rw [ar,aB,wS]
 rfl
def vI (b:bU):aI:=⟨b.At.X - b.eN / 2,b.At.Y - b.eN / 2,b.At.X - b.eN / 2+b.eN,b.At.Y - b.eN / 2+b.eN⟩
def qI (b:bU):Bool:=gO b.eN 1 10000&&rQ b.At
def l9 (b:bU):aI×Int:=if qI b&&cU (vI b) then (vI b,0) else (⟨0,0,0,0⟩,1)
theorem qJ {b:bU} (h:qI b=true): (1<=b.eN/\b.eN<=10000)/\(-1000000<=b.At.X/\b.At.X<=1000000)/\(-1000000<=b.At.Y/\b.At.Y<=1000000):=by
 simp only [qI,gO,rQ,nB,bJ,decide_eq_true_iff] at h
 omega
theorem lv {b:bU} (h:qI b=true):eM N b=some (vI b):=by
 obtain⟨h1,h2,h3⟩:=qJ h
 have t:Int.tdiv b.eN 2=b.eN / 2:=Int.tdiv_eq_ediv_of_nonneg (by omega)
 unfold eM vI
 rw [t,l8 (n:=b.eN / 2) (by omega),l8 (n:=b.At.X - b.eN / 2) (by omega),l8 (n:=b.At.Y - b.eN / 2) (by omega),l8 (by omega),l8 (by omega)]
theorem uW {b:bU}:jI (N+16) b=some (l9 b):=by
 have e0:fO (N+16) b.eN 1 10000=some (gO b.eN 1 10000):=rfl
 have e1: (bif (!(gO b.eN 1 10000)) then (some true) else (some (!(rQ b.At))))=some (!qI b):=by unfold qI;cases gO b.eN 1 10000 <;> rfl
 unfold jI l9
 rw [e0,aB,vh,aB,e1,aB]
 cases hf:qI b with
 | false=>rfl
 | true=>
  obtain⟨h1,h2,h3⟩:=qJ hf
  have hx: (vI b).X0< (vI b).X1:=by simp only [vI];omega
  have hy: (vI b).Y0< (vI b).Y1:=by simp only [vI];omega
  rw [lz,aR,lv hf,aB,C0 hx hy,aB,Eo hx,aB]
  cases cU (vI b) <;> rfl
end
end Go.Gk
namespace Go.Gk
open Go
section
variable {N:Nat}
def GN (c:UInt8):Bool:=
 ((((decide (((c.toNat:Nat):Int)<65))||(decide (((c.toNat:Nat):Int)>90)))&&((decide (((c.toNat:Nat):Int)<97))||(decide (((c.toNat:Nat):Int)>122))))&&((decide (((c.toNat:Nat):Int)<48))||(decide (((c.toNat:Nat):Int)>57))))&&decide (Lib.indexByte [95,43,45,35] c<0)
def isWord (s:dC):Bool:= !s.cK.any GN&&(decide (1<=s.cK.length)&&decide (s.cK.length<=40))
theorem tQ (s:dC) (c:UInt8):gL N s ((c.toNat:Nat):Int)=some (Lib.indexByte s.cK c):=by
 show some (Lib.indexByte s.cK (Int.toNat ((c.toNat:Nat):Int)).toUInt8)=_
 rw [bO];simp
theorem Bv {R:Type} (b1:Bool) (c:UInt8) (r:R):
  ((bif b1 then ((gL N (⟨[95,43,45,35]⟩) ((c.toNat:Nat):Int)).bind fun x14=>some (decide (x14<0))) else (some false)).bind fun s12=>bif s12 then (some (.rt r)) else (some (.nx ())):Option (Fl Unit R))=some (if (b1&&decide (Lib.indexByte [95,43,45,35] c<0))=true then .rt r else .nx ()):=by
 rw [tQ,aB]
 cases b1
 ·rfl
 ·rw [aO,aB,Bool.true_and]
  cases decide (Lib.indexByte [95,43,45,35] c<0) <;> rfl
theorem n7 {s:dC} (h:s.cK.length<=1048576):gE N s=some (isWord s):=by
 unfold gE
 rw [FA GN false (by omega) (fun k x hx=>by
  have hk:=(aW.1 hx).1
  have e:Cl s ((k:Nat):Int)=some x:=by rw [D1 s k hk,<-aJ hk,hx]
  rw [e,aB]
  exact Bv (R:=Bool) _ x false),aB]
 unfold isWord
 cases s.cK.any GN
 ·simp only [Fo.cs,l6,Bool.true_and,Bool.false_eq_true,if_false,Option.some.injEq]
  rw [fz,bJ,bJ]
  simp only [bI]
  omega
 ·simp [Fo.cs]
def cutAt (c:UInt8):List UInt8->List (List UInt8)
 | []=>[[]]
 | b::l=>if b==c then []::cutAt c l else match cutAt c l with | h::t=>(b::h)::t | []=>[[b]]
theorem wT {c:UInt8}: ∀{l:List UInt8},c∉l->cutAt c l= [l]
 | [],_=>rfl
 | b::l,h=>by
  unfold cutAt
  have hb: (b==c)=false:=by rw [beq_eq_false_iff_ne];rintro rfl;exact h (by simp)
  rw [hb,wT (fun h'=>h (by simp [h']))];rfl
theorem An {c:UInt8}: ∀{a b:List UInt8},c∉a->cutAt c (a++c::b)=a::cutAt c b
 | [],b,_=>by rw [List.nil_append];show (if (c==c)=true then _ else _)=_;simp
 | x::a,b,h=>by
  have hb: (x==c)=false:=by rw [beq_eq_false_iff_ne];rintro rfl;exact h (by simp)
  have ih:=An (c:=c) (a:=a) (b:=b) (fun h'=>h (by simp [h']))
  show (if (x==c)=true then []::cutAt c (a++c::b) else match cutAt c (a++c::b) with | h::t=>(x::h)::t | []=>[[x]])=_
  rw [hb,ih];rfl
theorem qK: ∀(l:List UInt8) (c:UInt8),(Lib.indexByte l c = -1/\c∉l)\/∃a b,l=a++c::b/\c∉a/\Lib.indexByte l c= ((a.length:Nat):Int)
 | [],c=> .inl ⟨rfl,by simp⟩
 | x::l,c=>by
  unfold Lib.indexByte
  by_cases hx:x=c
  ·subst hx;exact .inr ⟨[],l,rfl,by simp,by simp⟩
  ·have hb: (x==c)=false:=by rw [beq_eq_false_iff_ne];exact hx
   rcases qK l c with ⟨h1,h2⟩ | ⟨a,b,h1,h2,h3⟩
   ·left;rw [hb,h1];refine⟨by simp,?_⟩;simp [h2];exact fun h=>hx h.symm
   ·right
    refine⟨x::a,b,by rw [h1];rfl,by simp [h2];exact fun h=>hx h.symm,?_⟩
    rw [hb,h3]
    have: (((a.length:Nat):Int)== -1)=false:=by rw [beq_eq_false_iff_ne];omega
    rw [this];simp
theorem Ep (s:dC) (c:UInt8):jJ N s ⟨[c]⟩=some (Lib.indexByte s.cK c):=by
 show (iO N s ⟨[c]⟩).bind _=_
 unfold iO
 by_cases h:dC.AO ⟨[c]⟩ s=true
 ·have:s= ⟨[c]⟩:=(Fz.1 h).symm
  subst this
  rw [h];simp [Lib.indexByte]
 ·rw [nQ] at h
  rw [h]
  show ((gh N s ((c.toNat:Nat):Int)).bind _).bind _=_
  have:=tQ (N:=N) s c
  simp only [gL] at this
  rw [this];rfl
theorem Er (s:dC) (c:UInt8):kJ N s ⟨[c]⟩=some ((s.cK.count c:Nat):Int):=by
 unfold kJ
 show (some _:Option Int)=_
 simp [Lib.countByte]
theorem C1 {s:dC} {k:Nat} (h:k<=s.cK.length):r6 s 0 ((k:Nat):Int)=some ⟨s.cK.take k⟩:=by
 unfold r6;rw [aD ⟨by omega,by omega,by omega⟩]
 simp only [Int.toNat_zero,List.drop_zero,Int.sub_zero,bO]
theorem C2 {s:dC} {k:Nat} (h:k<=s.cK.length):r6 s ((k:Nat):Int) ((s.cK.length:Nat):Int)=some ⟨s.cK.drop k⟩:=by
 unfold r6;rw [aD ⟨by omega,by omega,by omega⟩]
 simp only [bO]
 rw [nR];rw [gr];omega
def px (s:dC) (c:UInt8):List dC:=(cutAt c s.cK).map dC.mk
theorem Es {s:dC} (c:UInt8) (h:s.cK.length<=1048576) (hN:4194304<=N):kK N s ⟨[c]⟩=some (px s c):=by
 have hc:s.cK.count c<=s.cK.length:=List.count_le_length
 unfold kK kz
 rw [show ((-1:Int)==0)=false by decide,aR,show dC.AO ⟨[c]⟩ ⟨[]⟩=false by simp [dC.AO],aR,Er,aB]
 rw [eJ (x:=((s.cK.count c:Nat):Int)+1) (by omega) (by omega),show decide ((-1:Int)<0)=true by decide,aO,aB]
 rw [eJ (x:=((s.cK.length:Nat):Int)+1) (by omega) (by omega)]
 have e1: (if ((s.cK.length:Nat):Int)+1< ((s.cK.count c:Nat):Int)+1 then ((s.cK.length:Nat):Int)+1 else ((s.cK.count c:Nat):Int)+1)= ((s.cK.count c+1:Nat):Int):=by
  rw [aC (by omega)];omega
 rw [e1,ph _ (by omega),aB]
 rw [eJ (x:=((s.cK.count c+1:Nat):Int) - 1) (by omega) (by omega)]
 have key:=tt (S:=dC×List dC×Int) (R:=Empty) (body:=(fun(s7:dC×(List dC)×Int)=>(bif (decide (s7.2.2< ((s.cK.count c+1:Nat):Int) - 1)) then ((jJ N s7.1 ⟨[c]⟩).bind fun x23=>bif (decide (x23<0)) then (some (.br (s7.1,s7.2.1,s7.2.2))) else ((r6 s7.1 0 (IntKind.wrap .i64 (x23+0))).bind fun x24=>(idx s7.2.1 s7.2.2).bind fun x25=>(r6 s7.1 (IntKind.wrap .i64 (x23+ (((⟨[c]⟩:dC).cK.length:Nat):Int))) ((s7.1.cK.length:Nat):Int)).bind fun x27=>some (.nx (x27,(s7.2.1.set (Int.toNat s7.2.2) x24),(IntKind.wrap .i64 (s7.2.2+1)))))) else (some (.br (s7.1,s7.2.1,s7.2.2))):Option (Fl (dC×(List dC)×Int) Empty))))
  (fun st=>∃ws:List (List UInt8),st.2.2= ((ws.length:Nat):Int)/\cutAt c s.cK=ws++cutAt c st.1.cK/\ws.length+st.1.cK.count c=s.cK.count c/\st.1.cK.length<=s.cK.length/\st.2.1=ws.map dC.mk++List.replicate (s.cK.count c+1 - ws.length) ⟨[]⟩)
  (fun st=>s.cK.count c+1 - st.2.2.toNat)
  (fun st=>∃ws:List (List UInt8),st.2.2= ((ws.length:Nat):Int)/\cutAt c s.cK=ws++[st.1.cK]/\ws.length=s.cK.count c/\st.2.1=ws.map dC.mk++[⟨[]⟩])
  (fun _=>True) (by
   rintro⟨r,arr,i⟩ ⟨ws,h1,h2,h3,h4,h5⟩
   simp only at h1 h2 h3 h4 h5
   subst h1 h5
   by_cases hlt:ws.length<s.cK.count c
   ·have hd:decide (((ws.length:Nat):Int)< ((s.cK.count c+1:Nat):Int) - 1)=true:=by rw [bI];omega
    simp only [hd,aO,Ep,aB]
    rcases qK r.cK c with ⟨_,hn⟩ | ⟨a,b,hr,ha,hi⟩
    ·rw [List.count_eq_zero_of_not_mem hn] at h3;omega
    ·have hrl:r.cK.length=a.length+ (b.length+1):=by rw [hr];simp
     rw [hi,bC (by omega),aR]
     rw [show ((a.length:Nat):Int)+0= ((a.length:Nat):Int) by omega,eJ (x:=((a.length:Nat):Int)) (by omega) (by omega),C1 (by omega),aB]
     rw [i7 _ _ (by simp;omega),aB]
     rw [show ((a.length:Nat):Int)+ (((⟨[c]⟩:dC).cK.length:Nat):Int)= ((a.length+1:Nat):Int) by simp,eJ (x:=((a.length+1:Nat):Int)) (by omega) (by omega),C2 (by omega),aB]
     refine⟨_,rfl,⟨ws++[a],?_,?_,?_,?_,?_⟩,?_⟩
     ·simp only;rw [eJ (by omega) (by omega)];simp
     ·simp only
      rw [h2,hr,An ha];simp
     ·simp only
      rw [hr] at h3 ⊢
      simp [List.count_eq_zero_of_not_mem ha] at h3 ⊢;omega
     ·simp;omega
     ·simp only [bO]
      rw [List.set_append_right _ _ (by simp)]
      simp only [gQ,Nat.sub_self]
      obtain⟨d,hd'⟩: ∃d,s.cK.count c+1 - ws.length=d+1:=⟨s.cK.count c - ws.length,by omega⟩
      rw [hd',List.replicate_succ,List.set_cons_zero,show s.cK.count c+1 - (ws++[a]).length=d by simp;omega]
      simp [hr]
     ·simp only;rw [eJ (by omega) (by omega)];omega
   ·have hd:decide (((ws.length:Nat):Int)< ((s.cK.count c+1:Nat):Int) - 1)=false:=by rw [decide_eq_false_iff_not];omega
    simp only [hd,aR]
    refine⟨_,rfl,ws,rfl,?_,by omega,?_⟩
    ·have h0:r.cK.count c=0:=by omega
     rw [h2,wT (List.count_eq_zero.1 h0)]
    ·rw [show s.cK.count c+1 - ws.length=1 by omega];rfl)
  N (s,List.replicate (s.cK.count c+1) ⟨[]⟩,0) ⟨[],rfl,rfl,by simp,bL _,by simp⟩ (by simp only;omega)
 obtain⟨o,ho,hgo⟩:=key
 rw [ho,aB]
 cases o with
 | rt r=>exact r.elim
 | go st=>
  obtain⟨r,arr,i⟩:=st
  obtain⟨ws,h1,h2,h3,h4⟩:=hgo
  simp only at h1 h2 h3 h4
  subst h1 h4
  simp only [Fo.cs]
  rw [i7 _ _ (by simp),aB,eJ (by omega) (by omega)]
  rw [show ((ws.length:Nat):Int)+1= ((ws.length+1:Nat):Int) by omega,tu _ _ (by simp),aB,aB]
  unfold px
  rw [h2]
  rw [bO,List.set_append_right _ _ (by simp),nR (by simp)]
  simp
def oy (s:dC):Bool:=decide (s.cK.length<=200)&&(px s 47).all isWord
theorem rh {c:UInt8}: ∀{l x:List UInt8},x∈cutAt c l->x.length<=l.length
 | [],x,h=>by simp [cutAt] at h;subst h;simp
 | b::l,x,h=>by
  unfold cutAt at h
  split at h
  ·rcases f9.1 h with h | h
   ·subst h;simp
   ·have:=rh h;simp;omega
  ·split at h
   ·rename_i t e
    rcases f9.1 h with h | h
    ·subst h;have:=rh (c:=c) (l:=l) (by rw [e];exact List.mem_cons_self);simp;omega
    ·have:=rh (c:=c) (l:=l) (by rw [e];exact i6 _ h);simp;omega
   ·simp at h;subst h;simp
theorem x5 (c:UInt8): ∀(l:List UInt8),(cutAt c l).length<=l.length+1
 | []=>by simp [cutAt]
 | b::l=>by
  have:=x5 c l
  unfold cutAt
  split
  ·simp;omega
  ·split
   ·rename_i e;rw [e] at this;simp at this ⊢;omega
   ·simp
theorem C3 {s x:dC} {c:UInt8} (h:x∈px s c):x.cK.length<=s.cK.length:=by
 obtain⟨y,hy,rfl⟩:=cM.1 h
 exact rh hy
theorem C4 (s:dC) (c:UInt8): (px s c).length<=s.cK.length+1:=by unfold px;rw [gQ];exact x5 c _
theorem tR {s:dC} (h:s.cK.length<=1048576) (hN:4194304<=N):ka N s=some (oy s):=by
 unfold ka oy
 by_cases hl:s.cK.length<=200
 ·rw [cA (by omega),aO,Es 47 h hN,aB]
  have e:=oM (l:=px s 47) (φ:=fS N) (fun x=> !isWord x) (by have:=C4 s 47;omega) (fun x hx=>by
   unfold fS
   rw [n7 (by have:=C3 hx;omega)];rfl)
  have e2:fR N (px s 47) (fS N)=oq (px s 47) (fS N):=rfl
  rw [e2,e,aB,aB,cA hl,Bool.true_and]
  congr 1
  rw [fz]
  simp
 ·rw [bC (by omega),aR,aB,bC hl,Bool.false_and]
end
end Go.Gk
namespace Go.Gk
open Go Classical
section
variable {N:Nat}
theorem Et {a b:aA} (h:bK a=bK b):a=b:=by cases a;cases b;unfold bK at h;simp at h;obtain⟨h1,h2,h3⟩:=h;subst h1;subst h2;subst h3;rfl
theorem tS: ∀{s t:List aA},s.map bK=t.map bK->s=t
 | [],[],_=>rfl
 | [],_::_,h=>by cases h
 | _::_,[],h=>by cases h
 | a::s,b::t,h=>by
  rw [eI,eI] at h
  injection h with h1 h2
  rw [Et h1,tS h2]
theorem Ao {s t:List aA} (hs:dW (s.map bK)) (ht:dW (t.map bK)) (h: ∀x y,tM (s.map bK) x y=tM (t.map bK) x y):s=t:=tS (wF hs ht h)
theorem n0.unique {l:List aI} {s t:List aA} (hs:n0 l s) (ht:n0 l t):s=t:=Ao hs.can ht.can fun x y=>by rw [hs.cover,ht.cover]
theorem n0.Eu {l:List aI} {s:List aA} (h:n0 l s):s.length<=2*l.length/\(∀b∈s,b.Xs.length<=2*l.length)/\(aM s).length<=2*l.length* (2*l.length):=by
 have h1:s.length<=2*l.length:=by have:=h.lim.len h.can;rwa [gQ,jl] at this
 have h2: ∀b∈s,b.Xs.length<=2*l.length:=fun b hb=>by
  have:=h.lim.row h.can (b:=bK b) (cM.2 ⟨b,hb,rfl⟩)
  rwa [kR] at this
 exact⟨h1,h2,wJ h1 h2⟩
theorem ri {n:Int} (h:nB n=true): -1000000<=n/\n<=1000000:=by
 unfold nB gO at h
 rw [bJ,bI,bI] at h;omega
theorem gH {r:aI} (h:cU r=true): (-1000000<=r.X0/\r.X0<=1000000)/\(-1000000<=r.Y0/\r.Y0<=1000000)/\(-1000000<=r.X1/\r.X1<=1000000)/\(-1000000<=r.Y1/\r.Y1<=1000000):=by
 unfold cU at h
 simp only [bJ] at h
 exact⟨ri h.1,ri h.2.1,ri h.2.2.1,ri h.2.2.2⟩
theorem wU {r:aI} (h: (-1000000<=r.X0/\r.X0<=1000000)/\(-1000000<=r.Y0/\r.Y0<=1000000)/\(-1000000<=r.X1/\r.X1<=1000000)/\(-1000000<=r.Y1/\r.Y1<=1000000)):cU r=true:=by
 unfold cU nB gO
 simp only [bJ,bI]
 omega
theorem Ev {r:aI} (h:cU r=true) (hx:r.X0<r.X1) (hy:r.Y0<r.Y1):AL r:=by
 have:=gH h
 refine⟨hx,hy,?_,?_,?_,?_⟩ <;> unfold small <;> omega
def mV (r:aI):Option Int:=if cU r=true then (if r.X1<=r.X0\/r.Y1<=r.Y0 then some 13 else none) else some 1
def kT (l:List aI):Int:=if 2000<l.length then 2 else (l.findSome? mV).getD 0
theorem xu {l:List aI} (hl:l.length<=4611686018427387904):jc N l=some (kT l):=by
 unfold jc kT
 by_cases h:2000<l.length
 ·rw [cA (by omega),aO,aD h]
 ·rw [bC (by omega),aR,aC h,wo mV hl (fun k x hx=>by
   rw [dN hx,aB,wS,aB]
   unfold mV
   cases hr:cU x with
   | false=>rfl
   | true=>
    rw [lz,aR,aD rfl]
    by_cases h2:x.X1<=x.X0\/x.Y1<=x.Y0
    ·rw [aD h2,show (decide (x.X1<=x.X0)||decide (x.Y1<=x.Y0))=true by rw [dP,bI,bI];exact h2];rfl
    ·rw [aC h2,show (decide (x.X1<=x.X0)||decide (x.Y1<=x.Y0))=false by rw [<-nQ,dP,bI,bI];exact h2];rfl),aB]
  cases l.findSome? mV <;> rfl
theorem tT {r:aI}:mV r=none↔cU r=true/\r.X0<r.X1/\r.Y0<r.Y1:=by
 unfold mV
 by_cases h:cU r=true
 ·rw [aD h]
  by_cases h2:r.X1<=r.X0\/r.Y1<=r.Y0
  ·rw [aD h2]
   constructor
   ·intro h;cases h
   ·rintro⟨_,h3,h4⟩;omega
  ·rw [aC h2]
   exact⟨fun _=>⟨h,by omega,by omega⟩,fun _=>rfl⟩
 ·rw [aC h]
  constructor
  ·intro h;cases h
  ·rintro⟨h3,_⟩;exact absurd h3 h
theorem Ap {r:aI} {e:Int} (h:mV r=some e):e≠0:=by
 unfold mV at h
 split at h
 ·split at h
  ·injection h with h;omega
  ·cases h
 ·injection h with h;omega
theorem oz {l:List aI}:kT l=0↔l.length<=2000/\∀r∈l,cU r=true/\r.X0<r.X1/\r.Y0<r.Y1:=by
 unfold kT
 by_cases h:2000<l.length
 ·rw [aD h];constructor
  ·intro h;omega
  ·intro h;omega
 ·rw [aC h]
  cases hf:l.findSome? mV with
  | none=>
   rw [List.findSome?_eq_none_iff] at hf
   exact⟨fun _=>⟨by omega,fun r hr=>tT.1 (hf r hr)⟩,fun _=>rfl⟩
  | some e=>
   obtain⟨r,hr,he⟩:=List.exists_of_findSome?_eq_some hf
   constructor
   ·intro h0;exact absurd h0 (Ap he)
   ·rintro⟨_,h2⟩
    rw [tT.2 (h2 r hr)] at he;cases he
def Ie (l:List aI):Prop:=∀(k:Nat) a b,l[k]? =some a->l[k+1]? =some b->¬(b.Y0<a.Y0\/(b.Y0=a.Y0/\b.X0<=a.X0))
def y5 (l:List aI):Prop:=∃s,n0 l s/\aM s=l
noncomputable def iF (l:List aI):Int:=if kT l≠0 then kT l else if Ie l then (if y5 l then 0 else 3) else 8
theorem Bw {l:List aI} (h:kT l=0):l.length<=2000/\∀r∈l,AL r:=⟨(oz.1 h).1,fun r hr=>by have:=(oz.1 h).2 r hr;exact Ev this.1 this.2.1 this.2.2⟩
theorem Bx {l m:List aI} (hl:l.length<=4611686018427387904):iM N l m=some (decide (l=m)):=by
 have:=xV (l:=l) (m:=m) hl
 unfold Bj at this
 unfold iM
 rw [show (decide (l=m)) = @decide (l=m) (instDecidableEqList l m) from decide_eq_decide.2 Iff.rfl]
 exact this
theorem qL {l:List aI} (hl:l.length<=1073741824) (hN:4398046511104<=N):gK N l=some (iF l):=by
 refine Ok.get ?_
 unfold gK
 refine Ok.eq (xu (by omega)) ?_
 unfold iF
 refine Ok.bif (fun h=>Ok.ret ?_) (fun h=>?_)
 ·rw [aD (by simpa using h)]
 ·have h0:kT l=0:=by simpa using h
  rw [aC (by simpa using h0)]
  obtain⟨hlen,hok⟩:=Bw h0
  refine Ok.bind (Ok.mY (Go:=fun _=>Ie l) (Rt:=fun r=>r=8/\¬Ie l) (fun s=>∃k:Nat,s= ((k:Nat):Int)/\1<=k/\∀(j:Nat) a b,j+1<k->l[j]? =some a->l[j+1]? =some b->¬(b.Y0<a.Y0\/(b.Y0=a.Y0/\b.X0<=a.X0))) (fun s=>l.length - s.toNat) ?_ ⟨1,rfl,bL _,fun j a b hj=>by omega⟩ (by simp;omega)) ?_
  ·rintro s ⟨k,rfl,hk,hI⟩
   refine Ok.bif (fun h=>?_) (fun h=>Ok.br fun j a b ha hb=>hI j a b ?_ ha hb)
   ·have hk2:k<l.length:=by have:=of_decide_eq_true h;omega
    rw [lW hk (by omega)]
    refine Ok.idx (by omega) (Ok.idx hk2 (Ok.bif (fun hb=>Ok.rt ⟨rfl,fun hu=>?_⟩) (fun hb=>Ok.nx ⟨⟨k+1,by rw [gj (by omega)],by omega,fun j a b hj ha hb'=>?_⟩,by rw [gj (by omega)];simp only [bO];omega⟩)))
    ·refine hu (k - 1) l[k - 1] l[k] (aJ _) (by rw [show k - 1+1=k by omega];exact aJ _) ?_
     rw [dP,bJ,bI,bI,beq_iff_eq] at hb;exact hb
    ·by_cases e:j+1<k
     ·exact hI j a b e ha hb'
     ·have:j+1=k:=by omega
      subst this
      rw [aJ (by omega)] at ha hb'
      injection ha with ha;injection hb' with hb'
      subst ha;subst hb'
      rw [<-nQ,dP,bJ,bI,bI,beq_iff_eq] at hb;exact hb
   ·have:=of_decide_eq_false h
    have:=(aW.1 hb).1;omega
  ·rintro o ho
   refine Ok.cs ho (fun s hu=>?_) (fun r hr=>Ok.ret (by rw [hr.1,aC hr.2]))
   rw [aD hu]
   refine Ok.bind (pr (N:=N) (by omega) hok (by omega)) ?_
   intro s hs
   obtain⟨z1,z2,z3⟩:=hs.Eu
   have z4:2*l.length* (2*l.length)<=4000*4000:=Nat.mul_le_mul (by omega) (by omega)
   refine Ok.eq (wK (oX hs.can) (by omega) (fun b hb=>by have:=z2 b hb;omega) (by omega)) (Ok.eq (Bx (by omega)) ?_)
   have hiff:y5 l↔aM s=l:=⟨fun⟨t,h1,h2⟩=>by rw [hs.unique h1];exact h2,fun h=>⟨s,hs,h⟩⟩
   refine Ok.bif (fun h=>Ok.ret ?_) (fun h=>Ok.ret ?_)
   ·have h: ¬aM s=l:=by simpa using h
    rw [aC (fun h'=>h (hiff.1 h'))]
   ·have h:aM s=l:=by simpa using h
    rw [aD (hiff.2 h)]
theorem n8 {l:List aI}:iF l=0↔kT l=0/\Ie l/\y5 l:=by
 unfold iF
 by_cases h:kT l=0
 ·rw [aC (by simpa using h)]
  by_cases h2:Ie l
  ·rw [aD h2]
   by_cases h3:y5 l
   ·rw [aD h3];exact⟨fun _=>⟨h,h2,h3⟩,fun _=>rfl⟩
   ·rw [aC h3];constructor
    ·intro h;omega
    ·rintro⟨_,_,h4⟩;exact absurd h4 h3
  ·rw [aC h2];constructor
   ·intro h;omega
   ·rintro⟨_,h4,_⟩;exact absurd h4 h2
 ·rw [aD h]
  constructor
  ·intro h2;exact absurd h2 h
  ·rintro⟨h2,_⟩;exact absurd h2 h
theorem sH (n lo hi:Int):fO N n lo hi=some (gO n lo hi):=rfl
theorem C5 {b:bU} (hN:16<=N):jI N b=some (l9 b):=by
 have:=uW (N:=N - 16) (b:=b)
 rwa [show N - 16+16=N by omega] at this
def n9 (n:Nat) (b:bU):Option Int:=if (l9 b).2≠0 then some (l9 b).2 else if gO b.bM 0 (((n:Nat):Int) - 1)=true/\gO b.To b.bM (((n:Nat):Int) - 1)=true then none else some 1
def kU (a:jT):Int:=if 500<a.aV.length then 2 else (a.aV.findSome? (n9 a.aL.length)).getD 0
theorem xv {a:jT} (h1:a.aL.length<=4611686018427387904) (h2:a.aV.length<=4611686018427387904) (hN:16<=N):iN N a=some (kU a):=by
 unfold iN kU
 by_cases h:500<a.aV.length
 ·rw [cA (by omega),aO,aD h]
 ·have hw:IntKind.wrap .i64 (((a.aL.length:Nat):Int) - 1)= ((a.aL.length:Nat):Int) - 1:=eJ (by omega) (by omega)
  rw [bC (by omega),aR,aC h,wo (n9 a.aL.length) h2 (fun k x hx=>by
   rw [dN hx,aB,C5 hN,aB]
   unfold n9
   by_cases h0: (l9 x).2=0
   ·rw [aC (by simpa using h0),h0,show ((0:Int) != 0)=false by rfl,aR,hw,sH,aB,sH,aB]
    cases h3:gO x.bM 0 (((a.aL.length:Nat):Int) - 1) <;> cases h4:gO x.To x.bM (((a.aL.length:Nat):Int) - 1) <;> rfl
   ·rw [aD h0,show ((l9 x).2 != 0)=true by simpa using h0];rfl),aB]
  cases a.aV.findSome? (n9 a.aL.length) <;> rfl
theorem Aq {b:bU} (h: (l9 b).2=0):qI b=true/\cU (vI b)=true:=by
 unfold l9 at h
 split at h
 ·rename_i h';rwa [bJ] at h'
 ·cases h
theorem oA {a:jT} (h:kU a=0):a.aV.length<=500/\∀b∈a.aV,qI b=true/\cU (vI b)=true/\0<=b.bM/\b.bM<=b.To/\b.To< ((a.aL.length:Nat):Int):=by
 unfold kU at h
 split at h
 ·omega
 ·refine⟨by omega,fun b hb=>?_⟩
  have hn:n9 a.aL.length b=none:=by
   cases hf:a.aV.findSome? (n9 a.aL.length) with
   | none=>exact List.findSome?_eq_none_iff.1 hf b hb
   | some e=>
    rw [hf] at h
    obtain⟨c,hc,he⟩:=List.exists_of_findSome?_eq_some hf
    have h:e=0:=h
    subst h
    unfold n9 at he
    split at he
    ·rename_i h';injection he with he;exact absurd he h'
    ·split at he
     ·cases he
     ·injection he with he;omega
  unfold n9 at hn
  split at hn
  ·cases hn
  ·rename_i h0
   split at hn
   ·rename_i h1
    have h0: (l9 b).2=0:=by simpa using h0
    have:=Aq h0
    unfold gO at h1
    simp only [bJ,bI] at h1
    exact⟨this.1,this.2,by omega,by omega,by omega⟩
   ·cases hn
theorem Ig {b:bU} (h1:qI b=true) (h2:cU (vI b)=true):AL (vI b):=by
 have hf:=qJ h1
 refine Ev h2 ?_ ?_
 ·show b.At.X - b.eN / 2<b.At.X - b.eN / 2+b.eN;omega
 ·show b.At.Y - b.eN / 2<b.At.Y - b.eN / 2+b.eN;omega
def iR (p q:fD):Int:=if Lib.compareBytes p.Part.cK q.Part.cK≠0 then Lib.compareBytes p.Part.cK q.Part.cK else Lib.compareBytes p.fD.cK q.fD.cK
theorem pG (p q:fD):fU N p q=some (iR p q):=by
 unfold fU iR
 show (bif (Lib.compareBytes p.Part.cK q.Part.cK != 0) then _ else _)=_
 by_cases h:Lib.compareBytes p.Part.cK q.Part.cK=0
 ·rw [h,aC (by simp)];rfl
 ·rw [aD h,show (Lib.compareBytes p.Part.cK q.Part.cK != 0)=true by simpa using h];rfl
def kG (l:cV):fD:=⟨l.Part,l.fD⟩
theorem uX (l:cV):ju N l=some (kG l):=rfl
def kH (a:jT) (k:Nat):Option Int:=(a.bH[k]?).bind fun x=>
 if (oy x.Part&&isWord x.fD)=true then
  if (gO x.cR 0 (((a.aL.length:Nat):Int) - 1)&&rQ x.At)=true then
   if 0<k/\(∃y,a.bH[k - 1]? =some y/\iR (kG x) (kG y)<=0) then some 8 else none
  else some 1
 else some 5
noncomputable def km (a:jT):Int:=if 1000<a.bH.length then 2 else (pg a.bH.length (kH a)).getD 0
end
end Go.Gk
namespace Go.Gk
open Go Classical
section
variable {N:Nat}
def wV (a:jT):Prop:=∀x∈a.bH,x.Part.cK.length<=1048576/\x.fD.cK.length<=1048576
theorem xw {a:jT} (h1:a.aL.length<=1073741824) (h2:a.bH.length<=1073741824) (h3:wV a) (hN:4194304<=N):iP N a=some (km a):=by
 unfold iP km
 by_cases h:1000<a.bH.length
 ·rw [cA (by omega),aO,aD h]
 ·have hw:IntKind.wrap .i64 (((a.aL.length:Nat):Int) - 1)= ((a.aL.length:Nat):Int) - 1:=eJ (by omega) (by omega)
  rw [bC (by omega),aR,aC h,mi (kH a) (by omega) (fun k hk _=>by
   have hx:a.bH[k]? =some a.bH[k]:=aJ hk
   have hs:=h3 _ (cJ hk)
   rw [dN hx,aB,tR hs.1 hN,aB]
   have hle:kH a k= (if (oy a.bH[k].Part&&isWord a.bH[k].fD)=true then
     if (gO a.bH[k].cR 0 (((a.aL.length:Nat):Int) - 1)&&rQ a.bH[k].At)=true then
      if 0<k/\(∃y,a.bH[k - 1]? =some y/\iR (kG a.bH[k]) (kG y)<=0) then some 8 else none
     else some 1
    else some 5):=by unfold kH;rw [hx];rfl
   rw [hle]
   have e1: ((bif (!oy a.bH[k].Part) then (some true) else ((gE N a.bH[k].fD).bind fun x225=>some (!x225))):Option Bool)=some (!(oy a.bH[k].Part&&isWord a.bH[k].fD)):=by
    rw [n7 hs.2,aB]
    cases oy a.bH[k].Part <;> rfl
   have e2: ((fO N a.bH[k].cR 0 (IntKind.wrap .i64 (((a.aL.length:Nat):Int) - 1))).bind fun x318=>bif (!x318) then (some true) else ((g8 N a.bH[k].At).bind fun x321=>some (!x321)))=some (!(gO a.bH[k].cR 0 (((a.aL.length:Nat):Int) - 1)&&rQ a.bH[k].At)):=by
    rw [hw,sH,aB,vh,aB]
    cases gO a.bH[k].cR 0 (((a.aL.length:Nat):Int) - 1) <;> rfl
   show ((bif (!oy a.bH[k].Part) then (some true) else ((gE N a.bH[k].fD).bind fun x225=>some (!x225))):Option Bool).bind _=_
   rw [e1,aB]
   cases h4: (oy a.bH[k].Part&&isWord a.bH[k].fD) with
   | false=>rfl
   | true=>
    rw [lz,aR,aD rfl]
    show (((fO N a.bH[k].cR 0 (IntKind.wrap .i64 (((a.aL.length:Nat):Int) - 1))).bind fun x318=>bif (!x318) then (some true) else ((g8 N a.bH[k].At).bind fun x321=>some (!x321)))).bind _=_
    rw [e2,aB]
    cases h5: (gO a.bH[k].cR 0 (((a.aL.length:Nat):Int) - 1)&&rQ a.bH[k].At) with
    | false=>rfl
    | true=>
     rw [lz,aR,aD rfl]
     by_cases h0:0<k
     ·rw [cA (by omega),aO,lW h0 (by omega),i7 _ _ (by omega:k - 1<a.bH.length)]
      simp only [uX,aB,pG]
      by_cases h6:iR (kG a.bH[k]) (kG a.bH[k - 1])<=0
      ·rw [cA h6,aD ⟨h0,_,aJ (by omega:k - 1<a.bH.length),h6⟩];rfl
      ·rw [bC h6,aC (by
        rintro⟨_,y,hy,h7⟩
        rw [aJ (by omega:k - 1<a.bH.length)] at hy;injection hy with hy
        rw [<-hy] at h7;exact h6 h7)];rfl
     ·rw [bC (by omega),aC (fun h=>h0 h.1)];rfl),aB]
  cases pg a.bH.length (kH a) <;> rfl
def kV (b:bU) (k:Int):Bool:=decide (b.bM<=k)&&decide (k<=b.To)
theorem wW (b:bU) (k:Int):jf N b k=some (kV b k):=rfl
def mu (bs:List bU) (k:Int):List aI:=(bs.filter (fun b=>kV b k)).map vI
structure l4 (bs:List bU):Prop where
 len:bs.length<=500
 ok: ∀b∈bs,qI b=true/\cU (vI b)=true
structure rj (r hs:List aI) (s:List aA):Prop where
 can:dW (s.map bK)
 cover: ∀x y,tM (s.map bK) x y= (vg r x y&& !vg hs x y)
 lim:sU (oU r++oU hs) (kQ r++kQ hs) (s.map bK)
theorem x6 {bs:List bU} (h:l4 bs) (k:Int): (mu bs k).length<=500:=by
 unfold mu
 rw [gQ]
 have:=kq (fun b=>kV b k) bs
 have:=h.len;omega
theorem tU {bs:List bU} (h:l4 bs) (k:Int): ∀r∈mu bs k,AL r/\cU r=true:=by
 intro r hr
 unfold mu at hr
 obtain⟨b,hb,rfl⟩:=cM.1 hr
 have:=h.ok b (gI.1 hb).1
 exact⟨Ig this.1 this.2,this.2⟩
theorem rj.small {r hs:List aI} {s:List aA} (h:rj r hs s) (h1: ∀x∈r,AL x) (h2: ∀x∈hs,AL x): (∀c∈oU r++oU hs,small c)/\∀c∈kQ r++kQ hs,small c:=by
 constructor
 ·intro c hc
  rcases cP.1 hc with h | h
  ·obtain⟨x,hx,rfl | rfl⟩:=oV.1 h
   ·exact(h1 x hx).s1
   ·exact(h1 x hx).s2
  ·obtain⟨x,hx,rfl | rfl⟩:=oV.1 h
   ·exact(h2 x hx).s1
   ·exact(h2 x hx).s2
 ·intro c hc
  rcases cP.1 hc with h | h
  ·obtain⟨x,hx,rfl | rfl⟩:=kl.1 h
   ·exact(h1 x hx).s3
   ·exact(h1 x hx).s4
  ·obtain⟨x,hx,rfl | rfl⟩:=kl.1 h
   ·exact(h2 x hx).s3
   ·exact(h2 x hx).s4
theorem uY {s:List aA} {X Y:List Int} {A:Nat} (hc:dW (s.map bK)) (h:sU X Y (s.map bK)) (hX:X.length<=A) (hY:Y.length<=A):s.length<=A/\(∀b∈s,b.Xs.length<=A)/\(aM s).length<=A*A:=by
 have h1:s.length<=A:=by have:=h.len hc;rw [gQ] at this;omega
 have h2: ∀b∈s,b.Xs.length<=A:=fun b hb=>by
  have:=h.row hc (b:=bK b) (cM.2 ⟨b,hb,rfl⟩)
  have e: (bK b).xs=b.Xs:=rfl
  rw [e] at this;omega
 exact⟨h1,h2,wJ h1 h2⟩
theorem xx {r hs:List aI} (h1:r.length<=2000) (h2: ∀x∈r,AL x) (h3:hs.length<=500) (h4: ∀x∈hs,AL x) (hN:4398046511104<=N) {β:Type} {f:List aA->Option β} {Q:β->Prop} (k: ∀s,rj r hs s->Ok (f s) Q):
  Ok ((fJ N r).bind fun x378=>(fJ N hs).bind fun x380=>(jg N x378 x380).bind f) Q:=by
 refine Ok.bind (pr (N:=N) (by omega) h2 (by omega)) (fun s hs1=>?_)
 refine Ok.bind (pr (N:=N) (by omega) h4 (by omega)) (fun t ht=>?_)
 have hz: ∀c∈kQ r++kQ hs,small c:=by
  intro c hc
  rcases cP.1 hc with h | h
  ·obtain⟨x,hx,rfl | rfl⟩:=kl.1 h
   ·exact(h2 x hx).s3
   ·exact(h2 x hx).s4
  ·obtain⟨x,hx,rfl | rfl⟩:=kl.1 h
   ·exact(h4 x hx).s3
   ·exact(h4 x hx).s4
 refine Ok.bind (CY (X:=oU r++oU hs) (Y:=kQ r++kQ hs) hs1.can ht.can (hs1.lim.mono (fun c h=>List.mem_append_left _ h) (fun c h=>List.mem_append_left _ h)) (ht.lim.mono (fun c h=>List.mem_append_right _ h) (fun c h=>List.mem_append_right _ h))
  (by rw [dK,kR,kR];omega) (by rw [dK,jl,jl];omega) hz hN) (fun u hu=>?_)
 exact k u ⟨hu.can,fun x y=>by rw [hu.cover,hs1.cover,ht.cover],hu.lim⟩
def bW:Nat->List (List (List aA))->List aH
 | _,[]=>[]
 | k,ps::r=>ps.map (fun p=>⟨((k:Nat):Int),p,aM p⟩)++bW (k+1) r
theorem sI (ps:List (List aA)): ∀(r:List (List (List aA))) (k:Nat),bW k (r++[ps])=bW k r++ps.map (fun p=>⟨((k+r.length:Nat):Int),p,aM p⟩)
 | [],k=>by unfold bW;simp [bW]
 | q::r,k=>by
  show _++bW (k+1) (r++[ps])= (_++bW (k+1) r)++_
  rw [sI ps r (k+1),iK]
  congr 3
  simp only [jP]
  rw [show k+ (r.length+1)=k+1+r.length by omega]
theorem wX {s p:List aA} {ps:List (List aA)} {r:Nat->Nat} {X Y:List Int} (h:pw s r ps) (hc:dW (s.map bK)) (hl:sU X Y (s.map bK)) (hX: ∀c∈X,small c) (hY: ∀c∈Y,small c) (hp:p∈ps):
  ∃j k:Nat,ps[j]? =some p/\(bN (aM s).length r)[j]? =some k/\n0 (ly (aM s) (aM s).length r k) p/\sU X Y (p.map bK):=by
 obtain⟨j,hj⟩:=fP hp
 have hjl:=(aW.1 hj).1
 rw [h.len] at hjl
 have hh: (bN (aM s).length r)[j]? =some (bN (aM s).length r)[j]:=aJ hjl
 have hs:=h.each j _ p hh hj
 refine⟨j,_,hj,hh,hs,hs.lim.mono (fun c hcx=>?_) (fun c hcx=>?_)⟩
 ·obtain⟨x,hx,hxc⟩:=oV.1 hcx
  obtain⟨i,_,_,hi⟩:=mq.1 hx
  have:=wL hc hl hX hY x (gw hi)
  rcases hxc with rfl | rfl
  ·exact this.2.1.1
  ·exact this.2.1.2
 ·obtain⟨x,hx,hxc⟩:=kl.1 hcx
  obtain⟨i,_,_,hi⟩:=mq.1 hx
  have:=wL hc hl hX hY x (gw hi)
  rcases hxc with rfl | rfl
  ·exact this.2.2.1
  ·exact this.2.2.2
structure sJ (cs:List (List aI)) (bs:List bU) (k:Nat) (j4:List (List aA)) (dF:List (List (List aA))):Prop where
 len:j4.length=k
 y6:dF.length=k
 dr: ∀(i:Nat) r s,i<k->cs[i]? =some r->j4[i]? =some s->rj r (mu bs ((i:Nat):Int)) s
 pt: ∀(i:Nat) s ps,i<k->j4[i]? =some s->dF[i]? =some ps->∃u,pw s u ps
 xy: (bW 0 dF).length<=k*25000000
theorem pw.xy {s:List aA} {u:Nat->Nat} {ps:List (List aA)} (h:pw s u ps):ps.length<=(aM s).length:=by
 rw [h.len];exact l3 _ _
theorem By {cs:List (List aI)} {bs:List bU} (hcs:cs.length<=16) (hc: ∀r∈cs,r.length<=2000/\∀x∈r,AL x) (hb:l4 bs) (hN:4398046511104<=N):
  Ok (ik N cs bs [] []) (fun x=>∃dF,sJ cs bs cs.length x.2.1 dF/\x.2.2=bW 0 dF/\(x.1=true↔(∀s∈x.2.1,(aM s).length<=2000)/\x.2.2.length<=2000)):=by
 unfold ik
 refine Ok.bind (P:=fun(st:List (List aA)×List aH×Bool)=>∃dF,sJ cs bs cs.length st.1 dF/\st.2.1=bW 0 dF/\(st.2.2=true↔∀s∈st.1,(aM s).length<=2000)) (Ok.iT (fun(k:Nat) (st:List (List aA)×List aH×Bool)=>∃dF,sJ cs bs k st.1 dF/\st.2.1=bW 0 dF/\(st.2.2=true↔∀s∈st.1,(aM s).length<=2000)) (by omega)
  ⟨[],⟨rfl,rfl,fun i r s hi=>by omega,fun i s ps hi=>by omega,by simp [bW]⟩,rfl,by simp⟩ (fun k st hk hI=>?_)) ?_
 ·obtain⟨j4,pcs,okk⟩:=st
  obtain⟨dF,D,e1,e2⟩:=hI
  dsimp only at D e1 e2 ⊢
  subst e1
  have hkx:cs[k]? =some cs[k]:=aJ hk
  obtain⟨hr1,hr2⟩:=hc _ (cJ hk)
  refine Ok.ix hkx ?_
  refine Ok.bind (P:=fun t=>t=mu bs ((k:Nat):Int)) (Ok.mono (Ok.iT (fun j t=>t=mu (bs.take j) ((k:Nat):Int)) (by have:=hb.len;omega) rfl (fun j t hj e=>?_)) (fun t e=>by rw [e,eX])) (fun t e=>?_)
  ·subst e
   refine Ok.idx hj (Ok.eq (wW _ _) ?_)
   have hts:bs.take (j+1)=bs.take j++[bs[j]]:=fu hj
   have hgb:=hb.ok _ (cJ hj)
   have hl: (mu (bs.take j) ((k:Nat):Int)).length<=500:=by
    unfold mu
    rw [gQ]
    have:=kq (fun b=>kV b ((k:Nat):Int)) (bs.take j)
    rw [cY] at this
    have:=hb.len;omega
   cases ht:kV bs[j] ((k:Nat):Int) with
   | false=>
    rw [aR]
    refine Ok.eq rfl (Ok.ret ?_)
    unfold mu
    rw [hts,gY];simp [ht]
   | true=>
    rw [aO]
    refine Ok.eq (x:=mu (bs.take j) ((k:Nat):Int)++[vI bs[j]]) (by rw [lv hgb.1,aB,gV (by simp;omega),aB]) (Ok.ret ?_)
    unfold mu
    rw [hts,gY,eV];simp [ht]
  ·subst e
   have hho:=tU hb ((k:Nat):Int)
   have hhl:=x6 hb ((k:Nat):Int)
   refine xx hr1 hr2 hhl (fun x hx=>(hho x hx).1) hN (fun s hs=>?_)
   obtain⟨sx,sy⟩:=hs.small hr2 (fun x hx=>(hho x hx).1)
   obtain⟨z1,z2,z3⟩:=uY (A:=5000) hs.can hs.lim (by rw [dK,kR,kR];omega) (by rw [dK,jl,jl];omega)
   have hmany:=FH (N:=N) (s:=s) (by omega) (fun b hb=>by have:=z2 b hb;omega) (by omega)
   refine Ok.eq (x:=(okk&&decide ((aM s).length<=2000),s)) ?_ ?_
   ·cases okk with
    | false=>rfl
    | true=>
     rw [aO,hmany,aB,Bool.true_and]
     rw [show decide ((((aM s).length:Nat):Int)<=2000)=decide ((aM s).length<=2000) from decide_eq_decide.2 (by omega)]
   dsimp only
   refine Ok.app (by rw [D.len];simp;omega) ?_
   refine Ok.bind (Bu (N:=N) hs.can hs.lim sx sy (by omega) (fun b hb=>by have:=z2 b hb;omega) (by omega) hN) ?_
   rintro ps ⟨u,hu⟩
   have hfew:=hu.xy
   have hk16:k*25000000<=16*25000000:=Nat.mul_le_mul_right _ (by omega)
   have hDf:=D.xy
   refine Ok.bind (P:=fun t=>t=bW 0 dF++ps.map (fun p=>(⟨((k:Nat):Int),p,aM p⟩:aH))) (Ok.mono (Ok.iT (fun j t=>t=bW 0 dF++(ps.take j).map (fun p=>(⟨((k:Nat):Int),p,aM p⟩:aH))) (by omega) (by simp) (fun j t hj e=>?_)) (fun t e=>by rw [e,eX])) (fun t e=>Ok.ret ?_)
   ·subst e
    have hjx:ps[j]? =some ps[j]:=aJ hj
    refine Ok.ix hjx ?_
    obtain⟨_,_,_,_,k8,hpl⟩:=wX hu hs.can hs.lim sx sy (cJ hj)
    obtain⟨y1,y2,y3⟩:=uY (A:=5000) k8.can hpl (by rw [dK,kR,kR];omega) (by rw [dK,jl,jl];omega)
    refine Ok.eq (wK (oX k8.can) (by omega) (fun b hb=>by have:=y2 b hb;omega) (by omega)) (Ok.app ?_ (Ok.ret ?_))
    ·simp only [dK,gQ,cY,List.length_singleton];omega
    ·rw [fu hj,eV,iK];rfl
   ·subst e
    refine⟨dF++[ps],⟨by simp [D.len],by simp [D.y6],fun i r s' hi hr hs'=>?_,fun i s' ps' hi hs' hps'=>?_,?_⟩,?_,?_⟩
    ·dsimp only at hs'
     by_cases hik:i<k
     ·rw [fy (by rw [D.len];exact hik)] at hs'
      exact D.dr i r s' hik hr hs'
     ·have:i=k:=by omega
      subst this
      rw [eW (by rw [D.len];omega),D.len,Nat.sub_self] at hs'
      simp at hs';subst hs'
      rw [hkx] at hr;injection hr with hr;subst hr
      exact hs
    ·dsimp only at hs'
     by_cases hik:i<k
     ·rw [fy (by rw [D.len];exact hik)] at hs'
      rw [fy (by rw [D.y6];exact hik)] at hps'
      exact D.pt i s' ps' hik hs' hps'
     ·have:i=k:=by omega
      subst this
      rw [eW (by rw [D.len];omega),D.len,Nat.sub_self] at hs'
      rw [eW (by rw [D.y6];omega),D.y6,Nat.sub_self] at hps'
      simp at hs' hps';subst hs';subst hps'
      exact⟨u,hu⟩
    ·rw [sI,dK,gQ];omega
    ·dsimp only
     rw [sI,D.y6,fN]
    ·dsimp only
     rw [bJ,e2,bI]
     constructor
     ·rintro⟨h1,h2⟩ s' hs'
      rcases cP.1 hs' with h | h
      ·exact h1 s' h
      ·simp at h;subst h;exact h2
     ·intro h
      exact⟨fun s' hs'=>h s' (List.mem_append_left _ hs'),h s (by simp)⟩
 ·rintro⟨j4,pcs,okk⟩ ⟨dF,D,e1,e2⟩
  dsimp only at D e1 e2 ⊢
  subst e1
  refine Ok.bind (P:=fun b=>b=true↔(∀s∈j4,(aM s).length<=2000)/\(bW 0 dF).length<=2000) (Ok.bif (fun h=>Ok.ret ?_) (fun h=>Ok.ret ?_)) (fun b hb=>Ok.ret ⟨dF,D,rfl,hb⟩)
  ·rw [bI]
   constructor
   ·intro h';exact⟨e2.1 h,by omega⟩
   ·rintro⟨_,h'⟩;omega
  ·constructor
   ·intro h';cases h'
   ·rintro⟨h',_⟩;rw [e2.2 h'] at h;cases h
end
end Go.Gk
namespace Go.Gk
open Go Classical
section
variable {N:Nat}
section
variable {α:Type}
def qM (P:α->Bool) (l:List α) (n:Nat):List Nat:=(List.range n).filter (fun k=>(l[k]?).any P)
theorem Bz {P:α->Bool} {l:List α} {n:Nat} {x:α} (h:l[n]? =some x):qM P l (n+1)=if P x=true then qM P l n++[n] else qM P l n:=by
 unfold qM
 rw [List.range_succ,gY]
 by_cases hp:P x=true
 ·rw [aD hp];simp [h,hp]
 ·rw [aC hp];simp [h,hp]
theorem x8 (P:α->Bool) (l:List α) (n:Nat): (qM P l n).length<=n:=by
 have:=kq (fun k=>(l[k]?).any P) (List.range n)
 rw [List.length_range] at this;exact this
theorem C6 {P:α->Bool} {l:List α} {n k:Nat}:k∈qM P l n↔k<n/\(l[k]?).any P=true:=by unfold qM;simp
theorem tV {β:Type} {l:List α} (P:α->Bool) (g:Nat->β):pg l.length (fun k=>(l[k]?).bind fun x=>if P x=true then some (g k) else none)= (l.findIdx? P).map g:=by
 cases h:l.findIdx? P with
 | none=>
  rw [List.findIdx?_eq_none_iff] at h
  refine ji.2 fun k hk=>?_
  rw [aJ hk]
  have:=h _ (cJ hk)
  simp [this]
 | some j=>
  obtain⟨hj,hp,hn⟩:=List.findIdx?_eq_some_iff_getElem.1 h
  refine ll.2 ⟨j,hj,by rw [aJ hj];simp [hp],fun i hi=>?_⟩
  rw [aJ (by omega)]
  have:=hn i hi
  simp [this]
end
def ints (l:List Nat):List Int:=l.map fun i=>((i:Nat):Int)
theorem qN (l m:List Nat):ints (l++m)=ints l++ints m:=eV
theorem lJ (l:List Nat): (ints l).length=l.length:=gQ _
theorem wY {l:List Nat} {x:Int}:x∈ints l↔∃i∈l,x= ((i:Nat):Int):=by
 unfold ints;rw [cM]
 constructor
 ·rintro⟨i,h1,h2⟩;exact⟨i,h1,h2.symm⟩
 ·rintro⟨i,h1,h2⟩;exact⟨i,h1,h2.symm⟩
def Ca (p0 p1:aI):Bool:=((((decide (p0.X0<p1.X1))&&(decide (p1.X0<p0.X1)))&&((p0.Y1==p1.Y0)||(p1.Y1==p0.Y0)))||(((decide (p0.Y0<p1.Y1))&&(decide (p1.Y0<p0.Y1)))&&((p0.X1==p1.X0)||(p1.X1==p0.X0))))
def lK (b:bU) (p:aH):Bool:=b.gA&&(kV b p.cR&&p.iD.any (fun r=>Ca r (vI b)))
def eY (bs:List bU) (pcs:List aH):List (List Int):=bs.map fun b=>ints (qM (lK b) pcs pcs.length)
theorem oc {l:List aI} {φ:aI->Option Bool} (p:aI->Bool) (hl:l.length<=4611686018427387904) (h: ∀x∈l,φ x=some (p x)):fw N l φ=some (l.any p):=
 oM p hl h
theorem Ew {bs:List bU} {pcs:List aH} (hb:l4 bs) (hp:pcs.length<=1073741824) (hr: ∀p∈pcs,p.iD.length<=1073741824):il N bs pcs []=some (eY bs pcs):=by
 refine Ok.get ?_
 have hbl:=hb.len
 unfold il
 refine Ok.bind (Ok.iT (fun k st=>st=eY (bs.take k) pcs) (by omega) rfl (fun k st hk e=>?_)) (fun st e=>Ok.ret (by rw [e,eX]))
 subst e
 have hg:=hb.ok _ (cJ hk)
 refine Ok.idx hk ?_
 refine Ok.bind (P:=fun t=>t=ints (qM (lK bs[k]) pcs pcs.length)) (Ok.iT (fun j t=>t=ints (qM (lK bs[k]) pcs j)) (by omega) rfl (fun j t hj e=>?_)) (fun t e=>?_)
 ·subst e
  have hjx:pcs[j]? =some pcs[j]:=aJ hj
  have hl:=x8 (lK bs[k]) pcs j
  refine Ok.ix hjx ?_
  refine Ok.eq (x:=lK bs[k] pcs[j]) ?_ ?_
  ·unfold lK
   cases bs[k].gA with
   | false=>rfl
   | true=>
    rw [aO,wW,aB,Bool.true_and]
    cases kV bs[k] pcs[j].cR with
    | false=>rfl
    | true=>
     rw [aO,oc (fun r=>Ca r (vI bs[k])) (by have:=hr _ (cJ hj);omega) (fun r _=>by
      unfold iA;rw [lv hg.1];rfl),aB,Bool.true_and]
  ·rw [Bz hjx]
   cases ht:lK bs[k] pcs[j] with
   | false=>rw [aR,aC (by simp)];exact Ok.eq rfl (Ok.ret rfl)
   | true=>
    rw [aO,aD rfl]
    refine Ok.eq (x:=ints (qM (lK bs[k]) pcs j)++[((j:Nat):Int)]) (by rw [gV (by rw [lJ];simp;omega),aB]) (Ok.ret ?_)
    rw [qN];rfl
 ·subst e
  refine Ok.app ?_ (Ok.ret ?_)
  ·unfold eY;simp;omega
  ·unfold eY
   rw [fu hk,eV];rfl
def Ar (r:List aI) (p:eF):Bool:=r.any (fun x=>decide (p.X>=x.X0)&&(decide (p.X<x.X1)&&(decide (p.Y>=x.Y0)&&decide (p.Y<x.Y1))))
theorem tW {r:List aI} {p:eF} (hl:r.length<=4611686018427387904):iH N r p=some (Ar r p):=by
 unfold iH
 rw [oc (fun x=>decide (p.X>=x.X0)&&(decide (p.X<x.X1)&&(decide (p.Y>=x.Y0)&&decide (p.Y<x.Y1)))) hl (fun x _=>by
  unfold jv
  cases decide (p.X>=x.X0) <;> cases decide (p.X<x.X1) <;> cases decide (p.Y>=x.Y0) <;> rfl)];rfl
def sK (l:cV) (b:bU):Bool:=b.gA&&(kV b l.cR&&Ar [vI b] l.At)
def tX (l:cV) (p:aH):Bool:=(p.cR==l.cR)&&Ar p.iD l.At
def mI (bs:List bU) (pcs:List aH) (l:cV):Option dO:=match bs.findIdx? (sK l) with
 | some k=>some ⟨true,((k:Nat):Int)⟩
 | none=>(pcs.findIdx? (tX l)).map fun k=>⟨false,((k:Nat):Int)⟩
theorem Ex {bs:List bU} {pcs:List aH} (hb:l4 bs) (hp:pcs.length<=1073741824) (hr: ∀p∈pcs,p.iD.length<=1073741824) (l:cV):
  ir N bs pcs l=some ((mI bs pcs l).getD ⟨false,0⟩,(mI bs pcs l).isSome):=by
 have hbl:=hb.len
 unfold ir
 rw [mi (fun k=>(bs[k]?).bind fun x=>if sK l x=true then some ((⟨true,((k:Nat):Int)⟩:dO),true) else none) (by omega) (fun k hk _=>by
  have hkx:bs[k]? =some bs[k]:=aJ hk
  have hg:=hb.ok _ (cJ hk)
  rw [dN hkx,aB,hkx,lv hg.1,aB,aB,tW (by simp)]
  unfold sK
  cases bs[k].gA with
  | false=>rfl
  | true=>
   show (((bif kV bs[k] l.cR then _ else _:Option Bool)).bind _)=_
   cases kV bs[k] l.cR with
   | false=>rfl
   | true=>
    cases Ar [vI bs[k]] l.At <;> rfl),aB,tV (sK l) (fun k=>((⟨true,((k:Nat):Int)⟩:dO),true))]
 unfold mI
 cases bs.findIdx? (sK l) with
 | some k=>rfl
 | none=>
  show ((pI pcs.length _ ()).bind _)=_
  rw [mi (fun k=>(pcs[k]?).bind fun x=>if tX l x=true then some ((⟨false,((k:Nat):Int)⟩:dO),true) else none) (by omega) (fun k hk _=>by
   have hkx:pcs[k]? =some pcs[k]:=aJ hk
   rw [dN hkx,aB,hkx,aB,tW (by have:=hr _ (cJ hk);omega)]
   unfold tX
   cases pcs[k].cR==l.cR with
   | false=>rfl
   | true=>cases Ar pcs[k].iD l.At <;> rfl),aB,tV (tX l) (fun k=>((⟨false,((k:Nat):Int)⟩:dO),true))]
  cases pcs.findIdx? (tX l) <;> rfl
def Lk (n:Nat) (tch:List (List Int)) (i j:Nat):Prop:=∃(k:Nat) (l:List Int),tch[k]? =some l/\((i:Nat):Int)∈l/\j=n+k
structure xz (n m:Nat) (tch:List (List Int)) (r:Nat->Nat):Prop where
 le: ∀i,i<n+m->r i<=i
 rr: ∀i,i<n+m->r (r i)=r i
 co: ∀i j,Lk n tch i j->r i=r j
 fi: ∀S:Nat->Prop,(∀i j,Lk n tch i j->(S i↔S j))->∀i j,i<n+m->j<n+m->r i=r j->S i->S j
theorem x9 {n m:Nat} {tch:List (List Int)} (hm:tch.length=m) (ht: ∀l∈tch,l.length<=1073741824/\∀x∈l,∃i:Nat,i<n/\x= ((i:Nat):Int)) (hn:n<=1073741824) (hm2:m<=1073741824) {up:List Int} (hu:UF (n+m) up (fun i=>i)) (hN:4398046511104<=N):
  Ok (iT tch.length (fun(k34:Nat) (s35: (List Int))=>((idx tch (k34:Int)).bind fun x89=>(iT x89.length (fun(k92:Nat) (s93: (List Int))=>((idx x89 (k92:Int)).bind fun x107=>(dA N s93 x107 (IntKind.wrap .i64 ((n:Int)+ (k34:Int)))).bind fun x109=>some x109:Option ((List Int)))) s35).bind fun s93=>some s93:Option ((List Int)))) up)
   (fun up'=>∃r,UF (n+m) up' r/\xz n m tch r):=by
 have base:Ok (iT tch.length (fun(k34:Nat) (s35: (List Int))=>((idx tch (k34:Int)).bind fun x89=>(iT x89.length (fun(k92:Nat) (s93: (List Int))=>((idx x89 (k92:Int)).bind fun x107=>(dA N s93 x107 (IntKind.wrap .i64 ((n:Int)+ (k34:Int)))).bind fun x109=>some x109:Option ((List Int)))) s35).bind fun s93=>some s93:Option ((List Int)))) up)
   (fun up'=>∃r E,UF (n+m) up' r/\lZ r E/\uT (n+m) r E/\(∀p∈E,Lk n tch p.1 p.2)/\∀(k:Nat) l (i:Nat),k<tch.length->tch[k]? =some l->((i:Nat):Int)∈l->(i,n+k)∈E):=by
  refine Ok.iT (fun q up'=>∃r E,UF (n+m) up' r/\lZ r E/\uT (n+m) r E/\(∀p∈E,Lk n tch p.1 p.2)/\∀(k:Nat) l (i:Nat),k<q->tch[k]? =some l->((i:Nat):Int)∈l->(i,n+k)∈E) (by omega)
   ⟨_,_,hu,lZ.id,uT.id _,fun p hp=>(by cases hp),fun k l i hk=>by omega⟩ (fun q up' hq hI=>?_)
  obtain⟨r,E,h1,h2,h3,h4,h5⟩:=hI
  have hqx:tch[q]? =some tch[q]:=aJ hq
  obtain⟨hl1,hl2⟩:=ht _ (cJ hq)
  refine Ok.ix hqx ?_
  rw [wrap_add (by omega)]
  refine Ok.bind (Ok.iT (fun t up'=>∃r E,UF (n+m) up' r/\lZ r E/\uT (n+m) r E/\(∀p∈E,Lk n tch p.1 p.2)/\(∀(k:Nat) l (i:Nat),k<q->tch[k]? =some l->((i:Nat):Int)∈l->(i,n+k)∈E)/\∀i:Nat,((i:Nat):Int)∈tch[q].take t->(i,n+q)∈E) (by omega)
   ⟨r,E,h1,h2,h3,h4,h5,fun i hi=>by simp at hi⟩ (fun t up' htl hI=>?_)) (fun up' hI=>Ok.ret ?_)
  ·obtain⟨r,E,h1,h2,h3,h4,h5,h6⟩:=hI
   refine Ok.idx htl ?_
   obtain⟨i,hi,e⟩:=hl2 _ (cJ htl)
   rw [e]
   obtain⟨u2,a1,a2⟩:=B6 (N:=N) h1 (i:=i) (k:=n+q) (by omega) (by omega) (by omega)
   refine Ok.eq a1 (Ok.ret ⟨_,_,a2,h2.join i (n+q) (h1.rr i (by omega)),h3.join (by omega) (by omega),fun p hp=>?_,fun k l j hk hl hj=>List.mem_append_left _ (h5 k l j hk hl hj),fun j hj=>?_⟩)
   ·rcases cP.1 hp with hp | hp
    ·exact h4 p hp
    ·simp at hp;subst hp
     exact⟨q,tch[q],hqx,by rw [<-e];exact cJ htl,rfl⟩
   ·rw [fu htl,cP] at hj
    rcases hj with hj | hj
    ·exact List.mem_append_left _ (h6 j hj)
    ·rw [List.mem_singleton,e] at hj
     have:j=i:=by omega
     subst this;simp
  ·obtain⟨r,E,h1,h2,h3,h4,h5,h6⟩:=hI
   refine⟨r,E,h1,h2,h3,h4,fun k l i hk hl hi=>?_⟩
   by_cases hkq:k<q
   ·exact h5 k l i hkq hl hi
   ·have:k=q:=by omega
    subst this
    rw [hqx] at hl;injection hl with hl;subst hl
    exact h6 i (by rw [eX];exact hi)
 obtain⟨up',e,r,E,h1,h2,h3,h4,h5⟩:=base
 have hE: ∀i j,Lk n tch i j->(i,j)∈E:=fun i j ⟨k,l,hl,hi,hj⟩=>by
  rw [hj];exact h5 k l i (aW.1 hl).1 hl hi
 exact⟨up',e,r,h1,h1.le,h1.rr,fun i j h=>h2 (i,j) (hE i j h),fun S hS i j hi hj=>h3 S (fun p hp=>hS p.1 p.2 (h4 p hp)) i j hi hj⟩
def sL (bs:List bU) (j:Nat):Bool:=(bs[j]?).any (fun b=>b.gA)
def gP (n:Nat) (c:List Nat):List Nat:=c.filter (fun i=>decide (i<n))
def gB (bs:List bU) (n:Nat) (c:List Nat):List Nat:=(c.filter (fun i=> !decide (i<n)&&sL bs (i - n))).map (fun i=>i - n)
def Ey (bs:List bU) (n:Nat) (c:List Nat):Bool:=decide (0< (gP n c).length+ (gB bs n c).length)
def Kk (bs:List bU) (n:Nat) (c:List Nat):cL:=⟨ints (gP n c),ints (gB bs n c),[]⟩
theorem Cb (n:Nat) (c:List Nat) (i:Nat):gP n (c++[i])=if i<n then gP n c++[i] else gP n c:=by
 unfold gP;rw [gY];split <;> rename_i h <;> simp [h]
theorem Cc (bs:List bU) (n:Nat) (c:List Nat) (i:Nat):gB bs n (c++[i])=if i<n then gB bs n c else if sL bs (i - n)=true then gB bs n c++[i - n] else gB bs n c:=by
 unfold gB;rw [gY,eV]
 split
 ·rename_i h;simp [h]
 ·rename_i h
  split <;> rename_i h2 <;> simp [h,h2]
theorem Ez (n:Nat) (c:List Nat): (gP n c).length<=c.length:=kq _ _
theorem EA (bs:List bU) (n:Nat) (c:List Nat): (gB bs n c).length<=c.length:=by unfold gB;rw [gQ];exact kq _ _
def live (bs:List bU) (n t:Nat) (r:Nat->Nat) (hs:List Nat):List Nat:=hs.filter (fun h=>Ey bs n (cls t r h))
def py (bs:List bU) (n t:Nat) (r:Nat->Nat) (hs:List Nat):List cL:=(live bs n t r hs).map (fun h=>Kk bs n (cls t r h))
theorem C7 (bs:List bU) (n t:Nat) (r:Nat->Nat) (hs:List Nat) (h:Nat):live bs n t r (hs++[h])=if Ey bs n (cls t r h)=true then live bs n t r hs++[h] else live bs n t r hs:=by
 unfold live;rw [gY];split <;> rename_i h2 <;> simp [h2]
theorem qO (bs:List bU) (n t:Nat) (r:Nat->Nat) (hs:List Nat): (py bs n t r hs).length= (live bs n t r hs).length:=by unfold py;rw [gQ]
def gi (bs:List bU) (n t:Nat) (r:Nat->Nat) (h:Nat):Nat:=(live bs n t r ((bN t r).takeWhile (fun x=>decide (x≠h)))).length
theorem rR {l:List Nat} (hn:l.Nodup) {k h:Nat} (hk:l[k]? =some h):l.takeWhile (fun x=>decide (x≠h))=l.take k:=by
 induction l generalizing k with
 | nil=>simp at hk
 | cons a l ih=>
  cases k with
  | zero=>simp at hk;subst hk;simp
  | succ k=>
   have hk:l[k]? =some h:=by simpa using hk
   have hne:a≠h:=fun e=>(List.nodup_cons.1 hn).1 (by rw [e];exact gw hk)
   rw [List.takeWhile_cons,aD (by simpa using hne),List.take_succ_cons,ih (List.nodup_cons.1 hn).2 hk]
theorem pz (bs:List bU) (n t:Nat) (r:Nat->Nat) (hs:List Nat): (live bs n t r hs).length<=hs.length:=kq _ _
theorem As {bs:List bU} {n t:Nat} {r:Nat->Nat} {h:Nat} (hh:h∈bN t r) (hne:Ey bs n (cls t r h)=true):gi bs n t r h< (live bs n t r (bN t r)).length/\(live bs n t r (bN t r))[gi bs n t r h]? =some h:=by
 obtain⟨k,hk⟩:=fP hh
 have hkl:=(aW.1 hk).1
 unfold gi
 rw [rR (lu t r) hk]
 have e:bN t r= (bN t r).take k++h::(bN t r).drop (k+1):=by
  have h1:=(List.take_append_drop k (bN t r)).symm
  rw [qR hkl,(aW.1 hk).2] at h1;exact h1
 have e2:live bs n t r (bN t r)=live bs n t r ((bN t r).take k)++h::live bs n t r ((bN t r).drop (k+1)):=by
  conv=>lhs;rw [e]
  unfold live
  rw [gY,List.filter_cons,aD hne]
 constructor
 ·rw [e2];simp
 ·rw [e2]
  simp
end
end Go.Gk
namespace Go.Gk
open Go Classical
section
variable {N:Nat}
theorem ya {l:List Nat} (h:l.Nodup) {i j a:Nat} (hi:l[i]? =some a) (hj:l[j]? =some a):i=j:=
 (List.getElem_inj (h₀:=(aW.1 hi).1) (h₁:=(aW.1 hj).1) h).1 (by rw [(aW.1 hi).2,(aW.1 hj).2])
theorem rk {n i k:Nat} {r:Nat->Nat}:i∈cls n r k↔i<n/\r i=k:=by unfold cls;simp
theorem C8 (n:Nat) (r:Nat->Nat) (k:Nat): (cls n r k).Nodup:=List.Nodup.sublist List.filter_sublist List.nodup_range
structure Ih (bs:List bU) (n m:Nat) (r:Nat->Nat) (hs:List Nat) (ofP ofB:List Int):Prop where
 lp:ofP.length=n
 lb:ofB.length=m
 pc: ∀i,i<n->r i∈hs->ofP[i]? =some ((gi bs n (n+m) r (r i):Nat):Int)
 bo: ∀j,j<m->r (n+j)∈hs->ofB[j]? =some (if sL bs j=true then ((gi bs n (n+m) r (r (n+j)):Nat):Int) else -1)
theorem Au {bs:List bU} {n m:Nat} {r:Nat->Nat} (hm:bs.length=m) (hn:n<=1073741824) (hm2:m<=1073741824) {op ob:List Int} (hop:op.length=n) (hob:ob.length=m)
  {body:Nat->List cL×List Int×List Int->Option (List cL×List Int×List Int)}
  (hbody:body= (fun(k123:Nat) (s124: (List cL)×(List Int)×(List Int))=>((idx (nA (n+m) r) (k123:Int)).bind fun x455=>(iT x455.length (fun(k458:Nat) (s459: (List Int)×(List Int)×(List Int)×(List Int))=>((idx x455 (k458:Int)).bind fun x556=>(bif (decide (x556< (n:Int))) then ((idx s459.1 x556).bind fun x580=>(app 8 s459.2.2.1 ([x556]: (List Int))).bind fun x582=>some ((s459.1.set (Int.toNat x556) (s124.1.length:Int)),s459.2.1,x582,s459.2.2.2)) else ((idx bs (IntKind.wrap .i64 (x556 - (n:Int)))).bind fun x584=>(bif x584.gA then ((idx s459.2.1 (IntKind.wrap .i64 (x556 - (n:Int)))).bind fun x594=>(app 8 s459.2.2.2 ([(IntKind.wrap .i64 (x556 - (n:Int)))]: (List Int))).bind fun x596=>some ((s459.2.1.set (Int.toNat (IntKind.wrap .i64 (x556 - (n:Int)))) (s124.1.length:Int)),x596)) else ((idx s459.2.1 (IntKind.wrap .i64 (x556 - (n:Int)))).bind fun x598=>some ((s459.2.1.set (Int.toNat (IntKind.wrap .i64 (x556 - (n:Int)))) (-1)),s459.2.2.2))).bind fun s592=>some (s459.1,s592.1,s459.2.2.1,s592.2))).bind fun s577=>some (s577.1,s577.2.1,s577.2.2.1,s577.2.2.2):Option ((List Int)×(List Int)×(List Int)×(List Int)))) (s124.2.1,s124.2.2,([]: (List Int)),([]: (List Int)))).bind fun s459=>(bif (decide ((IntKind.wrap .i64 ((s459.2.2.1.length:Int)+ (s459.2.2.2.length:Int)))>0)) then ((app 72 s124.1 [(⟨s459.2.2.1,s459.2.2.2,([]: (List fD))⟩:cL)]).bind fun x610=>some x610) else (some s124.1)).bind fun s606=>some (s606,s459.1,s459.2.1):Option ((List cL)×(List Int)×(List Int))))):
  Ok (iT (nA (n+m) r).length body ([],op,ob)) (fun st=>st.1=py bs n (n+m) r (bN (n+m) r)/\Ih bs n m r (bN (n+m) r) st.2.1 st.2.2):=by
 subst hbody
 have hsl: (nA (n+m) r).length= (bN (n+m) r).length:=by unfold nA;simp
 have hhl:=l3 (n+m) r
 refine Ok.mono (Ok.iT (fun(k:Nat) (st:List cL×List Int×List Int)=>st.1=py bs n (n+m) r ((bN (n+m) r).take k)/\Ih bs n m r ((bN (n+m) r).take k) st.2.1 st.2.2) (by omega) ⟨rfl,hop,hob,fun i hi h=>by simp at h,fun j hj h=>by simp at h⟩ (fun k st hk hI=>?_)) (fun st h=>by rw [hsl,eX] at h;exact h)
 obtain⟨gs,ofP,ofB⟩:=st
 obtain⟨e1,I⟩:=hI
 dsimp only at e1 I ⊢
 subst e1
 rw [hsl] at hk
 have hkx: (bN (n+m) r)[k]? =some (bN (n+m) r)[k]:=aJ hk
 have hts: (bN (n+m) r).take (k+1)= (bN (n+m) r).take k++[(bN (n+m) r)[k]]:=fu hk
 have hgk:gi bs n (n+m) r (bN (n+m) r)[k]= (py bs n (n+m) r ((bN (n+m) r).take k)).length:=by
  unfold gi;rw [rR (lu _ _) hkx,qO]
 generalize hh: (bN (n+m) r)[k]=h at *
 have hsx: (nA (n+m) r)[k]? =some (ints (cls (n+m) r h)):=by unfold nA;rw [gX,hkx];rfl
 refine Ok.ix hsx ?_
 have hcl:=yZ (n+m) r h
 rw [lJ]
 have hgl: (py bs n (n+m) r ((bN (n+m) r).take k)).length<=n+m:=by
  rw [qO]
  have:=pz bs n (n+m) r ((bN (n+m) r).take k)
  rw [cY] at this;omega
 have hold: ∀i∈cls (n+m) r h,∀i',r i'∈(bN (n+m) r).take k->i≠i':=fun i hi i' hi' e=>by
  subst e
  rw [(rk.1 hi).2] at hi'
  obtain⟨j,hj⟩:=fP hi'
  have hjk:j<k:=by have:=(aW.1 hj).1;rw [cY] at this;omega
  rw [List.getElem?_take_of_lt hjk] at hj
  have:=ya (lu (n+m) r) hj hkx
  omega
 refine Ok.bind (P:=fun s'=>Ih bs n m r ((bN (n+m) r).take (k+1)) s'.1 s'.2.1/\s'.2.2.1=ints (gP n (cls (n+m) r h))/\s'.2.2.2=ints (gB bs n (cls (n+m) r h))) (Ok.mono (Ok.iT
  (fun(t:Nat) (s':List Int×List Int×List Int×List Int)=>Ih bs n m r ((bN (n+m) r).take k) s'.1 s'.2.1/\s'.2.2.1=ints (gP n ((cls (n+m) r h).take t))/\s'.2.2.2=ints (gB bs n ((cls (n+m) r h).take t))/\
   (∀i∈(cls (n+m) r h).take t,i<n->s'.1[i]? =some ((gi bs n (n+m) r h:Nat):Int))/\∀i∈(cls (n+m) r h).take t,¬i<n->s'.2.1[i - n]? =some (if sL bs (i - n)=true then ((gi bs n (n+m) r h:Nat):Int) else -1)) (by omega)
   ⟨I,rfl,rfl,fun i hi=>by simp at hi,fun i hi=>by simp at hi⟩ (fun t s' ht hI'=>?_)) ?_) ?_
 ·obtain⟨oP,oB,pp,bb⟩:=s'
  obtain⟨J,e2,e3,J1,J2⟩:=hI'
  dsimp only at J e2 e3 J1 J2 ⊢
  subst e2;subst e3
  have htx: (ints (cls (n+m) r h))[t]? =some (((cls (n+m) r h)[t]:Nat):Int):=by unfold ints;rw [gX,aJ ht];rfl
  refine Ok.ix htx ?_
  have htt: (cls (n+m) r h).take (t+1)= (cls (n+m) r h).take t++[(cls (n+m) r h)[t]]:=fu ht
  have hcm:=cJ ht
  have hdist: ∀i∈(cls (n+m) r h).take t,i≠(cls (n+m) r h)[t]:=fun i hi e=>by
   obtain⟨j,hj⟩:=fP hi
   have hjt:j<t:=by have:=(aW.1 hj).1;rw [cY] at this;omega
   rw [List.getElem?_take_of_lt hjt] at hj
   have:=ya (C8 (n+m) r h) hj (by rw [e];exact aJ ht)
   omega
  generalize (cls (n+m) r h)[t]=c at *
  obtain⟨hc1,hc2⟩:=rk.1 hcm
  have hgp:=Ez n ((cls (n+m) r h).take t)
  have hgb:=EA bs n ((cls (n+m) r h).take t)
  rw [cY] at hgp hgb
  by_cases hcn:c<n
  ·rw [cA (by omega: ((c:Nat):Int)< ((n:Nat):Int)),aO]
   refine Ok.bind (P:=fun x=>x= (oP.set c ((gi bs n (n+m) r h:Nat):Int),oB,ints (gP n ((cls (n+m) r h).take t))++[((c:Nat):Int)],ints (gB bs n ((cls (n+m) r h).take t)))) ?_ ?_
   ·refine Ok.idx (by rw [J.lp];exact hcn) (Ok.app (by rw [lJ];simp;omega) (Ok.ret ?_))
    rw [bO,hgk]
   ·rintro _ rfl
    refine Ok.ret ⟨⟨by simp [J.lp],J.lb,fun i hi hr=>?_,J.bo⟩,?_,?_,fun i hi hin=>?_,fun i hi hin=>?_⟩
    ·dsimp only
     rw [k7 (by rw [J.lp];exact hcn),aC (fun e=>hold c hcm i hr e.symm)];exact J.pc i hi hr
    ·dsimp only;rw [htt,Cb,aD hcn,qN];rfl
    ·dsimp only;rw [htt,Cc,aD hcn]
    ·dsimp only
     rw [k7 (by rw [J.lp];exact hcn)]
     split
     ·rfl
     ·rename_i hne
      rw [htt] at hi
      rcases cP.1 hi with hi | hi
      ·exact J1 i hi hin
      ·exact absurd (by simpa using hi) hne
    ·rw [htt] at hi
     rcases cP.1 hi with hi | hi
     ·exact J2 i hi hin
     ·have:i=c:=by simpa using hi
      subst this;exact absurd hcn hin
  ·rw [bC (by omega: ¬((c:Nat):Int)< ((n:Nat):Int)),aR]
   have hw:IntKind.wrap .i64 (((c:Nat):Int) - ((n:Nat):Int))= ((c - n:Nat):Int):=by rw [eJ (by omega) (by omega)];omega
   have hcm2:c - n<bs.length:=by omega
   have hpl:sL bs (c - n)=bs[c - n].gA:=by unfold sL;rw [aJ hcm2];rfl
   rw [hw]
   refine Ok.bind (P:=fun x=>x= (oP,oB.set (c - n) (if sL bs (c - n)=true then ((gi bs n (n+m) r h:Nat):Int) else -1),ints (gP n ((cls (n+m) r h).take t)),ints (gB bs n ((cls (n+m) r h).take t++[c])))) ?_ ?_
   ·refine Ok.idx hcm2 ?_
    rw [Cc,aC hcn,hpl]
    cases hp:bs[c - n].gA with
    | true=>
     rw [aO,aD rfl,aD rfl]
     refine Ok.eq (x:=(oB.set (c - n) ((gi bs n (n+m) r h:Nat):Int),ints (gB bs n ((cls (n+m) r h).take t)++[c - n]))) ?_ (Ok.ret rfl)
     rw [i7 _ _ (by rw [J.lb];omega),aB,gV (by rw [lJ];simp;omega),aB,bO,hgk,qN];rfl
    | false=>
     rw [aR,aC (by simp),aC (by simp)]
     refine Ok.eq (x:=(oB.set (c - n) (-1),ints (gB bs n ((cls (n+m) r h).take t)))) ?_ (Ok.ret rfl)
     rw [i7 _ _ (by rw [J.lb];omega),aB,bO]
   ·rintro _ rfl
    refine Ok.ret ⟨⟨J.lp,by simp [J.lb],J.pc,fun j hj hr=>?_⟩,?_,?_,fun i hi hin=>?_,fun i hi hin=>?_⟩
    ·dsimp only
     rw [k7 (by rw [J.lb];omega),aC (fun e=>hold c hcm (n+j) hr (by omega))];exact J.bo j hj hr
    ·dsimp only;rw [htt,Cb,aC hcn]
    ·dsimp only;rw [htt]
    ·rw [htt] at hi
     rcases cP.1 hi with hi | hi
     ·exact J1 i hi hin
     ·have:i=c:=by simpa using hi
      subst this;exact absurd hin hcn
    ·dsimp only
     rw [k7 (by rw [J.lb];omega)]
     split
     ·rename_i e;rw [e]
     ·rename_i hne
      rw [htt] at hi
      rcases cP.1 hi with hi | hi
      ·exact J2 i hi hin
      ·exact absurd (by have:i=c:=(by simpa using hi);rw [this]) hne
 ·rintro⟨oP,oB,pp,bb⟩ ⟨J,e2,e3,J1,J2⟩
  dsimp only at J e2 e3 J1 J2 ⊢
  rw [eX] at e2 e3 J1 J2
  refine⟨⟨J.lp,J.lb,fun i hi hr=>?_,fun j hj hr=>?_⟩,e2,e3⟩
  ·rw [hts] at hr
   rcases cP.1 hr with hr | hr
   ·exact J.pc i hi hr
   ·have hr:r i=h:=by simpa using hr
    rw [hr];exact J1 i (rk.2 ⟨by omega,hr⟩) hi
  ·rw [hts] at hr
   rcases cP.1 hr with hr | hr
   ·exact J.bo j hj hr
   ·have hr:r (n+j)=h:=by simpa using hr
    rw [hr]
    have:=J2 (n+j) (rk.2 ⟨by omega,hr⟩) (by omega)
    rwa [Nat.add_sub_cancel_left] at this
 ·rintro⟨oP,oB,pp,bb⟩ ⟨J,e2,e3⟩
  dsimp only at J e2 e3 ⊢
  subst e2;subst e3
  have hgp:=Ez n (cls (n+m) r h)
  have hgb:=EA bs n (cls (n+m) r h)
  rw [lJ,lJ,wrap_add (by omega)]
  have hgs:py bs n (n+m) r ((bN (n+m) r).take (k+1))=if Ey bs n (cls (n+m) r h)=true then py bs n (n+m) r ((bN (n+m) r).take k)++[Kk bs n (cls (n+m) r h)] else py bs n (n+m) r ((bN (n+m) r).take k):=by
   unfold py
   rw [hts,C7]
   split
   ·rw [eV];rfl
   ·rfl
  refine Ok.bind (P:=fun x=>x=py bs n (n+m) r ((bN (n+m) r).take (k+1))) (Ok.bif (fun hb=>?_) (fun hb=>Ok.ret ?_)) (fun x e=>Ok.ret ⟨e,J⟩)
  ·have hne:Ey bs n (cls (n+m) r h)=true:=cA (by have:=of_decide_eq_true hb;omega)
   refine Ok.app (by simp;omega) (Ok.ret ?_)
   rw [hgs,aD hne];rfl
  ·have hne: ¬Ey bs n (cls (n+m) r h)=true:=fun h'=>by
    have h1:=of_decide_eq_true h'
    have h2:=of_decide_eq_false hb
    omega
   rw [hgs,aC hne]
end
end Go.Gk
namespace Go.Gk
open Go Classical
section
variable {N:Nat}
def eH (n:Nat) (h:dO):Nat:=if h.bU=true then n+h.Number.toNat else h.Number.toNat
structure EB (bs:List bU) (n m:Nat) (h:dO):Prop where
 num: ∃k:Nat,h.Number= ((k:Nat):Int)/\(h.bU=true->k<m/\sL bs k=true)/\(h.bU=false->k<n)
theorem BA {bs:List bU} {pcs:List aH} {l:cV} {h:dO} (hh:mI bs pcs l=some h):EB bs pcs.length bs.length h:=by
 unfold mI at hh
 cases hf:bs.findIdx? (sK l) with
 | some k=>
  rw [hf] at hh
  injection hh with hh;subst hh
  obtain⟨hk,hp,_⟩:=List.findIdx?_eq_some_iff_getElem.1 hf
  refine⟨k,rfl,fun _=>⟨hk,?_⟩,fun h=>by cases h⟩
  unfold sK at hp
  unfold sL
  rw [aJ hk]
  rw [bJ] at hp
  exact hp.1
 | none=>
  rw [hf] at hh
  dsimp only at hh
  rw [Option.map_eq_some_iff] at hh
  obtain⟨k,hk,rfl⟩:=hh
  obtain⟨hk,_⟩:=List.findIdx?_eq_some_iff_getElem.1 hk
  exact⟨k,rfl,fun h=>(by cases h),fun _=>hk⟩
def sM (bs:List bU) (pcs:List aH) (r:Nat->Nat) (l:cV):Option Nat:=(mI bs pcs l).map fun h=>gi bs pcs.length (pcs.length+bs.length) r (r (eH pcs.length h))
def zn (bs:List bU) (pcs:List aH) (r:Nat->Nat) (l:cV):Int:=match sM bs pcs r l with | some g=>((g:Nat):Int) | none=> -1
def iw (gs:List cL) (lg:cV->Option Nat) (ls:List cV):List cL:=gs.mapIdx (fun g x=>{x with gC:=(ls.filter (fun l=>decide (lg l=some g))).map kG})
theorem jD {gs:List cL} {lg:cV->Option Nat} {ls:List cV} {g:Nat}: (iw gs lg ls)[g]? = (gs[g]?).map fun x=>{x with gC:=(ls.filter (fun l=>decide (lg l=some g))).map kG}:=by
 unfold iw;rw [List.getElem?_mapIdx]
theorem tY (gs:List cL) (lg:cV->Option Nat) (ls:List cV): (iw gs lg ls).length=gs.length:=by unfold iw;rw [List.length_mapIdx]
theorem xA {gs:List cL} {lg:cV->Option Nat} {ls:List cV} {l:cV} (h:lg l=none):iw gs lg (ls++[l])=iw gs lg ls:=by
 apply List.ext_getElem?
 intro g
 rw [jD,jD]
 congr 2
 funext x
 rw [gY]
 simp [h]
theorem y7 {gs:List cL} {lg:cV->Option Nat} {ls:List cV} {l:cV} {k:Nat} {x:cL} (h:lg l=some k) (hx: (iw gs lg ls)[k]? =some x):
  (iw gs lg ls).set k {x with gC:=x.gC++[kG l]}=iw gs lg (ls++[l]):=by
 apply List.ext_getElem?
 intro g
 have hk:=(aW.1 hx).1
 rw [eO]
 by_cases e:k=g
 ·subst e
  rw [aD rfl,aD hk,jD]
  rw [jD,Option.map_eq_some_iff] at hx
  obtain⟨y,hy,rfl⟩:=hx
  rw [hy,gY]
  simp [h]
 ·rw [aC e,jD,jD]
  congr 2
  funext x
  rw [gY]
  have: ¬(lg l=some g):=by rw [h];intro h';injection h' with h';exact e h'
  simp [this]
theorem EC {bs:List bU} {n t:Nat} {r:Nat->Nat} {i:Nat} (hi:i<n) (ht:i<t):Ey bs n (cls t r (r i))=true:=by
 unfold Ey
 rw [bI]
 have:i∈gP n (cls t r (r i)):=gI.2 ⟨rk.2 ⟨ht,rfl⟩,by simpa using hi⟩
 have:=List.length_pos_of_mem this
 omega
theorem ED {bs:List bU} {n t:Nat} {r:Nat->Nat} {j:Nat} (hp:sL bs j=true) (ht:n+j<t):Ey bs n (cls t r (r (n+j)))=true:=by
 unfold Ey
 rw [bI]
 have:j∈gB bs n (cls t r (r (n+j))):=cM.2 ⟨n+j,gI.2 ⟨rk.2 ⟨ht,rfl⟩,by simp [hp]⟩,by omega⟩
 have:=List.length_pos_of_mem this
 omega
structure wZ (bs:List bU) (ls:List cV) (pcs:List aH) (r:Nat->Nat) (gs:List cL) (ofP ofB jm:List Int) (iZ:List dO):Prop where
 conn:xz pcs.length bs.length (eY bs pcs) r
 gs:gs=iw (py bs pcs.length (pcs.length+bs.length) r (bN (pcs.length+bs.length) r)) (sM bs pcs r) ls
 of:Ih bs pcs.length bs.length r (bN (pcs.length+bs.length) r) ofP ofB
 jm:jm=ls.map (zn bs pcs r)
 iZ:iZ=ls.map (fun l=>(mI bs pcs l).getD ⟨false,0⟩)
theorem w3 {bs:List bU} {pcs:List aH} (hp:pcs.length<=1073741824): ∀l∈eY bs pcs,l.length<=1073741824/\∀x∈l,∃i:Nat,i<pcs.length/\x= ((i:Nat):Int):=by
 intro l hl
 unfold eY at hl
 obtain⟨b,_,rfl⟩:=cM.1 hl
 have:=x8 (lK b) pcs pcs.length
 refine⟨by rw [lJ];omega,fun x hx=>?_⟩
 obtain⟨i,hi,rfl⟩:=wY.1 hx
 exact⟨i,(C6.1 hi).1,rfl⟩
theorem y8 {bs:List bU} {ls:List cV} {pcs:List aH} (hb:l4 bs) (hp:pcs.length<=1000000000) (hr: ∀p∈pcs,p.iD.length<=1073741824) (hl:ls.length<=1073741824) (hN:4398046511104<=N):
  Ok (eK N bs ls pcs (eY bs pcs) [] [] [] []) (fun x=>∃r,wZ bs ls pcs r x.1 x.2.1 x.2.2.1 x.2.2.2.1 x.2.2.2.2):=by
 have hbl:=hb.len
 unfold eK
 rw [wrap_add (by omega)]
 obtain⟨up0,u1,u2⟩:=qF (N:=N) (n:=pcs.length+bs.length) (by omega)
 refine Ok.eq u1 ?_
 refine Ok.bind (x9 (n:=pcs.length) (m:=bs.length) (by unfold eY;simp) (w3 (by omega)) (by omega) (by omega) u2 hN) ?_
 rintro up1 ⟨r,v1,v2⟩
 refine Ok.eq (ph 0 (by omega)) (Ok.eq (ph 0 (by omega)) ?_)
 obtain⟨up2,w1,_⟩:=FI (N:=N) v1 (by omega) (by omega)
 refine Ok.eq w1 ?_
 refine Ok.bind (Au (bs:=bs) (n:=pcs.length) (m:=bs.length) (r:=r) rfl (by omega) (by omega) (op:=List.replicate pcs.length 0) (ob:=List.replicate bs.length 0) (by simp) (by simp) rfl) ?_
 rintro⟨gs,ofP,ofB⟩ ⟨e1,I⟩
 dsimp only at e1 I ⊢
 subst e1
 have hgl: (py bs pcs.length (pcs.length+bs.length) r (bN (pcs.length+bs.length) r)).length<=pcs.length+bs.length:=by
  rw [qO]
  have:=pz bs pcs.length (pcs.length+bs.length) r (bN (pcs.length+bs.length) r)
  have:=l3 (pcs.length+bs.length) r
  omega
 refine Ok.bind (Ok.iT (fun(k:Nat) (st:List cL×List Int×List Int×List Int×List dO)=>st= (iw (py bs pcs.length (pcs.length+bs.length) r (bN (pcs.length+bs.length) r)) (sM bs pcs r) (ls.take k),ofP,ofB,(ls.take k).map (zn bs pcs r),(ls.take k).map (fun l=>(mI bs pcs l).getD ⟨false,0⟩))) (by omega) ?_ (fun k st hk e=>?_)) ?_
 ·congr 1
  unfold iw
  apply List.ext_getElem?
  intro g
  rw [List.getElem?_mapIdx]
  unfold py
  rw [gX]
  cases (live bs pcs.length (pcs.length+bs.length) r (bN (pcs.length+bs.length) r))[g]? <;> rfl
 ·subst e
  dsimp only
  have hts:ls.take (k+1)=ls.take k++[ls[k]]:=fu hk
  refine Ok.idx hk (Ok.eq (Ex hb (by omega) hr _) ?_)
  dsimp only
  refine Ok.bind (P:=fun x=>x= (iw (py bs pcs.length (pcs.length+bs.length) r (bN (pcs.length+bs.length) r)) (sM bs pcs r) (ls.take k++[ls[k]]),zn bs pcs r ls[k])) ?_ ?_
  ·cases hh:mI bs pcs ls[k] with
   | none=>
    refine Ok.ret ?_
    have h1:sM bs pcs r ls[k]=none:=by unfold sM;rw [hh];rfl
    rw [xA h1]
    unfold zn;rw [h1]
   | some h=>
    have h1:sM bs pcs r ls[k]=some (gi bs pcs.length (pcs.length+bs.length) r (r (eH pcs.length h))):=by unfold sM;rw [hh];rfl
    have h2:zn bs pcs r ls[k]= ((gi bs pcs.length (pcs.length+bs.length) r (r (eH pcs.length h)):Nat):Int):=by unfold zn;rw [h1]
    obtain⟨q,q1,q2,q3⟩:=(BA hh).num
    have hix:eH pcs.length h<pcs.length+bs.length/\Ey bs pcs.length (cls (pcs.length+bs.length) r (r (eH pcs.length h)))=true/\fK N ofP ofB h=some ((gi bs pcs.length (pcs.length+bs.length) r (r (eH pcs.length h)):Nat):Int):=by
     unfold fK eH
     rw [q1,bO]
     cases hbo:h.bU with
     | true=>
      obtain⟨q4,q5⟩:=q2 hbo
      rw [aO,aD rfl]
      refine⟨by omega,ED q5 (by omega),?_⟩
      have:=I.bo q q4 (gN.2 ⟨by have:=v2.le (pcs.length+q) (by omega);omega,v2.rr _ (by omega)⟩)
      rw [aD q5] at this
      rw [dN this,aB]
     | false=>
      have q4:=q3 hbo
      rw [aR,aC (by simp)]
      refine⟨by omega,EC q4 (by omega),?_⟩
      have:=I.pc q q4 (gN.2 ⟨by have:=v2.le q (by omega);omega,v2.rr _ (by omega)⟩)
      rw [dN this,aB]
    obtain⟨i1,i2,i3⟩:=hix
    have hgi:=As (r:=r) (t:=pcs.length+bs.length) (bs:=bs) (n:=pcs.length) (h:=r (eH pcs.length h)) (gN.2 ⟨by have:=v2.le _ i1;omega,v2.rr _ i1⟩) i2
    have hgx:gi bs pcs.length (pcs.length+bs.length) r (r (eH pcs.length h))< (iw (py bs pcs.length (pcs.length+bs.length) r (bN (pcs.length+bs.length) r)) (sM bs pcs r) (ls.take k)).length:=by
     rw [tY,qO];exact hgi.1
    rw [h2]
    dsimp only [Option.getD,Option.isSome]
    rw [aO]
    refine Ok.eq i3 ?_
    generalize gi bs pcs.length (pcs.length+bs.length) r (r (eH pcs.length h))=g at *
    refine Ok.idx hgx (Ok.eq (uX _) ?_)
    have hpl: ((iw (py bs pcs.length (pcs.length+bs.length) r (bN (pcs.length+bs.length) r)) (sM bs pcs r) (ls.take k))[g]).gC.length<=ls.length:=by
     have:=jD (gs:=py bs pcs.length (pcs.length+bs.length) r (bN (pcs.length+bs.length) r)) (lg:=sM bs pcs r) (ls:=ls.take k) (g:=g)
     rw [aJ hgx] at this
     have:=this.symm
     rw [Option.map_eq_some_iff] at this
     obtain⟨y,_,hy⟩:=this
     rw [<-hy,gQ]
     have:=kq (fun l=>decide (sM bs pcs r l=some g)) (ls.take k)
     rw [cY] at this;omega
    refine Ok.app (by simp;omega) (Ok.idx hgx (Ok.ret ?_))
    rw [bO]
    congr 1
    exact y7 h1 (aJ hgx)
  ·rintro _ rfl
   dsimp only
   refine Ok.app (by simp;omega) (Ok.app (by simp;omega) (Ok.ret ?_))
   rw [hts,eV,eV];rfl
 ·rintro st rfl
  dsimp only
  rw [eX]
  exact Ok.ret ⟨r,v2,rfl,I,rfl,rfl⟩
end
end Go.Gk
namespace Go.Gk
open Go Classical
section
variable {N:Nat}
theorem uZ {p:aH}: ∀{dF:List (List (List aA))} {k:Nat},p∈bW k dF->∃(i:Nat) (ps:List (List aA)) (q:List aA),dF[i]? =some ps/\q∈ps/\p= ⟨((k+i:Nat):Int),q,aM q⟩
 | [],k,h=>by cases h
 | ps::dF,k,h=>by
  rcases cP.1 h with h | h
  ·obtain⟨q,hq,rfl⟩:=cM.1 h
   exact⟨0,ps,q,rfl,hq,rfl⟩
  ·obtain⟨i,ps',q,h1,h2,h3⟩:=uZ h
   refine⟨i+1,ps',q,by simpa using h1,h2,?_⟩
   rw [h3,show k+1+i=k+ (i+1) by omega]
structure mW (a:jT):Prop where
 xy:0<a.aL.length/\a.aL.length<=16
 Kl: ∀r∈a.aL,iF r=0
 out:iF a.dU=0
 many:a.dU.length+ (a.aL.map List.length).sum<=2000
 tZ:kU a=0
 t7:km a=0
theorem mW.gb {a:jT} (h:mW a):l4 a.aV:=⟨(oA h.tZ).1,fun b hb=>⟨((oA h.tZ).2 b hb).1,((oA h.tZ).2 b hb).2.1⟩⟩
theorem mW.cs {a:jT} (h:mW a): ∀r∈a.aL,r.length<=2000/\∀x∈r,AL x:=fun r hr=>Bw (n8.1 (h.Kl r hr)).1
structure t8 (a:jT) (j4:List (List aA)) (dF:List (List (List aA))) (p:aH) (i:Nat) (r:List aI) (s:List aA) (ps:List (List aA)) (u:Nat->Nat) (j k:Nat):Prop where
 Kz:a.aL[i]? =some r
 j4:j4[i]? =some s
 dF:dF[i]? =some ps
 dr:rj r (mu a.aV ((i:Nat):Int)) s
 pt:pw s u ps
 at_:ps[j]? =some p.Set
 head: (bN (aM s).length u)[j]? =some k
 set:n0 (ly (aM s) (aM s).length u k) p.Set
 lim:sU (oU r++oU (mu a.aV ((i:Nat):Int))) (kQ r++kQ (mu a.aV ((i:Nat):Int))) (p.Set.map bK)
 Ii:p.cR= ((i:Nat):Int)
 Ij:p.iD=aM p.Set
theorem EE {a:jT} {j4:List (List aA)} {dF:List (List (List aA))} (hg:mW a) (hD:sJ a.aL a.aV a.aL.length j4 dF) {p:aH} (hp:p∈bW 0 dF): ∃i r s ps u j k,t8 a j4 dF p i r s ps u j k:=by
 obtain⟨i,ps,q,h1,h2,rfl⟩:=uZ hp
 have hil:i<a.aL.length:=by have:=(aW.1 h1).1;rw [hD.y6] at this;exact this
 have hc:a.aL[i]? =some a.aL[i]:=aJ hil
 have hd:j4[i]? =some (j4[i]'(by rw [hD.len];exact hil)):=aJ _
 have hdr:=hD.dr i _ _ hil hc hd
 obtain⟨u,hu⟩:=hD.pt i _ ps hil hd h1
 obtain⟨sx,sy⟩:=hdr.small (hg.cs _ (cJ hil)).2 (fun x hx=>(tU hg.gb _ x hx).1)
 obtain⟨j,k,g1,g2,g3,g4⟩:=wX hu hdr.can hdr.lim sx sy h2
 exact⟨i,_,_,ps,u,j,k,hc,hd,h1,hdr,hu,g1,g2,g3,g4,by rw [fN],rfl⟩
theorem t8.Eu {a:jT} {j4:List (List aA)} {dF:List (List (List aA))} (hg:mW a) {p:aH} {i:Nat} {r:List aI} {s:List aA} {ps:List (List aA)} {u:Nat->Nat} {j k:Nat} (h:t8 a j4 dF p i r s ps u j k):
  p.Set.length<=5000/\(∀b∈p.Set,b.Xs.length<=5000)/\p.iD.length<=5000*5000:=by
 have h1:=(hg.cs r (gw h.Kz)).1
 have h2:=x6 hg.gb ((i:Nat):Int)
 rw [h.Ij]
 exact uY (A:=5000) h.set.can h.lim (by rw [dK,kR,kR];omega) (by rw [dK,jl,jl];omega)
def Cd (a0 a1 b0 b1:Int):Bool:=decide (b0<a1)&&decide (a0<b1)
def EF (a b:aI):Bool:=Cd a.X0 a.X1 b.X0 b.X1&&Cd a.Y0 a.Y1 b.Y0 b.Y1
theorem w4 {a0 a1 b0 b1:Int} (h1: -1000000<=a0/\a0<=1000000) (h2: -1000000<=a1/\a1<=1000000) (h3: -1000000<=b0/\b0<=1000000) (h4: -1000000<=b1/\b1<=1000000): ∃n,g9 N a0 a1 b0 b1=some n/\0<=n/\(n=0↔Cd a0 a1 b0 b1=true):=by
 unfold g9 Cd
 have e1:IntKind.wrap .i64 (b0 - a1)=b0 - a1:=eJ (by omega) (by omega)
 have e2:IntKind.wrap .i64 (a0 - b1)=a0 - b1:=eJ (by omega) (by omega)
 have e3:IntKind.wrap .i64 (b0 - a1+1)=b0 - a1+1:=eJ (by omega) (by omega)
 have e4:IntKind.wrap .i64 (a0 - b1+1)=a0 - b1+1:=eJ (by omega) (by omega)
 rw [e1,e2,e3,e4]
 refine⟨_,rfl,?_,?_⟩
 ·repeat' split
  all_goals omega
 ·rw [bJ,bI,bI]
  repeat' split
  all_goals omega
theorem GO {a b:aI} (h1:cU a=true) (h2:cU b=true): ∃n,je N a b=some n/\(n=0↔EF a b=true):=by
 have b1:=gH h1
 have b2:=gH h2
 obtain⟨n,n1,n2,n3⟩:=w4 (N:=N) (a0:=a.X0) (a1:=a.X1) (b0:=b.X0) (b1:=b.X1) (by omega) (by omega) (by omega) (by omega)
 obtain⟨m,m1,m2,m3⟩:=w4 (N:=N) (a0:=a.Y0) (a1:=a.Y1) (b0:=b.Y0) (b1:=b.Y1) (by omega) (by omega) (by omega) (by omega)
 unfold je EF
 rw [n1,aB,m1,aB]
 refine⟨_,rfl,?_⟩
 rw [bJ,<-n3,<-m3]
 split <;> omega
def u4 (x y:bU):Bool:=(decide (x.bM<=y.To)&&decide (y.bM<=x.To))&&EF (vI x) (vI y)
def vj (a:jT):Prop:=∃(i k:Nat) (x y:bU),k<i/\a.aV[i]? =some x/\a.aV[k]? =some y/\u4 x y=true
noncomputable def xB (r:List aI):Option Int:=if iF r≠0 then some (iF r) else none
noncomputable def y9 (a:jT):Int:=if 2000<a.dU.length+ (a.aL.map List.length).sum then 2 else if kU a≠0 then kU a else if km a≠0 then km a else if vj a then 12 else 0
noncomputable def EG (a:jT):Int:=match a.aL.findSome? xB with | some e=>e | none=>if iF a.dU≠0 then iF a.dU else y9 a
noncomputable def iS (a:jT):Int:=if a.aL.length=0 then 9 else if 16<a.aL.length then 2 else EG a
def It (j4:List (List aA)) (dF:List (List (List aA))):Prop:=(∀s∈j4,(aM s).length<=2000)/\(bW 0 dF).length<=2000
abbrev w5:=(List (List aI))×(List aI)×(List bU)×(List cV)×(List (List aA))×(List aH)×(List (List Int))×(List cL)×(List Int)×(List Int)×(List Int)×(List dO)
def F8 (a:jT) (x:Option w5×Int):Prop:=
 (iS a≠0/\x= (none,iS a))\/(iS a=0/\mW a/\¬vj a/\∃j4 dF,sJ a.aL a.aV a.aL.length j4 dF/\
  ((¬It j4 dF/\x= (none,2))\/(It j4 dF/\∃r gs ofP ofB jm iZ,wZ a.aV a.bH (bW 0 dF) r gs ofP ofB jm iZ/\
   x= (some (a.aL,a.dU,a.aV,a.bH,j4,bW 0 dF,eY a.aV (bW 0 dF),gs,ofP,ofB,jm,iZ),0))))
structure t9 (a:jT):Prop where
 cs:a.aL.length<=1048576
 each: ∀r∈a.aL,r.length<=1048576
 out:a.dU.length<=1048576
 bs:a.aV.length<=1048576
 ls:a.bH.length<=1048576
 nm:wV a
theorem Av {a:jT} (h:bk a<=1048576):t9 a:=by
 rw [Ed] at h
 have h1:=uF a.aL
 have h2:=uF a.dU
 have h3:=uF a.aV
 have h4:=uF a.bH
 refine⟨by omega,fun r hr=>?_,by omega,by omega,by omega,fun x hx=>?_⟩
 ·have:=Bi hr
  have:=uF r;omega
 ·have:=Bi hx
  rw [B0,D4,D4] at this;omega
theorem yb {a:jT} (hs:t9 a) (hN:4398046511104<=N):Ok (fZ N a) (F8 a):=by
 unfold fZ
 have pe: ∀e:Int,e≠0->iS a=e->Ok (some ((none:Option w5),e)) (F8 a):=fun e he h=>Ok.ret (.inl ⟨by rw [h];exact he,by rw [h]⟩)
 have c1:=hs.cs
 refine Ok.bif (fun h=>?_) (fun h=>?_)
 ·have:a.aL.length=0:=by have:=beq_iff_eq.1 h;omega
  exact pe 9 (by omega) (by unfold iS;rw [aD this])
 have h0: ¬a.aL.length=0:=by rw [beq_eq_false_iff_ne] at h;omega
 refine Ok.bif (fun h=>?_) (fun h=>?_)
 ·have h1:16<a.aL.length:=by have:=of_decide_eq_true h;omega
  exact pe 2 (by omega) (by unfold iS;rw [aC h0,aD h1])
 have h1: ¬16<a.aL.length:=by have:=of_decide_eq_false h;omega
 have pe1:iS a=EG a:=by unfold iS;rw [aC h0,aC h1]
 have hso:=hs.out
 have sumle: ∀k,k<=a.aL.length->((a.aL.take k).map List.length).sum<=k*1048576:=by
  intro k
  induction k with
  | zero=>intro _;simp
  | succ k ih=>
   intro hk
   have:=ih (by omega)
   have h2:=hs.each _ (cJ (show k<a.aL.length by omega))
   rw [fu (by omega),eV,List.sum_append]
   simp only [eI,List.map_nil,List.sum_cons,List.sum_nil]
   rw [Nat.add_mul];omega
 refine Ok.bind (Ok.pI (Go:=fun s:Int=>s= ((a.dU.length+ (a.aL.map List.length).sum:Nat):Int)/\∀r∈a.aL,iF r=0) (Rt:=fun x:Option w5×Int=>∃e,e≠0/\x= (none,e)/\a.aL.findSome? xB=some e)
  (fun(k:Nat) (s:Int)=>s= ((a.dU.length+ ((a.aL.take k).map List.length).sum:Nat):Int)/\∀r∈a.aL.take k,iF r=0) (by omega) ⟨by simp,fun r hr=>by simp at hr⟩ (fun k s hk hI=>?_) (fun s hI=>by rw [eX] at hI;exact hI)) ?_
 ·obtain⟨e,hI⟩:=hI
  subst e
  have hkx:a.aL[k]? =some a.aL[k]:=aJ hk
  have hts:a.aL.take (k+1)=a.aL.take k++[a.aL[k]]:=fu hk
  have he:=hs.each _ (cJ hk)
  refine Ok.ix hkx (Ok.eq (qL (by omega) hN) ?_)
  refine Ok.bif (fun h=>Ok.rt ?_) (fun h=>Ok.nx ?_)
  ·have h:iF a.aL[k]≠0:=by simpa using h
   refine⟨_,h,rfl,?_⟩
   rw [List.findSome?_eq_some_iff]
   refine⟨a.aL.take k,a.aL[k],a.aL.drop (k+1),?_,by unfold xB;rw [aD h],fun r hr=>by unfold xB;rw [aC (by simpa using hI r hr)]⟩
   rw [<-qR hk,List.take_append_drop]
  ·have h:iF a.aL[k]=0:=by simpa using h
   have:=sumle k (by omega)
   have hk16:k*1048576<=16*1048576:=Nat.mul_le_mul_right _ (by omega)
   refine⟨?_,fun r hr=>?_⟩
   ·rw [wrap_add (by omega),hts,eV,List.sum_append]
    simp only [eI,List.map_nil,List.sum_cons,List.sum_nil]
    congr 1
    omega
   ·rw [hts] at hr
    rcases cP.1 hr with hr | hr
    ·exact hI r hr
    ·simp at hr;subst hr;exact h
 intro o ho
 refine Ok.cs ho ?_ ?_
 rotate_left
 ·rintro x ⟨e,he,rfl,hf⟩
  exact pe e he (by rw [pe1];unfold EG;rw [hf])
 rintro s ⟨rfl,hreg⟩
 have Iq:a.aL.findSome? xB=none:=List.findSome?_eq_none_iff.2 fun r hr=>by unfold xB;rw [aC (by simpa using hreg r hr)]
 have pe2:iS a=if iF a.dU≠0 then iF a.dU else y9 a:=by rw [pe1];unfold EG;rw [Iq]
 refine Ok.eq (qL (by omega) hN) ?_
 refine Ok.bif (fun h=>?_) (fun h=>?_)
 ·have h:iF a.dU≠0:=by simpa using h
  exact pe _ h (by rw [pe2,aD h])
 have hout:iF a.dU=0:=by simpa using h
 have pe3:iS a=y9 a:=by rw [pe2,aC (by simpa using hout)]
 refine Ok.bif (fun h=>?_) (fun h=>?_)
 ·have h:2000<a.dU.length+ (a.aL.map List.length).sum:=by have:=of_decide_eq_true h;omega
  exact pe 2 (by omega) (by rw [pe3];unfold y9;rw [aD h])
 have hmany: ¬2000<a.dU.length+ (a.aL.map List.length).sum:=by have:=of_decide_eq_false h;omega
 have hbs:=hs.bs
 have hls:=hs.ls
 refine Ok.eq (xv (by omega) (by omega) (by omega)) ?_
 refine Ok.bif (fun h=>?_) (fun h=>?_)
 ·have h:kU a≠0:=by simpa using h
  exact pe _ h (by rw [pe3];unfold y9;rw [aC hmany,aD h])
 have hbo:kU a=0:=by simpa using h
 refine Ok.eq (xw (by omega) (by omega) hs.nm (by omega)) ?_
 refine Ok.bif (fun h=>?_) (fun h=>?_)
 ·have h:km a≠0:=by simpa using h
  exact pe _ h (by rw [pe3];unfold y9;rw [aC hmany,aC (by simpa using hbo),aD h])
 have hla:km a=0:=by simpa using h
 have hg:mW a:=⟨by omega,hreg,hout,by omega,hbo,hla⟩
 have pe4:iS a=if vj a then 12 else 0:=by rw [pe3];unfold y9;rw [aC hmany,aC (by simpa using hbo),aC (by simpa using hla)]
 refine Ok.bind (Ok.pI (Go:=fun _:Unit=>¬vj a) (Rt:=fun x:Option w5×Int=>x= (none,12)/\vj a)
  (fun(k:Nat) (_:Unit)=>∀(i j:Nat) (x y:bU),i<k->j<i->a.aV[i]? =some x->a.aV[j]? =some y->¬u4 x y=true) (by omega) (fun i j x y h=>by omega) (fun k s hk hI=>?_) (fun s hI=>?_)) ?_
 ·have hkx:a.aV[k]? =some a.aV[k]:=aJ hk
  refine Ok.ix hkx (Ok.eq (tu _ k (by omega)) ?_)
  have hgk:=hg.gb.ok _ (cJ hk)
  refine Ok.bind (Ok.pI (Go:=fun _:Unit=>∀(j:Nat) (y:bU),j<k->a.aV[j]? =some y->¬u4 a.aV[k] y=true) (Rt:=fun x:Option w5×Int=>x= (none,12)/\vj a)
   (fun(t:Nat) (_:Unit)=>∀(j:Nat) (y:bU),j<t->a.aV[j]? =some y->¬u4 a.aV[k] y=true) (by rw [cY];omega) (fun j y h=>by omega) (fun t s ht hI2=>?_) (fun s hI2 j y hj hy=>hI2 j y (by rw [cY];omega) hy)) ?_
  ·have htk:t<k:=by rw [cY] at ht;omega
   have htx: (a.aV.take k)[t]? =some a.aV[t]:=by rw [List.getElem?_take_of_lt htk];exact aJ (by omega)
   have hgt:=hg.gb.ok _ (cJ (show t<a.aV.length by omega))
   refine Ok.ix htx ?_
   refine Ok.eq (x:=u4 a.aV[k] a.aV[t]) ?_ ?_
   ·unfold u4
    cases hc: (decide (a.aV[k].bM<=a.aV[t].To)&&decide (a.aV[t].bM<=a.aV[k].To)) with
    | false=>rfl
    | true=>
     obtain⟨n,n1,n2⟩:=GO (N:=N) hgk.2 hgt.2
     rw [aO,lv hgk.1,aB,lv hgt.1,aB,n1,aB,Bool.true_and]
     congr 1
     rw [fz,beq_iff_eq];exact n2
   ·refine Ok.bif (fun h=>Ok.rt ⟨rfl,k,t,_,_,htk,hkx,aJ (by omega),h⟩) (fun h=>Ok.nx fun j y hj hy=>?_)
    by_cases e:j<t
    ·exact hI2 j y e hy
    ·have:j=t:=by omega
     subst this
     rw [aJ (by omega)] at hy;injection hy with hy
     rw [<-hy,h];simp
  ·intro o ho
   refine Ok.cs ho (fun s hI2=>Ok.nx fun i j x y hi hj hx hy=>?_) (fun x hx=>Ok.rt hx)
   by_cases e:i<k
   ·exact hI i j x y e hj hx hy
   ·have:i=k:=by omega
    subst this
    rw [hkx] at hx;injection hx with hx
    rw [<-hx];exact hI2 j y hj hy
 ·rintro⟨i,j,x,y,hj,hx,hy,hc⟩
  exact hI i j x y (aW.1 hx).1 hj hx hy hc
 intro o ho
 refine Ok.cs ho ?_ ?_
 rotate_left
 ·rintro x ⟨rfl,hc⟩
  exact pe 12 (by omega) (by rw [pe4,aD hc])
 intro _ hncl
 have pe5:iS a=0:=by rw [pe4,aC hncl]
 refine Ok.bind (By (N:=N) (by omega) hg.cs hg.gb hN) ?_
 rintro⟨okk,j4,pcs⟩ ⟨dF,D,e1,e2⟩
 dsimp only at D e1 e2 ⊢
 subst e1
 refine Ok.bif (fun h=>Ok.ret (.inr ⟨pe5,hg,hncl,j4,dF,D, .inl ⟨fun hf=>?_,rfl⟩⟩)) (fun h=>?_)
 ·have:=e2.2 hf
  rw [this] at h;cases h
 ·have hf:It j4 dF:=e2.1 (by cases okk <;> simp_all)
  have hpr: ∀p∈bW 0 dF,p.iD.length<=1073741824:=fun p hp=>by
   obtain⟨i,r,s,ps,u,j,k,hP⟩:=EE hg D hp
   have:=(hP.Eu hg).2.2;omega
  have hf2:=hf.2
  refine Ok.eq (Ew hg.gb (by omega) hpr) ?_
  refine Ok.bind (y8 (N:=N) hg.gb (by omega) hpr (by omega) hN) ?_
  rintro⟨gs,ofP,ofB,jm,iZ⟩ ⟨r,hC⟩
  exact Ok.ret (.inr ⟨pe5,hg,hncl,j4,dF,D, .inr ⟨hf,r,gs,ofP,ofB,jm,iZ,hC,rfl⟩⟩)
end
end Go.Gk
