/-
  Helping texts: plain functions and plain laws. No statement of the seed is proved here.
-/
import Derived.Test.YthioiiocofohiaaGreatDoorA1
import Derived.ChangeShapes
import Derived.ChangeSame
import Derived.Carry
import Derived.RowKit
import Derived.Test.YthioiiocofohiaaGreatDoorA2
set_option linter.unusedVariables false
set_option linter.unusedSimpArgs false
set_option linter.unusedSectionVars false
namespace Go.Gk
open Go
noncomputable section
structure aI where
 X0:Int
 Y0:Int
 X1:Int
 Y1:Int
 deriving DecidableEq,Inhabited
structure eK where
 X:Int
 Y:Int
 deriving DecidableEq,Inhabited
structure bQ where
 At:eK
 eU:Int
 bR:Int
 To:Int
 gL:Bool
 deriving DecidableEq,Inhabited
structure cQ where
 Part:dD
 fN:dD
 cU:Int
 At:eK
 deriving DecidableEq,Inhabited
structure iu where
 aK: (List (List aI))
 dA: (List aI)
 aT: (List bQ)
 bD: (List cQ)
 deriving DecidableEq,Inhabited
structure fN where
 Part:dD
 fN:dD
 deriving DecidableEq,Inhabited
structure Test where
 A:fN
 B:fN
 Joined:Bool
 deriving DecidableEq,Inhabited
structure aA where
 Y0:Int
 Y1:Int
 Xs: (List Int)
 deriving DecidableEq,Inhabited
structure aH where
 cU:Int
 Set: (List aA)
 iO: (List aI)
 deriving DecidableEq,Inhabited
structure cE where
 mT: (List Int)
 aT: (List Int)
 gM: (List fN)
 deriving DecidableEq,Inhabited
structure dF where
 bQ:Bool
 Number:Int
 deriving DecidableEq,Inhabited
structure bS where
 Open:Bool
 dF:dF
 A:Int
 B:Int
 deriving DecidableEq,Inhabited
structure pG where
 A:Int
 B:Int
 ij:Int
 bR:eK
 To:eK
 deriving DecidableEq,Inhabited
structure sQ where
 Is:bS
 G1: (List Bool)
 deriving DecidableEq,Inhabited
structure Touch where
 Test:Int
 HG:Bool
 ED:Int
 deriving DecidableEq,Inhabited
def pK (N:Nat) (p0 p1 p2:Int):Option (Bool):=
 some ((decide (p0>=p1))&&(decide (p0<=p2)))
def jI (N:Nat) (p0:Int):Option (Bool):=
 (pK N p0 (-1000000) 1000000).bind fun j=>some j
def kL (N:Nat) (p0:aI):Option (Bool):=
 ((jI N p0.X0).bind fun j=>bif j then ((jI N p0.Y0).bind fun o=>bif o then ((jI N p0.X1).bind fun aa=>bif aa then ((jI N p0.Y1).bind fun ab=>some ab) else (some false)) else (some false)) else (some false)).bind fun ad=>some ad
def jt (N:Nat) (p0: (List aI)):Option (Int):=
 bif (decide ((p0.length:Int)>2000)) then (some 2) else ((pF p0.length (fun(o:Nat) (aa:Unit)=>((idx p0 (o:Int)).bind fun j=>(kL N j).bind fun ab=>bif (!ab) then (some (.rt 1)) else (bif ((decide (j.X1<=j.X0))||(decide (j.Y1<=j.Y0))) then (some (.rt 13)) else (some (.nx ()))):Option (Fl (Unit) Int))) ()).bind fun ad=>ad.cs (fun(aa:Unit)=>some 0) (fun r=>some r))
def gT (N:Nat) (p0: (List aI)):Option ((List aI)):=
 (app 32 ([]: (List aI)) p0).bind fun j=>some j
def iD (N:Nat) (p0 p1:aI):Option (Int):=
 some (IntKind.wrap .i64 (p0.Y0 - p1.Y0))
def fJ (N:Nat) (p0: (List Int)):Option ((List Int)):=
 bif (decide ((p0.length:Int)<2)) then (some p0) else ((nc (fun(o:Int)=>(bif (decide (o< (p0.length:Int))) then ((idx p0 o).bind fun ab=>(idx p0 (IntKind.wrap .i64 (o - 1))).bind fun ad=>bif (ab==ad) then ((qC p0 o (p0.length:Int)).bind fun ak=>(nc (fun(j: (List Int)×Int×Int)=>(bif (decide (j.2.2< (((j.1.length - Int.toNat o):Nat):Int))) then ((BZ j.1 o j.2.2).bind fun ae=>(BZ j.1 o (IntKind.wrap .i64 (j.2.2 - 1))).bind fun af=>(bif (ae != af) then ((BZ j.1 o j.2.2).bind fun ag=>(idx j.1 j.2.1).bind fun al=>some ((j.1.set (Int.toNat j.2.1) ag),(IntKind.wrap .i64 (j.2.1+1)))) else (some (j.1,j.2.1))).bind fun aa=>some (.nx (aa.1,aa.2,(IntKind.wrap .i64 (j.2.2+1))))) else (some (.br (j.1,j.2.1,j.2.2))):Option (Fl ((List Int)×Int×Int) Empty))) N (p0,o,1)).bind fun ah=>ah.cs (fun(j: (List Int)×Int×Int)=>(qC j.1 j.2.1 (j.1.length:Int)).bind fun an=>(qC (j.1.take (Int.toNat j.2.1)++List.replicate (j.1.length - Int.toNat j.2.1) (0:Int)) 0 j.2.1).bind fun ai=>some (.rt ai)) (fun r=>r.elim)) else (some (.nx (IntKind.wrap .i64 (o+1))))) else (some (.br o)):Option (Fl (Int) (List Int)))) N 1).bind fun aj=>aj.cs (fun(o:Int)=>some p0) (fun r=>some r))
def lU (N:Nat) (p0:aI) (p1: (List Int)) (p2:Int):Option (Bool):=
 (idx p1 p2).bind fun j=>some (decide (p0.Y1<=j))
def j6 (N:Nat) (p0: (List aI)) (p1:aI->Option Bool):Option (Int):=
 (pF p0.length (fun(j:Nat) (o:Unit)=>((idx p0 (j:Int)).bind fun aa=>(p1 aa).bind fun ab=>bif ab then (some (.rt (j:Int))) else (some (.nx ())):Option (Fl (Unit) Int))) ()).bind fun ad=>ad.cs (fun(o:Unit)=>some (-1)) (fun r=>some r)
def jf (N:Nat) (p0: (List aI)) (p1:aI->Option Bool):Option (Int):=
 (pF p0.length (fun(j:Nat) (o:Unit)=>((idx p0 (j:Int)).bind fun aa=>(p1 aa).bind fun ab=>bif ab then (some (.rt (j:Int))) else (some (.nx ())):Option (Fl (Unit) Int))) ()).bind fun ad=>ad.cs (fun(o:Unit)=>some (-1)) (fun r=>some r)
def f9 (N:Nat) (p0: (List aI)) (p1:aI->Option Bool):Option ((List aI)):=
 (jf N p0 p1).bind fun o=>bif (o==(-1)) then (some p0) else ((nc (fun(j: (List aI)×Int×Int)=>(bif (decide (j.2.2< (j.1.length:Int))) then ((idx j.1 j.2.2).bind fun aa=>(p1 aa).bind fun ad=>(bif (!ad) then ((idx j.1 j.2.1).bind fun ag=>some ((j.1.set (Int.toNat j.2.1) aa),(IntKind.wrap .i64 (j.2.1+1)))) else (some (j.1,j.2.1))).bind fun ab=>some (.nx (ab.1,ab.2,(IntKind.wrap .i64 (j.2.2+1))))) else (some (.br (j.1,j.2.1,j.2.2))):Option (Fl ((List aI)×Int×Int) Empty))) N (p0,o,(IntKind.wrap .i64 (o+1)))).bind fun ae=>ae.cs (fun(j: (List aI)×Int×Int)=>(qC j.1 j.2.1 (j.1.length:Int)).bind fun ah=>(qC (j.1.take (Int.toNat j.2.1)++List.replicate (j.1.length - Int.toNat j.2.1) (⟨0,0,0,0⟩:aI)) 0 j.2.1).bind fun af=>some af) (fun r=>r.elim))
def fK (N:Nat) (p0 p1:aI):Option (Int):=
 some (IntKind.wrap .i64 (p0.X0 - p1.X0))
def g9 (N:Nat) (p0: (List aI)):Option ((List Int)×(List aI)):=
 (tI (fK N) p0).bind fun aa=>(iY aa.length (fun(ad:Nat) (j: (List Int))=>((idx aa (ad:Int)).bind fun o=>(bif (decide ((IntKind.wrap .i64 ((j.length:Int) - 1))>=0)) then ((idx j (IntKind.wrap .i64 ((j.length:Int) - 1))).bind fun ae=>some (decide (o.X0<=ae))) else (some false)).bind fun af=>(bif af then ((idx j (IntKind.wrap .i64 ((j.length:Int) - 1))).bind fun ab=>(idx j (IntKind.wrap .i64 ((j.length:Int) - 1))).bind fun ai=>some (j.set (Int.toNat (IntKind.wrap .i64 ((j.length:Int) - 1))) (if ab<o.X1 then o.X1 else ab))) else ((app 8 j ([o.X0,o.X1]: (List Int))).bind fun ag=>some ag)).bind fun ah=>some ah:Option ((List Int)))) ([]: (List Int))).bind fun j=>some (j,aa)
def kM (N:Nat) (p0: (List Int)) (p1: (List Int)):Option (Bool):=
 bif ((p0.length:Int) != (p1.length:Int)) then (some false) else ((pF p0.length (fun(j:Nat) (o:Unit)=>((idx p0 (j:Int)).bind fun aa=>(idx p1 (j:Int)).bind fun ab=>bif (aa != ab) then (some (.rt false)) else (some (.nx ())):Option (Fl (Unit) Bool))) ()).bind fun ad=>ad.cs (fun(o:Unit)=>some true) (fun r=>some r))
def gN (N:Nat) (p0: (List aA)) (p1:aA):Option ((List aA)):=
 bif (((p1.Xs.length:Int)==0)||(decide (p1.Y1<=p1.Y0))) then (some p0) else ((bif (decide ((IntKind.wrap .i64 ((p0.length:Int) - 1))>=0)) then ((idx p0 (IntKind.wrap .i64 ((p0.length:Int) - 1))).bind fun j=>bif (j.Y1==p1.Y0) then ((idx p0 (IntKind.wrap .i64 ((p0.length:Int) - 1))).bind fun o=>(kM N o.Xs p1.Xs).bind fun aa=>some aa) else (some false)) else (some false)).bind fun ab=>bif ab then ((idx p0 (IntKind.wrap .i64 ((p0.length:Int) - 1))).bind fun ad=>some (p0.set (Int.toNat (IntKind.wrap .i64 ((p0.length:Int) - 1))) ({ad with Y1:=p1.Y1}))) else ((app 40 p0 ([p1]: (List aA))).bind fun ae=>some ae))
def fP (N:Nat) (p0: (List aI)):Option ((List aA)):=
 (gT N p0).bind fun ag=>(tI (iD N) ag).bind fun aa=>(iY aa.length (fun(ah:Nat) (ad: (List Int))=>((idx aa (ah:Int)).bind fun ae=>(app 8 ad ([ae.Y0,ae.Y1]: (List Int))).bind fun ai=>some ai:Option ((List Int)))) ([]: (List Int))).bind fun ad=>(qH ad).bind fun aj=>(fJ N aj).bind fun ab=>(nc (fun(j: (List aA)×(List aI)×Int×Int)=>(bif (decide ((IntKind.wrap .i64 (j.2.2.2+1))< (ab.length:Int))) then ((f9 N j.2.1 (fun y0=>lU N y0 ab j.2.2.2)).bind fun ak=>(nc (fun(o: (List aI)×Int)=>((bif (decide (o.2< (aa.length:Int))) then ((idx aa o.2).bind fun al=>(idx ab j.2.2.2).bind fun an=>some (decide (al.Y0<=an))) else (some false)).bind fun ao=>bif ao then ((idx aa o.2).bind fun aq=>(app 32 o.1 ([aq]: (List aI))).bind fun ar=>some (.nx (ar,(IntKind.wrap .i64 (o.2+1))))) else (some (.br (o.1,o.2))):Option (Fl ((List aI)×Int) Empty))) N (ak,j.2.2.1)).bind fun au=>au.cs (fun(o: (List aI)×Int)=>(idx ab j.2.2.2).bind fun av=>(idx ab (IntKind.wrap .i64 (j.2.2.2+1))).bind fun aw=>(g9 N o.1).bind fun af=>(gN N j.1 (⟨av,aw,af.1⟩:aA)).bind fun ax=>some (.nx (ax,af.2,o.2,(IntKind.wrap .i64 (j.2.2.2+1))))) (fun r=>r.elim)) else (some (.br (j.1,j.2.1,j.2.2.1,j.2.2.2))):Option (Fl ((List aA)×(List aI)×Int×Int) Empty))) N (([]: (List aA)),([]: (List aI)),0,0)).bind fun ay=>ay.cs (fun(j: (List aA)×(List aI)×Int×Int)=>some j.1) (fun r=>r.elim)
def hG (N:Nat) (p0: (List aA)):Option ((List aI)):=
 (iY p0.length (fun(ab:Nat) (aa: (List aI))=>((idx p0 (ab:Int)).bind fun o=>(nc (fun(j: (List aI)×Int)=>(bif (decide (j.2< (o.Xs.length:Int))) then ((idx o.Xs j.2).bind fun ad=>(idx o.Xs (IntKind.wrap .i64 (j.2+1))).bind fun ae=>(app 32 j.1 ([(⟨ad,o.Y0,ae,o.Y1⟩:aI)]: (List aI))).bind fun af=>some (.nx (af,(IntKind.wrap .i64 (j.2+2))))) else (some (.br (j.1,j.2))):Option (Fl ((List aI)×Int) Empty))) N (aa,0)).bind fun ag=>ag.cs (fun(j: (List aI)×Int)=>some j.1) (fun r=>r.elim):Option ((List aI)))) ([]: (List aI))).bind fun aa=>some aa
def iZ (N:Nat) (p0: (List aI)) (p1: (List aI)):Option (Bool):=
 bif ((p0.length:Int) != (p1.length:Int)) then (some false) else ((pF p0.length (fun(j:Nat) (o:Unit)=>((idx p0 (j:Int)).bind fun aa=>(idx p1 (j:Int)).bind fun ab=>bif (!(decide (aa=ab))) then (some (.rt false)) else (some (.nx ())):Option (Fl (Unit) Bool))) ()).bind fun ad=>ad.cs (fun(o:Unit)=>some true) (fun r=>some r))
def gU (N:Nat) (p0: (List aI)):Option (Int):=
 (jt N p0).bind fun ab=>bif (ab != 0) then (some ab) else ((nc (fun(j:Int)=>(bif (decide (j< (p0.length:Int))) then ((idx p0 (IntKind.wrap .i64 (j - 1))).bind fun o=>(idx p0 j).bind fun aa=>bif ((decide (aa.Y0<o.Y0))||((aa.Y0==o.Y0)&&(decide (aa.X0<=o.X0)))) then (some (.rt 8)) else (some (.nx (IntKind.wrap .i64 (j+1))))) else (some (.br j)):Option (Fl (Int) Int))) N 1).bind fun ad=>ad.cs (fun(j:Int)=>(fP N p0).bind fun ae=>(hG N ae).bind fun af=>(iZ N af p0).bind fun ag=>bif (!ag) then (some 3) else (some 0)) (fun r=>some r))
def fW (N:Nat) (p0 p1 p2:Int):Option (Bool):=
 some ((decide (p0>=p1))&&(decide (p0<=p2)))
def iv (N:Nat) (p0:eK):Option (Bool):=
 ((jI N p0.X).bind fun j=>bif j then ((jI N p0.Y).bind fun o=>some o) else (some false)).bind fun aa=>some aa
def eT (N:Nat) (p0:bQ):Option (aI):=
 some (⟨(IntKind.wrap .i64 (p0.At.X - (IntKind.wrap .i64 (Int.tdiv p0.eU 2)))),(IntKind.wrap .i64 (p0.At.Y - (IntKind.wrap .i64 (Int.tdiv p0.eU 2)))),(IntKind.wrap .i64 ((IntKind.wrap .i64 (p0.At.X - (IntKind.wrap .i64 (Int.tdiv p0.eU 2))))+p0.eU)),(IntKind.wrap .i64 ((IntKind.wrap .i64 (p0.At.Y - (IntKind.wrap .i64 (Int.tdiv p0.eU 2))))+p0.eU))⟩:aI)
def kN (N:Nat) (p0: (List aA)):Option (aI):=
 (idx p0 0).bind fun ad=>(idx ad.Xs 0).bind fun ae=>(idx p0 0).bind fun af=>(idx p0 0).bind fun ag=>(idx ag.Xs 1).bind fun ah=>(idx p0 (IntKind.wrap .i64 ((p0.length:Int) - 1))).bind fun ai=>(iY p0.length (fun(aj:Nat) (j:aI)=>((idx p0 (aj:Int)).bind fun o=>(idx o.Xs 0).bind fun aa=>(idx o.Xs (IntKind.wrap .i64 ((o.Xs.length:Int) - 1))).bind fun ab=>some ({{j with X0:=(if aa<j.X0 then aa else j.X0)} with X1:=(if j.X1<ab then ab else j.X1)}):Option (aI))) (⟨ae,af.Y0,ah,ai.Y1⟩:aI)).bind fun j=>some j
def kn (N:Nat) (p0: (List aA)):Option (Bool):=
 (bif ((p0.length:Int)==0) then (some true) else ((kN N p0).bind fun j=>(kL N j).bind fun o=>some o)).bind fun aa=>some aa
def j3 (N:Nat) (p0:bQ):Option (aI×Int):=
 ((fW N p0.eU 1 10000).bind fun o=>bif (!o) then (some true) else ((iv N p0.At).bind fun aa=>some (!aa))).bind fun ab=>bif ab then (some ((⟨0,0,0,0⟩:aI),1)) else ((eT N p0).bind fun j=>(fP N ([j]: (List aI))).bind fun ad=>(kn N ad).bind fun ae=>bif (!ae) then (some ((⟨0,0,0,0⟩:aI),1)) else (some (j,0)))
def i5 (N:Nat) (p0:iu):Option (Int):=
 bif (decide ((p0.aT.length:Int)>500)) then (some 2) else ((pF p0.aT.length (fun(aa:Nat) (ab:Unit)=>((idx p0.aT (aa:Int)).bind fun j=>(j3 N j).bind fun o=>bif (o.2 != 0) then (some (.rt o.2)) else (((fW N j.bR 0 (IntKind.wrap .i64 ((p0.aK.length:Int) - 1))).bind fun ad=>bif (!ad) then (some true) else ((fW N j.To j.bR (IntKind.wrap .i64 ((p0.aK.length:Int) - 1))).bind fun ae=>some (!ae))).bind fun af=>bif af then (some (.rt 1)) else (some (.nx ()))):Option (Fl (Unit) Int))) ()).bind fun ag=>ag.cs (fun(ab:Unit)=>some 0) (fun r=>some r))
def gu (N:Nat) (p0:dD) (p1:Int):Option (Int):=
 some (Lib.indexByte p0.cM (Int.toNat p1).toUInt8)
def i6 (N:Nat) (p0 p1:dD):Option (Int):=
 bif (((p1.cM.length:Int)==0)||(p1.BQ p0)) then (some 0) else (bif ((p1.cM.length:Int)==1) then ((Dl p1 0).bind fun j=>(gu N p0 (j.toNat:Int)).bind fun o=>some o) else (bif (decide ((p1.cM.length:Int)>=(p0.cM.length:Int))) then (some (-1)) else (none)))
def j4 (N:Nat) (p0 p1:dD):Option (Int):=
 (i6 N p0 p1).bind fun j=>some j
def k6 (N:Nat) (p0 p1:dD):Option (Int):=
 bif ((p1.cM.length:Int)==0) then (none) else (bif ((p1.cM.length:Int)==1) then ((Dl p1 0).bind fun aa=>some ((Lib.countByte p0.cM (Int.toNat (aa.toNat:Int)).toUInt8:Nat):Int)) else ((nc (fun(j:dD×Int)=>((j4 N j.1 p1).bind fun o=>bif (o==(-1)) then (some (.rt j.2)) else ((sO j.1 (IntKind.wrap .i64 (o+ (p1.cM.length:Int))) (j.1.cM.length:Int)).bind fun ab=>some (.nx (ab,(IntKind.wrap .i64 (j.2+1))))):Option (Fl (dD×Int) Int))) N (p0,0)).bind fun ad=>ad.cs (fun(j:dD×Int)=>some 0) (fun r=>some r)))
def kO (N:Nat) (p0 p1:dD) (p2 p3:Int):Option ((List dD)):=
 bif (p3==0) then (some ([]: (List dD))) else (bif (p1.BQ (⟨[]⟩)) then (none) else ((bif (decide (p3<0)) then ((k6 N p0 p1).bind fun ab=>some (IntKind.wrap .i64 (ab+1))) else (some p3)).bind fun o=>(mk 16 (⟨[]⟩:dD) (if (IntKind.wrap .i64 ((p0.cM.length:Int)+1))<o then (IntKind.wrap .i64 ((p0.cM.length:Int)+1)) else o)).bind fun ad=>(nc (fun(j:dD×(List dD)×Int)=>(bif (decide (j.2.2< (IntKind.wrap .i64 ((if (IntKind.wrap .i64 ((p0.cM.length:Int)+1))<o then (IntKind.wrap .i64 ((p0.cM.length:Int)+1)) else o) - 1)))) then ((j4 N j.1 p1).bind fun aa=>bif (decide (aa<0)) then (some (.br (j.1,j.2.1,j.2.2))) else ((sO j.1 0 (IntKind.wrap .i64 (aa+p2))).bind fun ae=>(idx j.2.1 j.2.2).bind fun ai=>(sO j.1 (IntKind.wrap .i64 (aa+ (p1.cM.length:Int))) (j.1.cM.length:Int)).bind fun af=>some (.nx (af,(j.2.1.set (Int.toNat j.2.2) ae),(IntKind.wrap .i64 (j.2.2+1)))))) else (some (.br (j.1,j.2.1,j.2.2))):Option (Fl (dD×(List dD)×Int) Empty))) N (p0,ad,0)).bind fun ag=>ag.cs (fun(j:dD×(List dD)×Int)=>(idx j.2.1 j.2.2).bind fun aj=>(qC (j.2.1.set (Int.toNat j.2.2) j.1) 0 (IntKind.wrap .i64 (j.2.2+1))).bind fun ah=>some ah) (fun r=>r.elim)))
def k7 (N:Nat) (p0 p1:dD):Option ((List dD)):=
 (kO N p0 p1 0 (-1)).bind fun j=>some j
def ju (N:Nat) (p0: (List dD)) (p1:dD->Option Bool):Option (Int):=
 (pF p0.length (fun(j:Nat) (o:Unit)=>((idx p0 (j:Int)).bind fun aa=>(p1 aa).bind fun ab=>bif ab then (some (.rt (j:Int))) else (some (.nx ())):Option (Fl (Unit) Int))) ()).bind fun ad=>ad.cs (fun(o:Unit)=>some (-1)) (fun r=>some r)
def ga (N:Nat) (p0: (List dD)) (p1:dD->Option Bool):Option (Bool):=
 (ju N p0 p1).bind fun j=>some (decide (j>=0))
def gV (N:Nat) (p0:dD) (p1:Int):Option (Int):=
 (gu N p0 p1).bind fun j=>some j
def gO (N:Nat) (p0:dD):Option (Bool):=
 (pF p0.cM.length (fun(o:Nat) (aa:Unit)=>((Dl p0 (o:Int)).bind fun j=>(bif ((((decide ((j.toNat:Int)<65))||(decide ((j.toNat:Int)>90)))&&((decide ((j.toNat:Int)<97))||(decide ((j.toNat:Int)>122))))&&((decide ((j.toNat:Int)<48))||(decide ((j.toNat:Int)>57)))) then ((gV N (⟨[95,43,45,35]⟩) (j.toNat:Int)).bind fun ab=>some (decide (ab<0))) else (some false)).bind fun ad=>bif ad then (some (.rt false)) else (some (.nx ())):Option (Fl (Unit) Bool))) ()).bind fun ae=>ae.cs (fun(aa:Unit)=>some ((decide ((p0.cM.length:Int)>=1))&&(decide ((p0.cM.length:Int)<=40)))) (fun r=>some r)
def gh (N:Nat) (p0:dD):Option (Bool):=
 (gO N p0).bind fun j=>some (!j)
def ko (N:Nat) (p0:dD):Option (Bool):=
 (bif (decide ((p0.cM.length:Int)<=200)) then ((k7 N p0 (⟨[47]⟩)).bind fun j=>(ga N j (gh N)).bind fun o=>some (!o)) else (some false)).bind fun aa=>some aa
def jJ (N:Nat) (p0:cQ):Option (fN):=
 some (⟨p0.Part,p0.fN⟩:fN)
def j7 (N:Nat) (p0 p1:dD):Option (Int):=
 some (Lib.compareBytes p0.cM p1.cM)
def lx (N:Nat) (p0 p1:dD):Option (Int):=
 (j7 N p0 p1).bind fun j=>some j
def dG (N:Nat) (p0 p1:fN):Option (Int):=
 (lx N p0.Part p1.Part).bind fun j=>bif (j != 0) then (some j) else ((lx N p0.fN p1.fN).bind fun o=>some o)
def i7 (N:Nat) (p0:iu):Option (Int):=
 bif (decide ((p0.bD.length:Int)>1000)) then (some 2) else ((pF p0.bD.length (fun(o:Nat) (aa:Unit)=>((idx p0.bD (o:Int)).bind fun j=>((ko N j.Part).bind fun ab=>bif (!ab) then (some true) else ((gO N j.fN).bind fun ad=>some (!ad))).bind fun ae=>bif ae then (some (.rt 5)) else (((fW N j.cU 0 (IntKind.wrap .i64 ((p0.aK.length:Int) - 1))).bind fun af=>bif (!af) then (some true) else ((iv N j.At).bind fun ag=>some (!ag))).bind fun ah=>bif ah then (some (.rt 1)) else ((bif (decide ((o:Int)>0)) then ((idx p0.bD (IntKind.wrap .i64 ((o:Int) - 1))).bind fun ai=>(jJ N j).bind fun aj=>(jJ N ai).bind fun ak=>(dG N aj ak).bind fun al=>some (decide (al<=0))) else (some false)).bind fun an=>bif an then (some (.rt 8)) else (some (.nx ())))):Option (Fl (Unit) Int))) ()).bind fun ao=>ao.cs (fun(aa:Unit)=>some 0) (fun r=>some r))
def iw (N:Nat) (p0 p1:Int) (p2 p3:Int):Option (Int):=
 some (if (if 0< (IntKind.wrap .i64 ((IntKind.wrap .i64 (p2 - p1))+1)) then (IntKind.wrap .i64 ((IntKind.wrap .i64 (p2 - p1))+1)) else 0)< (IntKind.wrap .i64 ((IntKind.wrap .i64 (p0 - p3))+1)) then (IntKind.wrap .i64 ((IntKind.wrap .i64 (p0 - p3))+1)) else (if 0< (IntKind.wrap .i64 ((IntKind.wrap .i64 (p2 - p1))+1)) then (IntKind.wrap .i64 ((IntKind.wrap .i64 (p2 - p1))+1)) else 0))
def jv (N:Nat) (p0 p1:aI):Option (Int):=
 (iw N p0.X0 p0.X1 p1.X0 p1.X1).bind fun j=>(iw N p0.Y0 p0.Y1 p1.Y0 p1.Y1).bind fun o=>some (if j<o then o else j)
def jw (N:Nat) (p0:bQ) (p1:Int):Option (Bool):=
 some ((decide (p0.bR<=p1))&&(decide (p1<=p0.To)))
def kP (N:Nat) (p0: (List aA)) (p1 p2:Int):Option ((List Int)×Int):=
 bif ((p0.length:Int)==0) then (some (([]: (List Int)),p2)) else ((idx p0 0).bind fun aa=>bif (decide (p1<aa.Y0)) then ((idx p0 0).bind fun j=>some (([]: (List Int)),(if j.Y0<p2 then j.Y0 else p2))) else ((idx p0 0).bind fun ab=>(idx p0 0).bind fun o=>some (ab.Xs,(if o.Y1<p2 then o.Y1 else p2))))
def nF (N:Nat) (p0: (List Int)) (p1: (List Int)) (p2:Bool->Bool->Option Bool):Option ((List Int)):=
 (nc (fun(j: (List Int)×(List Int)×(List Int)×Bool×Bool×Bool)=>((bif (decide ((j.1.length:Int)>0)) then (some true) else (some (decide ((j.2.1.length:Int)>0)))).bind fun af=>bif af then ((bif ((j.2.1.length:Int)==0) then (some true) else (bif (decide ((j.1.length:Int)>0)) then ((idx j.1 0).bind fun ag=>(idx j.2.1 0).bind fun ah=>some (decide (ag<=ah))) else (some false))).bind fun ai=>(bif ai then ((idx j.1 0).bind fun aj=>some aj) else ((idx j.2.1 0).bind fun ak=>some ak)).bind fun o=>(bif (decide ((j.1.length:Int)>0)) then ((idx j.1 0).bind fun al=>some (al==o)) else (some false)).bind fun an=>(bif an then ((qC j.1 1 (j.1.length:Int)).bind fun ao=>some (ao,(!j.2.2.2.1))) else (some (j.1,j.2.2.2.1))).bind fun aa=>(bif (decide ((j.2.1.length:Int)>0)) then ((idx j.2.1 0).bind fun aq=>some (aq==o)) else (some false)).bind fun ar=>(bif ar then ((qC j.2.1 1 (j.2.1.length:Int)).bind fun au=>some (au,(!j.2.2.2.2.1))) else (some (j.2.1,j.2.2.2.2.1))).bind fun ab=>(p2 aa.2 ab.2).bind fun ad=>(bif (ad != j.2.2.2.2.2) then ((app 8 j.2.2.1 ([o]: (List Int))).bind fun av=>some (av,ad)) else (some (j.2.2.1,j.2.2.2.2.2))).bind fun ae=>some (.nx (aa.1,ab.1,ae.1,aa.2,ab.2,ae.2))) else (some (.br (j.1,j.2.1,j.2.2.1,j.2.2.2.1,j.2.2.2.2.1,j.2.2.2.2.2))):Option (Fl ((List Int)×(List Int)×(List Int)×Bool×Bool×Bool) Empty))) N (p0,p1,([]: (List Int)),false,false,false)).bind fun aw=>aw.cs (fun(j: (List Int)×(List Int)×(List Int)×Bool×Bool×Bool)=>some j.2.2.1) (fun r=>r.elim)
def mI (N:Nat) (p0: (List aA)) (p1: (List aA)) (p2:Bool->Bool->Option Bool):Option ((List aA)):=
 bif ((IntKind.wrap .i64 ((p0.length:Int)+ (p1.length:Int)))==0) then (some ([]: (List aA))) else ((iY (([p0,p1]: (List (List aA))).length) (fun(ah:Nat) (o:Int×Int)=>((idx ([p0,p1]: (List (List aA))) (ah:Int)).bind fun ad=>(bif (decide ((ad.length:Int)>0)) then ((bif ((ah:Int)==0) then (some true) else (some ((p0.length:Int)==0))).bind fun al=>(bif al then ((idx ad 0).bind fun an=>(idx ad (IntKind.wrap .i64 ((ad.length:Int) - 1))).bind fun ao=>some (an.Y0,ao.Y1)) else (some (o.1,o.2))).bind fun ag=>(idx ad 0).bind fun ai=>(idx ad (IntKind.wrap .i64 ((ad.length:Int) - 1))).bind fun aj=>some ((if ai.Y0<ag.1 then ai.Y0 else ag.1),(if ag.2<aj.Y1 then aj.Y1 else ag.2))) else (some (o.1,o.2))).bind fun ak=>some (ak.1,ak.2):Option (Int×Int))) (0,0)).bind fun o=>(nc (fun(j: (List aA)×(List aA)×(List aA)×Int)=>(bif (decide (j.2.2.2<o.2)) then ((nc (fun(aa: (List aA))=>((bif (decide ((aa.length:Int)>0)) then ((idx aa 0).bind fun aq=>some (decide (aq.Y1<=j.2.2.2))) else (some false)).bind fun ar=>bif ar then ((qC aa 1 (aa.length:Int)).bind fun au=>some (.nx au)) else (some (.br aa)):Option (Fl ((List aA)) Empty))) N j.1).bind fun av=>av.cs (fun(aa: (List aA))=>(nc (fun(ab: (List aA))=>((bif (decide ((ab.length:Int)>0)) then ((idx ab 0).bind fun aw=>some (decide (aw.Y1<=j.2.2.2))) else (some false)).bind fun ax=>bif ax then ((qC ab 1 (ab.length:Int)).bind fun ay=>some (.nx ay)) else (some (.br ab)):Option (Fl ((List aA)) Empty))) N j.2.1).bind fun az=>az.cs (fun(ab: (List aA))=>(kP N aa j.2.2.2 o.2).bind fun ae=>(kP N ab j.2.2.2 o.2).bind fun af=>(nF N ae.1 af.1 p2).bind fun a0=>(gN N j.2.2.1 (⟨j.2.2.2,(if af.2<ae.2 then af.2 else ae.2),a0⟩:aA)).bind fun a1=>some (.nx (aa,ab,a1,(if af.2<ae.2 then af.2 else ae.2)))) (fun r=>r.elim)) (fun r=>r.elim)) else (some (.br (j.1,j.2.1,j.2.2.1,j.2.2.2))):Option (Fl ((List aA)×(List aA)×(List aA)×Int) Empty))) N (p0,p1,([]: (List aA)),o.1)).bind fun a2=>a2.cs (fun(j: (List aA)×(List aA)×(List aA)×Int)=>some j.2.2.1) (fun r=>r.elim))
def lV (N:Nat) (p0 p1:Bool):Option (Bool):=
 some (p0&&(!p1))
def jy (N:Nat) (p0: (List aA)) (p1: (List aA)):Option ((List aA)):=
 (mI N p0 p1 (lV N)).bind fun j=>some j
def kp (N:Nat) (p0: (List aA)):Option (Int):=
 (iY p0.length (fun(o:Nat) (j:Int)=>((idx p0 (o:Int)).bind fun aa=>some (IntKind.wrap .i64 (j+ (IntKind.wrap .i64 (Int.tdiv (aa.Xs.length:Int) 2)))):Option (Int))) 0).bind fun j=>some j
def dZ (N:Nat) (p0:Int) (p1_0: (List Int)):Option (Int×(List Int)):=
 (nc (fun(j:Int×(List Int))=>((idx j.2 j.1).bind fun aa=>bif (aa != j.1) then ((idx j.2 j.1).bind fun ab=>(idx j.2 ab).bind fun o=>(idx j.2 j.1).bind fun af=>(idx (j.2.set (Int.toNat j.1) o) j.1).bind fun ad=>some (.nx (ad,(j.2.set (Int.toNat j.1) o)))) else (some (.br (j.1,j.2))):Option (Fl (Int×(List Int)) Empty))) N (p0,p1_0)).bind fun ae=>ae.cs (fun(j:Int×(List Int))=>some (j.1,j.2)) (fun r=>r.elim)
def jU (N:Nat) (p0: (List aA)):Option ((List (List aA))):=
 (hG N p0).bind fun ab=>(mk 8 (0:Int) (ab.length:Int)).bind fun an=>(iY an.length (fun(ai:Nat) (ag: (List Int))=>((idx ag (ai:Int)).bind fun bd=>some (ag.set (Int.toNat (ai:Int)) (ai:Int)):Option ((List Int)))) an).bind fun ag=>(iY p0.length (fun(aj:Nat) (aa: (List Int)×Int×Int)=>((idx p0 (aj:Int)).bind fun ak=>(bif (decide ((aj:Int)>0)) then ((idx p0 (IntKind.wrap .i64 ((aj:Int) - 1))).bind fun ar=>some (ar.Y1==ak.Y0)) else (some false)).bind fun au=>(bif au then ((nc (fun(j: (List Int)×Int×Int)=>(bif ((decide (j.2.1<aa.2.1))&&(decide (j.2.2< (IntKind.wrap .i64 (aa.2.1+ (IntKind.wrap .i64 (Int.tdiv (ak.Xs.length:Int) 2))))))) then (((idx ab j.2.1).bind fun av=>(idx ab j.2.2).bind fun aw=>bif (decide (av.X0<aw.X1)) then ((idx ab j.2.2).bind fun ax=>(idx ab j.2.1).bind fun ay=>some (decide (ax.X0<ay.X1))) else (some false)).bind fun az=>(bif az then ((dZ N j.2.1 j.1).bind fun ae=>(dZ N j.2.2 ae.2).bind fun ad=>(idx ad.2 (if ae.1<ad.1 then ad.1 else ae.1)).bind fun bf=>some (ad.2.set (Int.toNat (if ae.1<ad.1 then ad.1 else ae.1)) (if ad.1<ae.1 then ad.1 else ae.1))) else (some j.1)).bind fun a0=>(idx ab j.2.1).bind fun a1=>(idx ab j.2.2).bind fun a2=>(bif (decide (a1.X1<a2.X1)) then (some ((IntKind.wrap .i64 (j.2.1+1)),j.2.2)) else (some (j.2.1,(IntKind.wrap .i64 (j.2.2+1))))).bind fun ao=>some (.nx (a0,ao.1,ao.2))) else (some (.br (j.1,j.2.1,j.2.2))):Option (Fl ((List Int)×Int×Int) Empty))) N (aa.1,aa.2.2,aa.2.1)).bind fun a3=>a3.cs (fun(j: (List Int)×Int×Int)=>some j.1) (fun r=>r.elim)) else (some aa.1)).bind fun a4=>some (a4,(IntKind.wrap .i64 (aa.2.1+ (IntKind.wrap .i64 (Int.tdiv (ak.Xs.length:Int) 2)))),aa.2.1):Option ((List Int)×Int×Int))) (ag,0,0)).bind fun aa=>(iY ab.length (fun(aq:Nat) (o: (List Int)×(List (Int×Int))×(List (List aI)))=>((idx ab (aq:Int)).bind fun a5=>(dZ N (aq:Int) o.1).bind fun ah=>(bif (!(iM o.2.1 ah.1)) then ((app 24 o.2.2 [([]: (List aI))]).bind fun a6=>some ((oM o.2.1 ah.1 (o.2.2.length:Int)),a6,(o.2.2.length:Int))) else (some (o.2.1,o.2.2,(dK o.2.1 ah.1 (0:Int))))).bind fun af=>(idx af.2.1 af.2.2).bind fun a7=>(app 32 a7 ([a5]: (List aI))).bind fun a8=>(idx af.2.1 af.2.2).bind fun bg=>some (ah.2,af.1,(af.2.1.set (Int.toNat af.2.2) a8)):Option ((List Int)×(List (Int×Int))×(List (List aI))))) (aa.1,([]: (List (Int×Int))),([]: (List (List aI))))).bind fun o=>(iY o.2.2.length (fun(a9:Nat) (al: (List (List aA)))=>((idx o.2.2 (a9:Int)).bind fun ba=>(fP N ba).bind fun bb=>(app 24 al ([bb]: (List (List aA)))).bind fun bc=>some bc:Option ((List (List aA))))) ([]: (List (List aA)))).bind fun al=>some al
def iE (N:Nat) (p0_0: (List (List aI))) (p0_2: (List bQ)) (p0_4: (List (List aA))) (p0_5: (List aH)):Option (Bool×(List (List aA))×(List aH)):=
 (iY p0_0.length (fun(aa:Nat) (j: (List (List aA))×(List aH)×Bool)=>((idx p0_0 (aa:Int)).bind fun ai=>(iY p0_2.length (fun(aj:Nat) (o: (List aI))=>((idx p0_2 (aj:Int)).bind fun af=>(jw N af (aa:Int)).bind fun ak=>(bif ak then ((eT N af).bind fun al=>(app 32 o ([al]: (List aI))).bind fun an=>some an) else (some o)).bind fun ao=>some ao:Option ((List aI)))) ([]: (List aI))).bind fun o=>(fP N ai).bind fun aq=>(fP N o).bind fun ar=>(jy N aq ar).bind fun ab=>(bif j.2.2 then ((kp N ab).bind fun au=>some ((decide (au<=2000)),ab)) else (some (false,ab))).bind fun ad=>(app 24 j.1 ([ad.2]: (List (List aA)))).bind fun av=>(jU N ad.2).bind fun ag=>(iY ag.length (fun(aw:Nat) (ae: (List aH))=>((idx ag (aw:Int)).bind fun ah=>(hG N ah).bind fun ax=>(app 56 ae ([(⟨(aa:Int),ah,ax⟩:aH)]: (List aH))).bind fun ay=>some ay:Option ((List aH)))) j.2.1).bind fun ae=>some (av,ae,ad.1):Option ((List (List aA))×(List aH)×Bool))) (p0_4,p0_5,true)).bind fun j=>(bif j.2.2 then (some (decide ((j.2.1.length:Int)<=2000))) else (some false)).bind fun az=>some (az,j.1,j.2.1)
def oN (N:Nat) (p0 p1:aI):Option (Bool):=
 some ((((decide (p0.X0<p1.X1))&&(decide (p1.X0<p0.X1)))&&((p0.Y1==p1.Y0)||(p1.Y1==p0.Y0)))||(((decide (p0.Y0<p1.Y1))&&(decide (p1.Y0<p0.Y1)))&&((p0.X1==p1.X0)||(p1.X1==p0.X0))))
def iK (N:Nat) (p0:aI) (p1:bQ):Option (Bool):=
 (eT N p1).bind fun j=>(oN N p0 j).bind fun o=>some o
def fD (N:Nat) (p0: (List aI)) (p1:aI->Option Bool):Option (Bool):=
 (j6 N p0 p1).bind fun j=>some (decide (j>=0))
def iF (N:Nat) (p0_2: (List bQ)) (p0_5: (List aH)) (p0_6: (List (List Int))):Option ((List (List Int))):=
 (iY p0_2.length (fun(ae:Nat) (o: (List (List Int)))=>((idx p0_2 (ae:Int)).bind fun aa=>(iY p0_5.length (fun(ab:Nat) (j: (List Int))=>((idx p0_5 (ab:Int)).bind fun ad=>(bif aa.gL then ((jw N aa ad.cU).bind fun af=>bif af then ((fD N ad.iO (fun y0=>iK N y0 aa)).bind fun ag=>some ag) else (some false)) else (some false)).bind fun ah=>(bif ah then ((app 8 j ([(ab:Int)]: (List Int))).bind fun ai=>some ai) else (some j)).bind fun aj=>some aj:Option ((List Int)))) ([]: (List Int))).bind fun j=>(app 24 o ([j]: (List (List Int)))).bind fun ak=>some ak:Option ((List (List Int))))) p0_6).bind fun o=>some o
def iA (N:Nat) (p0:Int):Option (((List Int))):=
 (mk 8 (0:Int) p0).bind fun aa=>(iY aa.length (fun(o:Nat) (j: (List Int))=>((idx j (o:Int)).bind fun ab=>some (j.set (Int.toNat (o:Int)) (o:Int)):Option ((List Int)))) aa).bind fun j=>some j
def dO (N:Nat) (p0_0: (List Int)) (p1:Int):Option (Int×(List Int)):=
 (nc (fun(j: (List Int)×Int)=>((idx j.1 j.2).bind fun aa=>bif (aa != j.2) then ((idx j.1 j.2).bind fun ab=>(idx j.1 ab).bind fun o=>(idx j.1 j.2).bind fun af=>(idx (j.1.set (Int.toNat j.2) o) j.2).bind fun ad=>some (.nx ((j.1.set (Int.toNat j.2) o),ad))) else (some (.br (j.1,j.2))):Option (Fl ((List Int)×Int) Empty))) N (p0_0,p1)).bind fun ae=>ae.cs (fun(j: (List Int)×Int)=>some (j.2,j.1)) (fun r=>r.elim)
def dC (N:Nat) (p0_0: (List Int)) (p1 p2:Int):Option ((List Int)):=
 (dO N p0_0 p1).bind fun o=>(dO N o.2 p2).bind fun j=>(idx j.2 (if o.1<j.1 then j.1 else o.1)).bind fun aa=>some (j.2.set (Int.toNat (if o.1<j.1 then j.1 else o.1)) (if j.1<o.1 then j.1 else o.1))
def iG (N:Nat) (p0_0: (List Int)):Option ((List (List Int))×(List Int)):=
 (iY p0_0.length (fun(ab:Nat) (j: (List Int)×(List (List Int))×(List (Int×Int)))=>((dO N j.1 (ab:Int)).bind fun aa=>(bif (aa.1==(ab:Int)) then ((app 24 j.2.1 [([]: (List Int))]).bind fun ad=>some (ad,(oM j.2.2 (ab:Int) (j.2.1.length:Int)))) else (some (j.2.1,j.2.2))).bind fun o=>(idx o.1 (dK o.2 aa.1 (0:Int))).bind fun ae=>(app 8 ae ([(ab:Int)]: (List Int))).bind fun af=>(idx o.1 (dK o.2 aa.1 (0:Int))).bind fun ag=>some (aa.2,(o.1.set (Int.toNat (dK o.2 aa.1 (0:Int))) af),o.2):Option ((List Int)×(List (List Int))×(List (Int×Int))))) (p0_0,([]: (List (List Int))),([]: (List (Int×Int))))).bind fun j=>some (j.2.1,j.1)
def jK (N:Nat) (p0:aI) (p1:eK):Option (Bool):=
 (bif (decide (p1.X>=p0.X0)) then (bif (decide (p1.X<p0.X1)) then (bif (decide (p1.Y>=p0.Y0)) then (some (decide (p1.Y<p0.Y1))) else (some false)) else (some false)) else (some false)).bind fun j=>some j
def iT (N:Nat) (p0: (List aI)) (p1:eK):Option (Bool):=
 (fD N p0 (fun y0=>jK N y0 p1)).bind fun j=>some j
def iH (N:Nat) (p0_2: (List bQ)) (p0_5: (List aH)) (p1:cQ):Option (dF×Bool):=
 (pF p0_2.length (fun(o:Nat) (ad:Unit)=>((idx p0_2 (o:Int)).bind fun j=>(bif j.gL then ((jw N j p1.cU).bind fun ae=>bif ae then ((eT N j).bind fun af=>(iT N ([af]: (List aI)) p1.At).bind fun ag=>some ag) else (some false)) else (some false)).bind fun ah=>bif ah then (some (.rt ((⟨true,(o:Int)⟩:dF),true))) else (some (.nx ())):Option (Fl (Unit) (dF×Bool)))) ()).bind fun ai=>ai.cs (fun(ad:Unit)=>(pF p0_5.length (fun(aa:Nat) (aj:Unit)=>((idx p0_5 (aa:Int)).bind fun ab=>(bif (ab.cU==p1.cU) then ((iT N ab.iO p1.At).bind fun ak=>some ak) else (some false)).bind fun al=>bif al then (some (.rt ((⟨false,(aa:Int)⟩:dF),true))) else (some (.nx ())):Option (Fl (Unit) (dF×Bool)))) ()).bind fun an=>an.cs (fun(aj:Unit)=>some ((⟨false,0⟩:dF),false)) (fun r=>some r)) (fun r=>some r)
def fQ (N:Nat) (p0_8: (List Int)) (p0_9: (List Int)) (p1:dF):Option (Int):=
 bif p1.bQ then ((idx p0_9 p1.Number).bind fun j=>some j) else ((idx p0_8 p1.Number).bind fun o=>some o)
def eP (N:Nat) (p0_2: (List bQ)) (p0_3: (List cQ)) (p0_5: (List aH)) (p0_6: (List (List Int))) (p0_8: (List Int)) (p0_9: (List Int)) (p0_10: (List Int)) (p0_11: (List dF)):Option ((List cE)×(List Int)×(List Int)×(List Int)×(List dF)):=
 (iA N (IntKind.wrap .i64 ((p0_5.length:Int)+ (p0_2.length:Int)))).bind fun ar=>(iY p0_6.length (fun(ai:Nat) (af: (List Int))=>((idx p0_6 (ai:Int)).bind fun aj=>(iY aj.length (fun(au:Nat) (ag: (List Int))=>((idx aj (au:Int)).bind fun av=>(dC N ag av (IntKind.wrap .i64 ((p0_5.length:Int)+ (ai:Int)))).bind fun aw=>some aw:Option ((List Int)))) af).bind fun ag=>some ag:Option ((List Int)))) ar).bind fun af=>(mk 8 (0:Int) (p0_5.length:Int)).bind fun ax=>(mk 8 (0:Int) (p0_2.length:Int)).bind fun ay=>(iG N af).bind fun ak=>(iY ak.1.length (fun(az:Nat) (aa: (List cE)×(List Int)×(List Int))=>((idx ak.1 (az:Int)).bind fun al=>(iY al.length (fun(a0:Nat) (j: (List Int)×(List Int)×(List Int)×(List Int))=>((idx al (a0:Int)).bind fun ab=>(bif (decide (ab< (p0_5.length:Int))) then ((idx j.1 ab).bind fun bd=>(app 8 j.2.2.1 ([ab]: (List Int))).bind fun a1=>some ((j.1.set (Int.toNat ab) (aa.1.length:Int)),j.2.1,a1,j.2.2.2)) else ((idx p0_2 (IntKind.wrap .i64 (ab - (p0_5.length:Int)))).bind fun a2=>(bif a2.gL then ((idx j.2.1 (IntKind.wrap .i64 (ab - (p0_5.length:Int)))).bind fun bf=>(app 8 j.2.2.2 ([(IntKind.wrap .i64 (ab - (p0_5.length:Int)))]: (List Int))).bind fun a3=>some ((j.2.1.set (Int.toNat (IntKind.wrap .i64 (ab - (p0_5.length:Int)))) (aa.1.length:Int)),a3)) else ((idx j.2.1 (IntKind.wrap .i64 (ab - (p0_5.length:Int)))).bind fun bg=>some ((j.2.1.set (Int.toNat (IntKind.wrap .i64 (ab - (p0_5.length:Int)))) (-1)),j.2.2.2))).bind fun an=>some (j.1,an.1,j.2.2.1,an.2))).bind fun ad=>some (ad.1,ad.2.1,ad.2.2.1,ad.2.2.2):Option ((List Int)×(List Int)×(List Int)×(List Int)))) (aa.2.1,aa.2.2,([]: (List Int)),([]: (List Int)))).bind fun j=>(bif (decide ((IntKind.wrap .i64 ((j.2.2.1.length:Int)+ (j.2.2.2.length:Int)))>0)) then ((app 72 aa.1 [(⟨j.2.2.1,j.2.2.2,([]: (List fN))⟩:cE)]).bind fun a4=>some a4) else (some aa.1)).bind fun a5=>some (a5,j.1,j.2.1):Option ((List cE)×(List Int)×(List Int)))) (([]: (List cE)),ax,ay)).bind fun aa=>(iY p0_3.length (fun(a6:Nat) (o: (List cE)×(List Int)×(List Int)×(List Int)×(List dF))=>((idx p0_3 (a6:Int)).bind fun ao=>(iH N p0_2 p0_5 ao).bind fun ah=>(bif ah.2 then ((fQ N o.2.1 o.2.2.1 ah.1).bind fun ae=>(idx o.1 ae).bind fun a7=>(jJ N ao).bind fun a8=>(app 32 a7.gM ([a8]: (List fN))).bind fun a9=>(idx o.1 ae).bind fun ba=>some ((o.1.set (Int.toNat ae) {ba with gM:=a9}),ae)) else (some (o.1,(-1)))).bind fun aq=>(app 8 o.2.2.2.1 ([aq.2]: (List Int))).bind fun bb=>(app 16 o.2.2.2.2 ([ah.1]: (List dF))).bind fun bc=>some (aq.1,o.2.1,o.2.2.1,bb,bc):Option ((List cE)×(List Int)×(List Int)×(List Int)×(List dF)))) (aa.1,aa.2.1,aa.2.2,p0_10,p0_11)).bind fun o=>some (o.1,o.2.1,o.2.2.1,o.2.2.2.1,o.2.2.2.2)
def fB (N:Nat) (p0:iu):Option (Option ((List (List aI))×(List aI)×(List bQ)×(List cQ)×(List (List aA))×(List aH)×(List (List Int))×(List cE)×(List Int)×(List Int)×(List Int)×(List dF))×Int):=
 bif ((p0.aK.length:Int)==0) then (some (none,9)) else (bif (decide ((p0.aK.length:Int)>16)) then (some (none,2)) else ((pF p0.aK.length (fun(al:Nat) (aa:Int)=>((idx p0.aK (al:Int)).bind fun ad=>(gU N ad).bind fun ae=>bif (ae != 0) then (some (.rt (none,ae))) else (some (.nx (IntKind.wrap .i64 (aa+ (ad.length:Int))))):Option (Fl (Int) (Option ((List (List aI))×(List aI)×(List bQ)×(List cQ)×(List (List aA))×(List aH)×(List (List Int))×(List cE)×(List Int)×(List Int)×(List Int)×(List dF))×Int)))) (p0.dA.length:Int)).bind fun an=>an.cs (fun(aa:Int)=>(gU N p0.dA).bind fun af=>bif (af != 0) then (some (none,af)) else (bif (decide (aa>2000)) then (some (none,2)) else ((i5 N p0).bind fun ag=>bif (ag != 0) then (some (none,ag)) else ((i7 N p0).bind fun ah=>bif (ah != 0) then (some (none,ah)) else ((pF p0.aT.length (fun(ai:Nat) (ao:Unit)=>((idx p0.aT (ai:Int)).bind fun eG=>(qC p0.aT 0 (ai:Int)).bind fun aj=>(pF aj.length (fun(aq:Nat) (ar:Unit)=>((idx aj (aq:Int)).bind fun ab=>(bif ((decide (eG.bR<=ab.To))&&(decide (ab.bR<=eG.To))) then ((eT N eG).bind fun au=>(eT N ab).bind fun av=>(jv N au av).bind fun aw=>some (aw==0)) else (some false)).bind fun ax=>bif ax then (some (.rt (none,12))) else (some (.nx ())):Option (Fl (Unit) (Option ((List (List aI))×(List aI)×(List bQ)×(List cQ)×(List (List aA))×(List aH)×(List (List Int))×(List cE)×(List Int)×(List Int)×(List Int)×(List dF))×Int)))) ()).bind fun ay=>ay.cs (fun(ar:Unit)=>some (.nx ())) (fun r=>some (.rt r)):Option (Fl (Unit) (Option ((List (List aI))×(List aI)×(List bQ)×(List cQ)×(List (List aA))×(List aH)×(List (List Int))×(List cE)×(List Int)×(List Int)×(List Int)×(List dF))×Int)))) ()).bind fun az=>az.cs (fun(ao:Unit)=>(iE N p0.aK p0.aT ([]: (List (List aA))) ([]: (List aH))).bind fun j=>bif (!j.1) then (some (none,2)) else ((iF N p0.aT j.2.2 ([]: (List (List Int)))).bind fun ak=>(eP N p0.aT p0.bD j.2.2 ak ([]: (List Int)) ([]: (List Int)) ([]: (List Int)) ([]: (List dF))).bind fun o=>some (some (p0.aK,p0.dA,p0.aT,p0.bD,j.2.1,j.2.2,ak,o.1,o.2.1,o.2.2.1,o.2.2.2.1,o.2.2.2.2),0))) (fun r=>some r)))))) (fun r=>some r)))
def jL (N:Nat) (p0 p1 p2:Int):Option (Bool):=
 some ((decide (p0>=p1))&&(decide (p0<=p2)))
def gl (N:Nat) (p0:dF) (p1:Int) (p3_0: (List bS)) (p2h_7: (List cE)):Option ((List bS)):=
 (bif (decide (p1>=0)) then ((idx p2h_7 p1).bind fun j=>some (decide ((j.gM.length:Int)>1))) else (some false)).bind fun o=>(bif o then ((app 40 p3_0 ([(⟨true,p0,0,0⟩:bS)]: (List bS))).bind fun aa=>some aa) else (some p3_0)).bind fun ab=>some ab
def nG (N:Nat) (p0 p1:aI) (p2:Int):Option (eK):=
 some (⟨(if p0.X0< (IntKind.wrap .i64 (p1.X0 - p2)) then (IntKind.wrap .i64 (p1.X0 - p2)) else p0.X0),(if p0.Y0< (IntKind.wrap .i64 (p1.Y0 - p2)) then (IntKind.wrap .i64 (p1.Y0 - p2)) else p0.Y0)⟩:eK)
def nH (N:Nat) (p0 p1:eK):Option (Bool):=
 some ((decide (p0.Y<p1.Y))||((p0.Y==p1.Y)&&(decide (p0.X<p1.X))))
def lH (N:Nat) (p0: (List aI)) (p1: (List aI)):Option (pG):=
 (iY p0.length (fun(an:Nat) (aa:Int)=>((idx p0 (an:Int)).bind fun ao=>(iY p1.length (fun(aq:Nat) (ad:Int)=>((idx p1 (aq:Int)).bind fun ar=>(jv N ao ar).bind fun ae=>(bif ((decide (ad<0))||(decide (ae<ad))) then (some ae) else (some ad)).bind fun au=>some au:Option (Int))) aa).bind fun ad=>some ad:Option (Int))) (-1)).bind fun aa=>(iY p0.length (fun(av:Nat) (j:pG×Bool)=>((idx p0 (av:Int)).bind fun af=>(iY p1.length (fun(aw:Nat) (o:pG×Bool)=>((idx p1 (aw:Int)).bind fun ag=>(nG N af ag aa).bind fun ah=>((jv N af ag).bind fun ax=>bif (ax==aa) then (bif (!o.2) then (some true) else ((nH N ah o.1.bR).bind fun ay=>some ay)) else (some false)).bind fun az=>(bif az then (some ({o.1 with bR:=ah},true)) else (some (o.1,o.2))).bind fun ai=>some (ai.1,ai.2):Option (pG×Bool))) (j.1,j.2)).bind fun o=>some (o.1,o.2):Option (pG×Bool))) ((⟨0,0,(IntKind.wrap .i64 (aa - 1)),⟨0,0⟩,⟨0,0⟩⟩:pG),false)).bind fun j=>(iY p1.length (fun(a0:Nat) (ab:pG×Bool)=>((idx p1 (a0:Int)).bind fun aj=>(nG N aj (⟨j.1.bR.X,j.1.bR.Y,(IntKind.wrap .i64 (j.1.bR.X+1)),(IntKind.wrap .i64 (j.1.bR.Y+1))⟩:aI) aa).bind fun ak=>((jv N aj (⟨j.1.bR.X,j.1.bR.Y,(IntKind.wrap .i64 (j.1.bR.X+1)),(IntKind.wrap .i64 (j.1.bR.Y+1))⟩:aI)).bind fun a1=>bif (a1==aa) then (bif (!ab.2) then (some true) else ((nH N ak ab.1.To).bind fun a2=>some a2)) else (some false)).bind fun a3=>(bif a3 then (some ({ab.1 with To:=ak},true)) else (some (ab.1,ab.2))).bind fun al=>some (al.1,al.2):Option (pG×Bool))) (j.1,false)).bind fun ab=>some ab.1
def kQ (N:Nat) (p0_0: (List (List aI))) (p0_1: (List aI)) (p0_2: (List bQ)) (p0_3: (List cQ)) (p0_4: (List (List aA))) (p0_5: (List aH)) (p0_6: (List (List Int))) (p0_7: (List cE)) (p0_8: (List Int)) (p0_9: (List Int)) (p0_10: (List Int)) (p0_11: (List dF)) (p1:Int):Option ((List bS)×Int):=
 (jL N p1 0 100000).bind fun ah=>bif (!ah) then (some (([]: (List bS)),1)) else ((iY p0_8.length (fun(ae:Nat) (ab: (List bS))=>((idx p0_8 (ae:Int)).bind fun ai=>(gl N (⟨false,(ae:Int)⟩:dF) ai ab p0_7).bind fun aj=>some aj:Option ((List bS)))) ([]: (List bS))).bind fun ab=>(iY p0_9.length (fun(af:Nat) (ad: (List bS))=>((idx p0_9 (af:Int)).bind fun ak=>(gl N (⟨true,(af:Int)⟩:dF) ak ad p0_7).bind fun al=>some al:Option ((List bS)))) ab).bind fun ad=>(iY p0_5.length (fun(o:Nat) (aa: (List bS))=>((idx p0_5 (o:Int)).bind fun ag=>(nc (fun(j: (List bS)×Int)=>((bif (decide (j.2< (p0_5.length:Int))) then ((idx p0_5 j.2).bind fun an=>some (an.cU==ag.cU)) else (some false)).bind fun ao=>bif ao then (((idx p0_8 (o:Int)).bind fun aq=>(idx p0_8 j.2).bind fun ar=>bif (aq != ar) then ((idx p0_5 j.2).bind fun au=>(lH N ag.iO au.iO).bind fun av=>some (decide (av.ij<p1))) else (some false)).bind fun aw=>(bif aw then ((app 40 j.1 ([(⟨false,⟨false,0⟩,(o:Int),j.2⟩:bS)]: (List bS))).bind fun ax=>some ax) else (some j.1)).bind fun ay=>some (.nx (ay,(IntKind.wrap .i64 (j.2+1))))) else (some (.br (j.1,j.2))):Option (Fl ((List bS)×Int) Empty))) N (aa,(IntKind.wrap .i64 ((o:Int)+1)))).bind fun az=>az.cs (fun(j: (List bS)×Int)=>some j.1) (fun r=>r.elim):Option ((List bS)))) ad).bind fun aa=>bif (decide ((aa.length:Int)>20000)) then (some (([]: (List bS)),2)) else (some (aa,0)))
def i9 (N:Nat) (p0:iu) (p1:Int):Option ((List bS)×Int):=
 (fB N p0).bind fun o=>AF o.1 (bif (o.2 != 0) then (some (([]: (List bS)),o.2)) else (none)) (fun(j: ((List (List aI))×(List aI)×(List bQ)×(List cQ)×(List (List aA))×(List aH)×(List (List Int))×(List cE)×(List Int)×(List Int)×(List Int)×(List dF)))=>bif (o.2 != 0) then (some (([]: (List bS)),o.2)) else ((kQ N j.1 j.2.1 j.2.2.1 j.2.2.2.1 j.2.2.2.2.1 j.2.2.2.2.2.1 j.2.2.2.2.2.2.1 j.2.2.2.2.2.2.2.1 j.2.2.2.2.2.2.2.2.1 j.2.2.2.2.2.2.2.2.2.1 j.2.2.2.2.2.2.2.2.2.2.1 j.2.2.2.2.2.2.2.2.2.2.2 p1).bind fun aa=>some (aa.1,aa.2)))
def eI (N:Nat) (p0: (List cQ)) (p1:fN) (p2:cQ->fN->Option Int):Option (Int×Bool):=
 (nc (fun(j:Int×Int)=>(bif (decide (j.1<j.2)) then ((idx p0 (IntKind.wrap .i64 (Int.fdiv (IntKind.wrap .u64 (IntKind.wrap .i64 (j.1+j.2))) 2))).bind fun aa=>(p2 aa p1).bind fun ab=>(bif (decide (ab<0)) then (some ((IntKind.wrap .i64 ((IntKind.wrap .i64 (Int.fdiv (IntKind.wrap .u64 (IntKind.wrap .i64 (j.1+j.2))) 2))+1)),j.2)) else (some (j.1,(IntKind.wrap .i64 (Int.fdiv (IntKind.wrap .u64 (IntKind.wrap .i64 (j.1+j.2))) 2))))).bind fun o=>some (.nx (o.1,o.2))) else (some (.br (j.1,j.2))):Option (Fl (Int×Int) Empty))) N (0,(p0.length:Int))).bind fun ad=>ad.cs (fun(j:Int×Int)=>(bif (decide (j.1< (p0.length:Int))) then ((idx p0 j.1).bind fun ae=>(p2 ae p1).bind fun af=>some (af==0)) else (some false)).bind fun ag=>some (j.1,ag)) (fun r=>r.elim)
def gz (N:Nat) (p0:cQ) (p1:fN):Option (Int):=
 (jJ N p0).bind fun j=>(dG N j p1).bind fun o=>some o
def dP (N:Nat) (p0:iu) (p1:fN):Option (Int):=
 (eI N p0.bD p1 (gz N)).bind fun j=>bif (!j.2) then (some (-1)) else (some j.1)
def nI (N:Nat) (p0: (List Int)):Option (Int):=
 (pF p0.length (fun(o:Nat) (aa:Unit)=>((idx p0 (o:Int)).bind fun j=>bif (j != 0) then (some (.rt j)) else (some (.nx ())):Option (Fl (Unit) Int))) ()).bind fun ab=>ab.cs (fun(aa:Unit)=>some 0) (fun r=>some r)
def fL (N:Nat) (p0 p1:Test):Option (Int):=
 (dG N p0.A p1.A).bind fun j=>(dG N p0.B p1.B).bind fun o=>(nI N ([j,o]: (List Int))).bind fun aa=>some aa
def hQ (N:Nat) (p0:iu) (p1: (List Test)):Option (Option ((List (List aI))×(List aI)×(List bQ)×(List cQ)×(List (List aA))×(List aH)×(List (List Int))×(List cE)×(List Int)×(List Int)×(List Int)×(List dF))×Int):=
 (fB N p0).bind fun o=>AF o.1 (bif (o.2 != 0) then (some (none,o.2)) else (bif (decide ((p1.length:Int)>2000)) then (some (none,2)) else ((pF p1.length (fun(ad:Nat) (af:Unit)=>((idx p1 (ad:Int)).bind fun aa=>((dP N p0 aa.A).bind fun ag=>bif (decide (ag<0)) then (some true) else ((dP N p0 aa.B).bind fun ah=>some (decide (ah<0)))).bind fun ai=>bif ai then (some (.rt (none,9))) else ((dG N aa.B aa.A).bind fun aj=>bif (decide (aj<=0)) then (some (.rt (none,8))) else ((bif (decide ((ad:Int)>0)) then ((idx p1 (IntKind.wrap .i64 ((ad:Int) - 1))).bind fun ak=>(fL N aa ak).bind fun al=>some (decide (al<=0))) else (some false)).bind fun an=>bif an then (some (.rt (none,8))) else (some (.nx ())))):Option (Fl (Unit) (Option ((List (List aI))×(List aI)×(List bQ)×(List cQ)×(List (List aA))×(List aH)×(List (List Int))×(List cE)×(List Int)×(List Int)×(List Int)×(List dF))×Int)))) ()).bind fun ao=>ao.cs (fun(af:Unit)=>some (none,0)) (fun r=>some r)))) (fun(j: ((List (List aI))×(List aI)×(List bQ)×(List cQ)×(List (List aA))×(List aH)×(List (List Int))×(List cE)×(List Int)×(List Int)×(List Int)×(List dF)))=>bif (o.2 != 0) then (some (none,o.2)) else (bif (decide ((p1.length:Int)>2000)) then (some (none,2)) else ((pF p1.length (fun(ae:Nat) (aq:Unit)=>((idx p1 (ae:Int)).bind fun ab=>((dP N p0 ab.A).bind fun ar=>bif (decide (ar<0)) then (some true) else ((dP N p0 ab.B).bind fun au=>some (decide (au<0)))).bind fun av=>bif av then (some (.rt (none,9))) else ((dG N ab.B ab.A).bind fun aw=>bif (decide (aw<=0)) then (some (.rt (none,8))) else ((bif (decide ((ae:Int)>0)) then ((idx p1 (IntKind.wrap .i64 ((ae:Int) - 1))).bind fun ax=>(fL N ab ax).bind fun ay=>some (decide (ay<=0))) else (some false)).bind fun az=>bif az then (some (.rt (none,8))) else (some (.nx ())))):Option (Fl (Unit) (Option ((List (List aI))×(List aI)×(List bQ)×(List cQ)×(List (List aA))×(List aH)×(List (List Int))×(List cE)×(List Int)×(List Int)×(List Int)×(List dF))×Int)))) ()).bind fun a0=>a0.cs (fun(aq:Unit)=>some (some (j.1,j.2.1,j.2.2.1,j.2.2.2.1,j.2.2.2.2.1,j.2.2.2.2.2.1,j.2.2.2.2.2.2.1,j.2.2.2.2.2.2.2.1,j.2.2.2.2.2.2.2.2.1,j.2.2.2.2.2.2.2.2.2.1,j.2.2.2.2.2.2.2.2.2.2.1,j.2.2.2.2.2.2.2.2.2.2.2),0)) (fun r=>some r))))
def jz (N:Nat) (p0:iu) (p1: (List Test)):Option (Int):=
 (hQ N p0 p1).bind fun j=>AF j.1 (some j.2) (fun(o: ((List (List aI))×(List aI)×(List bQ)×(List cQ)×(List (List aA))×(List aH)×(List (List Int))×(List cE)×(List Int)×(List Int)×(List Int)×(List dF)))=>some j.2)
def fy (N:Nat) (p0:Int) (p1h_5: (List aH)):Option (Bool):=
 (jL N p0 0 (IntKind.wrap .i64 ((p1h_5.length:Int) - 1))).bind fun j=>some j
def lW (N:Nat) (p0: (List bS)) (p1:bS):Option (Int):=
 (pF p0.length (fun(j:Nat) (o:Unit)=>((idx p0 (j:Int)).bind fun aa=>bif (decide (p1=aa)) then (some (.rt (j:Int))) else (some (.nx ())):Option (Fl (Unit) Int))) ()).bind fun ab=>ab.cs (fun(o:Unit)=>some (-1)) (fun r=>some r)
def dV (N:Nat) (p0: (List bS)) (p1:bS):Option (Bool):=
 (lW N p0 p1).bind fun j=>some (decide (j>=0))
def gA (N:Nat) (p0_0: (List (List aI))) (p0_1: (List aI)) (p0_2: (List bQ)) (p0_3: (List cQ)) (p0_4: (List (List aA))) (p0_5: (List aH)) (p0_6: (List (List Int))) (p0_7: (List cE)) (p0_8: (List Int)) (p0_9: (List Int)) (p0_10: (List Int)) (p0_11: (List dF)) (p1: (List bS)):Option (Int):=
 bif (decide ((p1.length:Int)>20)) then (some 2) else ((pF p1.length (fun(o:Nat) (aa:Unit)=>((idx p1 (o:Int)).bind fun j=>(bif (j.Open&&((j.A != 0)||(j.B != 0))) then (some true) else (bif (!j.Open) then (some (!(decide (j.dF= (⟨false,0⟩:dF))))) else (some false))).bind fun ab=>bif ab then (some (.rt 3)) else (((fy N j.A p0_5).bind fun ad=>bif ad then ((fy N j.B p0_5).bind fun ae=>some ae) else (some false)).bind fun af=>(bif j.Open then ((fy N j.dF.Number p0_5).bind fun ag=>some ag) else (some af)).bind fun ah=>(bif (j.Open&&j.dF.bQ) then (((jL N j.dF.Number 0 (IntKind.wrap .i64 ((p0_2.length:Int) - 1))).bind fun ai=>bif ai then ((idx p0_2 j.dF.Number).bind fun aj=>some aj.gL) else (some false)).bind fun ak=>some ak) else (some ah)).bind fun al=>bif (!al) then (some (.rt 9)) else (bif ((!j.Open)&&(decide (j.B<=j.A))) then (some (.rt 8)) else ((qC p1 0 (o:Int)).bind fun an=>(dV N an j).bind fun ao=>bif ao then (some (.rt 7)) else (some (.nx ()))))):Option (Fl (Unit) Int))) ()).bind fun aq=>aq.cs (fun(aa:Unit)=>some 0) (fun r=>some r))
def fR (N:Nat) (p0:dF) (p1:Int):Option (Int):=
 bif p0.bQ then (some (IntKind.wrap .i64 (p1+p0.Number))) else (some p0.Number)
def gC (N:Nat) (p0 p1:Int) (p2_0: (List (Int×Bool))) (p3h_0: (List Int)):Option ((List Int)):=
 (bif (!(dK p2_0 p0 (false:Bool))) then (some (!(dK p2_0 p1 (false:Bool)))) else (some false)).bind fun j=>(bif j then ((dC N p3h_0 p0 p1).bind fun o=>some o) else (some p3h_0)).bind fun aa=>some aa
def dH (N:Nat) (p0_2: (List bQ)) (p0_3: (List cQ)) (p0_5: (List aH)) (p0_6: (List (List Int))) (p0_10: (List Int)) (p0_11: (List dF)) (p1: (List bS)):Option ((List Int)):=
 (iY p1.length (fun(aq:Nat) (aa: (List (Int×Bool)))=>((idx p1 (aq:Int)).bind fun aj=>(bif aj.Open then ((fR N aj.dF (p0_5.length:Int)).bind fun ar=>some (oM aa ar true)) else (some aa)).bind fun au=>some au:Option ((List (Int×Bool))))) ([]: (List (Int×Bool)))).bind fun aa=>(iA N (IntKind.wrap .i64 ((p0_5.length:Int)+ (p0_2.length:Int)))).bind fun av=>(iY p0_6.length (fun(ak:Nat) (ae: (List Int))=>((idx p0_6 (ak:Int)).bind fun al=>(iY al.length (fun(aw:Nat) (af: (List Int))=>((idx al (aw:Int)).bind fun ax=>(gC N ax (IntKind.wrap .i64 ((p0_5.length:Int)+ (ak:Int))) aa af).bind fun ay=>some ay:Option ((List Int)))) ae).bind fun af=>some af:Option ((List Int)))) av).bind fun ae=>(iY p1.length (fun(az:Nat) (ab: (List Int))=>((idx p1 (az:Int)).bind fun ag=>(bif (!ag.Open) then ((gC N ag.A ag.B aa ab).bind fun a0=>some a0) else (some ab)).bind fun a1=>some a1:Option ((List Int)))) ae).bind fun ab=>(mk 8 (0:Int) (p0_3.length:Int)).bind fun a2=>(iY p0_11.length (fun(o:Nat) (j: (List Int)×(List (Int×Int))×(List Int))=>((idx p0_11 (o:Int)).bind fun a3=>(fR N a3 (p0_5.length:Int)).bind fun ad=>((idx p0_10 (o:Int)).bind fun a4=>bif (decide (a4<0)) then (some true) else (some (dK aa ad (false:Bool)))).bind fun a5=>bif a5 then ((idx j.2.2 (o:Int)).bind fun a6=>some (j.1,j.2.1,(j.2.2.set (Int.toNat (o:Int)) (-1)))) else ((dO N j.1 ad).bind fun ah=>(bif (!(iM j.2.1 ah.1)) then ((dO N ah.2 ad).bind fun an=>some (an.2,(oM j.2.1 an.1 (o:Int)))) else (some (ah.2,j.2.1))).bind fun ai=>(dO N ai.1 ad).bind fun ao=>(idx j.2.2 (o:Int)).bind fun a7=>some (ao.2,ai.2,(j.2.2.set (Int.toNat (o:Int)) (dK ai.2 ao.1 (0:Int))))):Option ((List Int)×(List (Int×Int))×(List Int)))) (ab,([]: (List (Int×Int))),a2)).bind fun j=>some j.2.2
def hU (N:Nat) (p0:iu) (p1: (List bS)) (p2 p3:fN):Option (Bool×Int):=
 (fB N p0).bind fun o=>AF o.1 (bif (o.2 != 0) then (some (false,o.2)) else (none)) (fun(j: ((List (List aI))×(List aI)×(List bQ)×(List cQ)×(List (List aA))×(List aH)×(List (List Int))×(List cE)×(List Int)×(List Int)×(List Int)×(List dF)))=>bif (o.2 != 0) then (some (false,o.2)) else ((gA N j.1 j.2.1 j.2.2.1 j.2.2.2.1 j.2.2.2.2.1 j.2.2.2.2.2.1 j.2.2.2.2.2.2.1 j.2.2.2.2.2.2.2.1 j.2.2.2.2.2.2.2.2.1 j.2.2.2.2.2.2.2.2.2.1 j.2.2.2.2.2.2.2.2.2.2.1 j.2.2.2.2.2.2.2.2.2.2.2 p1).bind fun ad=>bif (ad != 0) then (some (false,ad)) else ((dP N p0 p2).bind fun aa=>(dP N p0 p3).bind fun ae=>bif ((decide (aa<0))||(decide (ae<0))) then (some (false,9)) else ((dH N j.2.2.1 j.2.2.2.1 j.2.2.2.2.2.1 j.2.2.2.2.2.2.1 j.2.2.2.2.2.2.2.2.2.2.1 j.2.2.2.2.2.2.2.2.2.2.2 p1).bind fun ab=>((idx ab aa).bind fun af=>bif (decide (af>=0)) then ((idx ab aa).bind fun ag=>(idx ab ae).bind fun ah=>some (ag==ah)) else (some false)).bind fun ai=>some (ai,0)))))
def eQ (N:Nat):Option (Bool):=
 (hU N (⟨([([(⟨0,0,1,1⟩:aI)]: (List aI))]: (List (List aI))),([]: (List aI)),([]: (List bQ)),([(⟨⟨[97]⟩,⟨[49]⟩,0,⟨0,0⟩⟩:cQ)]: (List cQ))⟩:iu) ([]: (List bS)) (⟨⟨[97]⟩,⟨[49]⟩⟩:fN) (⟨⟨[97]⟩,⟨[49]⟩⟩:fN)).bind fun j=>some ((j.2==0)&&j.1)
def kq (N:Nat) (p0_0: (List (List aI))) (p0_1: (List aI)) (p0_2: (List bQ)) (p0_3: (List cQ)) (p0_5: (List aH)) (p0_6: (List (List Int))) (p0_10: (List Int)) (p0_11: (List dF)) (p1: (List Test)) (p2: (List bS)):Option ((List Bool)):=
 (dH N p0_2 p0_3 p0_5 p0_6 p0_10 p0_11 p2).bind fun o=>(iY p1.length (fun(ad:Nat) (j: (List Bool))=>((idx p1 (ad:Int)).bind fun aa=>(dP N (⟨p0_0,p0_1,p0_2,p0_3⟩:iu) aa.A).bind fun ab=>(dP N (⟨p0_0,p0_1,p0_2,p0_3⟩:iu) aa.B).bind fun ae=>((idx o ab).bind fun af=>bif (decide (af>=0)) then ((idx o ab).bind fun ag=>(idx o ae).bind fun ah=>(app 1 j ([(ag==ah)]: (List Bool))).bind fun ai=>some ai) else ((app 1 j ([false]: (List Bool))).bind fun aj=>some aj)).bind fun ak=>some ak:Option ((List Bool)))) ([]: (List Bool))).bind fun j=>some j
def ja (N:Nat) (p0:iu) (p1: (List Test)) (p2: (List bS)):Option ((List Bool)×Int):=
 (hQ N p0 p1).bind fun o=>AF o.1 (bif (o.2 != 0) then (some (([]: (List Bool)),o.2)) else (none)) (fun(j: ((List (List aI))×(List aI)×(List bQ)×(List cQ)×(List (List aA))×(List aH)×(List (List Int))×(List cE)×(List Int)×(List Int)×(List Int)×(List dF)))=>bif (o.2 != 0) then (some (([]: (List Bool)),o.2)) else ((gA N j.1 j.2.1 j.2.2.1 j.2.2.2.1 j.2.2.2.2.1 j.2.2.2.2.2.1 j.2.2.2.2.2.2.1 j.2.2.2.2.2.2.2.1 j.2.2.2.2.2.2.2.2.1 j.2.2.2.2.2.2.2.2.2.1 j.2.2.2.2.2.2.2.2.2.2.1 j.2.2.2.2.2.2.2.2.2.2.2 p2).bind fun aa=>bif (aa != 0) then (some (([]: (List Bool)),aa)) else ((kq N j.1 j.2.1 j.2.2.1 j.2.2.2.1 j.2.2.2.2.2.1 j.2.2.2.2.2.2.1 j.2.2.2.2.2.2.2.2.2.2.1 j.2.2.2.2.2.2.2.2.2.2.2 p1 p2).bind fun ab=>some (ab,0))))
def gW (N:Nat) (p0: (List Bool)) (p1: (List Bool)):Option (Bool):=
 bif ((p0.length:Int) != (p1.length:Int)) then (some false) else ((pF p0.length (fun(j:Nat) (o:Unit)=>((idx p0 (j:Int)).bind fun aa=>(idx p1 (j:Int)).bind fun ab=>bif (aa != ab) then (some (.rt false)) else (some (.nx ())):Option (Fl (Unit) Bool))) ()).bind fun ad=>ad.cs (fun(o:Unit)=>some true) (fun r=>some r))
def o5 (N:Nat) (p0:iu) (p1: (List Test)) (p2: (List Bool)) (p3:Int):Option ((List bS)×Int):=
 (hQ N p0 p1).bind fun o=>AF o.1 (bif (o.2 != 0) then (some (([]: (List bS)),o.2)) else (none)) (fun(j: ((List (List aI))×(List aI)×(List bQ)×(List cQ)×(List (List aA))×(List aH)×(List (List Int))×(List cE)×(List Int)×(List Int)×(List Int)×(List dF)))=>bif (o.2 != 0) then (some (([]: (List bS)),o.2)) else ((kQ N j.1 j.2.1 j.2.2.1 j.2.2.2.1 j.2.2.2.2.1 j.2.2.2.2.2.1 j.2.2.2.2.2.2.1 j.2.2.2.2.2.2.2.1 j.2.2.2.2.2.2.2.2.1 j.2.2.2.2.2.2.2.2.2.1 j.2.2.2.2.2.2.2.2.2.2.1 j.2.2.2.2.2.2.2.2.2.2.2 p3).bind fun aa=>bif (aa.2 != 0) then (some (([]: (List bS)),aa.2)) else (bif ((p2.length:Int) != (p1.length:Int)) then (some (([]: (List bS)),3)) else ((iY aa.1.length (fun(ae:Nat) (ab: (List bS))=>((idx aa.1 (ae:Int)).bind fun ad=>(kq N j.1 j.2.1 j.2.2.1 j.2.2.2.1 j.2.2.2.2.2.1 j.2.2.2.2.2.2.1 j.2.2.2.2.2.2.2.2.2.2.1 j.2.2.2.2.2.2.2.2.2.2.2 p1 ([ad]: (List bS))).bind fun af=>(gW N af p2).bind fun ag=>(bif ag then ((app 40 ab ([ad]: (List bS))).bind fun ah=>some ah) else (some ab)).bind fun ai=>some ai:Option ((List bS)))) ([]: (List bS))).bind fun ab=>some (ab,0)))))
def dL (N:Nat) (p0:iu) (p1: (List Test)) (p2 p3:Int):Option (Bool):=
 (i9 N p0 p2).bind fun j=>(bif ((j.2 != 0)||(decide (p3<0))) then (some true) else (bif (decide (p3>=(j.1.length:Int))) then (some true) else ((jz N p0 p1).bind fun af=>some (af != 0)))).bind fun ag=>bif ag then ((bif (j.2==0) then ((eQ N).bind fun ah=>some ah) else (bif ((j.1.length:Int)==0) then ((eQ N).bind fun ai=>some ai) else (some false))).bind fun aj=>some aj) else ((qC j.1 p3 (IntKind.wrap .i64 (p3+1))).bind fun ak=>(ja N p0 p1 ak).bind fun ab=>bif (ab.2 != 0) then (some false) else ((o5 N p0 p1 ab.1 p2).bind fun aa=>(bif (aa.2 != 0) then (some (aa.1,true)) else ((idx j.1 p3).bind fun al=>(dV N aa.1 al).bind fun an=>some (aa.1,(!an)))).bind fun ad=>bif ad.2 then (some false) else ((nc (fun(o:Int)=>(bif (decide (o< (ad.1.length:Int))) then ((qC ad.1 o (IntKind.wrap .i64 (o+1))).bind fun ao=>(ja N p0 p1 ao).bind fun ae=>(bif (ae.2 != 0) then (some true) else ((gW N ab.1 ae.1).bind fun aq=>some (!aq))).bind fun ar=>bif ar then (some (.rt false)) else (some (.nx (IntKind.wrap .i64 (o+1))))) else (some (.br o)):Option (Fl (Int) Bool))) N 0).bind fun au=>au.cs (fun(o:Int)=>(eQ N).bind fun av=>some av) (fun r=>some r))))
end
end Go.Gk
namespace Go.Gk
open Go
def mJ {R:Type} (m:Nat) (e:Nat->Option R):Option R:=(List.range m).findSome? e
theorem gX {R:Type} {m:Nat} {e:Nat->Option R}:mJ m e=none↔∀k,k<m->e k=none:=by
 simp [mJ]
theorem iU {R:Type} {m:Nat} {e:Nat->Option R} {r:R}:mJ m e=some r↔∃k,k<m/\e k=some r/\∀j,j<k->e j=none:=by
 constructor
 ·intro h
  obtain⟨l1,a,l2,hl,ha,hn⟩:=List.findSome?_eq_some_iff.1 h
  have hlen:l1.length<m:=by have:=congrArg List.length hl;simp at this;omega
  have hget: ∀i,i<l1.length->l1[i]? =some i:=fun i hi=>by
   have:=congrArg (·[i]?) hl
   simp only [fF hi,List.getElem?_range (show i<m by omega)] at this
   exact this.symm
  have hat:a=l1.length:=by
   have:=congrArg (·[l1.length]?) hl
   simp [List.getElem?_range hlen] at this
   exact this.symm
  refine⟨a,by omega,ha,fun j hj=>hn j ?_⟩
  exact gJ (hget j (by omega))
 ·rintro⟨k,hk,he,hn⟩
  refine List.findSome?_eq_some_iff.2 ⟨List.range k,k,(List.range (m - k - 1)).map (· + (k+1)),?_,he,fun x hx=>hn x (kG.1 hx)⟩
  refine List.ext_getElem? fun i=>?_
  by_cases h1:i<k
  ·rw [fF (by simpa using h1),List.getElem?_range (by omega),List.getElem?_range h1]
  ·rw [fA (by simpa using h1),List.length_range]
   by_cases h2:i=k
   ·subst h2;simp [List.getElem?_range hk]
   ·obtain⟨d,rfl⟩: ∃d,i=k+1+d:=⟨i - (k+1),by omega⟩
    rw [show k+1+d - k=d+1 by omega,List.getElem?_cons_succ,il]
    by_cases h3:k+1+d<m
    ·rw [List.getElem?_range h3,List.getElem?_range (by omega)];simp;omega
    ·rw [List.getElem?_eq_none (by simp;omega),List.getElem?_eq_none (by simp;omega)];rfl
theorem E4 {R R':Type} {m:Nat} {e:Nat->Option R} (f:R->R'): (mJ m e).map f=mJ m (fun k=>(e k).map f):=by
 cases hx:mJ m e with
 | none=>exact(gX.2 fun k hk=>by rw [gX.1 hx k hk];rfl).symm
 | some r=>
  obtain⟨k,hk,he,hn⟩:=iU.1 hx
  exact(iU.2 ⟨k,hk,by rw [he];rfl,fun j hj=>by rw [hn j hj];rfl⟩).symm
section
variable {S R:Type}
def DL (o:Option R) (s:S):Fl S R:=match o with | some r=> .rt r | none=> .nx s
def zJ (o:Option R) (s:S):Fo S R:=match o with | some r=> .rt r | none=> .go s
theorem A8 {body:Nat->S->Option (Fl S R)} (F:Nat->S) (e:Nat->Option R) (m:Nat): ∀(n k:Nat),k+n=m->
  (∀j,k<=j->j<m->(∀i,k<=i->i<j->e i=none)->body j (F j)=some (DL (e j) (F (j+1))))->
  ∃o,ze body n k (F k)=some o/\((∀j,k<=j->j<m->e j=none)/\o = .go (F m)\/∃j r,k<=j/\j<m/\e j=some r/\(∀i,k<=i->i<j->e i=none)/\o = .rt r)
 | 0,k,hk,_=>⟨_,rfl, .inl ⟨fun j h1 h2=>by omega,by rw [show k=m by omega]⟩⟩
 | n+1,k,hk,h=>by
  have hb:=h k (bN _) (by omega) (fun i h1 h2=>by omega)
  unfold ze
  rw [hb]
  cases hx:e k with
  | some r=>exact⟨_,rfl, .inr ⟨k,r,bN _,by omega,hx,fun i h1 h2=>by omega,rfl⟩⟩
  | none=>
   obtain⟨o,ho,hc⟩:=A8 F e m n (k+1) (by omega) (fun j h1 h2 h3=>h j (by omega) h2 fun i h4 h5=>by
    by_cases h6:i=k
    ·subst h6;exact hx
    ·exact h3 i (by omega) h5)
   refine⟨o,ho,?_⟩
   rcases hc with ⟨h1,h2⟩ | ⟨j,r,h1,h2,h3,h4,h5⟩
   ·refine .inl ⟨fun j h3 h4=>?_,h2⟩
    by_cases h6:j=k
    ·subst h6;exact hx
    ·exact h1 j (by omega) h4
   ·refine .inr ⟨j,r,by omega,h2,h3,fun i h6 h7=>?_,h5⟩
    by_cases h8:i=k
    ·subst h8;exact hx
    ·exact h4 i (by omega) h7
theorem Gz {body:Nat->S->Option (Fl S R)} {m:Nat} {s:S} (F:Nat->S) (e:Nat->Option R) (hm:m<=4611686018427387904) (hs:F 0=s)
  (h: ∀k,k<m->(∀i,i<k->e i=none)->body k (F k)=some (DL (e k) (F (k+1)))):pF m body s=some (zJ (mJ m e) (F m)):=by
 subst hs
 unfold pF
 rw [aD hm]
 obtain⟨o,ho,hc⟩:=A8 F e m m 0 (by omega) (fun j _ h2 h3=>h j h2 fun i hi=>h3 i (nb _) hi)
 rw [ho]
 rcases hc with ⟨h1,h2⟩ | ⟨j,r,_,h2,h3,h4,h5⟩
 ·rw [gX.2 fun k hk=>h1 k (nb _) hk,h2];rfl
 ·rw [iU.2 ⟨j,h2,h3,fun i hi=>h4 i (nb _) hi⟩,h5];rfl
theorem lY {body:Nat->Unit->Option (Fl Unit R)} {m:Nat} (e:Nat->Option R) (hm:m<=4611686018427387904)
  (h: ∀k,k<m->(∀i,i<k->e i=none)->body k ()=some (DL (e k) ())):pF m body ()=some (zJ (mJ m e) ()):=
 Gz (fun _=>()) e hm rfl h
theorem A9 {body:Nat->S->Option S} (F:Nat->S): ∀(n k:Nat),(∀j,k<=j->j<k+n->body j (F j)=some (F (j+1)))->BS body n k (F k)=some (F (k+n))
 | 0,_,_=>rfl
 | n+1,k,h=>by
  unfold BS
  rw [h k (bN _) (by omega)]
  have:=A9 F n (k+1) (fun j h1 h2=>h j (by omega) (by omega))
  rw [show k+ (n+1)=k+1+n by omega]
  exact this
theorem wx {body:Nat->S->Option S} {m:Nat} {s:S} (F:Nat->S) (hm:m<=4611686018427387904) (hs:F 0=s)
  (h: ∀k,k<m->body k (F k)=some (F (k+1))):iY m body s=some (F m):=by
 subst hs
 unfold iY
 rw [aD hm]
 have:=A9 F m 0 (fun j _ h2=>h j (by omega))
 rwa [fV] at this
theorem tY {body:S->Option (Fl S R)} (Inv:S->Prop) (μ:S->Nat) (Go:S->Prop) (Rt:R->Prop)
  (h: ∀s,Inv s->∃fl,body s=some fl/\match fl with | .nx s'=>Inv s'/\μ s'<μ s | .br s'=>Go s' | .rt r=>Rt r):
  ∀(N:Nat) (s:S),Inv s->μ s<N->∃o,nc body N s=some o/\match o with | .go s'=>Go s' | .rt r=>Rt r
 | 0,s,_,hn=>by omega
 | N+1,s,hi,hn=>by
  obtain⟨fl,hb,hf⟩:=h s hi
  unfold nc
  rw [hb]
  cases fl with
  | nx s'=>exact tY Inv μ Go Rt h N s' hf.1 (by have:=hf.2;omega)
  | br s'=>exact⟨_,rfl,hf⟩
  | rt r=>exact⟨_,rfl,hf⟩
theorem Ba {body:Nat->S->Option (Fl S R)} (Inv:Nat->S->Prop) (Go:S->Prop) (Rt:R->Prop) (m:Nat)
  (h: ∀k s,k<m->Inv k s->∃fl,body k s=some fl/\match fl with | .nx s'=>Inv (k+1) s' | .br s'=>Go s' | .rt r=>Rt r) (hg: ∀s,Inv m s->Go s):
  ∀(n k:Nat) (s:S),k+n=m->Inv k s->∃o,ze body n k s=some o/\match o with | .go s'=>Go s' | .rt r=>Rt r
 | 0,k,s,hk,hi=>⟨_,rfl,hg s (by rw [<-hk];exact hi)⟩
 | n+1,k,s,hk,hi=>by
  obtain⟨fl,hb,hf⟩:=h k s (by omega) hi
  unfold ze
  rw [hb]
  cases fl with
  | nx s'=>exact Ba Inv Go Rt m h hg n (k+1) s' (by omega) hf
  | br s'=>exact⟨_,rfl,hf⟩
  | rt r=>exact⟨_,rfl,hf⟩
theorem GA {body:Nat->S->Option (Fl S R)} {m:Nat} {s:S} (Inv:Nat->S->Prop) (Go:S->Prop) (Rt:R->Prop) (hm:m<=4611686018427387904) (h0:Inv 0 s)
  (h: ∀k s,k<m->Inv k s->∃fl,body k s=some fl/\match fl with | .nx s'=>Inv (k+1) s' | .br s'=>Go s' | .rt r=>Rt r) (hg: ∀s,Inv m s->Go s):
  ∃o,pF m body s=some o/\match o with | .go s'=>Go s' | .rt r=>Rt r:=by
 unfold pF
 rw [aD hm]
 exact Ba Inv Go Rt m h hg m 0 s (by omega) h0
theorem Bb {body:Nat->S->Option S} (Inv:Nat->S->Prop) (m:Nat) (h: ∀k s,k<m->Inv k s->∃s',body k s=some s'/\Inv (k+1) s'):
  ∀(n k:Nat) (s:S),k+n=m->Inv k s->∃s',BS body n k s=some s'/\Inv m s'
 | 0,k,s,hk,hi=>⟨_,rfl,by rw [<-hk];exact hi⟩
 | n+1,k,s,hk,hi=>by
  obtain⟨s',hb,hf⟩:=h k s (by omega) hi
  unfold BS
  rw [hb]
  exact Bb Inv m h n (k+1) s' (by omega) hf
theorem wy {body:Nat->S->Option S} {m:Nat} {s:S} (Inv:Nat->S->Prop) (hm:m<=4611686018427387904) (h0:Inv 0 s)
  (h: ∀k s,k<m->Inv k s->∃s',body k s=some s'/\Inv (k+1) s'): ∃s',iY m body s=some s'/\Inv m s':=by
 unfold iY
 rw [aD hm]
 exact Bb Inv m h m 0 s (by omega) h0
end
section
variable {α β:Type}
theorem aB (x:α) (f:α->Option β): (some x).bind f=f x:=rfl
theorem jq (l:List α) (k:Nat) (h:k<l.length):idx l ((k:Nat):Int)=some l[k]:=by
 unfold idx;rw [aD (by omega),bX,aJ h]
theorem dE {l:List α} {k:Nat} {x:α} (h:l[k]? =some x):idx l ((k:Nat):Int)=some x:=by
 unfold idx;rw [aD (by omega),bX,h]
theorem E5 (s:dD) (k:Nat) (h:k<s.cM.length):Dl s ((k:Nat):Int)=some s.cM[k]:=by
 unfold Dl;rw [aD (by omega),bX,aJ h]
theorem lJ {k:Nat} (h:0<k) (hk:k<=4611686018427387904):IntKind.wrap .i64 (((k:Nat):Int) - 1)= ((k - 1:Nat):Int):=by
 rw [eO (by omega) (by omega)];omega
theorem tZ (l:List α) (k:Nat) (h:k<=l.length):qC l 0 ((k:Nat):Int)=some (l.take k):=by
 unfold qC;rw [aD ⟨by omega,by omega,by omega⟩]
 simp only [Int.toNat_zero,List.drop_zero,Int.sub_zero,bX]
theorem t7 (l:List α) (k:Nat) (h:k<=l.length):qC l ((k:Nat):Int) ((l.length:Nat):Int)=some (l.drop k):=by
 unfold qC;rw [aD ⟨by omega,by omega,by omega⟩]
 simp only [bX,Option.some.injEq]
 rw [ov];rw [gF];omega
theorem gQ {b:Nat} {l ys:List α} (h: (l.length+ys.length)*b<=140737488355328):app b l ys=some (l++ys):=by unfold app;rw [aD h]
theorem pT {b:Nat} (z:α) {n:Nat} (h:n*b<=140737488355328):mk b z ((n:Nat):Int)=some (List.replicate n z):=by
 unfold mk
 have e: ((n:Nat):Int)* ((b:Nat):Int)= ((n*b:Nat):Int):=(Int.natCast_mul n b).symm
 rw [e]
 generalize n*b=q at h ⊢
 rw [aD ⟨by omega,by omega⟩,bX]
end
theorem dD.ext' {a b:dD} (h:a.cM=b.cM):a=b:=by cases a;cases b;simp at h;rw [h]
theorem GB {a b:dD}:a.BQ b=true↔a=b:=by
 unfold dD.BQ;rw [beq_iff_eq];exact⟨dD.ext',fun h=>by rw [h]⟩
theorem vL: ∀(a:List UInt8),Op.bytesLess a a=false
 | []=>rfl
 | a::l=>by
  unfold Op.bytesLess
  rw [vL l];simp
theorem w5: ∀{a b c:List UInt8},Op.bytesLess a b=true->Op.bytesLess b c=true->Op.bytesLess a c=true
 | [],[],_,h,_=>by simp [Op.bytesLess] at h
 | [],_::_,[],_,h=>by simp [Op.bytesLess] at h
 | [],_::_,_::_,_,_=>rfl
 | _::_,[],_,h,_=>by simp [Op.bytesLess] at h
 | _::_,_::_,[],_,h=>by simp [Op.bytesLess] at h
 | a::l,b::m,c::n,h1,h2=>by
  unfold Op.bytesLess at h1 h2 ⊢
  simp only [dQ,bP,bK,beq_iff_eq] at h1 h2 ⊢
  rcases h1 with h1 | ⟨rfl,h1⟩
  ·rcases h2 with h2 | ⟨rfl,h2⟩
   ·exact .inl (UInt8.lt_trans h1 h2)
   ·exact .inl h1
  ·rcases h2 with h2 | ⟨rfl,h2⟩
   ·exact .inl h2
   ·exact .inr ⟨rfl,w5 h1 h2⟩
theorem w6: ∀(a b:List UInt8),Op.bytesLess a b=true\/a=b\/Op.bytesLess b a=true
 | [],[]=> .inr (.inl rfl)
 | [],_::_=> .inl rfl
 | _::_,[]=> .inr (.inr rfl)
 | a::l,b::m=>by
  unfold Op.bytesLess
  simp only [dQ,bP,bK,beq_iff_eq]
  by_cases h1:a<b
  ·exact .inl (.inl h1)
  ·by_cases h2:b<a
   ·exact .inr (.inr (.inl h2))
   ·have e:a=b:=by
     simp only [UInt8.lt_iff_toNat_lt] at h1 h2
     exact UInt8.toNat_inj.1 (by omega)
    subst e
    rcases w6 l m with h | h | h
    ·exact .inl (.inr ⟨rfl,h⟩)
    ·exact .inr (.inl (by rw [h]))
    ·exact .inr (.inr (.inr ⟨rfl,h⟩))
theorem sY: ∀(a b:List UInt8),Lib.compareBytes a b<0↔Op.bytesLess a b=true
 | [],[]=>by simp [Lib.compareBytes,Op.bytesLess]
 | [],_::_=>by simp [Lib.compareBytes,Op.bytesLess]
 | _::_,[]=>by simp [Lib.compareBytes,Op.bytesLess]
 | a::l,b::m=>by
  unfold Lib.compareBytes Op.bytesLess
  simp only [dQ,bP,bK,beq_iff_eq]
  split
  ·simp_all
  ·rename_i h1
   split
   ·rename_i h2
    have h3:a≠b:=fun e=>by subst e;exact h1 h2
    simp [h1,h3]
   ·rename_i h2
    have e:a=b:=by
     simp only [UInt8.lt_iff_toNat_lt] at h1 h2
     exact UInt8.toNat_inj.1 (by omega)
    subst e
    rw [sY l m];simp [h1]
theorem sZ: ∀(a b:List UInt8),Lib.compareBytes a b=0↔a=b
 | [],[]=>by simp [Lib.compareBytes]
 | [],_::_=>by simp [Lib.compareBytes]
 | _::_,[]=>by simp [Lib.compareBytes]
 | a::l,b::m=>by
  unfold Lib.compareBytes
  split
  ·rename_i h1
   have h3:a≠b:=fun e=>by subst e;exact absurd h1 (by simp)
   simp [h3]
  ·rename_i h1
   split
   ·rename_i h2
    have h3:a≠b:=fun e=>by subst e;exact h1 h2
    simp [h3]
   ·rename_i h2
    have e:a=b:=by
     simp only [UInt8.lt_iff_toNat_lt] at h1 h2
     exact UInt8.toNat_inj.1 (by omega)
    subst e
    rw [sZ l m];simp
def dD.lt (a b:dD):Prop:=a.Hs b=true
theorem dD.lt_irrefl (a:dD): ¬dD.lt a a:=by unfold dD.lt dD.Hs;rw [vL];decide
theorem dD.lt_trans {a b c:dD} (h1:dD.lt a b) (h2:dD.lt b c):dD.lt a c:=w5 h1 h2
theorem dD.Bc (a b:dD):dD.lt a b\/a=b\/dD.lt b a:=by
 rcases w6 a.cM b.cM with h | h | h
 ·exact .inl h
 ·exact .inr (.inl (dD.ext' h))
 ·exact .inr (.inr h)
theorem dD.Hk {a b:dD} (h:dD.lt a b):a≠b:=fun e=>by subst e;exact dD.lt_irrefl a h
end Go.Gk
namespace Go.Gk
open Go
class Bk (α:Type) where
 bk:α->Nat
 pos: ∀x,1<=bk x
def bk {α:Type} [Bk α] (x:α):Nat:=Bk.bk x
theorem E6 {α:Type} [Bk α] (x:α):1<=bk x:=Bk.pos x
instance:Bk dD:=⟨fun s=>s.cM.length+1,fun _=>by omega⟩
instance:Bk Int:=⟨fun _=>1,fun _=>by omega⟩
instance:Bk Bool:=⟨fun _=>1,fun _=>by omega⟩
instance {α:Type} [Bk α]:Bk (List α):=⟨fun l=>(l.map bk).sum+1,fun _=>by omega⟩
theorem E7 {α:Type} [Bk α]:bk ([]:List α)=1:=rfl
theorem zK {α:Type} [Bk α] (x:α) (l:List α):bk (x::l)=bk x+bk l:=by
 show (List.map bk (x::l)).sum+1=bk x+ ((List.map bk l).sum+1)
 simp;omega
theorem Cb {α:Type} [Bk α]: ∀{l:List α} {x:α},x∈l->bk x+1<=bk l
 | y::l,x,h=>by
  rw [zK]
  rcases gm.1 h with h | h
  ·subst h;have:=E6 l;omega
  ·have:=Cb h;omega
theorem s8 {α:Type} [Bk α]: ∀(l:List α),l.length+1<=bk l
 | []=>by rw [E7];simp
 | x::l=>by rw [zK,j9];have:=s8 l;have:=E6 x;omega
theorem E8 (s:dD):bk s=s.cM.length+1:=rfl
section
variable {α R:Type}
theorem DM {l:List α} {e:Nat->Option R} (f:α->Option R) (h: ∀k x,l[k]? =some x->e k=f x):mJ l.length e=l.findSome? f:=by
 cases hx:mJ l.length e with
 | none=>
  refine(List.findSome?_eq_none_iff.2 fun x hm=>?_).symm
  obtain⟨k,hk⟩:=fY hm
  rw [<-h k x hk];exact gX.1 hx k (aZ.1 hk).1
 | some r=>
  obtain⟨k,hk,he,hn⟩:=iU.1 hx
  refine(List.findSome?_eq_some_iff.2 ⟨l.take k,l[k],l.drop (k+1),?_,?_,fun y hy=>?_⟩).symm
  ·rw [<-pH hk,List.take_append_drop]
  ·rw [<-h k l[k] (aJ hk)];exact he
  ·obtain⟨j,hj⟩:=fY hy
   have hjk:j<k:=by have:=(aZ.1 hj).1;rw [cZ] at this;omega
   rw [List.getElem?_take_of_lt hjk] at hj
   rw [<-h j y hj];exact hn j hjk
theorem zL (l:List α) (p:α->Bool) (r:R):l.findSome? (fun x=>if p x=true then some r else none)=if l.any p=true then some r else none:=by
 induction l with
 | nil=>simp
 | cons x l ih=>
  rw [List.findSome?_cons,List.any_cons]
  cases h:p x <;> simp [ih]
theorem t8 {l:List α} {body:Nat->Unit->Option (Fl Unit R)} (f:α->Option R) (hl:l.length<=4611686018427387904)
  (h: ∀k x,l[k]? =some x->body k ()=some (DL (f x) ())):pF l.length body ()=some (zJ (l.findSome? f) ()):=by
 have h2:=lY (body:=body) (m:=l.length) (fun k=>(l[k]?).bind f) hl (fun k hk _=>by
  rw [h k l[k] (aJ hk),aJ hk];rfl)
 rw [h2,DM f (fun k x hx=>by rw [hx];rfl)]
theorem GC {l:List α} {body:Nat->Unit->Option (Fl Unit R)} (p:α->Bool) (r:R) (hl:l.length<=4611686018427387904)
  (h: ∀k x,l[k]? =some x->body k ()=some (if p x=true then .rt r else .nx ())):pF l.length body ()=some (if l.any p=true then .rt r else .go ()):=by
 rw [t8 (fun x=>if p x=true then some r else none) hl (fun k x hx=>by rw [h k x hx];cases p x <;> rfl),zL]
 cases l.any p <;> rfl
end
theorem GD {β:Type} (b:Bool) (x y:β): (bif b then some x else some y)=some (bif b then x else y):=by cases b <;> rfl
section
variable {α β:Type}
def CX (l:List α) (p:α->Bool):Int:=match l.findIdx? p with | some k=>((k:Nat):Int) | none=> -1
theorem E9 {l:List α} {p:α->Bool} (h:l.any p=false):CX l p = -1:=by
 unfold CX
 rw [List.findIdx?_eq_none_iff.2]
 intro x hx
 rw [<-ou]
 intro hp
 rw [<-ou] at h
 exact h (kI.2 ⟨x,hx,hp⟩)
theorem Fa {l:List α} {p:α->Bool} {k:Nat} {x:α} (hk:l[k]? =some x) (hp:p x=true) (hn: ∀j y,j<k->l[j]? =some y->p y=false):CX l p= ((k:Nat):Int):=by
 unfold CX
 have hlt:=(aZ.1 hk).1
 have:l.findIdx? p=some k:=by
  rw [List.findIdx?_eq_some_iff_getElem]
  refine⟨hlt,?_,fun j hj=>?_⟩
  ·have:=aJ hlt;rw [hk] at this;injection this with this;rw [<-this];exact hp
  ·have:=hn j l[j] hj (aJ (by omega));simpa using this
 rw [this]
theorem rO (l:List α) (p:α->Bool): (CX l p = -1/\∀x∈l,p x=false)\/∃k x,CX l p= ((k:Nat):Int)/\l[k]? =some x/\p x=true/\∀j y,j<k->l[j]? =some y->p y=false:=by
 unfold CX
 cases h:l.findIdx? p with
 | none=>exact .inl ⟨rfl,fun x hx=>by have:=List.findIdx?_eq_none_iff.1 h x hx;simpa using this⟩
 | some k=>
  obtain⟨hk,hp,hn⟩:=List.findIdx?_eq_some_iff_getElem.1 h
  refine .inr ⟨k,l[k],rfl,aJ hk,hp,fun j y hj hy=>?_⟩
  have:=hn j hj
  rw [aJ (by omega)] at hy
  injection hy with hy
  subst hy;simpa using this
theorem Fb (l:List α) (p:α->Bool):decide (CX l p>=0)=l.any p:=by
 rcases rO l p with ⟨h,hn⟩ | ⟨k,x,h,hx,hp,_⟩
 ·rw [h,List.any_eq_false.2 (fun x hx=>by rw [hn x hx];decide)];decide
 ·rw [h,kI.2 ⟨x,gJ hx,hp⟩];simp
def pU (p0:List α) (p1:α->Option Bool):Option Int:=
 (pF p0.length (fun(k1:Nat) (_:Unit)=>((idx p0 ((k1:Nat):Int)).bind fun x7=>(p1 x7).bind fun x10=>bif x10 then (some (.rt ((k1:Nat):Int))) else (some (.nx ())):Option (Fl (Unit) Int))) ()).bind fun o11=>o11.cs (fun(_:Unit)=>some (-1)) (fun r=>some r)
theorem oQ {l:List α} {φ:α->Option Bool} (p:α->Bool) (hl:l.length<=4611686018427387904) (h: ∀x∈l,φ x=some (p x)):pU l φ=some (CX l p):=by
 unfold pU
 rw [lY (fun k=>(l[k]?).bind fun x=>if p x=true then some ((k:Nat):Int) else none) hl (fun k hk _=>by
  rw [jq l k hk,aB,h _ (cI hk),aB,aJ hk]
  cases hp:p l[k] <;> simp [DL,hp]),aB]
 rcases rO l p with ⟨h1,h2⟩ | ⟨k,x,h1,h2,h3,h4⟩
 ·rw [gX.2 (fun k hk=>by rw [aJ hk];simp [h2 _ (cI hk)])]
  simp [zJ,Fo.cs,h1]
 ·rw [(iU (r:=((k:Nat):Int))).2 ⟨k,(aZ.1 h2).1,by rw [h2];simp [h3],fun j hj=>by
   cases hy:l[j]? with
   | none=>rfl
   | some y=>simp [h4 j y hj hy]⟩]
  simp [zJ,Fo.cs,h1]
def oR (p0:List α) (p1:α->Option Bool):Option Bool:=
 (pU p0 p1).bind fun x1=>some (decide (x1>=0))
theorem ph {l:List α} {φ:α->Option Bool} (p:α->Bool) (hl:l.length<=4611686018427387904) (h: ∀x∈l,φ x=some (p x)):oR l φ=some (l.any p):=by
 unfold oR
 rw [oQ p hl h,aB,Fb]
def Fc [DecidableEq α] (p0:List α) (p1:α):Option Int:=
 (pF p0.length (fun(k2:Nat) (_:Unit)=>((idx p0 ((k2:Nat):Int)).bind fun x12=>bif (decide (p1=x12)) then (some (.rt ((k2:Nat):Int))) else (some (.nx ())):Option (Fl (Unit) Int))) ()).bind fun o18=>o18.cs (fun(_:Unit)=>some (-1)) (fun r=>some r)
theorem DN [DecidableEq α] {l:List α} {a:α} (hl:l.length<=4611686018427387904):Fc l a=some (CX l (fun x=>decide (a=x))):=by
 have:=oQ (l:=l) (φ:=fun x=>some (decide (a=x))) (fun x=>decide (a=x)) hl (fun _ _=>rfl)
 rw [<-this];rfl
def rP [DecidableEq α] (p0:List α) (p1:α):Option Bool:=(Fc p0 p1).bind fun x3=>some (decide (x3>=0))
theorem t9 [DecidableEq α] {l:List α} {a:α} (hl:l.length<=4611686018427387904):rP l a=some (decide (a∈l)):=by
 unfold rP
 rw [DN hl,aB,Fb,Option.some.injEq,fX]
 simp
def Cc [DecidableEq α] (p0 p1:List α):Option Bool:=
 bif (((p0.length:Nat):Int) != ((p1.length:Nat):Int)) then (some false) else ((pF p0.length (fun(k1:Nat) (_:Unit)=>((idx p0 ((k1:Nat):Int)).bind fun x13=>(idx p1 ((k1:Nat):Int)).bind fun x16=>bif (!(decide (x13=x16))) then (some (.rt false)) else (some (.nx ())):Option (Fl (Unit) Bool))) ()).bind fun o23=>o23.cs (fun(_:Unit)=>some true) (fun r=>some r))
theorem yK [DecidableEq α] {l m:List α} (hl:l.length<=4611686018427387904):Cc l m=some (decide (l=m)):=by
 unfold Cc
 by_cases h:l.length=m.length
 ·have e: (((l.length:Nat):Int) != ((m.length:Nat):Int))=false:=by rw [h];simp
  rw [e,aQ]
  rw [lY (fun k=>if l[k]? =m[k]? then none else some false) hl (fun k hk _=>by
   rw [jq l k hk,aB,jq m k (by omega),aB,aJ hk,aJ (by omega:k<m.length)]
   by_cases hx:l[k]=m[k] <;> simp [DL,hx]),aB]
  by_cases hx:l=m
  ·subst hx;rw [gX.2 (fun k _=>aD rfl)];simp [zJ,Fo.cs]
  ·have: ∃r,mJ l.length (fun k=>if l[k]? =m[k]? then none else some false)=some r:=by
    cases hf:mJ l.length (fun k=>if l[k]? =m[k]? then none else some false) with
    | some r=>exact⟨r,rfl⟩
    | none=>
     exfalso;refine hx (List.ext_getElem? fun i=>?_)
     by_cases hi:i<l.length
     ·have:=gX.1 hf i hi
      by_cases h6:l[i]? =m[i]?
      ·exact h6
      ·rw [aC h6] at this;cases this
     ·rw [List.getElem?_eq_none (by omega),List.getElem?_eq_none (by omega)]
   obtain⟨r,hr⟩:=this
   have hr2:r=false:=by
    obtain⟨k,_,hk,_⟩:=iU.1 hr
    split at hk
    ·cases hk
    ·injection hk with hk;exact hk.symm
   rw [hr,hr2];simp [zJ,Fo.cs,hx]
 ·have e: (((l.length:Nat):Int) != ((m.length:Nat):Int))=true:=by simp;omega
  rw [e,aR,bE (fun h'=>h (by rw [h']))]
def Fe (key:α->dD) (l:List α):Prop:=∀(i j:Nat) (x y:α),i<j->l[i]? =some x->l[j]? =some y->dD.lt (key x) (key y)
theorem Fe.inj {key:α->dD} {l:List α} (h:Fe key l) {i j:Nat} {x y:α} (hx:l[i]? =some x) (hy:l[j]? =some y) (e:key x=key y):i=j:=by
 rcases Nat.lt_trichotomy i j with h1 | h1 | h1
 ·exact absurd e (dD.Hk (h i j x y h1 hx hy))
 ·exact h1
 ·exact absurd e.symm (dD.Hk (h j i y x h1 hy hx))
def Ff (N:Nat) (p0:List α) (p1:β) (p2:α->β->Option Int):Option (Int×Bool):=
 (nc (fun(s2:Int×Int)=>(bif (decide (s2.1<s2.2)) then ((idx p0 (IntKind.wrap .i64 (Int.fdiv (IntKind.wrap .u64 (IntKind.wrap .i64 (s2.1+s2.2))) 2))).bind fun x13=>(p2 x13 p1).bind fun x16=>(bif (decide (x16<0)) then (some ((IntKind.wrap .i64 ((IntKind.wrap .i64 (Int.fdiv (IntKind.wrap .u64 (IntKind.wrap .i64 (s2.1+s2.2))) 2))+1)),s2.2)) else (some (s2.1,(IntKind.wrap .i64 (Int.fdiv (IntKind.wrap .u64 (IntKind.wrap .i64 (s2.1+s2.2))) 2))))).bind fun s17=>some (.nx (s17.1,s17.2))) else (some (.br (s2.1,s2.2))):Option (Fl (Int×Int) Empty))) N (0,((p0.length:Nat):Int))).bind fun o29=>o29.cs (fun(s2:Int×Int)=>(bif (decide (s2.1< ((p0.length:Nat):Int))) then ((idx p0 s2.1).bind fun x25=>(p2 x25 p1).bind fun x28=>some (x28==0)) else (some false)).bind fun s23=>some (s2.1,s23)) (fun r=>r.elim)
theorem DO {a b:Nat} (h:a<b) (hb:b<=4611686018427387904):IntKind.wrap .i64 (Int.fdiv (IntKind.wrap .u64 (IntKind.wrap .i64 (((a:Nat):Int)+ ((b:Nat):Int)))) 2)= (((a+b) / 2:Nat):Int):=by
 rw [eO (x:=((a:Nat):Int)+ ((b:Nat):Int)) (by omega) (by omega)]
 have e:IntKind.wrap .u64 (((a:Nat):Int)+ ((b:Nat):Int))= ((a+b:Nat):Int):=by
  show ((a:Int)+b) % 18446744073709551616=_
  omega
 rw [e,Int.fdiv_eq_ediv_of_nonneg _ (by omega),eO (by omega) (by omega)]
 omega
end
end Go.Gk
namespace Go.Gk
open Go Go.ChangeShapes Go.WideShapes Go.RowKit
structure UB (ub: (H:Type)->DataW H->Nat) (ua: (H:Type)->List (DataW H)->Nat):Prop where
 str: ∀(H:Type) (b:List UInt8),ub H (.lit (.string b))=b.length+1
 pos: ∀(H:Type) (d:DataW H),1<=ub H d
 sl: ∀(H:Type) (e s:List (DataW H)),ub H (.slice e s)=ua H e+ua H s+1
 ag: ∀(H:Type) (l:List (DataW H)),ub H (.agg l)=ua H l+1
 nil: ∀(H:Type),ua H []=0
 cons: ∀(H:Type) (x:DataW H) (l:List (DataW H)),ua H (x::l)=ub H x+ua H l
def Hw (w:World):dI:=fun b=>w.heap[b]?
structure iz (ub: (H:Type)->DataW H->Nat) (P:Program) (T:TypeId) (α:Type) [GT α] [Bk α]:Prop where
 trod: ∀{H:Type} {enc:TypeId×Value->H} {w:World} {base:Nat} {spare:Nat->Bool} {held:Bool} {fuel:Nat} {cs:List Value} {d:DataW H×List MemPlace},
  DataW.trod enc P w base spare held fuel T cs=some d->∃x:α,GT.ok (Hw w) cs x/\bk x<=ub H d.1
 JR: ∀{w:World} {r:Reach} {base:Nat} {v:Value},Value.okWide P w r base T v->v=qE α v.cells.toList
section
variable {ub: (H:Type)->DataW H->Nat} {ua: (H:Type)->List (DataW H)->Nat} {P:Program} {T e:TypeId}
theorem DQ (u:UB ub ua) (ht:P.underlying T=some (.int .i64)):iz ub P T Int where
 trod:=fun h=>by
  obtain⟨n,rfl,rfl,_⟩:=DataW.trod_int ht h
  exact⟨n,rfl,u.pos _ _⟩
 JR:=fun h=>by obtain⟨n,rfl⟩:=okWide_int ht h;rfl
theorem Cd (u:UB ub ua) (ht:P.underlying T=some .bool):iz ub P T Bool where
 trod:=fun h=>by
  obtain⟨n,rfl,rfl⟩:=DataW.trod_bool ht h
  exact⟨n,rfl,u.pos _ _⟩
 JR:=fun h=>by obtain⟨n,rfl⟩:=okWide_bool ht h;rfl
theorem DR (u:UB ub ua) (ht:P.underlying T=some .string):iz ub P T dD where
 trod:=fun h=>by
  obtain⟨s,rfl,rfl,_⟩:=DataW.trod_string ht h
  refine⟨⟨s.data.toList⟩,?_,?_⟩
  ·show [Value.string s]= [Gk.str ⟨s.data.toList⟩]
   cases s;rfl
  ·rw [u.str];exact bN _
 JR:=fun h=>by obtain⟨n,rfl⟩:=okWide_string ht h;rfl
theorem vM {α:Type} {R:Nat->α->Prop}: ∀(n:Nat),(∀i,i<n->∃x,R i x)->∃l:List α,l.length=n/\∀i x,l[i]? =some x->R i x
 | 0,_=>⟨[],rfl,fun i x h=>by simp at h⟩
 | n+1,h=>by
  obtain⟨l,h1,h2⟩:=vM n (fun i hi=>h i (by omega))
  obtain⟨x,hx⟩:=h n (by omega)
  refine⟨l++[x],by simp [h1],fun i y hy=>?_⟩
  by_cases hi:i<n
  ·rw [fF (by omega)] at hy;exact h2 i y hy
  ·have:=(aZ.1 hy).1
   rw [dS] at this
   have:i=n:=by simp at this;omega
   subst this
   rw [fA (by omega),h1] at hy
   simp at hy;subst hy;exact hx
theorem yL {H α:Type} [Bk α] (u:UB ub ua): ∀{l:List α} {es:List (DataW H×List MemPlace)},l.length=es.length->
  (∀(i:Nat) (x:α) (y:DataW H×List MemPlace),l[i]? =some x->es[i]? =some y->bk x<=ub H y.1)->bk l<=ua H (es.map (·.1))+1
 | [],[],_,_=>by rw [E7];omega
 | x::l,y::es,hl,h=>by
  have h1:=h 0 x y rfl rfl
  have h2:=yL (H:=H) u (l:=l) (es:=es) (by simpa using hl) (fun i x y hx hy=>h (i+1) x y (by simpa using hx) (by simpa using hy))
  rw [zK,eH,u.cons];omega
theorem Be {w:World} {base:Nat} {a:Addr} {n:Nat} {cs:List Value} (h:w.cells? base a n=some cs):At (Hw w) a cs:=by
 intro j v hv
 obtain⟨_,hlen,hc⟩:=World.cells?_some h
 have hj:=(aZ.1 hv).1
 have h2:=hc j (by omega)
 rw [hv] at h2
 unfold tB Hw
 unfold World.cell? at h2
 exact h2
theorem nO {α:Type} [GT α] [Bk α] (u:UB ub ua) (he:iz ub P e α) (ht:P.underlying T=some (.slice e):=by kernel_rfl) (hc:P.cellsOf e=GT.sz α:=by kernel_rfl):iz ub P T (List α) where
 trod:=fun{H enc w base spare held fuel cs d} h=>by
  rcases DataW.trod_slice ht h with ⟨rfl,rfl⟩ | ⟨a,len,cap,elems,rest,n,_,rfl,rfl,_,hlc,hcm,hlen,hel,_⟩
  ·exact⟨[],⟨_,rfl,none,0,0,rfl,rfl,bN _,by simp [maxLen],fun i x hx=>by simp at hx⟩,u.pos _ _⟩
  ·have each: ∀i,i<len->∃x:α,(∃c y,GT.ok (Hw w) c x/\At (Hw w) (a.add (i*GT.sz α)) c/\elems[i]? =some y/\bk x<=ub H y.1):=by
    intro i hi
    have h1:=hel i hi
    rw [aJ (by omega:i<elems.length),Option.bind_eq_some_iff] at h1
    obtain⟨c,h2,h3⟩:=h1
    obtain⟨x,h4,h5⟩:=he.trod h3
    refine⟨x,c,_,h4,?_,aJ (by omega),h5⟩
    rw [hc] at h2
    exact Be h2
   obtain⟨l,hl,hr⟩:=vM len each
   refine⟨l,⟨_,rfl,some a,len,cap,rfl,hl.symm,hlc,hcm,fun i x hx=>?_⟩,?_⟩
   ·obtain⟨c,y,h1,h2,_⟩:=hr i x hx
    exact⟨a,c,rfl,h1,h2⟩
   ·have:=yL (H:=H) u (l:=l) (es:=elems) (by omega) (fun i x y hx hy=>by
     obtain⟨c,y',_,_,h3,h4⟩:=hr i x hx
     rw [hy] at h3;injection h3 with h3;subst h3;exact h4)
    rw [u.sl];omega
 JR:=fun h=>by obtain⟨a,n,c,rfl⟩:=okWide_slice ht h;rfl
def CY (ub: (H:Type)->DataW H->Nat) (ua: (H:Type)->List (DataW H)->Nat) (P:Program) (off:Nat) (fs:List Field) (β:Type) [GT β] (m:β->Nat):Prop:=
 ∀{H:Type} {enc:TypeId×Value->H} {w:World} {base:Nat} {spare:Nat->Bool} {held:Bool} {n:Nat} {cs:List Value} {ys:List (DataW H×List MemPlace)},
  (∀(i:Nat) (f:Field),fs[i]? =some f->DataW.trod enc P w base spare held n f.type ((cs.drop f.offset).take (P.cellsOf f.type))=ys[i]?)->ys.length=fs.length->
  cs.length=off+GT.sz β->∃x:β,GT.ok (Hw w) (cs.drop off) x/\m x<=ua H (ys.map (·.1))
theorem mu {β:Type} [GT β] [Bk β] {off:Nat} {f:Field} (u:UB ub ua) (h:iz ub P f.type β) (ho:f.offset=off:=by exact rfl) (hc:P.cellsOf f.type=GT.sz β:=by kernel_rfl):CY ub ua P off [f] β bk:=by
 intro H enc w base spare held n cs ys hf hl hcs
 match ys,hl with
 | [y],_=>
  have h1:=hf 0 f rfl
  rw [ho,hc,ov (by rw [gF];omega)] at h1
  obtain⟨x,h2,h3⟩:=h.trod (d:=y) h1
  exact⟨x,h2,by rw [eH,u.cons];omega⟩
theorem eR {α β:Type} [GT α] [GT β] [Bk α] {off off':Nat} {f:Field} {fs:List Field} {m:β->Nat} (u:UB ub ua) (h:iz ub P f.type α) (hr:CY ub ua P off' fs β m) (ho:f.offset=off:=by exact rfl) (hc:P.cellsOf f.type=GT.sz α:=by kernel_rfl) (hoff:off'=off+GT.sz α:=by exact rfl):CY ub ua P off (f::fs) (α×β) (fun x=>bk x.1+m x.2):=by
 intro H enc w base spare held n cs ys hf hl hcs
 have hsz:GT.sz (α×β)=GT.sz α+GT.sz β:=rfl
 match ys,hl with
 | y::ys,hl=>
  have h1:=hf 0 f rfl
  rw [ho,hc] at h1
  obtain⟨x,h2,h3⟩:=h.trod (d:=y) h1
  obtain⟨x',h4,h5⟩:=hr (n:=n) (cs:=cs) (ys:=ys) (fun i g hg=>hf (i+1) g hg) (by simpa using hl) (by omega)
  refine⟨(x,x'),⟨_,_,?_,h2,h4⟩,?_⟩
  ·rw [hoff,<-List.drop_drop,List.take_append_drop]
  ·rw [eH,u.cons];show bk x+m x'<=_;omega
theorem jN {γ β:Type} [GT β] [Bk γ] {fs:Array Field} {m:β->Nat} (u:UB ub ua) (f:γ->β) (g:β->γ) (hfg: ∀b,f (g b)=b) (ht:P.underlying T=some (.struct fs)) (h:CY ub ua P 0 fs.toList β m) (hm: ∀b,bk (g b)<=m b+1) (hc:P.cellsOf T=GT.sz β:=by kernel_rfl): @iz ub P T γ (GT.via f) _:=
 @iz.mk ub P T γ (GT.via f) _
  (fun{H enc w base spare held fuel cs d} hd=>by
   obtain⟨xs,n,_,rfl,hl,hlen,hf⟩:=DataW.trod_struct ht hd
   obtain⟨b,h1,h2⟩:=h (n:=n) (cs:=cs) (ys:=xs) (fun i g hg=>hf i g (by rw [<-Array.getElem?_toList];exact hg)) (by rw [hlen];simp) (by omega)
   refine⟨g b,?_,?_⟩
   ·show GT.ok (Hw w) cs (f (g b))
    rw [hfg];exact h1
   ·rw [u.ag];have:=hm b;omega)
  (fun hv=>by
   obtain⟨cs,rfl,_⟩:=okWide_struct ht hv
   cases cs;rfl)
theorem iz.arg {H:Type} {enc:TypeId×Value->H} {w:World} {base:Nat} {spare:Nat->Bool} {held:Bool} {r:Reach} {b0:Nat} {v:Value} {d:DataW H} {ps:List MemPlace} {α:Type} [GT α] [Bk α] (o:iz ub P T α)
  (hv:Value.okWide P w r b0 T v) (hd:DataW.Trod enc P w base spare held T v d ps): ∃x:α,sM (Hw w) v x/\bk x<=ub H d:=by
 obtain⟨fuel,hf⟩:=hd
 obtain⟨x,h1,h2⟩:=o.trod hf
 exact⟨x,⟨_,o.JR hv,h1⟩,h2⟩
theorem iz.JS {H:Type} {enc:TypeId×Value->H} {w:World} {base:Nat} {spare:Nat->Bool} {held:Bool} {r:Reach} {b0:Nat} {v:Value} {d:DataW H} {ps:List MemPlace} {α:Type} [Sc α] [Bk α] (o:iz ub P T α)
  (hv:Value.okWide P w r b0 T v) (hd:DataW.Trod enc P w base spare held T v d ps): ∃x:α,v=Sc.toV x/\bk x<=ub H d:=by
 obtain⟨x,h1,h2⟩:=o.arg hv hd
 exact⟨x,zb.1 h1,h2⟩
end
theorem Calls.fin {P:Program} {f:FuncId} {args:Array Value} {w:World} {R Q:Value->World->Prop} (h:Calls P f args w (gH R)) (k: ∀v w',R v w'->Q v w'):
  Calls P f args w (fun e W'=>∃v,e = .returned v/\Q v W'):=Calls.mono h fun _ w' ⟨v,e,hr⟩=>⟨v,e,k v w' hr⟩
def jO (W:World):HP:=⟨fun M h=>hle (Hw W) M/\h=oc,fun k ⟨a,b⟩=>⟨Dh a k,b⟩⟩
theorem Holds.begin (W:World):Holds W W [jO W]:=by
 refine⟨Hw W,fun _=>oc,⟨rfl,rfl,rfl,bN _,fun b o h=>h,fun i Pr hq=>?_,fun _ _ _ _ h=>(by cases h),fun _ _ _ _ h=>(by cases h),fun _ _ _ _ _ _ _ h=>(by cases h)⟩⟩
 match i,hq with
 | 0,hq=>simp at hq;subst hq;exact⟨Em _,rfl⟩
theorem Holds.Hl {α:Type} [GT α] {W:World} {V:List HP} {v:Value} {x:α} (h:Holds W W (V++[jO W])) (hv:Gk.sM (Hw W) v x):Holds W W (rd v x::(V++[jO W])):=
 h.xV fun M hs g=>by
  have h1:=(g.sat V.length (jO W) (by simp)).1
  exact⟨hv.mono h1,rfl⟩
theorem Holds.kept {E W w:World} {V:List HP} (h:Holds E w (V++[jO W])) (he:E=W):Below W.heap.size W w:=by
 subst he
 obtain⟨M,hs,g⟩:=h
 have h1:=(g.sat V.length (jO E) (by simp)).1
 have h2: ∀k o,E.heap[k]? =some o->w.heap[k]? =some o:=fun k o ho=>g.im k o (h1 k o ho)
 refine⟨g.os,g.tape,g.out,?_,fun k hk=>?_⟩
 ·by_cases h0:E.heap.size=0
  ·omega
  ·have h3:=h2 (E.heap.size - 1) _ (fE (by omega))
   have:=(Array.getElem?_eq_some_iff.1 h3).1
   omega
 ·rw [fE hk];exact h2 k _ (fE hk)
section
variable {H:Type} {enc:TypeId×Value->H} {P:Program}
theorem DS {f:Func} {s:ChangeSpec} {apart fresh handsOn again:Bool} {W W':World} {args:Array Value} {v:Value} {ds gs:List (DataW H)} {before pa pv:List MemPlace}
  (hW:DataW.Whole enc P f.params.toList s.vars apart W args.toList ds gs before)
  (hres: ∀(b:Nat) (sp:Nat->Bool) (hd:Bool),DataW.TrodAll enc P W' b sp hd f.resultTypes.toList (v.resultList f.resultTypes.size) (s.fn H (ds++gs)).results [])
  (hargs: ∀sp:Nat->Bool,(∀p∈before,sp p.block=true)->DataW.TrodAll enc P W' 0 sp true f.params.toList args.toList (s.fn H (ds++gs)).args pa)
  (hvars: ∀sp:Nat->Bool,(∀p∈before,sp p.block=true)->DataW.TrodVars enc P W' sp s.vars (s.fn H (ds++gs)).vars pv)
  (hps:before=pa++pv) (hb:Below W.heap.size W W')
  (hok: ∀(j:Nat) (t:TypeId) (r:Value),f.resultTypes[j]? =some t->(v.resultList f.resultTypes.size)[j]? =some r->Value.okWide P W' .any 0 t r):
  s.post enc P f apart fresh handsOn again W args v W':=by
 have hlt: ∀p∈before,p.block<W.heap.size:=fun p hp=>hW.lt p hp
 have hold: ∀p∈before,(fun b=>decide (b<W.heap.size)) p.block=true:=fun p hp=>by simpa using hlt p hp
 refine⟨ds,gs,before,[],pa,pv,hW,hres _ _ _,hargs _ hold,hvars _ hold,World.keptBut_mono (fun p hp=>⟨hp,?_⟩) (hb.frame (· ∈before)),fun _=>?_⟩
 ·rw [hps,cR] at hp
  exact Or.inr hp
 ·obtain⟨_,_,_,_,_,hz,hn⟩:=hW
  refine⟨hok,_,_,([]++pa)++pv,⟨[]++pa,pv,trodAll_append (hargs _ (fun _ _=>rfl)) (hres _ _ _),hvars _ (fun _ _=>rfl),rfl,?_,?_⟩,?_⟩
  ·intro b off hp
   have hin:MemPlace.cell b off∈before:=by rw [hps];simpa using hp
   rw [hb.frozen (hlt _ hin)]
   exact hz b off hin
  ·intro ha
   have:=hn ha
   rw [hps] at this
   simpa using this
  ·intro p hp _
   rw [hps]
   simpa using hp
theorem sE {W W':World} (hl:laidOutB P=true) (hb:Below W.heap.size W W') {sp:Nat->Bool}: ∀{ts:List TypeId} {vs:List Value} {ds:List (DataW H)} {ps:List MemPlace},
  (∀t∈ts,P.readableRec t=true/\t<P.types.size)->DataW.TrodAll enc P W 0 (fun _=>true) true ts vs ds ps->(∀p∈ps,p.block<W.heap.size)->(∀p∈ps,sp p.block=true)->DataW.TrodAll enc P W' 0 sp true ts vs ds ps
 | [],_,_,_,_,h,_,_=>by
  obtain⟨rfl,rfl,rfl⟩:=trodAll_nil h
  rfl
 | t::ts,_,_,_,ht,h,hlt,hsp=>by
  obtain⟨v,vs,d,ds,p,q,rfl,rfl,rfl,h1,h2⟩:=trodAll_cons h
  refine⟨p,q,?_,sE hl hb (fun t h=>ht t (by simp [h])) h2 (fun x hx=>hlt x (by simp [hx])) (fun x hx=>hsp x (by simp [hx])),rfl⟩
  exact WideElems.Trod_stays hl (ht t (by simp)).1 (ht t (by simp)).2 h1 (fun x hx=>hb.same (hlt x (by simp [hx]))) (fun x hx=>hsp x (by simp [hx]))
end
end Go.Gk
namespace Go.Gk
open Go
instance:Bk aI:=⟨fun x=>bk x.X0+bk x.Y0+bk x.X1+bk x.Y1+1,fun _=>by omega⟩
theorem GF (x:aI):bk x=bk x.X0+bk x.Y0+bk x.X1+bk x.Y1+1:=rfl
instance:Bk eK:=⟨fun x=>bk x.X+bk x.Y+1,fun _=>by omega⟩
theorem Fg (x:eK):bk x=bk x.X+bk x.Y+1:=rfl
instance:Bk bQ:=⟨fun x=>bk x.At+bk x.eU+bk x.bR+bk x.To+bk x.gL+1,fun _=>by omega⟩
theorem GG (x:bQ):bk x=bk x.At+bk x.eU+bk x.bR+bk x.To+bk x.gL+1:=rfl
instance:Bk cQ:=⟨fun x=>bk x.Part+bk x.fN+bk x.cU+bk x.At+1,fun _=>by omega⟩
theorem CZ (x:cQ):bk x=bk x.Part+bk x.fN+bk x.cU+bk x.At+1:=rfl
instance:Bk iu:=⟨fun x=>bk x.aK+bk x.dA+bk x.aT+bk x.bD+1,fun _=>by omega⟩
theorem Fh (x:iu):bk x=bk x.aK+bk x.dA+bk x.aT+bk x.bD+1:=rfl
instance:Bk fN:=⟨fun x=>bk x.Part+bk x.fN+1,fun _=>by omega⟩
theorem H0 (x:fN):bk x=bk x.Part+bk x.fN+1:=rfl
instance:Bk Test:=⟨fun x=>bk x.A+bk x.B+bk x.Joined+1,fun _=>by omega⟩
theorem GH (x:Test):bk x=bk x.A+bk x.B+bk x.Joined+1:=rfl
instance:Bk aA:=⟨fun x=>bk x.Y0+bk x.Y1+bk x.Xs+1,fun _=>by omega⟩
instance:Bk aH:=⟨fun x=>bk x.cU+bk x.Set+bk x.iO+1,fun _=>by omega⟩
instance:Bk cE:=⟨fun x=>bk x.mT+bk x.aT+bk x.gM+1,fun _=>by omega⟩
instance:Bk dF:=⟨fun x=>bk x.bQ+bk x.Number+1,fun _=>by omega⟩
instance:Bk bS:=⟨fun x=>bk x.Open+bk x.dF+bk x.A+bk x.B+1,fun _=>by omega⟩
instance:Bk pG:=⟨fun x=>bk x.A+bk x.B+bk x.ij+bk x.bR+bk x.To+1,fun _=>by omega⟩
instance:Bk sQ:=⟨fun x=>bk x.Is+bk x.G1+1,fun _=>by omega⟩
instance:Bk Touch:=⟨fun x=>bk x.Test+bk x.HG+bk x.ED+1,fun _=>by omega⟩
end Go.Gk
namespace Go.Gk
open Go Go.Sort
section
variable {α:Type}
theorem vN {β:Type} (a:Array β) {n:Nat} (h:a.size=n):a.extract 0 n=a:=by subst h;exact Array.extract_size
theorem H2 {φ:α->α->Option Int} {l:List α} (cf:α->α->Int) (hφ: ∀x∈l,∀y∈l,φ x y=some (cf x y)) (h1: ∀x∈l,¬cf x x<0)
  (h2: ∀x∈l,∀y∈l,∀z∈l,cf x y<0->cf y z<0->cf x z<0) (h3: ∀x∈l,∀y∈l,∀z∈l,¬cf x y<0->¬cf y z<0->¬cf x z<0):SWO (F8 (AJ φ l)):=by
 have hm: ∀i:Fin l.length,l[i]∈l:=fun i=>cI i.isLt
 have e: ∀i j:Fin l.length,AJ φ l i j=cf l[i] l[j]:=fun i j=>by unfold AJ;rw [hφ _ (hm i) _ (hm j)];rfl
 refine⟨fun x=>?_,fun x y z=>?_,fun x y z=>?_⟩
 ·simp only [F8,e,decide_eq_false_iff_not];exact h1 _ (hm _)
 ·simp only [F8,e,decide_eq_true_iff];exact h2 _ (hm _) _ (hm _) _ (hm _)
 ·simp only [F8,e,decide_eq_false_iff_not];exact h3 _ (hm _) _ (hm _) _ (hm _)
theorem xe {φ:α->α->Option Int} {l:List α} (cf:α->α->Int) (hφ: ∀x∈l,∀y∈l,φ x y=some (cf x y)) (h1: ∀x∈l,¬cf x x<0)
  (h2: ∀x∈l,∀y∈l,∀z∈l,cf x y<0->cf y z<0->cf x z<0) (h3: ∀x∈l,∀y∈l,∀z∈l,¬cf x y<0->¬cf y z<0->¬cf x z<0) (hl:l.length<4611686018427387904):
  ∃m,tI φ l=some m/\m.Perm l/\m.Pairwise (fun x y=>¬cf y x<0):=by
 have hO:=H2 cf hφ h1 h2 h3
 have hm: ∀i:Fin l.length,l[i]∈l:=fun i=>cI i.isLt
 have hc: (∀i j:Fin l.length,∃c,φ l[i] l[j]=some c):=fun i j=>⟨_,hφ _ (hm i) _ (hm j)⟩
 refine⟨CJ φ l,by unfold tI;rw [aD ⟨⟨hc,hO⟩,hl⟩],?_⟩
 unfold CJ
 by_cases hn:0<l.length
 ·rw [dif_pos hn]
  letI inh:Inhabited (Fin l.length):=⟨⟨0,hn⟩⟩
  have hds: (Array.ofFn fun i:Fin l.length=>i).size=l.length:=by simp
  obtain⟨hp,hs⟩:=pdq_sorts (F8 (AJ φ l)) hO (Array.ofFn fun i:Fin l.length=>i) 0 l.length (Lib.bitLen l.length) true true (nb _) (by rw [hds];exact bN _) (Or.inl rfl)
  show (List.map (fun i=>l[i]) (pdq (F8 (AJ φ l)) (Array.ofFn fun i:Fin l.length=>i) 0 l.length (Lib.bitLen l.length) true true).toList).Perm l/\_
  generalize pdq (F8 (AJ φ l)) (Array.ofFn fun i:Fin l.length=>i) 0 l.length (Lib.bitLen l.length) true true=d' at hp hs
  obtain⟨hz,_,hpm⟩:=hp
  have hz':d'.size=l.length:=hz.trans hds
  rw [vN d' hz',vN _ hds] at hpm
  have hof: (Array.ofFn fun i:Fin l.length=>i).toList.map (fun i=>l[i])=l:=by
   rw [Array.toList_ofFn,List.map_ofFn]
   exact List.ofFn_getElem
  refine⟨(hpm.map (fun i=>l[i])).trans (List.Perm.of_eq hof),?_⟩
  rw [List.pairwise_map,mC]
  intro i j hi hj hij
  rw [Array.length_toList] at hi hj
  have:=hs i j (nb _) hij (by rw [<-hz'];exact hj)
  rw [getElem!_pos d' i hi,getElem!_pos d' j hj] at this
  have hij2:=hφ _ (hm (d'[j])) _ (hm (d'[i]))
  have hij3:AJ φ l d'[j] d'[i]=cf l[d'[j]] l[d'[i]]:=by unfold AJ;rw [hij2];rfl
  unfold F8 at this
  rw [decide_eq_false_iff_not,hij3] at this
  exact this
 ·rw [dif_neg hn]
  have:l= []:=List.length_eq_zero_iff.1 (by omega)
  subst this
  exact⟨List.Perm.refl _,kH⟩
theorem yM {φ:α->α->Option Int} {x:α} (h:φ x x=some 0):tI φ [x]=some [x]:=by
 obtain⟨m,h1,h2,_⟩:=xe (φ:=φ) (l:=[x]) (fun _ _=>0) (fun a ha b hb=>by simp at ha hb;rw [ha,hb];exact h) (fun _ _=>by decide) (fun _ _ _ _ _ _ h=>by simp at h) (fun _ _ _ _ _ _ _ _=>by decide) (by simp)
 rw [h1,List.perm_singleton.1 h2]
theorem ya {l:List Int} (h:l.Pairwise (fun x y=>x<=y)) (hl:l.length<4611686018427387904):qH l=some l:=by
 unfold qH
 rw [aD hl,List.mergeSort_of_pairwise (by simpa using h)]
end
end Go.Gk
namespace Go.Gk
open Go
def Bg (l:List Int) (x:Int):Nat:=l.countP (fun a=>decide (a<=x))
def l5 (l:List Int) (x:Int):Bool:=Bg l x % 2==1
def lG (l:List Int):Prop:=l.Pairwise (· < ·)
theorem zP (x:Int):Bg [] x=0:=rfl
theorem lh (a:Int) (l:List Int) (x:Int):Bg (a::l) x= (if a<=x then 1 else 0)+Bg l x:=by
 unfold Bg
 rw [List.countP_cons]
 by_cases h:a<=x <;> simp [h];omega
theorem xf (l m:List Int) (x:Int):Bg (l++m) x=Bg l x+Bg m x:=List.countP_append
theorem C1 {l:List Int} {x:Int} (h: ∀a∈l,a<=x):Bg l x=l.length:=by
 unfold Bg;rw [List.countP_eq_length];intro a ha;simpa using h a ha
theorem xg {l:List Int} {x:Int} (h: ∀a∈l,x<a):Bg l x=0:=by
 unfold Bg;rw [List.countP_eq_zero];intro a ha;have:=h a ha;simp;omega
theorem uu {l:List Int} {x:Int}:l5 l x=true↔Bg l x % 2=1:=by unfold l5;simp
theorem uv {l:List Int} {x:Int} (h: ∀a∈l,x<a):l5 l x=false:=by unfold l5;rw [xg h];rfl
theorem lG.head {a:Int} {l:List Int} (h:lG (a::l)): ∀b∈l,a<b:=(List.pairwise_cons.1 h).1
theorem lG.tail {a:Int} {l:List Int} (h:lG (a::l)):lG l:=(List.pairwise_cons.1 h).2
theorem uw {a:Int} {l:List Int} (h:lG (a::l)):l5 (a::l) a=true:=by
 rw [uu,lh,aD (Int.le_refl _),xg h.head]
theorem xh: ∀{l m:List Int},lG l->lG m->(∀x,l5 l x=l5 m x)->l=m
 | [],[],_,_,_=>rfl
 | [],b::m,_,hm,h=>by have:=h b;rw [uw hm] at this;cases this
 | a::l,[],hl,_,h=>by have:=h a;rw [uw hl] at this;cases this
 | a::l,b::m,hl,hm,h=>by
  have hab:a=b:=by
   rcases Int.lt_trichotomy a b with h1 | h1 | h1
   ·have h2:=h a
    rw [uw hl,uv (l:=b::m) (fun c hc=>by
     rcases gm.1 hc with rfl | hc
     ·exact h1
     ·have:=hm.head c hc;omega)] at h2
    cases h2
   ·exact h1
   ·have h2:=h b
    rw [uw hm,uv (l:=a::l) (fun c hc=>by
     rcases gm.1 hc with rfl | hc
     ·exact h1
     ·have:=hl.head c hc;omega)] at h2
    cases h2
  subst hab
  rw [xh hl.tail hm.tail (fun x=>?_)]
  by_cases hx:a<=x
  ·have h2:=h x
   unfold l5 at h2 ⊢
   rw [lh,lh,aD hx] at h2
   rw [fX] at h2 ⊢
   simp only [beq_iff_eq] at h2 ⊢
   omega
  ·rw [uv (fun c hc=>by have:=hl.head c hc;omega),uv (fun c hc=>by have:=hm.head c hc;omega)]
theorem ux {l:List Int} {a b:Int} (hl: ∀c∈l,c<a) (he:l.length % 2=0) (hab:a<b) (x:Int):l5 (l++[a,b]) x= (l5 l x||(decide (a<=x)&&decide (x<b))):=by
 rw [fX,dQ,bP,bK,bK,uu,uu,xf,lh,lh,zP]
 by_cases h1:a<=x
 ·have h2:Bg l x=l.length:=C1 fun c hc=>by have:=hl c hc;omega
  rw [h2,aD h1]
  by_cases h3:b<=x
  ·rw [aD h3];omega
  ·rw [aC h3];omega
 ·rw [aC h1,aC (by omega)];omega
theorem Fk {l:List Int} {s e a b:Int} (hl: ∀c∈l,c<s) (he:l.length % 2=0) (hs:s<e) (h1:s<=a) (h2:a<=e) (hab:a<b) (x:Int):l5 (l++[s,max e b]) x= (l5 (l++[s,e]) x||(decide (a<=x)&&decide (x<b))):=by
 rw [ux hl he (by omega),ux hl he hs]
 rw [fX]
 simp only [dQ,bP,bK]
 constructor
 ·rintro(h | h)
  ·exact .inl (.inl h)
  ·by_cases hx:x<e
   ·exact .inl (.inr ⟨h.1,hx⟩)
   ·exact .inr ⟨by omega,by omega⟩
 ·rintro((h | h) | h)
  ·exact .inl h
  ·exact .inr ⟨h.1,by omega⟩
  ·exact .inr ⟨by omega,by omega⟩
theorem lG.snoc {l:List Int} {a b:Int} (h:lG l) (hl: ∀c∈l,c<a) (hab:a<b):lG (l++[a,b]):=by
 unfold lG
 rw [List.pairwise_append]
 refine⟨h,by simp [hab],fun c hc d hd=>?_⟩
 have:=hl c hc
 simp at hd
 rcases hd with rfl | rfl <;> omega
structure Bd where
 y0:Int
 y1:Int
 xs:List Int
def rowAt:List Bd->Int->List Int
 | [],_=>[]
 | b::s,y=>if b.y0<=y/\y<b.y1 then b.xs else rowAt s y
theorem kB (b:Bd) (s:List Bd) (y:Int):rowAt (b::s) y=if b.y0<=y/\y<b.y1 then b.xs else rowAt s y:=rfl
structure eA (s:List Bd):Prop where
 each: ∀b∈s,b.y0<b.y1/\b.xs≠[]/\lG b.xs/\b.xs.length % 2=0
 ord:s.Pairwise (fun b c=>b.y1<=c.y0/\(b.y1=c.y0->b.xs≠c.xs))
theorem eA.nil:eA []:=⟨fun b h=>by simp at h,kH⟩
theorem eA.tail {b:Bd} {s:List Bd} (h:eA (b::s)):eA s:=⟨fun c hc=>h.each c (jo _ hc),(List.pairwise_cons.1 h.ord).2⟩
theorem jQ {s:List Bd} {y:Int} (h: ∀b∈s,y<b.y0\/b.y1<=y):rowAt s y= []:=by
 induction s with
 | nil=>rfl
 | cons b s ih=>
  unfold rowAt
  have:=h b (by simp)
  rw [aC (by omega)]
  exact ih fun c hc=>h c (jo _ hc)
theorem nu (s t:List Bd) (y:Int):rowAt (s++t) y=if (∃b∈s,b.y0<=y/\y<b.y1) then rowAt s y else rowAt t y:=by
 induction s with
 | nil=>simp
 | cons b s ih=>
  rw [List.cons_append,kB,kB]
  by_cases h:b.y0<=y/\y<b.y1
  ·rw [aD h,aD ⟨b,by simp,h⟩,aD h]
  ·rw [aC h,ih]
   by_cases h2: ∃c∈s,c.y0<=y/\y<c.y1
   ·obtain⟨c,hc,hc2⟩:=h2
    rw [aD ⟨c,hc,hc2⟩,aD ⟨c,jo _ hc,hc2⟩,aC h]
   ·rw [aC h2,aC (show ¬∃c∈b::s,c.y0<=y/\y<c.y1 from ?_)]
    rintro⟨c,hc,hc2⟩
    rcases gm.1 hc with rfl | hc
    ·exact h hc2
    ·exact h2 ⟨c,hc,hc2⟩
theorem eA.kC {b:Bd} {s:List Bd} {y:Int} (h0:b.y0<=y) (h1:y<b.y1):rowAt (b::s) y=b.xs:=by unfold rowAt;rw [aD ⟨h0,h1⟩]
theorem eA.xk {b:Bd} {s:List Bd} (h:eA (b::s)): ∀c∈s,b.y1<=c.y0:=fun c hc=>((List.pairwise_cons.1 h.ord).1 c hc).1
theorem eA.rQ {b:Bd} {s:List Bd} (h:eA (b::s)) {y:Int} (hy:y<b.y0):rowAt (b::s) y= []:=jQ fun c hc=>by
 rcases gm.1 hc with rfl | hc
 ·exact .inl hy
 ·have:=h.xk c hc;have:=(h.each b (by simp)).1;exact .inl (by omega)
theorem eA.C2 {b:Bd} {s:List Bd} (h:eA (b::s)):rowAt (b::s) b.y1≠b.xs:=by
 rw [kB,aC (by omega)]
 cases s with
 | nil=>exact fun e=>(h.each b (by simp)).2.1 e.symm
 | cons c s=>
  have h1:=(List.pairwise_cons.1 h.ord).1 c (by simp)
  by_cases e:b.y1=c.y0
  ·rw [eA.kC (by omega) (by have:=(h.tail.each c (by simp)).1;omega)]
   exact fun h=>h1.2 e h.symm
  ·rw [h.tail.rQ (by have:=h1.1;omega)]
   exact fun e=>(h.each b (by simp)).2.1 e.symm
theorem xl: ∀{s t:List Bd},eA s->eA t->(∀y,rowAt s y=rowAt t y)->s=t
 | [],[],_,_,_=>rfl
 | [],c::t,_,ht,h=>by
  have hc:=ht.each c (by simp)
  have:=h c.y0
  rw [eA.kC (Int.le_refl _) hc.1] at this
  exact absurd this.symm hc.2.1
 | b::s,[],hs,_,h=>by
  have hb:=hs.each b (by simp)
  have:=h b.y0
  rw [eA.kC (Int.le_refl _) hb.1] at this
  exact absurd this hb.2.1
 | b::s,c::t,hs,ht,h=>by
  have hb:=hs.each b (by simp)
  have hc:=ht.each c (by simp)
  have e0:b.y0=c.y0:=by
   rcases Int.lt_trichotomy b.y0 c.y0 with h1 | h1 | h1
   ·have h2:=h b.y0
    rw [eA.kC (Int.le_refl _) hb.1,ht.rQ h1] at h2
    exact absurd h2 hb.2.1
   ·exact h1
   ·have h2:=h c.y0
    rw [eA.kC (Int.le_refl _) hc.1,hs.rQ h1] at h2
    exact absurd h2.symm hc.2.1
  have ex:b.xs=c.xs:=by
   have h2:=h b.y0
   rw [eA.kC (Int.le_refl _) hb.1,eA.kC (by omega) (by omega)] at h2
   exact h2
  have e1:b.y1=c.y1:=by
   rcases Int.lt_trichotomy b.y1 c.y1 with h1 | h1 | h1
   ·have h2:=h b.y1
    rw [eA.kC (b:=c) (by omega) h1] at h2
    exact absurd (h2.trans ex.symm) hs.C2
   ·exact h1
   ·have h2:=h c.y1
    rw [eA.kC (b:=b) (by omega) h1] at h2
    exact absurd (h2.symm.trans ex) ht.C2
  have ebc:b=c:=by cases b;cases c;simp_all
  subst ebc
  rw [xl hs.tail ht.tail (fun y=>?_)]
  by_cases hy:b.y1<=y
  ·have h2:=h y
   unfold rowAt at h2
   rw [aC (by omega),aC (by omega)] at h2
   exact h2
  ·rw [jQ (fun d hd=>by have:=hs.xk d hd;exact .inl (by omega)),jQ (fun d hd=>by have:=ht.xk d hd;exact .inl (by omega))]
def uy (s:List Bd) (x y:Int):Bool:=l5 (rowAt s y) x
theorem yN {s:List Bd} (h: ∀b∈s,lG b.xs) (y:Int):lG (rowAt s y):=by
 induction s with
 | nil=>exact kH
 | cons b s ih=>
  unfold rowAt
  split
  ·exact h b (by simp)
  ·exact ih fun c hc=>h c (jo _ hc)
theorem xm {s t:List Bd} (hs:eA s) (ht:eA t) (h: ∀x y,uy s x y=uy t x y):s=t:=
 xl hs ht fun y=>xh (yN (fun b hb=>(hs.each b hb).2.2.1) y) (yN (fun b hb=>(ht.each b hb).2.2.1) y) fun x=>h x y
def lL (s:List Bd) (b:Bd):List Bd:=
 if b.xs= []\/b.y1<=b.y0 then s else
  match s.getLast? with
  | some c=>if c.y1=b.y0/\c.xs=b.xs then s.dropLast++[⟨c.y0,b.y1,c.xs⟩] else s++[b]
  | none=>[b]
theorem pV {α:Type} {s:List α} {c:α} (h:s.getLast? =some c):s=s.dropLast++[c]:=by
 have hne:s≠[]:=fun e=>by rw [e] at h;cases h
 rw [List.getLast?_eq_some_getLast hne] at h
 injection h with h
 rw [<-h];exact(List.dropLast_concat_getLast hne).symm
theorem vj {s:List Bd} {b:Bd} (hs: ∀c∈s,c.y1<=b.y0) (hg: ∀c∈s,c.y0<c.y1) (hb:b.y1<=b.y0->b.y1=b.y0) (y:Int):rowAt (lL s b) y=if b.y0<=y/\y<b.y1 then b.xs else rowAt s y:=by
 have key: ∀(s:List Bd) (c:Bd),(∀d∈s,d.y1<=c.y0)->rowAt (s++[c]) y=if c.y0<=y/\y<c.y1 then c.xs else rowAt s y:=by
  intro s c h
  rw [nu]
  by_cases h1:c.y0<=y/\y<c.y1
  ·rw [aD h1,aC (by rintro⟨d,hd,hd2⟩;have:=h d hd;omega),eA.kC h1.1 h1.2]
  ·rw [aC h1]
   by_cases h2: ∃d∈s,d.y0<=y/\y<d.y1
   ·rw [aD h2]
   ·rw [aC h2,kB,aC h1]
    refine(show rowAt [] y=_ from (jQ (s:=s) fun d hd=>?_).symm)
    by_cases h3:d.y0<=y
    ·exact .inr (by have: ¬(d.y0<=y/\y<d.y1):=fun h4=>h2 ⟨d,hd,h4⟩;omega)
    ·exact .inl (by omega)
 unfold lL
 by_cases h0:b.xs= []\/b.y1<=b.y0
 ·rw [aD h0]
  by_cases h1:b.y0<=y/\y<b.y1
  ·rw [aD h1]
   rcases h0 with h0 | h0
   ·rw [h0];exact jQ fun c hc=> .inr (by have:=hs c hc;omega)
   ·omega
  ·rw [aC h1]
 ·rw [aC h0]
  cases hl:s.getLast? with
  | none=>
   have:s= []:=by simpa using hl
   subst this
   rfl
  | some c=>
   dsimp only
   have hsp:=pV hl
   have hcm:c∈s:=by rw [hsp];simp
   by_cases h1:c.y1=b.y0/\c.xs=b.xs
   ·rw [aD h1]
    have hd: ∀d∈s.dropLast,d.y1<=c.y0\/True:=fun _ _=> .inr trivial
    rw [nu]
    have hrow:rowAt s y=if (∃d∈s.dropLast,d.y0<=y/\y<d.y1) then rowAt s.dropLast y else (if c.y0<=y/\y<c.y1 then c.xs else []):=by
     conv=>lhs;rw [hsp]
     rw [nu];rfl
    rw [hrow]
    have hcg:=hg c hcm
    by_cases h2: ∃d∈s.dropLast,d.y0<=y/\y<d.y1
    ·obtain⟨d,hd,hd2⟩:=h2
     have:=hs d (List.dropLast_subset _ hd)
     have he: ∃d∈s.dropLast,d.y0<=y/\y<d.y1:=⟨d,hd,hd2⟩
     rw [aD he,aD he,aC (by omega)]
    ·rw [aC h2,aC h2]
     show (if c.y0<=y/\y<b.y1 then c.xs else [])=_
     by_cases h3:b.y0<=y/\y<b.y1
     ·rw [aD h3,aD ⟨by omega,h3.2⟩,h1.2]
     ·rw [aC h3]
      by_cases h4:c.y0<=y/\y<c.y1
      ·rw [aD h4,aD ⟨h4.1,by omega⟩]
      ·rw [aC h4,aC (by omega)]
   ·rw [aC h1]
    exact key s b hs
theorem vk {s:List Bd} {b:Bd} (h:eA s) (hs: ∀c∈s,c.y1<=b.y0) (hb:lG b.xs) (he:b.xs.length % 2=0):eA (lL s b):=by
 unfold lL
 by_cases h0:b.xs= []\/b.y1<=b.y0
 ·rw [aD h0];exact h
 ·rw [aC h0]
  have hbg:b.y0<b.y1/\b.xs≠[]/\lG b.xs/\b.xs.length % 2=0:=⟨by omega,fun e=>h0 (.inl e),hb,he⟩
  cases hl:s.getLast? with
  | none=>exact⟨fun c hc=>by simp at hc;subst hc;exact hbg,List.pairwise_singleton _ _⟩
  | some c=>
   dsimp only
   have hsp:=pV hl
   have hcm:c∈s:=by rw [hsp];simp
   have hc:=h.each c hcm
   have hord:=h.ord
   rw [hsp,List.pairwise_append] at hord
   by_cases h1:c.y1=b.y0/\c.xs=b.xs
   ·rw [aD h1]
    refine⟨fun d hd=>?_,?_⟩
    ·rcases cR.1 hd with hd | hd
     ·exact h.each d (List.dropLast_subset _ hd)
     ·simp at hd;subst hd;exact⟨by show c.y0<b.y1;omega,hc.2⟩
    ·rw [List.pairwise_append]
     refine⟨hord.1,List.pairwise_singleton _ _,fun d hd e he=>?_⟩
     simp at he;subst he
     exact hord.2.2 d hd c (by simp)
   ·rw [aC h1]
    refine⟨fun d hd=>?_,?_⟩
    ·rcases cR.1 hd with hd | hd
     ·exact h.each d hd
     ·simp at hd;subst hd;exact hbg
    ·rw [List.pairwise_append]
     refine⟨h.ord,List.pairwise_singleton _ _,fun d hd e he=>?_⟩
     simp at he;subst he
     refine⟨hs d hd,fun e1 e2=>?_⟩
     rw [hsp] at hd
     rcases cR.1 hd with hd | hd
     ·have h2:=(hord.2.2 d hd c (by simp)).1
      have:=hs c hcm
      omega
     ·simp at hd;subst hd;exact h1 ⟨e1,e2⟩
theorem vl {s:List Bd} {b:Bd} (hs: ∀c∈s,c.y1<=b.y0) (hb:b.y0<=b.y1): ∀c∈lL s b,c.y1<=b.y1:=by
 intro c hc
 unfold lL at hc
 split at hc
 ·have:=hs c hc;omega
 ·split at hc
  ·split at hc
   ·rcases cR.1 hc with hc | hc
    ·have:=hs c (List.dropLast_subset _ hc);omega
    ·simp at hc;subst hc;exact Int.le_refl _
   ·rcases cR.1 hc with hc | hc
    ·have:=hs c hc;omega
    ·simp at hc;subst hc;exact Int.le_refl _
  ·simp at hc;subst hc;exact Int.le_refl _
end Go.Gk
namespace Go.Gk
open Go
section
variable {N:Nat}
def bM (b:aA):Bd:=⟨b.Y0,b.Y1,b.Xs⟩
def small (a:Int):Prop:= -1099511627776<=a/\a<=1099511627776
structure BN (r:aI):Prop where
 x:r.X0<r.X1
 y:r.Y0<r.Y1
 s1:small r.X0
 s2:small r.X1
 s3:small r.Y0
 s4:small r.Y1
def Cg (l:List aI) (x:Int):Bool:=l.any (fun r=>decide (r.X0<=x)&&decide (x<r.X1))
def vO (l:List aI) (x y:Int):Bool:=l.any (fun r=>(decide (r.X0<=x)&&decide (x<r.X1))&&(decide (r.Y0<=y)&&decide (y<r.Y1)))
theorem xn {l:List aI} {x:Int}:Cg l x=true↔∃r∈l,r.X0<=x/\x<r.X1:=by unfold Cg;simp [kI]
theorem jR {l:List aI} {x y:Int}:vO l x y=true↔∃r∈l,(r.X0<=x/\x<r.X1)/\r.Y0<=y/\y<r.Y1:=by unfold vO;simp [kI]
theorem wrap_small {a b:Int} (ha:small a) (hb:small b):IntKind.wrap .i64 (a - b)=a - b:=by unfold small at *;exact eO (by omega) (by omega)
theorem Bh {n:Nat} (h:0<n) (hn:n<=4611686018427387904):IntKind.wrap .i64 (((n:Nat):Int) - 1)= ((n - 1:Nat):Int):=lJ h hn
structure Li (out:List Int) (m:List aI) (k:Nat):Prop where
 row: (k=0/\out= [])\/∃A s e,out=A++[s,e]/\lG A/\(∀c∈A,c<s)/\A.length % 2=0/\s<e/\∃j r,j<k/\m[j]? =some r/\s=r.X0
 l5: ∀x,l5 out x=Cg (m.take k) x
 len:out.length<=2*k
 mem: ∀c∈out,∃r∈m,c=r.X0\/c=r.X1
theorem vm (l:List aI) (r:aI) (x:Int):Cg (l++[r]) x= (Cg l x||(decide (r.X0<=x)&&decide (x<r.X1))):=by unfold Cg;rw [List.any_append];simp
theorem zQ {l:List aI} (hl:l.length<=268435456) (hok: ∀r∈l,BN r): ∃row l',g9 N l=some (row,l')/\l'.Perm l/\lG row/\row.length % 2=0/\(∀x,l5 row x=Cg l x)/\row.length<=2*l.length/\∀c∈row,∃r∈l,c=r.X0\/c=r.X1:=by
 unfold g9
 obtain⟨m,h1,h2,h3⟩:=xe (φ:=fK N) (l:=l) (fun a b=>a.X0 - b.X0) (fun a ha b hb=>by
  unfold fK;rw [wrap_small (hok a ha).s1 (hok b hb).s1]) (fun a _=>by omega) (fun a _ b _ c _ h1 h2=>by omega) (fun a _ b _ c _ h1 h2=>by omega) (by omega)
 have hml:m.length=l.length:=h2.length_eq
 have hmok: ∀r∈m,BN r:=fun r hr=>hok r (h2.subset hr)
 rw [h1,aB]
 obtain⟨out,a1,a2⟩:=wy (m:=m.length) (s:=([]:List Int)) (body:=fun(k32:Nat) (s33: (List Int))=>((idx m (k32:Int)).bind fun x79=>(bif (decide ((IntKind.wrap .i64 ((s33.length:Int) - 1))>=0)) then ((idx s33 (IntKind.wrap .i64 ((s33.length:Int) - 1))).bind fun x86=>some (decide (x79.X0<=x86))) else (some false)).bind fun s84=>(bif s84 then ((idx s33 (IntKind.wrap .i64 ((s33.length:Int) - 1))).bind fun x94=>(idx s33 (IntKind.wrap .i64 ((s33.length:Int) - 1))).bind fun x95=>some (s33.set (Int.toNat (IntKind.wrap .i64 ((s33.length:Int) - 1))) (if x94<x79.X1 then x79.X1 else x94))) else ((app 8 s33 ([x79.X0,x79.X1]: (List Int))).bind fun x97=>some x97)).bind fun s92=>some s92:Option ((List Int))))
  (fun k out=>Li out m k) (by omega) ⟨.inl ⟨rfl,rfl⟩,fun x=>rfl,by simp,fun c hc=>by cases hc⟩ (fun k out hk ⟨i1,i2,i3,i4⟩=>by
   have hx:m[k]? =some m[k]:=aJ hk
   have hr:=hmok _ (cI hk)
   rw [dE hx,aB]
   have hts:m.take (k+1)=m.take k++[m[k]]:=fw hk
   rcases i1 with ⟨rfl,rfl⟩ | ⟨A,s,e,rfl,hA,hAs,hAe,hse,j,r,hj,hjr,hsr⟩
   ·rw [show decide (IntKind.wrap .i64 (((([]:List Int).length:Nat):Int) - 1)>=0)=false by decide,aQ,aB,aQ,gQ (by simp),aB,aB]
    refine⟨_,rfl, .inr ⟨[],_,_,rfl,kH,fun c hc=>by simp at hc,rfl,hr.x,0,m[0],by omega,hx,rfl⟩,fun x=>?_,by simp,fun c hc=>⟨m[0],cI hk,by simpa using hc⟩⟩
    rw [hts,vm,<-i2 x]
    exact ux (l:=[]) (fun c hc=>by simp at hc) rfl hr.x x
   ·have hlen: (A++[s,e]).length=A.length+2:=by simp
    have hwp:IntKind.wrap .i64 ((((A++[s,e]).length:Nat):Int) - 1)= ((A.length+1:Nat):Int):=by rw [Bh (by omega) (by omega),hlen];rfl
    have hlast: (A++[s,e])[A.length+1]? =some e:=by rw [fA (by omega)];simp
    have hs:s<=m[k].X0:=by
     have:=mC.1 h3 j k (by have:=(aZ.1 hjr).1;omega) hk hj
     rw [hsr,<-(aZ.1 hjr).2];omega
    rw [hwp,cB (by omega),aR,dE hlast,aB,aB]
    by_cases hc:m[k].X0<=e
    ·rw [cB hc,aR,aB,aB,aB,bX]
     have lD: (A++[s,e]).set (A.length+1) (if e<m[k].X1 then m[k].X1 else e)=A++[s,max e m[k].X1]:=by
      rw [List.set_append_right _ _ (by omega)]
      have:A.length+1 - A.length=1:=by omega
      rw [this,Int.max_def]
      simp only [List.set_cons_succ,List.set_cons_zero]
      congr 2
      split <;> split <;> simp <;> omega
     rw [lD]
     refine⟨_,rfl, .inr ⟨A,s,_,rfl,hA,hAs,hAe,by omega,j,r,by omega,hjr,hsr⟩,fun x=>?_,by simp at i3 ⊢;omega,fun c hc=>by
      rcases cR.1 hc with h | h
      ·exact i4 c (List.mem_append_left _ h)
      ·simp at h
       rcases h with h | h
       ·exact i4 c (by simp [h])
       ·rw [Int.max_def] at h
        split at h
        ·exact⟨_,cI hk, .inr h⟩
        ·exact i4 c (by simp [h])⟩
     rw [hts,vm,<-i2 x]
     exact Fk hAs hAe hse hs hc hr.x x
    ·rw [bE hc,aQ,gQ (by rw [hlen];simp;omega),aB,aB]
     have hall: ∀c∈A++[s,e],c<m[k].X0:=fun c hc'=>by
      rcases cR.1 hc' with h | h
      ·have:=hAs c h;omega
      ·simp at h;omega
     refine⟨_,rfl, .inr ⟨A++[s,e],_,_,rfl,hA.snoc hAs hse,hall,by rw [hlen];omega,hr.x,k,m[k],by omega,hx,rfl⟩,fun x=>?_,by simp at i3 ⊢;omega,fun c hc=>by
      rcases cR.1 hc with h | h
      ·exact i4 c h
      ·exact⟨m[k],cI hk,by simpa using h⟩⟩
     rw [hts,vm,<-i2 x]
     exact ux hall (by rw [hlen];omega) hr.x x)
 rw [a1,aB]
 refine⟨out,m,rfl,h2,?_,?_,fun x=>?_,by rw [<-hml];exact a2.len,fun c hc=>by obtain⟨r,hr,h⟩:=a2.mem c hc;exact⟨r,h2.subset hr,h⟩⟩
 ·rcases a2.row with ⟨_,h⟩ | ⟨A,s,e,rfl,hA,hAs,hAe,hse,_⟩
  ·rw [h];exact kH
  ·exact hA.snoc hAs hse
 ·rcases a2.row with ⟨_,h⟩ | ⟨A,s,e,rfl,hA,hAs,hAe,hse,_⟩
  ·rw [h];rfl
  ·simp;omega
 ·rw [a2.l5 x,eW,fX,xn,xn]
  constructor
  ·rintro⟨r,hr,h⟩;exact⟨r,h2.subset hr,h⟩
  ·rintro⟨r,hr,h⟩;exact⟨r,h2.symm.subset hr,h⟩
theorem DT {l m:List Int} (hl:l.length<=4611686018427387904):kM N l m=some (decide (l=m)):=yK hl
theorem C3 {s:List aA} {b:aA} (hs:s.length<=1048576000) (hx: ∀c∈s,c.Xs.length<=1048576000): ∃s',gN N s b=some s'/\s'.map bM=lL (s.map bM) (bM b):=by
 unfold gN lL
 by_cases h0:b.Xs= []\/b.Y1<=b.Y0
 ·have e: ((((b.Xs.length:Nat):Int)==0)||(decide (b.Y1<=b.Y0)))=true:=by
   rw [dQ]
   rcases h0 with h | h
   ·left;rw [h];rfl
   ·right;exact cB h
  rw [e,aR,aD (show (bM b).xs= []\/(bM b).y1<=(bM b).y0 from h0)]
  exact⟨s,rfl,rfl⟩
 ·have e: ((((b.Xs.length:Nat):Int)==0)||(decide (b.Y1<=b.Y0)))=false:=by
   rw [Bool.or_eq_false_iff]
   constructor
   ·rw [beq_eq_false_iff_ne];intro h;exact h0 (.inl (List.eq_nil_of_length_eq_zero (by omega)))
   ·exact bE fun h=>h0 (.inr h)
  rw [e,aQ,aC (show ¬((bM b).xs= []\/(bM b).y1<=(bM b).y0) from h0)]
  rcases List.eq_nil_or_concat s with rfl | ⟨A,c,hA⟩
  ·rw [show decide (IntKind.wrap .i64 (((([]:List aA).length:Nat):Int) - 1)>=0)=false by decide,aQ,aB,aQ,gQ (by simp),aB]
   exact⟨_,rfl,rfl⟩
  ·rw [List.concat_eq_append] at hA
   subst hA
   have hlen: (A++[c]).length=A.length+1:=by simp
   have hwp:IntKind.wrap .i64 ((((A++[c]).length:Nat):Int) - 1)= ((A.length:Nat):Int):=by rw [Bh (by omega) (by omega),hlen];rfl
   have hlast: (A++[c])[A.length]? =some c:=by simp
   rw [hwp,cB (by omega),aR,dE hlast,aB,aB,DT (by have:=hx c (by simp);omega),aB,aB,bX,gQ (by rw [hlen];simp;omega),aB]
   have hl2: ((A++[c]).map bM).getLast? =some (bM c):=by simp
   have hd2: ((A++[c]).map bM).dropLast=A.map bM:=by simp
   rw [hl2,hd2]
   dsimp only
   by_cases h1:c.Y1=b.Y0/\c.Xs=b.Xs
   ·rw [aD (show (bM c).y1= (bM b).y0/\(bM c).xs= (bM b).xs from h1),show (c.Y1==b.Y0)=true by rw [h1.1];simp,aR,cB h1.2,aB,aR]
    refine⟨_,rfl,?_⟩
    rw [List.set_append_right _ _ (bN _),Nat.sub_self]
    simp [bM]
   ·rw [aC (show ¬((bM c).y1= (bM b).y0/\(bM c).xs= (bM b).xs) from h1)]
    have e2: (bif (c.Y1==b.Y0) then (some (decide (c.Xs=b.Xs))) else (some false))=some false:=by
     by_cases h2:c.Y1=b.Y0
     ·rw [show (c.Y1==b.Y0)=true by rw [h2];simp,aR,bE (fun h=>h1 ⟨h2,h⟩)]
     ·rw [show (c.Y1==b.Y0)=false by simpa using h2,aQ]
    rw [e2,aB,aQ]
    exact⟨_,rfl,by simp⟩
end
end Go.Gk
namespace Go.Gk
open Go
def oF (l:List (Int×Int)):List Int:=l.flatMap fun s=>[s.1,s.2]
def DU (l:List (Int×Int)) (x:Int):Bool:=l.any fun s=>decide (s.1<=x)&&decide (x<s.2)
theorem mx (s:Int×Int) (l:List (Int×Int)):oF (s::l)=s.1::s.2::oF l:=rfl
theorem DV (l:List (Int×Int)): (oF l).length=2*l.length:=by
 induction l with
 | nil=>rfl
 | cons s l ih=>rw [mx,j9,j9,j9,ih];omega
theorem DW (s:Int×Int) (l:List (Int×Int)) (x:Int):DU (s::l) x= ((decide (s.1<=x)&&decide (x<s.2))||DU l x):=rfl
theorem xo {l:List (Int×Int)} {x:Int}:DU l x=true↔∃s∈l,s.1<=x/\x<s.2:=by
 unfold DU;simp
theorem DX {a b:Int} {m:List Int} (h:lG (a::b::m)) (x:Int):l5 (a::b::m) x= ((decide (a<=x)&&decide (x<b))||l5 m x):=by
 have hab:a<b:=h.head b (by simp)
 have hm:=h.tail.head
 rw [fX,dQ,bP,bK,bK,uu,uu,lh,lh]
 by_cases h1:a<=x
 ·rw [aD h1]
  by_cases h2:b<=x
  ·rw [aD h2];omega
  ·rw [aC h2,xg (fun c hc=>by have:=hm c hc;omega)];omega
 ·rw [aC h1,aC (by omega)];omega
theorem uz: ∀{l:List (Int×Int)},lG (oF l)->∀x,l5 (oF l) x=DU l x
 | [],_,x=>rfl
 | s::l,h,x=>by
  rw [mx] at h ⊢
  rw [DX h,DW,uz h.tail.tail]
end Go.Gk
namespace Go.Gk
open Go
end Go.Gk
namespace Go.Gk
open Go
def Ok {β:Type} (o:Option β) (P:β->Prop):Prop:=∃r,o=some r/\P r
section
variable {α β S R:Type} {P:α->Prop} {Q:β->Prop}
theorem Ok.ret {x:β} (h:Q x):Ok (some x) Q:=⟨x,rfl,h⟩
theorem Ok.of {o:Option β} {x:β} (h:o=some x) (hq:Q x):Ok o Q:=⟨x,h,hq⟩
theorem Ok.mono {o:Option α} {P':α->Prop} (h:Ok o P) (k: ∀x,P x->P' x):Ok o P':=by obtain⟨x,h1,h2⟩:=h;exact⟨x,h1,k x h2⟩
theorem Ok.bind {o:Option α} {f:α->Option β} (h:Ok o P) (k: ∀x,P x->Ok (f x) Q):Ok (o.bind f) Q:=by
 obtain⟨x,h1,h2⟩:=h;rw [h1];exact k x h2
theorem Ok.eq {o:Option α} {f:α->Option β} {x:α} (h:o=some x) (k:Ok (f x) Q):Ok (o.bind f) Q:=by rw [h];exact k
theorem Ok.bif {b:Bool} {x y:Option β} (ht:b=true->Ok x Q) (hf:b=false->Ok y Q):Ok (bif b then x else y) Q:=by
 cases b with
 | true=>exact ht rfl
 | false=>exact hf rfl
theorem Ok.get {o:Option β} {x:β} (h:Ok o (fun r=>r=x)):o=some x:=by obtain⟨r,h1,h2⟩:=h;rw [h1,h2]
def JY (Go:S->Prop) (Rt:R->Prop):Fo S R->Prop | .go s=>Go s | .rt r=>Rt r
def Hm (Nx Br:S->Prop) (Rt:R->Prop):Fl S R->Prop | .nx s=>Nx s | .br s=>Br s | .rt r=>Rt r
theorem Ok.nx {Nx Br:S->Prop} {Rt:R->Prop} {s:S} (h:Nx s):Ok (some (Fl.nx s)) (Hm Nx Br Rt):=⟨_,rfl,h⟩
theorem Ok.br {Nx Br:S->Prop} {Rt:R->Prop} {s:S} (h:Br s):Ok (some (Fl.br s)) (Hm Nx Br Rt):=⟨_,rfl,h⟩
theorem Ok.rt {Nx Br:S->Prop} {Rt:R->Prop} {r:R} (h:Rt r):Ok (some (Fl.rt r:Fl S R)) (Hm Nx Br Rt):=⟨_,rfl,h⟩
theorem Ok.cs {Go:S->Prop} {Rt:R->Prop} {o:Fo S R} {f:S->Option β} {g:R->Option β} (h:JY Go Rt o) (hf: ∀s,Go s->Ok (f s) Q) (hg: ∀r,Rt r->Ok (g r) Q):Ok (o.cs f g) Q:=by
 cases o with
 | go s=>exact hf s h
 | rt r=>exact hg r h
theorem Ok.iY {body:Nat->S->Option S} {m:Nat} {s:S} (Inv:Nat->S->Prop) (hm:m<=4611686018427387904) (h0:Inv 0 s) (h: ∀k s,k<m->Inv k s->Ok (body k s) (Inv (k+1))):Ok (iY m body s) (Inv m):=
 wy Inv hm h0 h
theorem Ok.pF {body:Nat->S->Option (Fl S R)} {m:Nat} {s:S} (Inv:Nat->S->Prop) {Go:S->Prop} {Rt:R->Prop} (hm:m<=4611686018427387904) (h0:Inv 0 s)
  (h: ∀k s,k<m->Inv k s->Ok (body k s) (Hm (Inv (k+1)) Go Rt)) (hg: ∀s,Inv m s->Go s):Ok (pF m body s) (JY Go Rt):=by
 obtain⟨o,h1,h2⟩:=GA (R:=R) Inv Go Rt hm h0 (fun k s hk hi=>by
  obtain⟨fl,a1,a2⟩:=h k s hk hi
  exact⟨fl,a1,by cases fl <;> exact a2⟩) hg
 exact⟨o,h1,by cases o <;> exact h2⟩
theorem Ok.nc {body:S->Option (Fl S R)} {N:Nat} {s:S} (Inv:S->Prop) (μ:S->Nat) {Go:S->Prop} {Rt:R->Prop}
  (h: ∀s,Inv s->Ok (body s) (Hm (fun s'=>Inv s'/\μ s'<μ s) Go Rt)) (hi:Inv s) (hn:μ s<N):Ok (nc body N s) (JY Go Rt):=by
 obtain⟨o,h1,h2⟩:=tY (R:=R) Inv μ Go Rt (fun s hi=>by
  obtain⟨fl,a1,a2⟩:=h s hi
  exact⟨fl,a1,by cases fl <;> exact a2⟩) N s hi hn
 exact⟨o,h1,by cases o <;> exact h2⟩
theorem Ok.app {b:Nat} {l ys:List α} {f:List α->Option β} (h: (l.length+ys.length)*b<=140737488355328) (k:Ok (f (l++ys)) Q):Ok ((Go.Gk.app b l ys).bind f) Q:=by rw [gQ h];exact k
theorem Ok.idx {l:List α} {i:Nat} {f:α->Option β} (h:i<l.length) (k:Ok (f l[i]) Q):Ok ((Go.Gk.idx l ((i:Nat):Int)).bind f) Q:=by rw [jq l i h];exact k
theorem Ok.ix {l:List α} {i:Nat} {x:α} {f:α->Option β} (h:l[i]? =some x) (k:Ok (f x) Q):Ok ((Go.Gk.idx l ((i:Nat):Int)).bind f) Q:=by rw [dE h];exact k
end
theorem Bi {n:Nat} (h:n<=4611686018427387904):IntKind.wrap .i64 ((n:Nat):Int)= ((n:Nat):Int):=eO (by omega) (by omega)
theorem wrap_add {n m:Nat} (h:n+m<=4611686018427387904):IntKind.wrap .i64 (((n:Nat):Int)+ ((m:Nat):Int))= ((n+m:Nat):Int):=by rw [eO (by omega) (by omega)];simp
theorem fU {n:Nat} (h:n+1<=4611686018427387904):IntKind.wrap .i64 (((n:Nat):Int)+1)= ((n+1:Nat):Int):=by rw [eO (by omega) (by omega)];simp
theorem yO {n:Nat} (h:n+2<=4611686018427387904):IntKind.wrap .i64 (((n:Nat):Int)+2)= ((n+2:Nat):Int):=by rw [eO (by omega) (by omega)];simp
theorem eE {α:Type} [DecidableEq α]: ∀{l m:List α},l.Nodup->(∀x∈l,x∈m)->l.length<=m.length
 | [],m,_,_=>nb _
 | a::l,m,hn,hs=>by
  have ha:a∈m:=hs a (by simp)
  have hn':=List.nodup_cons.1 hn
  have:=eE (l:=l) (m:=m.erase a) hn'.2 (fun x hx=>by
   rw [List.mem_erase_of_ne (fun e=>hn'.1 (by rw [<-e];exact hx))]
   exact hs x (jo _ hx))
  rw [List.length_erase_of_mem ha] at this
  have:=List.length_pos_of_mem ha
  simp;omega
section
variable {α:Type} {N:Nat}
def JZ (z:α) (N:Nat) (p0:List α) (p1:α->Option Bool):Option (List α):=
 (pU p0 p1).bind fun x31=>bif (x31==(-1)) then (some p0) else ((nc (fun(s33: (List α)×Int×Int)=>(bif (decide (s33.2.2< (s33.1.length:Int))) then ((idx s33.1 s33.2.2).bind fun x54=>(p1 x54).bind fun x58=>(bif (!x58) then ((idx s33.1 s33.2.1).bind fun x63=>some ((s33.1.set (Int.toNat s33.2.1) x54),(IntKind.wrap .i64 (s33.2.1+1)))) else (some (s33.1,s33.2.1))).bind fun s61=>some (.nx (s61.1,s61.2,(IntKind.wrap .i64 (s33.2.2+1))))) else (some (.br (s33.1,s33.2.1,s33.2.2))):Option (Fl ((List α)×Int×Int) Empty))) N (p0,x31,(IntKind.wrap .i64 (x31+1)))).bind fun o67=>o67.cs (fun(s33: (List α)×Int×Int)=>(qC s33.1 s33.2.1 (s33.1.length:Int)).bind fun x64=>(qC (s33.1.take (Int.toNat s33.2.1)++List.replicate (s33.1.length - Int.toNat s33.2.1) z) 0 s33.2.1).bind fun x65=>some x65) (fun r=>r.elim))
theorem Fm {z:α} {l:List α} {φ:α->Option Bool} (p:α->Bool) (hφ: ∀x∈l,φ x=some (p x)) (hl:l.length<=4611686018427387000) (hN:l.length<N):JZ z N l φ=some (l.filter (fun x=> !p x)):=by
 unfold JZ
 rw [oQ p (by omega) hφ,aB]
 rcases rO l p with ⟨h1,h2⟩ | ⟨k,x,h1,h2,h3,h4⟩
 ·rw [h1]
  have:l.filter (fun x=> !p x)=l:=List.filter_eq_self.2 fun a ha=>by rw [h2 a ha];rfl
  rw [this];rfl
 ·rw [h1,show (((k:Nat):Int)== -1)=false by simp,aQ]
  have hk:=(aZ.1 h2).1
  have hpre: (l.take k).filter (fun x=> !p x)=l.take k:=List.filter_eq_self.2 fun a ha=>by
   obtain⟨j,hj⟩:=fY ha
   have hjk:j<k:=by have:=(aZ.1 hj).1;rw [cZ] at this;omega
   rw [List.getElem?_take_of_lt hjk] at hj
   rw [h4 j a hjk hj];rfl
  have hst:l.take (k+1)=l.take k++[x]:=by
   rw [fw hk];congr 1
   have:=(aZ.1 h2).2;rw [this]
  have hk1:IntKind.wrap .i64 (((k:Nat):Int)+1)= ((k+1:Nat):Int):=by rw [eO (by omega) (by omega)];omega
  rw [hk1]
  obtain⟨o,a1,a2⟩:=tY (S:=(List α)×Int×Int) (R:=Empty) (body:=fun(s33: (List α)×Int×Int)=>(bif (decide (s33.2.2< (s33.1.length:Int))) then ((idx s33.1 s33.2.2).bind fun x54=>(φ x54).bind fun x58=>(bif (!x58) then ((idx s33.1 s33.2.1).bind fun x63=>some ((s33.1.set (Int.toNat s33.2.1) x54),(IntKind.wrap .i64 (s33.2.1+1)))) else (some (s33.1,s33.2.1))).bind fun s61=>some (.nx (s61.1,s61.2,(IntKind.wrap .i64 (s33.2.2+1))))) else (some (.br (s33.1,s33.2.1,s33.2.2))):Option (Fl ((List α)×Int×Int) Empty)))
   (fun s=>∃i j:Nat,s.2.1= ((i:Nat):Int)/\s.2.2= ((j:Nat):Int)/\i<j/\j<=l.length/\s.1.length=l.length/\s.1.take i= (l.take j).filter (fun x=> !p x)/\∀m,j<=m->s.1[m]? =l[m]?)
   (fun s=>l.length - s.2.2.toNat) (fun s=>∃i:Nat,s.2.1= ((i:Nat):Int)/\i<=l.length/\s.1.length=l.length/\s.1.take i=l.filter (fun x=> !p x)) (fun _=>True) (fun s ⟨i,j,e1,e2,hij,hj,hlen,ht,hd⟩=>by
    obtain⟨s,a,b⟩:=s
    dsimp only at e1 e2 hlen ht hd ⊢
    subst e1;subst e2
    by_cases hlt:j<l.length
    ·rw [cB (by rw [hlen];omega),aR]
     have hx:s[j]? =some l[j]:=by rw [hd j (bN _)];exact aJ hlt
     have w1:IntKind.wrap .i64 (((j:Nat):Int)+1)= ((j+1:Nat):Int):=by rw [eO (by omega) (by omega)];omega
     have w2:IntKind.wrap .i64 (((i:Nat):Int)+1)= ((i+1:Nat):Int):=by rw [eO (by omega) (by omega)];omega
     have hs2:l.take (j+1)=l.take j++[l[j]]:=fw hlt
     rw [dE hx,aB,hφ _ (cI hlt),aB,w1]
     cases hp:p l[j] with
     | true=>
      refine⟨.nx (s,((i:Nat):Int),((j+1:Nat):Int)),by rw [lv,aQ,aB],⟨i,j+1,rfl,rfl,by omega,by omega,hlen,?_,fun m hm=>hd m (by omega)⟩,?_⟩
      ·rw [hs2,iq,ht];simp [hp]
      ·simp only [bX];omega
     | false=>
      refine⟨.nx (s.set i l[j],((i+1:Nat):Int),((j+1:Nat):Int)),by rw [mD,aR,jq _ _ (by omega),aB,bX,w2,aB],⟨i+1,j+1,rfl,rfl,by omega,by omega,by simp [hlen],?_,fun m hm=>?_⟩,?_⟩
      ·rw [hs2,iq,<-ht]
       have: (s.set i l[j]).take (i+1)=s.take i++[l[j]]:=by
        rw [fw (by simp;omega),List.take_set_of_le (bN _)];simp
       rw [this];simp [hp]
      ·rw [eX,aC (by omega)];exact hd m (by omega)
      ·simp only [bX];omega
    ·rw [bE (by rw [hlen];omega),aQ]
     have hje:j=l.length:=by omega
     subst hje
     rw [eW] at ht
     exact⟨.br (s,((i:Nat):Int),((l.length:Nat):Int)),rfl,i,rfl,by omega,hlen,ht⟩)
   N (l,((k:Nat):Int),((k+1:Nat):Int)) ⟨k,k+1,rfl,rfl,by omega,by omega,rfl,by rw [hst,iq,hpre];simp [h3],fun _ _=>rfl⟩ (by simp only [bX];omega)
  rw [a1,aB]
  cases o with
  | rt r=>exact r.elim
  | go s=>
   obtain⟨i,e1,hi,hlen,ht⟩:=a2
   obtain⟨s,a,b⟩:=s
   dsimp only at e1 hlen ht
   subst e1
   simp only [Fo.cs]
   rw [t7 _ _ (by omega),aB,bX,tZ _ _ (by simp;omega),aB,List.take_append_of_le_length (by simp;omega),List.take_take,Nat.min_self,ht]
end
section
variable {κ ν:Type} [DecidableEq κ]
theorem iV (m:List (κ×ν)) (k k':κ) (x z:ν):dK (oM m k x) k' z=if k'=k then x else dK m k' z:=by
 induction m with
 | nil=>unfold oM dK;by_cases h:k'=k <;> simp [h]
 | cons p m ih=>
  unfold oM
  by_cases h:k=p.1
  ·rw [aD h]
   by_cases h':k'=k
   ·subst h';simp [dK]
   ·simp only [dK,List.find?_cons,aC h',bE h']
    rw [bE (fun e=>h' (e.trans h.symm))]
  ·rw [aC h]
   by_cases h':k'=p.1
   ·have:k'≠k:=fun e=>h (e.symm.trans h')
    simp only [dK,List.find?_cons,cB h',aC this]
   ·unfold dK at ih ⊢
    simp only [List.find?_cons,bE h']
    exact ih
theorem kT (m:List (κ×ν)) (k k':κ) (x:ν):iM (oM m k x) k'= (decide (k'=k)||iM m k'):=by
 induction m with
 | nil=>unfold oM iM;simp
 | cons p m ih=>
  unfold oM
  by_cases h:k=p.1
  ·rw [aD h]
   by_cases h':k'=k
   ·simp [iM,h']
   ·simp only [iM,List.any_cons,bE h',Bool.false_or]
    rw [bE (fun e=>h' (e.trans h.symm)),Bool.false_or]
  ·rw [aC h]
   unfold iM at ih ⊢
   simp only [List.any_cons]
   rw [ih]
   cases decide (k'=p.1) <;> cases decide (k'=k) <;> simp
end
end Go.Gk
namespace Go.Gk
open Go
section
variable {N:Nat}
theorem xp (l:List Int) (a b:Nat) (h:a+b<l.length):BZ l ((a:Nat):Int) ((b:Nat):Int)=some l[a+b]:=by
 unfold BZ
 rw [aD (by omega),show ((a:Nat):Int)+ ((b:Nat):Int)= ((a+b:Nat):Int) by omega,jq _ _ h]
theorem lG.Fp {l:List Int} {a:Int} (h:lG l) (hl: ∀c∈l,c<a):lG (l++[a]):=by
 unfold lG
 rw [List.pairwise_append]
 exact⟨h,List.pairwise_singleton _ _,fun c hc d hd=>by simp at hd;subst hd;exact hl c hc⟩
theorem lG.last {l:List Int} {a:Int} (h:lG l) (hl:l.getLast? =some a): ∀c∈l,c<=a:=by
 intro c hc
 have hs:=pV hl
 rw [hs] at h hc
 rcases cR.1 hc with h1 | h1
 ·have:=(List.pairwise_append.1 h).2.2 c h1 a (by simp);omega
 ·simp at h1;omega
theorem zR {l:List Int} (hs:l.Pairwise (fun x y=>x<=y)) (hl:l.length<=4611686018427387000) (hN:l.length<N):
  Ok (fJ N l) (fun m=>lG m/\∀c,c∈m↔c∈l):=by
 unfold fJ
 refine Ok.bif (fun h2=>Ok.ret ⟨?_,fun c=>Iff.rfl⟩) (fun h2=>?_)
 ·have h2:=of_decide_eq_true h2
  match l,h2 with
  | [],_=>exact kH
  | [a],_=>exact List.pairwise_singleton _ _
  | a::b::l,h2=>simp at h2;omega
 ·have h2:=of_decide_eq_false h2
  have le: ∀(i j:Nat) (x y:Int),i<j->l[i]? =some x->l[j]? =some y->x<=y:=fun i j x y hij hx hy=>by
   have:=mC.1 hs i j (aZ.1 hx).1 (aZ.1 hy).1 hij
   rw [(aZ.1 hx).2,(aZ.1 hy).2] at this;exact this
  refine Ok.bind (Ok.nc (Go:=fun _=>lG l) (Rt:=fun m=>lG m/\∀c,c∈m↔c∈l) (fun s=>∃k:Nat,s= ((k:Nat):Int)/\1<=k/\k<=l.length/\lG (l.take k)) (fun s=>l.length - s.toNat) ?_ ⟨1,rfl,bN _,by omega,?_⟩ (by simp;omega)) ?_
  ·rintro s ⟨k,rfl,hk1,hkl,hinc⟩
   refine Ok.bif (fun h=>?_) (fun h=>Ok.br ?_)
   ·have hk:k<l.length:=by have:=of_decide_eq_true h;omega
    refine Ok.idx hk ?_
    rw [lJ hk1 (by omega)]
    refine Ok.idx (by omega) ?_
    refine Ok.bif (fun he=>?_) (fun he=>?_)
    ·have he:l[k]=l[k - 1]:=by simpa using he
     refine Ok.eq (t7 l k hkl) ?_
     refine Ok.bind (Ok.nc (Go:=fun s=>∃i:Nat,s.2.1= ((i:Nat):Int)/\i<=l.length/\s.1.length=l.length/\lG (s.1.take i)/\∀c,c∈s.1.take i↔c∈l) (Rt:=fun _=>True)
      (fun s=>∃i j:Nat,s.2.1= ((i:Nat):Int)/\s.2.2= ((j:Nat):Int)/\1<=j/\k+j<=l.length/\i<=k+j - 1/\s.1.length=l.length/\lG (s.1.take i)/\(s.1.take i).getLast? =l[k+j - 1]? /\
       (∀c,c∈s.1.take i↔c∈l.take (k+j))/\∀m,k+j - 1<=m->s.1[m]? =l[m]?) (fun s=>l.length - s.2.2.toNat) ?_ ?_ (by simp;omega)) ?_
     ·rintro⟨u,a,b⟩ ⟨i,j,e1,e2,hj,hjl,hij,hlen,hi,hlast,hmem,hrest⟩
      dsimp only at e1 e2 hlen hi hlast hmem hrest ⊢
      subst e1;subst e2
      rw [bX]
      refine Ok.bif (fun h=>?_) (fun h=>Ok.br ?_)
      ·have hlt:k+j<l.length:=by have:=of_decide_eq_true h;omega
       have hx:u[k+j]'(by omega)=l[k+j]:=by have:=hrest (k+j) (by omega);rw [aJ (by omega),aJ hlt] at this;injection this
       have hy:u[k+ (j - 1)]'(by omega)=l[k+ (j - 1)]:=by have:=hrest (k+ (j - 1)) (by omega);rw [aJ (by omega),aJ (by omega)] at this;injection this
       refine Ok.eq (xp u k j (by omega)) ?_
       rw [lJ hj (by omega)]
       refine Ok.eq (xp u k (j - 1) (by omega)) ?_
       rw [hx,hy]
       have hts:l.take (k+j+1)=l.take (k+j)++[l[k+j]]:=fw hlt
       have hlast': (u.take i).getLast? =some l[k+ (j - 1)]:=by rw [hlast,show k+j - 1=k+ (j - 1) by omega,aJ (by omega)]
       have hxy:l[k+ (j - 1)]<=l[k+j]:=le (k+ (j - 1)) (k+j) _ _ (by omega) (aJ _) (aJ _)
       refine Ok.bind (P:=fun s'=>s'.1.length=l.length/\∃i':Nat,s'.2= ((i':Nat):Int)/\i'<=k+j/\lG (s'.1.take i')/\(s'.1.take i').getLast? =l[k+j]? /\(∀c,c∈s'.1.take i'↔c∈l.take (k+j+1))/\∀m,k+j<=m->s'.1[m]? =l[m]?) ?_ ?_
       ·refine Ok.bif (fun hne=>?_) (fun hne=>Ok.ret ?_)
        ·have hne:l[k+j]≠l[k+ (j - 1)]:=by simpa using hne
         refine Ok.eq (xp u k j (by omega)) ?_
         rw [hx]
         refine Ok.idx (by omega) (Ok.ret ⟨by simp [hlen],i+1,?_,by omega,?_⟩)
         ·rw [fU (by omega)]
         ·dsimp only
          rw [bX]
          have ht: (u.set i l[k+j]).take (i+1)=u.take i++[l[k+j]]:=by
           rw [fw (by simp;omega),List.take_set_of_le (bN _)];simp
          rw [ht]
          refine⟨hi.Fp fun c hc=>?_,by simp [aJ hlt],fun c=>?_,fun m hm=>?_⟩
          ·have:=hi.last hlast' c hc;omega
          ·rw [hts,cR,cR,hmem]
          ·rw [eX,aC (by omega)];exact hrest m (by omega)
        ·have he:l[k+j]=l[k+ (j - 1)]:=by simpa using hne
         refine⟨hlen,i,rfl,by omega,hi,?_,fun c=>?_,fun m hm=>hrest m (by omega)⟩
         ·dsimp only;rw [hlast',aJ hlt,he]
         ·rw [hts,cR,<-hmem]
          constructor
          ·exact .inl
          ·rintro(h | h)
           ·exact h
           ·simp at h;subst h
            rw [he];exact List.mem_of_getLast? hlast'
       ·rintro⟨v,a⟩ ⟨g1,i',g2,g3,g4,g5,g6,g7⟩
        dsimp only at g1 g2 g4 g5 g6 g7 ⊢
        refine Ok.nx ⟨⟨i',j+1,g2,?_,by omega,by omega,by omega,g1,g4,?_,g6,fun m hm=>g7 m (by omega)⟩,?_⟩
        ·rw [fU (by omega)]
        ·rw [show k+ (j+1) - 1=k+j by omega];exact g5
        ·rw [fU (by omega)];simp only [bX];omega
      ·have hge:k+j=l.length:=by have:=of_decide_eq_false h;omega
       refine⟨i,rfl,by omega,hlen,hi,fun c=>?_⟩
       rw [hmem,hge,eW]
     ·refine⟨k,1,rfl,rfl,bN _,by omega,by omega,rfl,hinc,?_,fun c=>?_,fun m _=>rfl⟩
      ·dsimp only
       rw [show k+1 - 1=k by omega,aJ hk,he,List.getLast?_eq_getElem?,cZ,Nat.min_eq_left hkl,List.getElem?_take_of_lt (by omega),aJ (by omega)]
      ·dsimp only
       rw [fw hk,cR]
       constructor
       ·exact .inl
       ·rintro(h | h)
        ·exact h
        ·simp at h;subst h;rw [he]
         refine gJ (i:=k - 1) ?_
         rw [List.getElem?_take_of_lt (by omega),aJ (by omega)]
     ·rintro o ho
      refine Ok.cs ho ?_ (fun r=>r.elim)
      rintro⟨u,a,b⟩ ⟨i,e1,hi,hlen,hinc',hmem⟩
      dsimp only at e1 hlen hinc' hmem ⊢
      subst e1
      refine Ok.eq (t7 u i (by omega)) ?_
      rw [bX]
      refine Ok.eq (tZ _ i (by simp;omega)) (Ok.rt ?_)
      rw [List.take_append_of_le_length (by simp;omega),List.take_take,Nat.min_self]
      exact⟨hinc',hmem⟩
    ·have he:l[k]≠l[k - 1]:=by simpa using he
     refine Ok.nx ⟨⟨k+1,by rw [fU (by omega)],by omega,by omega,?_⟩,by rw [fU (by omega)];simp only [bX];omega⟩
     rw [fw hk]
     refine hinc.Fp fun c hc=>?_
     have hlast: (l.take k).getLast? =some l[k - 1]:=by
      rw [List.getLast?_eq_getElem?,cZ,Nat.min_eq_left hkl,List.getElem?_take_of_lt (by omega),aJ (by omega)]
     have h3:=hinc.last hlast c hc
     have h4:=le (k - 1) k _ _ (by omega) (aJ (by omega:k - 1<l.length)) (aJ hk)
     omega
   ·have hge:k=l.length:=by have:=of_decide_eq_false h;omega
    subst hge;rw [eW] at hinc;exact hinc
  ·match l,h2 with
   | [],h2=>simp at h2
   | a::l,_=>exact List.pairwise_singleton _ _
  ·rintro o ho
   exact Ok.cs ho (fun s h=>Ok.ret ⟨h,fun c=>Iff.rfl⟩) (fun r h=>Ok.ret h)
def px (l:List aI):List Int:=l.flatMap fun r=>[r.X0,r.X1]
def lj (l:List aI):List Int:=l.flatMap fun r=>[r.Y0,r.Y1]
theorem py {l:List aI} {c:Int}:c∈px l↔∃r∈l,c=r.X0\/c=r.X1:=by unfold px;simp [List.mem_flatMap]
theorem kD {l:List aI} {c:Int}:c∈lj l↔∃r∈l,c=r.Y0\/c=r.Y1:=by unfold lj;simp [List.mem_flatMap]
theorem lk (l:List aI): (px l).length=2*l.length:=by
 induction l with
 | nil=>rfl
 | cons r l ih=>unfold px at *;simp [List.flatMap_cons,ih];omega
theorem jC (l:List aI): (lj l).length=2*l.length:=by
 induction l with
 | nil=>rfl
 | cons r l ih=>unfold lj at *;simp [List.flatMap_cons,ih];omega
def tA (X Y:List Int) (s:List Bd):Prop:=∀b∈s,b.y0∈Y/\b.y1∈Y/\∀c∈b.xs,c∈X
theorem tA.push {X Y:List Int} {s:List Bd} {b:Bd} (h:tA X Y s) (h0:b.y0∈Y) (h1:b.y1∈Y) (h2: ∀c∈b.xs,c∈X):tA X Y (lL s b):=by
 intro c hc
 unfold lL at hc
 split at hc
 ·exact h c hc
 ·split at hc
  ·rename_i d hd
   have hdm:d∈s:=List.mem_of_getLast? hd
   split at hc
   ·rcases cR.1 hc with hc | hc
    ·exact h c (List.dropLast_subset _ hc)
    ·simp at hc;subst hc;exact⟨(h d hdm).1,h1,(h d hdm).2.2⟩
   ·rcases cR.1 hc with hc | hc
    ·exact h c hc
    ·simp at hc;subst hc;exact⟨h0,h1,h2⟩
  ·simp at hc;subst hc;exact⟨h0,h1,h2⟩
theorem lG.nodup {l:List Int} (h:lG l):l.Nodup:=List.Pairwise.imp (fun h=>by omega) h
theorem tA.row {X Y:List Int} {s:List Bd} (h:tA X Y s) (hc:eA s) {b:Bd} (hb:b∈s):b.xs.length<=X.length:=eE (hc.each b hb).2.2.1.nodup (h b hb).2.2
theorem tA.len {X Y:List Int} {s:List Bd} (h:tA X Y s) (hc:eA s):s.length<=Y.length:=by
 have hn: (s.map Bd.y0).Nodup:=by
  unfold List.Nodup
  rw [List.pairwise_map]
  refine List.Pairwise.imp_of_mem (fun{a b} ha hb hab=>?_) hc.ord
  have:=(hc.each a ha).1
  have:=hab.1
  omega
 have:=eE hn (m:=Y) (fun x hx=>by
  obtain⟨b,hb,rfl⟩:=cP.1 hx
  exact(h b hb).1)
 rwa [gw] at this
theorem tA.mono {X Y X' Y':List Int} {s:List Bd} (h:tA X Y s) (hx: ∀c∈X,c∈X') (hy: ∀c∈Y,c∈Y'):tA X' Y' s:=fun b hb=>⟨hy _ (h b hb).1,hy _ (h b hb).2.1,fun c hc=>hx c ((h b hb).2.2 c hc)⟩
theorem lG.lt {l:List Int} (h:lG l) {i j:Nat} {x y:Int} (hij:i<j) (hx:l[i]? =some x) (hy:l[j]? =some y):x<y:=by
 have:=mC.1 h i j (aZ.1 hx).1 (aZ.1 hy).1 hij
 rw [(aZ.1 hx).2,(aZ.1 hy).2] at this;exact this
theorem lG.next {l:List Int} (h:lG l) {k:Nat} {x y c:Int} (hx:l[k]? =some x) (hy:l[k+1]? =some y) (hc:c∈l) (hxc:x<c):y<=c:=by
 obtain⟨j,hj⟩:=fY hc
 rcases Nat.lt_trichotomy j (k+1) with h1 | h1 | h1
 ·exfalso
  by_cases e:j=k
  ·subst e;rw [hx] at hj;injection hj with hj;omega
  ·have:=h.lt (show j<k by omega) hj hx;omega
 ·subst h1;rw [hy] at hj;injection hj with hj;omega
 ·have:=h.lt h1 hy hj;omega
theorem tk {l:List aI} {φ:aI->Option Bool} (p:aI->Bool) (hφ: ∀x∈l,φ x=some (p x)) (hl:l.length<=4611686018427387000) (hN:l.length<N):f9 N l φ=some (l.filter (fun x=> !p x)):=
 Fm (z:=(⟨0,0,0,0⟩:aI)) p hφ hl hN
theorem yb {l:List aI} (hl:l.length<=268435456):gT N l=some l:=by
 unfold gT;rw [gQ (by simp;omega),aB,List.nil_append]
structure J0 (l m:List aI) (ys:List Int) (k:Nat) (out:List aA) (now:List aI) (nx:Nat):Prop where
 can:eA (out.map bM)
 top: ∀c∈out,∀y,ys[k]? =some y->c.Y1<=y
 cover: ∀x y,uy (out.map bM) x y= (vO l x y&&decide (∀a,ys[k]? =some a->y<a))
 lim:tA (px l) (lj l) (out.map bM)
 LK: ∀r∈now,r∈m.take nx
 LL: ∀r∈m.take nx,∀y,ys[k]? =some y->y<r.Y1->r∈now
 len:now.length<=nx
 Lj:nx<=m.length
 rest: ∀(j:Nat) r y,nx<=j->m[j]? =some r->ys[k]? =some y->y<=r.Y0
 low: ∀r∈now,∀y,ys[k]? =some y->r.Y0<=y
structure oG (l:List aI) (s:List aA):Prop where
 can:eA (s.map bM)
 cover: ∀x y,uy (s.map bM) x y=vO l x y
 lim:tA (px l) (lj l) (s.map bM)
theorem pW {l:List aI} (hl:l.length<=134217728) (hok: ∀r∈l,BN r) (hN:4294967296<=N):Ok (fP N l) (oG l):=by
 unfold fP
 refine Ok.eq (yb (by omega)) ?_
 obtain⟨m,h1,h2,h3⟩:=xe (φ:=iD N) (l:=l) (fun a b=>a.Y0 - b.Y0) (fun a ha b hb=>by
  unfold iD;rw [wrap_small (hok a ha).s3 (hok b hb).s3]) (fun a _=>by omega) (fun a _ b _ c _ h1 h2=>by omega) (fun a _ b _ c _ h1 h2=>by omega) (by omega)
 refine Ok.eq h1 ?_
 have hml:m.length=l.length:=h2.length_eq
 have hmem: ∀r,r∈m↔r∈l:=fun r=>h2.mem_iff
 refine Ok.bind (Ok.iY (fun k s=>s=lj (m.take k)) (by omega) rfl (fun k s hk e=>?_)) ?_
 ·subst e
  refine Ok.idx hk (Ok.app ?_ (Ok.ret ?_))
  ·rw [jC];simp;omega
  ·rw [fw hk]
   unfold lj;rw [List.flatMap_append];rfl
 rintro s rfl
 rw [eW]
 have hgs:qH (lj m)=some ((lj m).mergeSort (fun x y=>decide (x<=y))):=by unfold qH;rw [aD (by rw [jC];omega)]
 refine Ok.eq hgs ?_
 have hsp: ((lj m).mergeSort (fun x y=>decide (x<=y))).Pairwise (fun x y=>x<=y):=by
  have:=List.pairwise_mergeSort (le:=fun(x y:Int)=>decide (x<=y)) (fun a b c h1 h2=>by simp at *;omega) (fun a b=>by simp;omega) (lj m)
  exact List.Pairwise.imp (fun h=>by simpa using h) this
 have hsm: ∀c,c∈(lj m).mergeSort (fun x y=>decide (x<=y))↔c∈lj m:=fun c=>List.mem_mergeSort
 have hsl: ((lj m).mergeSort (fun x y=>decide (x<=y))).length=2*m.length:=by rw [List.length_mergeSort,jC]
 generalize (lj m).mergeSort (fun x y=>decide (x<=y))=sy at hsp hsm hsl
 refine Ok.bind (zR (N:=N) hsp (by omega) (by omega)) ?_
 rintro ys ⟨hy,hym⟩
 have hyl:ys.length<=2*m.length:=by
  have:=eE hy.nodup (m:=sy) (fun c hc=>(hym c).1 hc)
  omega
 have y0m: ∀r∈m,r.Y0∈ys:=fun r hr=>(hym _).2 ((hsm _).2 (kD.2 ⟨r,hr, .inl rfl⟩))
 have y1m: ∀r∈m,r.Y1∈ys:=fun r hr=>(hym _).2 ((hsm _).2 (kD.2 ⟨r,hr, .inr rfl⟩))
 have yml: ∀c∈ys,c∈lj l:=fun c hc=>by
  obtain⟨r,hr,h⟩:=kD.1 ((hsm _).1 ((hym _).1 hc))
  exact kD.2 ⟨r,(hmem r).1 hr,h⟩
 refine Ok.bind (Ok.nc (Go:=fun s=>oG l s.1) (Rt:=fun _=>True) (fun s=>∃k nx:Nat,s.2.2.2= ((k:Nat):Int)/\s.2.2.1= ((nx:Nat):Int)/\(k<ys.length\/k=0)/\J0 l m ys k s.1 s.2.1 nx) (fun s=>ys.length - s.2.2.2.toNat) ?_ ?_ (by simp;omega)) ?_
 ·rintro⟨out,now,a,b⟩ ⟨k,nx,e1,e2,hk,I⟩
  dsimp only at e1 e2 I ⊢
  subst e1;subst e2
  rw [fU (by omega)]
  refine Ok.bif (fun h=>?_) (fun h=>Ok.br ?_)
  ·have hk1:k+1<ys.length:=by have:=of_decide_eq_true h;omega
   have hyk:ys[k]? =some ys[k]:=aJ _
   have hyk1:ys[k+1]? =some ys[k+1]:=aJ hk1
   have hlt:=hy.lt (Nat.lt_succ_self k) hyk hyk1
   have hcov:=I.cover
   simp only [hyk,Option.some.injEq,forall_eq'] at hcov
   refine Ok.eq (tk (fun r=>decide (r.Y1<=ys[k])) (fun r _=>by unfold lU;rw [jq ys k (by omega),aB]) (by have:=I.len;have:=I.Lj;omega) (by have:=I.len;have:=I.Lj;omega)) ?_
   have hfl:=ka (fun r:aI=> !decide (r.Y1<=ys[k])) now
   have hIl:=I.len
   have hIn:=I.Lj
   refine Ok.bind (Ok.nc (Go:=fun s=>∃nx':Nat,s.2= ((nx':Nat):Int)/\nx'<=m.length/\s.1.length<=nx'/\(∀r∈s.1,r∈m.take nx')/\(∀r∈m.take nx',ys[k]<r.Y1->r∈s.1)/\(∀r∈s.1,r.Y0<=ys[k]/\ys[k]<r.Y1)/\(∀(j:Nat) r,nx'<=j->m[j]? =some r->ys[k]<r.Y0)) (Rt:=fun _=>True)
    (fun s=>∃nx':Nat,s.2= ((nx':Nat):Int)/\nx<=nx'/\nx'<=m.length/\s.1.length<=nx'/\(∀r∈s.1,r∈m.take nx')/\(∀r∈m.take nx',ys[k]<r.Y1->r∈s.1)/\(∀r∈s.1,r.Y0<=ys[k]/\ys[k]<r.Y1)) (fun s=>m.length - s.2.toNat) ?_ ?_ (by simp;omega)) ?_
   ·rintro⟨nw,b⟩ ⟨nx',e1,g0,g1,g2,g3,g4,g5⟩
    dsimp only at e1 g2 g3 g4 g5 ⊢
    subst e1
    refine Ok.bind (P:=fun b=>b=true↔∃h:nx'<m.length,m[nx'].Y0<=ys[k]) ?_ ?_
    ·refine Ok.bif (fun h=>?_) (fun h=>Ok.ret ?_)
     ·have hlt:nx'<m.length:=by have:=of_decide_eq_true h;omega
      refine Ok.idx hlt (Ok.idx (by omega) (Ok.ret ?_))
      rw [bK];exact⟨fun h=>⟨hlt,h⟩,fun⟨_,h⟩=>h⟩
     ·have:=of_decide_eq_false h
      constructor
      ·intro h;cases h
      ·rintro⟨h,_⟩;omega
    ·intro bb hbb
     refine Ok.bif (fun h=>?_) (fun h=>Ok.br ?_)
     ·obtain⟨hlt,h0⟩:=hbb.1 h
      have hts:m.take (nx'+1)=m.take nx'++[m[nx']]:=fw hlt
      refine Ok.idx hlt (Ok.app (by simp;omega) (Ok.nx ⟨⟨nx'+1,by rw [fU (by omega)],by omega,by omega,by simp;omega,fun r hr=>?_,fun r hr hr2=>?_,fun r hr=>?_⟩,by rw [fU (by omega)];simp only [bX];omega⟩))
      ·rw [hts]
       rcases cR.1 hr with h | h
       ·exact List.mem_append_left _ (g3 r h)
       ·exact List.mem_append_right _ h
      ·rw [hts] at hr
       rcases cR.1 hr with h | h
       ·exact List.mem_append_left _ (g4 r h hr2)
       ·exact List.mem_append_right _ h
      ·rcases cR.1 hr with h | h
       ·exact g5 r h
       ·simp at h;subst h
        refine⟨h0,?_⟩
        have:=(hok m[nx'] ((hmem _).1 (cI hlt))).y
        have:=I.rest nx' _ ys[k] g0 (aJ hlt) hyk
        omega
     ·refine⟨nx',rfl,g1,g2,g3,g4,g5,fun j r hj hr=>?_⟩
      have hjl:=(aZ.1 hr).1
      have hlt:nx'<m.length:=by omega
      have h0: ¬m[nx'].Y0<=ys[k]:=fun h0=>by rw [hbb.2 ⟨hlt,h0⟩] at h;cases h
      by_cases e:nx'=j
      ·subst e;rw [aJ hlt] at hr;injection hr with hr;subst hr;omega
      ·have:=mC.1 h3 nx' j hlt hjl (by omega)
       have hr':=(aZ.1 hr).2
       rw [hr'] at this;omega
   ·refine⟨nx,rfl,bN _,hIn,by dsimp only;omega,fun r hr=>I.LK r (gE.1 hr).1,fun r hr h=>gE.2 ⟨I.LL r hr ys[k] hyk h,by simpa using h⟩,fun r hr=>?_⟩
    have hr:=gE.1 hr
    have hr2:ys[k]<r.Y1:=by simpa using hr.2
    exact⟨I.low r hr.1 ys[k] hyk,hr2⟩
   ·rintro o ho
    refine Ok.cs ho ?_ (fun r=>r.elim)
    rintro⟨nw,b⟩ ⟨nx',e1,g1,g2,g3,g4,g5,g6⟩
    dsimp only at e1 g2 g3 g4 g5 ⊢
    subst e1
    refine Ok.idx (by omega) (Ok.idx hk1 ?_)
    have hnm: ∀r∈nw,r∈l:=fun r hr=>(hmem r).1 (List.take_subset _ _ (g3 r hr))
    obtain⟨row,nw',s1,s2,s3,s4,s5,s6,s7⟩:=zQ (N:=N) (l:=nw) (by omega) (fun r hr=>hok r (hnm r hr))
    refine Ok.eq s1 ?_
    have hlimx: ∀c∈row,c∈px l:=fun c hc=>by
     obtain⟨r,hr,h⟩:=s7 c hc
     exact py.2 ⟨r,hnm r hr,h⟩
    have hol:out.length<=2*l.length:=by have:=I.lim.len I.can;rw [jC,gw] at this;exact this
    have hox: ∀c∈out,c.Xs.length<=2*l.length:=fun c hc=>by
     have:=I.lim.row I.can (b:=bM c) (cP.2 ⟨c,hc,rfl⟩)
     rw [lk] at this;exact this
    obtain⟨out',p1,p2⟩:=C3 (N:=N) (s:=out) (b:=⟨ys[k],ys[k+1],row⟩) (by omega) (fun c hc=>by have:=hox c hc;omega)
    refine Ok.eq p1 ?_
    have htop: ∀c∈out.map bM,c.y1<=(bM ⟨ys[k],ys[k+1],row⟩).y0:=fun c hc=>by
     obtain⟨d,hd,rfl⟩:=cP.1 hc
     exact I.top d hd ys[k] hyk
    have hcan:=vk I.can htop s3 s4
    refine Ok.nx ⟨⟨k+1,nx',rfl,rfl, .inl hk1,⟨by dsimp only;rw [p2];exact hcan,fun c hc y hy1=>?_,fun x y=>?_,?_,fun r hr=>g3 r (s2.subset hr),fun r hr y hy1 h=>?_,by rw [s2.length_eq];exact g2,g1,fun j r y hj hr hy1=>?_,fun r hr y hy1=>?_⟩⟩,by simp only [bX];omega⟩
    ·rw [hyk1] at hy1;injection hy1 with hy1;subst hy1
     have hm':bM c∈lL (out.map bM) (bM ⟨ys[k],ys[k+1],row⟩):=by rw [<-p2];exact cP.2 ⟨c,hc,rfl⟩
     exact vl htop (by show ys[k]<=ys[k+1];omega) _ hm'
    ·simp only [hyk1,Option.some.injEq,forall_eq']
     unfold uy
     rw [p2,vj htop (fun c hc=>(I.can.each c hc).1) (fun h=>absurd h (by show ¬ys[k+1]<=ys[k];omega))]
     by_cases hyy:ys[k]<=y/\y<ys[k+1]
     ·rw [aD (show (bM ⟨ys[k],ys[k+1],row⟩).y0<=y/\y< (bM ⟨ys[k],ys[k+1],row⟩).y1 from hyy),cB hyy.2,Bool.and_true]
      show l5 row x=_
      rw [s5,fX,xn,jR]
      constructor
      ·rintro⟨r,hr,h⟩
       have hrm:=List.take_subset _ _ (g3 r hr)
       have h5:=g5 r hr
       have:=hy.next hyk hyk1 (y1m r hrm) h5.2
       exact⟨r,hnm r hr,h,by omega,by omega⟩
      ·rintro⟨r,hr,h,h7,h8⟩
       have hrm:=(hmem r).2 hr
       have h9:r.Y0<=ys[k]:=by
        by_cases h10:r.Y0<=ys[k]
        ·exact h10
        ·have:=hy.next hyk hyk1 (y0m r hrm) (by omega);omega
       have h11:r∈m.take nx':=by
        obtain⟨j,hj⟩:=fY hrm
        by_cases h12:j<nx'
        ·exact gJ (i:=j) (by rw [List.getElem?_take_of_lt h12];exact hj)
        ·have:=g6 j r (by omega) hj;omega
       exact⟨r,g4 r h11 (by omega),h⟩
     ·rw [aC (show ¬((bM ⟨ys[k],ys[k+1],row⟩).y0<=y/\y< (bM ⟨ys[k],ys[k+1],row⟩).y1) from hyy)]
      show uy (out.map bM) x y=_
      rw [hcov]
      by_cases h1:y<ys[k]
      ·rw [cB h1,cB (show y<ys[k+1] by omega)]
      ·rw [bE h1,bE (show ¬y<ys[k+1] by omega)]
    ·show tA (px l) (lj l) (out'.map bM)
     rw [p2]
     exact I.lim.push (yml _ (cI _)) (yml _ (cI _)) hlimx
    ·rw [hyk1] at hy1;injection hy1 with hy1;subst hy1
     exact s2.symm.subset (g4 r hr (by omega))
    ·rw [hyk1] at hy1;injection hy1 with hy1;subst hy1
     exact hy.next hyk hyk1 (y0m r (gJ hr)) (g6 j r hj hr)
    ·rw [hyk1] at hy1;injection hy1 with hy1;subst hy1
     have:=(g5 r (s2.subset hr)).1;omega
  ·have hge: ¬k+1<ys.length:=by have:=of_decide_eq_false h;omega
   refine⟨I.can,fun x y=>?_,I.lim⟩
   rw [I.cover]
   by_cases hyn:ys= []
   ·have:vO l x y=false:=by
     rw [<-ou,jR]
     rintro⟨r,hr,_⟩
     have:=y0m r ((hmem r).2 hr)
     rw [hyn] at this;cases this
    rw [this];rfl
   ·have hkl:k<ys.length:=by
     rcases hk with h | h
     ·exact h
     ·subst h;exact List.length_pos_iff.2 hyn
    rw [aJ hkl]
    simp only [Option.some.injEq,forall_eq']
    cases hc:vO l x y with
    | false=>rfl
    | true=>
     obtain⟨r,hr,_,h7,h8⟩:=jR.1 hc
     have:=y1m r ((hmem r).2 hr)
     obtain⟨j,hj⟩:=fY this
     have hjl:=(aZ.1 hj).1
     have:r.Y1<=ys[k]:=by
      by_cases e:j=k
      ·subst e;rw [aJ hkl] at hj;injection hj with hj;omega
      ·have:=hy.lt (show j<k by omega) hj (aJ hkl);omega
     rw [cB (show y<ys[k] by omega)];rfl
 ·refine⟨0,0,rfl,rfl, .inr rfl,?_⟩
  show J0 l m ys 0 [] [] 0
  refine⟨eA.nil,fun c hc=>(by cases hc),fun x y=>?_,fun b hb=>(by cases hb),fun r hr=>(by cases hr),fun r hr=>(by rw [List.take_zero] at hr;cases hr),bN _,nb _,fun j r y _ hr hy0=>?_,fun r hr=>(by cases hr)⟩
  ·show false=_
   symm
   rw [Bool.and_eq_false_iff]
   cases hc:vO l x y with
   | false=>exact .inl rfl
   | true=>
    right
    obtain⟨r,hr,_,h7,h8⟩:=jR.1 hc
    have hr0:=y0m r ((hmem r).2 hr)
    have hpos:0<ys.length:=List.length_pos_of_mem hr0
    rw [decide_eq_false_iff_not]
    intro h
    have h:=h ys[0] (aJ hpos)
    obtain⟨j,hj⟩:=fY hr0
    by_cases e:j=0
    ·subst e;rw [aJ hpos] at hj;injection hj with hj;omega
    ·have:=hy.lt (show 0<j by omega) (aJ hpos) hj;omega
  ·obtain⟨j',hj'⟩:=fY (y0m r (gJ hr))
   by_cases e:j'=0
   ·subst e;rw [hy0] at hj';injection hj' with hj';omega
   ·have:=hy.lt (show 0<j' by omega) hy0 hj';omega
 ·rintro o ho
  refine Ok.cs ho (fun s h=>Ok.ret h) (fun r=>r.elim)
end
end Go.Gk
namespace Go.Gk
open Go
section
variable {N:Nat}
def yP:List Int->List (Int×Int)
 | a::b::l=>(a,b)::yP l
 | _=>[]
theorem wz: ∀(xs:List Int),(yP xs).length=xs.length / 2
 | []=>rfl
 | [a]=>by simp [yP]
 | a::b::l=>by unfold yP;rw [j9,wz l];simp only [j9];omega
theorem uA: ∀(xs:List Int) (j:Nat) (h:2*j+1<xs.length),(yP xs)[j]? =some (xs[2*j],xs[2*j+1])
 | [],j,h=>by simp at h
 | [a],j,h=>by simp at h
 | a::b::l,0,h=>rfl
 | a::b::l,j+1,h=>by
  have:=uA l j (by simp at h;omega)
  unfold yP
  rw [List.getElem?_cons_succ,this]
  have e1: (a::b::l)[2* (j+1)]=l[2*j]'(by simp at h;omega):=by simp [show 2* (j+1)=2*j+1+1 by omega]
  have e2: (a::b::l)[2* (j+1)+1]=l[2*j+1]'(by simp at h;omega):=by simp [show 2* (j+1)+1=2*j+1+1+1 by omega]
  rw [e1,e2]
theorem uB: ∀{xs:List Int},xs.length % 2=0->oF (yP xs)=xs
 | [],_=>rfl
 | [a],h=>by simp at h
 | a::b::l,h=>by unfold yP;rw [mx,uB (by simp at h;omega)]
theorem GK {xs:List Int} (h:lG xs) (he:xs.length % 2=0) (x:Int):l5 xs x=DU (yP xs) x:=by
 have:=uz (l:=yP xs) (by rw [uB he];exact h) x
 rwa [uB he] at this
theorem zS {xs:List Int}: ∀p∈yP xs,p.1∈xs/\p.2∈xs:=by
 intro p hp
 obtain⟨j,hj⟩:=fY hp
 have hjl:=(aZ.1 hj).1
 rw [wz] at hjl
 rw [uA xs j (by omega)] at hj
 injection hj with hj;subst hj
 exact⟨cI _,cI _⟩
theorem Ch {xs:List Int} (h:lG xs): ∀p∈yP xs,p.1<p.2:=by
 intro p hp
 obtain⟨j,hj⟩:=fY hp
 have hjl:=(aZ.1 hj).1
 rw [wz] at hjl
 rw [uA xs j (by omega)] at hj
 injection hj with hj;subst hj
 exact h.lt (show 2*j<2*j+1 by omega) (aJ _) (aJ _)
def lM (b:aA):List aI:=(yP b.Xs).map fun p=>⟨p.1,b.Y0,p.2,b.Y1⟩
def aN (s:List aA):List aI:=s.flatMap lM
theorem lN (b:aA) (s:List aA):aN (b::s)=lM b++aN s:=rfl
theorem kU (b:aA): (lM b).length=b.Xs.length / 2:=by unfold lM;rw [gw,wz]
theorem ll (s t:List aA):aN (s++t)=aN s++aN t:=List.flatMap_append
theorem vn (s:List aA) (k:Nat): (aN (s.take k)).length<=(aN s).length:=by
 conv=>rhs;rw [<-List.take_append_drop k s,ll,dS]
 omega
theorem xq {s:List aA} {A B:Nat} (h1:s.length<=A) (h2: ∀b∈s,b.Xs.length<=B): (aN s).length<=A*B:=by
 induction s generalizing A with
 | nil=>simp [aN]
 | cons b s ih=>
  rw [lN,dS,kU]
  simp at h1
  obtain⟨A',rfl⟩: ∃A',A=A'+1:=⟨A - 1,by omega⟩
  have:=ih (A:=A') (by omega) (fun c hc=>h2 c (jo _ hc))
  have:=h2 b (by simp)
  rw [Nat.add_mul];omega
theorem xt {s:List aA} (he: ∀b∈s,b.Xs.length % 2=0) (h1:s.length<=1099511627776) (h2: ∀b∈s,b.Xs.length<=1099511627776/\b.Xs.length<N) (h3: (aN s).length<=1099511627776):hG N s=some (aN s):=by
 refine Ok.get ?_
 unfold hG
 refine Ok.bind (Ok.iY (fun k t=>t=aN (s.take k)) (by omega) rfl (fun k t hk e=>?_)) (fun t e=>Ok.ret (by rw [e,eW]))
 subst e
 refine Ok.idx hk ?_
 have hm:=cI hk
 generalize hb:s[k]=b at hm ⊢
 have heb:=he b hm
 have hbl:=h2 b hm
 have hts:aN (s.take (k+1))=aN (s.take k)++lM b:=by
  rw [fw hk,ll,hb];simp [aN]
 have hle:=vn s (k+1)
 rw [hts,dS,kU] at hle
 refine Ok.bind (Ok.nc (Go:=fun s'=>s'.1=aN (s.take (k+1))) (Rt:=fun _=>True) (fun s'=>∃j:Nat,s'.2= ((2*j:Nat):Int)/\2*j<=b.Xs.length/\s'.1=aN (s.take k)++(lM b).take j) (fun s'=>b.Xs.length - s'.2.toNat) ?_ ⟨0,rfl,by omega,by simp⟩ (by simp;omega)) ?_
 ·rintro⟨acc,i⟩ ⟨j,e1,hj,e2⟩
  dsimp only at e1 e2 ⊢
  subst e1;subst e2
  refine Ok.bif (fun h=>?_) (fun h=>Ok.br ?_)
  ·have hlt:2*j+1<b.Xs.length:=by have:=of_decide_eq_true h;omega
   refine Ok.idx (by omega) ?_
   rw [fU (by omega)]
   refine Ok.idx hlt (Ok.app ?_ (Ok.nx ⟨⟨j+1,?_,by omega,?_⟩,?_⟩))
   ·simp;rw [kU];omega
   ·rw [yO (by omega)];congr 1
   ·rw [iW]
    congr 1
    have hg: (lM b)[j]? =some ⟨b.Xs[2*j],b.Y0,b.Xs[2*j+1],b.Y1⟩:=by
     unfold lM;rw [il,uA _ _ hlt];rfl
    have hjl:=(aZ.1 hg).1
    rw [fw hjl,(aZ.1 hg).2]
   ·rw [yO (by omega)];simp only [bX];omega
  ·have hge:2*j=b.Xs.length:=by have:=of_decide_eq_false h;omega
   show aN (s.take k)++(lM b).take j=_
   rw [hts,ov (l:=lM b) (by rw [kU];omega)]
 ·rintro o ho
  exact Ok.cs ho (fun s' h=>Ok.ret h) (fun r=>r.elim)
theorem GL {s:List aA} (h1:s.length<=1099511627776) (h2: ∀b∈s,b.Xs.length<=1099511627776) (h3: (aN s).length<=1099511627776):kp N s=some (((aN s).length:Nat):Int):=by
 refine Ok.get ?_
 unfold kp
 refine Ok.bind (Ok.iY (fun k t=>t= (((aN (s.take k)).length:Nat):Int)) (by omega) rfl (fun k t hk e=>?_)) (fun t e=>Ok.ret (by rw [e,eW]))
 subst e
 refine Ok.idx hk (Ok.ret ?_)
 have hm:=cI hk
 have hbl:=h2 _ hm
 have hts:aN (s.take (k+1))=aN (s.take k)++lM s[k]:=by
  rw [fw hk,ll];simp [aN]
 have hle:=vn s (k+1)
 rw [hts,dS,kU] at hle
 have e:Int.tdiv ((s[k].Xs.length:Nat):Int) 2= ((s[k].Xs.length / 2:Nat):Int):=by
  rw [show (2:Int)= ((2:Nat):Int) by rfl,<-Int.ofNat_tdiv]
 rw [e,Bi (by omega),wrap_add (by omega),hts,dS,kU]
theorem Ci (l m:List aI) (x y:Int):vO (l++m) x y= (vO l x y||vO m x y):=List.any_append
theorem Fq {b:aA} (h:lG b.Xs) (he:b.Xs.length % 2=0) (x y:Int):vO (lM b) x y= (l5 b.Xs x&&(decide (b.Y0<=y)&&decide (y<b.Y1))):=by
 rw [GK h he,fX,jR,bP,xo,bP,bK,bK]
 unfold lM
 constructor
 ·rintro⟨r,hr,h1,h2⟩
  obtain⟨p,hp,rfl⟩:=cP.1 hr
  exact⟨⟨p,hp,h1⟩,h2⟩
 ·rintro⟨⟨p,hp,h1⟩,h2⟩
  exact⟨_,cP.2 ⟨p,hp,rfl⟩,h1,h2⟩
theorem rR: ∀{s:List aA},eA (s.map bM)->∀x y,vO (aN s) x y=uy (s.map bM) x y
 | [],_,x,y=>rfl
 | b::s,h,x,y=>by
  rw [lN,Ci,rR h.tail x y]
  have hb:=h.each (bM b) (by simp)
  rw [Fq hb.2.2.1 hb.2.2.2]
  unfold uy
  rw [eH,kB]
  by_cases hy:b.Y0<=y/\y<b.Y1
  ·rw [aD (show (bM b).y0<=y/\y< (bM b).y1 from hy),jQ (fun c hc=> .inl (by have:=h.xk c hc;have e: (bM b).y1=b.Y1:=rfl;omega)),cB hy.1,cB hy.2]
   show (l5 b.Xs x&&true||false)=l5 b.Xs x
   simp
  ·rw [aC (show ¬((bM b).y0<=y/\y< (bM b).y1) from hy)]
   have: (decide (b.Y0<=y)&&decide (y<b.Y1))=false:=by rw [Bool.and_eq_false_iff,decide_eq_false_iff_not,decide_eq_false_iff_not];omega
   rw [this];simp
theorem nD {s:List aA} {r:aI} (h:r∈aN s): ∃b∈s,∃p∈yP b.Xs,r= ⟨p.1,b.Y0,p.2,b.Y1⟩:=by
 unfold aN lM at h
 obtain⟨b,hb,h⟩:=List.mem_flatMap.1 h
 obtain⟨p,hp,rfl⟩:=cP.1 h
 exact⟨b,hb,p,hp,rfl⟩
theorem xu {s:List aA} {X Y:List Int} (h:eA (s.map bM)) (hl:tA X Y (s.map bM)) (hx: ∀c∈X,small c) (hy: ∀c∈Y,small c): ∀r∈aN s,BN r/\(r.X0∈X/\r.X1∈X)/\r.Y0∈Y/\r.Y1∈Y:=by
 intro r hr
 obtain⟨b,hb,p,hp,rfl⟩:=nD hr
 have hm:bM b∈s.map bM:=cP.2 ⟨b,hb,rfl⟩
 have hc:=h.each _ hm
 have hll:=hl _ hm
 have h1:=zS p hp
 have h2:=hll.2.2 p.1 h1.1
 have h3:=hll.2.2 p.2 h1.2
 exact⟨⟨Ch hc.2.2.1 p hp,hc.1,hx _ h2,hx _ h3,hy _ hll.1,hy _ hll.2.1⟩,⟨h2,h3⟩,hll.1,hll.2.1⟩
theorem tl {l:List Int} {x:Int} (h: ∀c∈l,c<=x):l5 l x= (l.length % 2==1):=by unfold l5;rw [C1 h]
theorem vo {l:List Int} {a x:Int} (h:x<a):l5 (l++[a]) x=l5 l x:=by unfold l5;rw [xf,lh,aC (by omega),zP];rfl
def DY (l:List Int):Bool:=l.length % 2==1
theorem xv (l:List Int) (a:Int):DY (l++[a]) = !DY l:=by
 unfold DY
 rw [dS,fX,Bool.not_eq_true',beq_iff_eq,beq_eq_false_iff_ne]
 simp;omega
structure Bj (jO:Bool->Bool->Bool) (a b a' b' out:List Int) (inA inB is:Bool) (pa pb:List Int):Prop where
 ea:a=pa++a'
 eb:b=pb++b'
 oa:inA=DY pa
 ob:inB=DY pb
 oo:is=DY out
 ok:is=jO inA inB
 low: ∀c,(c∈pa\/c∈pb\/c∈out)->∀d,(d∈a'\/d∈b')->c<d
 inc:lG out
 J3: ∀x,(∀d,(d∈a'\/d∈b')->x<d)->l5 out x=jO (l5 pa x) (l5 pb x)
 mem: ∀c∈out,c∈pa\/c∈pb
 len:out.length<=pa.length+pb.length
theorem Bj.step {jO:Bool->Bool->Bool} {a b a' b' out:List Int} {inA inB is:Bool} {pa pb:List Int} (I:Bj jO a b a' b' out inA inB is pa pb) (ha:lG a) (hb:lG b) (x:Int) (ta tb:List Int) (wa wb:Bool)
  (h1:a'= (if wa then x::ta else ta)) (h2:b'= (if wb then x::tb else tb)) (hw:wa=true\/wb=true) (hx: ∀d,(d∈ta\/d∈tb)->x<d):
  Bj jO a b ta tb (if jO (inA ^^ wa) (inB ^^ wb)=is then out else out++[x]) (inA ^^ wa) (inB ^^ wb) (jO (inA ^^ wa) (inB ^^ wb)) (if wa then pa++[x] else pa) (if wb then pb++[x] else pb):=by
 have hxm:x∈a'\/x∈b':=by
  rcases hw with h | h
  ·left;rw [h1,aD h];simp
  ·right;rw [h2,aD h];simp
 have hsub: ∀d,(d∈ta\/d∈tb)->d∈a'\/d∈b':=fun d hd=>by
  rcases hd with h | h
  ·left;rw [h1];split
   ·exact jo _ h
   ·exact h
  ·right;rw [h2];split
   ·exact jo _ h
   ·exact h
 have hlow: ∀c,(c∈pa\/c∈pb\/c∈out)->c<x:=fun c hc=>I.low c hc x hxm
 have hpa: ∀c∈(if wa then pa++[x] else pa),c∈pa\/(wa=true/\c=x):=fun c hc=>by
  split at hc
  ·rename_i h
   rcases cR.1 hc with h' | h'
   ·exact .inl h'
   ·simp at h';exact .inr ⟨h,h'⟩
  ·exact .inl hc
 have hpb: ∀c∈(if wb then pb++[x] else pb),c∈pb\/(wb=true/\c=x):=fun c hc=>by
  split at hc
  ·rename_i h
   rcases cR.1 hc with h' | h'
   ·exact .inl h'
   ·simp at h';exact .inr ⟨h,h'⟩
  ·exact .inl hc
 have hout: ∀c∈(if jO (inA ^^ wa) (inB ^^ wb)=is then out else out++[x]),c∈out\/c=x:=fun c hc=>by
  split at hc
  ·exact .inl hc
  ·rcases cR.1 hc with h' | h'
   ·exact .inl h'
   ·simp at h';exact .inr h'
 have ooA: (inA ^^ wa)=DY (if wa then pa++[x] else pa):=by
  rw [I.oa];cases wa <;> simp [xv]
 have ooB: (inB ^^ wb)=DY (if wb then pb++[x] else pb):=by
  rw [I.ob];cases wb <;> simp [xv]
 have ooO:jO (inA ^^ wa) (inB ^^ wb)=DY (if jO (inA ^^ wa) (inB ^^ wb)=is then out else out++[x]):=by
  split
  ·rename_i h;rw [h];exact I.oo
  ·rename_i h
   rw [xv,<-I.oo]
   cases hk:jO (inA ^^ wa) (inB ^^ wb) <;> cases his:is <;> simp_all
 refine⟨?_,?_,ooA,ooB,ooO,rfl,?_,?_,?_,?_,?_⟩
 ·rw [I.ea,h1];split <;> simp
 ·rw [I.eb,h2];split <;> simp
 ·intro c hc d hd
  have hd':=hx d hd
  have hdd:=hsub d hd
  rcases hc with h | h | h
  ·rcases hpa c h with h' | ⟨_,rfl⟩
   ·exact I.low c (.inl h') d hdd
   ·exact hd'
  ·rcases hpb c h with h' | ⟨_,rfl⟩
   ·exact I.low c (.inr (.inl h')) d hdd
   ·exact hd'
  ·rcases hout c h with h' | rfl
   ·exact I.low c (.inr (.inr h')) d hdd
   ·exact hd'
 ·split
  ·exact I.inc
  ·exact I.inc.Fp fun c hc=>hlow c (.inr (.inr hc))
 ·intro y hy
  by_cases hxy:y<x
  ·have e1:l5 (if wa then pa++[x] else pa) y=l5 pa y:=by split;exact vo hxy;rfl
   have e2:l5 (if wb then pb++[x] else pb) y=l5 pb y:=by split;exact vo hxy;rfl
   have e3:l5 (if jO (inA ^^ wa) (inB ^^ wb)=is then out else out++[x]) y=l5 out y:=by split;rfl;exact vo hxy
   rw [e1,e2,e3]
   refine I.J3 y fun d hd=>?_
   have:x<=d:=by
    rcases hd with h | h
    ·rw [h1] at h
     split at h
     ·rcases gm.1 h with rfl | h
      ·exact Int.le_refl _
      ·have:=hx d (.inl h);omega
     ·have:=hx d (.inl h);omega
    ·rw [h2] at h
     split at h
     ·rcases gm.1 h with rfl | h
      ·exact Int.le_refl _
      ·have:=hx d (.inr h);omega
     ·have:=hx d (.inr h);omega
   omega
  ·rw [tl (l:=if wa then pa++[x] else pa),tl (l:=if wb then pb++[x] else pb),tl]
   ·have e1:=ooA;have e2:=ooB;have e3:=ooO
    unfold DY at e1 e2 e3
    rw [<-e1,<-e2,<-e3]
   ·intro c hc
    rcases hout c hc with h | rfl
    ·have:=hlow c (.inr (.inr h));omega
    ·omega
   ·intro c hc
    rcases hpb c hc with h | ⟨_,rfl⟩
    ·have:=hlow c (.inr (.inl h));omega
    ·omega
   ·intro c hc
    rcases hpa c hc with h | ⟨_,rfl⟩
    ·have:=hlow c (.inl h);omega
    ·omega
 ·intro c hc
  have m1: ∀c,c∈pa->c∈(if wa then pa++[x] else pa):=fun c h=>by split;exact List.mem_append_left _ h;exact h
  have m2: ∀c,c∈pb->c∈(if wb then pb++[x] else pb):=fun c h=>by split;exact List.mem_append_left _ h;exact h
  rcases hout c hc with h | rfl
  ·rcases I.mem c h with h | h
   ·exact .inl (m1 c h)
   ·exact .inr (m2 c h)
  ·rcases hw with h | h
   ·left;rw [aD h];simp
   ·right;rw [aD h];simp
 ·have:=I.len
  have h3: (if wa then pa++[x] else pa).length+ (if wb then pb++[x] else pb).length>=pa.length+pb.length+1:=by
   rcases hw with h | h
   ·subst h;cases wb <;> simp <;> omega
   ·subst h;cases wa <;> simp <;> omega
  split
  ·omega
  ·simp at h3 ⊢;omega
end
end Go.Gk
namespace Go.Gk
open Go
section
variable {N:Nat}
theorem ik (x:Int) (l:List Int):idx (x::l) 0=some x:=rfl
theorem pz {α:Type} (x:α) (l:List α):qC (x::l) 1 (((x::l).length:Nat):Int)=some l:=t7 (x::l) 1 (by simp)
theorem jc {α:Type} (x:α) (l:List α):decide ((((x::l).length:Nat):Int)>0)=true:=cB (by simp)
theorem rS {α:Type} (x:α) (l:List α): ((((x::l).length:Nat):Int)==0)=false:=by rw [beq_eq_false_iff_ne];simp;omega
theorem Cj {a b:List Int} (ha:lG a) (hb:lG b) (h:a≠[]\/b≠[]): ∃x ta tb wa wb,a= (if wa then x::ta else ta)/\b= (if wb then x::tb else tb)/\(wa=true\/wb=true)/\(∀d,(d∈ta\/d∈tb)->x<d):=by
 match a,b,ha,hb,h with
 | [],[],_,_,h=>rcases h with h | h <;> exact absurd rfl h
 | x::ta,[],ha,_,_=>exact⟨x,ta,[],true,false,rfl,rfl, .inl rfl,fun d hd=>by rcases hd with h | h;exact ha.head d h;cases h⟩
 | [],y::tb,_,hb,_=>exact⟨y,[],tb,false,true,rfl,rfl, .inr rfl,fun d hd=>by rcases hd with h | h;cases h;exact hb.head d h⟩
 | x::ta,y::tb,ha,hb,_=>
  rcases Int.lt_trichotomy x y with h | h | h
  ·refine⟨x,ta,y::tb,true,false,rfl,rfl, .inl rfl,fun d hd=>?_⟩
   rcases hd with h1 | h1
   ·exact ha.head d h1
   ·rcases gm.1 h1 with rfl | h1
    ·exact h
    ·have:=hb.head d h1;omega
  ·subst h
   exact⟨x,ta,tb,true,true,rfl,rfl, .inl rfl,fun d hd=>by rcases hd with h | h;exact ha.head d h;exact hb.head d h⟩
  ·refine⟨y,x::ta,tb,false,true,rfl,rfl, .inr rfl,fun d hd=>?_⟩
   rcases hd with h1 | h1
   ·rcases gm.1 h1 with rfl | h1
    ·exact h
    ·have:=ha.head d h1;omega
   ·exact hb.head d h1
theorem DZ {φ:Bool->Bool->Option Bool} {jO:Bool->Bool->Bool} (hφ: ∀p q,φ p q=some (jO p q)) (hk:jO false false=false) {a b:List Int} (ha:lG a) (hb:lG b) (hae:a.length % 2=0) (hbe:b.length % 2=0)
  (jT:a.length<=1099511627776) (hbl:b.length<=1099511627776) (hN:a.length+b.length<N):
  Ok (nF N a b φ) (fun m=>lG m/\m.length % 2=0/\(∀x,l5 m x=jO (l5 a x) (l5 b x))/\∀c∈m,c∈a\/c∈b):=by
 unfold nF
 refine Ok.bind (Ok.nc (Go:=fun s=>lG s.2.2.1/\s.2.2.1.length % 2=0/\(∀x,l5 s.2.2.1 x=jO (l5 a x) (l5 b x))/\∀c∈s.2.2.1,c∈a\/c∈b) (Rt:=fun _=>True)
  (fun s=>∃pa pb,Bj jO a b s.1 s.2.1 s.2.2.1 s.2.2.2.1 s.2.2.2.2.1 s.2.2.2.2.2 pa pb) (fun s=>s.1.length+s.2.1.length) ?_ ?_ hN) ?_
 ·rintro⟨a',b',out,inA,inB,is⟩ ⟨pa,pb,I⟩
  dsimp only at I ⊢
  have ha':lG a':=by have:=ha;rw [I.ea] at this;exact(List.pairwise_append.1 this).2.1
  have hb':lG b':=by have:=hb;rw [I.eb] at this;exact(List.pairwise_append.1 this).2.1
  have hle:pa.length+a'.length=a.length:=by rw [I.ea];simp
  have hlb:pb.length+b'.length=b.length:=by rw [I.eb];simp
  have hlo:=I.len
  by_cases hne:a'≠[]\/b'≠[]
  ·obtain⟨x,ta,tb,wa,wb,h1,h2,hw,hx⟩:=Cj ha' hb' hne
   have J:=I.step ha hb x ta tb wa wb h1 h2 hw hx
   have fin: ∀(sa sb:List Int×Bool),sa= (ta,inA ^^ wa)->sb= (tb,inB ^^ wb)->
     Ok ((φ sa.2 sb.2).bind fun x220=>(bif (x220 != is) then ((app 8 out ([x]: (List Int))).bind fun x227=>some (x227,x220)) else (some (out,is))).bind fun s224=>some (Fl.nx (sa.1,sb.1,s224.1,sa.2,sb.2,s224.2)))
      (Hm (fun s':List Int×List Int×List Int×Bool×Bool×Bool=>(∃pa pb,Bj jO a b s'.1 s'.2.1 s'.2.2.1 s'.2.2.2.1 s'.2.2.2.2.1 s'.2.2.2.2.2 pa pb)/\s'.1.length+s'.2.1.length<a'.length+b'.length) (fun s=>lG s.2.2.1/\s.2.2.1.length % 2=0/\(∀x,l5 s.2.2.1 x=jO (l5 a x) (l5 b x))/\∀c∈s.2.2.1,c∈a\/c∈b) (fun _:Empty=>True)):=by
    rintro _ _ rfl rfl
    refine Ok.eq (hφ _ _) ?_
    have hlt:ta.length+tb.length<a'.length+b'.length:=by
     rw [h1,h2]
     rcases hw with h | h
     ·subst h;cases wb <;> simp <;> omega
     ·subst h;cases wa <;> simp <;> omega
    by_cases he:jO (inA ^^ wa) (inB ^^ wb)=is
    ·rw [aD he] at J
     refine Ok.eq (x:=(out,is)) (by rw [he,show (is != is)=false by simp,aQ]) ?_
     rw [he] at J
     exact Ok.nx ⟨⟨_,_,J⟩,hlt⟩
    ·rw [aC he] at J
     refine Ok.eq (x:=(out++[x],jO (inA ^^ wa) (inB ^^ wb))) (by rw [show (jO (inA ^^ wa) (inB ^^ wb) != is)=true by simp [he],aR,gQ (by simp;omega),aB]) (Ok.nx ⟨⟨_,_,J⟩,hlt⟩)
   rcases hw with rfl | rfl
   ·rw [aD rfl] at h1
    subst h1
    refine Ok.eq (x:=true) (by rw [jc,aR]) ?_
    rw [aR]
    have hle2: (bif (((b'.length:Nat):Int)==0) then (some true) else (bif (decide ((((x::ta).length:Nat):Int)>0)) then ((idx (x::ta) 0).bind fun x181=>(idx b' 0).bind fun x183=>some (decide (x181<=x183))) else (some false)))=some true:=by
     cases b' with
     | nil=>rfl
     | cons y b''=>
      rw [rS,aQ,jc,aR,ik,aB,ik,aB]
      have:x<=y:=by
       cases wb with
       | true=>simp at h2;omega
       | false=>have:=hx y (.inr (by simp at h2;rw [<-h2];simp));omega
      rw [cB this]
    refine Ok.eq hle2 ?_
    rw [aR]
    refine Ok.eq (x:=x) (by rw [ik,aB]) ?_
    refine Ok.eq (x:=true) (by rw [jc,aR,ik,aB];simp) ?_
    refine Ok.eq (x:=(ta,!inA)) (by rw [aR,pz,aB]) ?_
    cases wb with
    | true=>
     rw [aD rfl] at h2
     subst h2
     refine Ok.eq (x:=true) (by rw [jc,aR,ik,aB];simp) ?_
     refine Ok.eq (x:=(tb,!inB)) (by rw [aR,pz,aB]) ?_
     exact fin _ _ (by simp) (by simp)
    | false=>
     have h2:b'=tb:=h2
     subst h2
     refine Ok.eq (x:=false) ?_ ?_
     ·cases b' with
      | nil=>rfl
      | cons y b''=>
       have:=hx y (.inr (by simp))
       rw [jc,aR,ik,aB,show (y==x)=false by rw [beq_eq_false_iff_ne];omega]
     ·refine Ok.eq (x:=(b',inB)) (by rw [aQ]) ?_
      exact fin _ _ (by simp) (by simp)
   ·cases wa with
    | true=>
     rw [aD rfl] at h1 h2
     subst h1;subst h2
     refine Ok.eq (x:=true) (by rw [jc,aR]) ?_
     rw [aR]
     refine Ok.eq (x:=true) (by rw [rS,aQ,jc,aR,ik,aB,ik,aB];simp) ?_
     rw [aR]
     refine Ok.eq (x:=x) (by rw [ik,aB]) ?_
     refine Ok.eq (x:=true) (by rw [jc,aR,ik,aB];simp) ?_
     refine Ok.eq (x:=(ta,!inA)) (by rw [aR,pz,aB]) ?_
     refine Ok.eq (x:=true) (by rw [jc,aR,ik,aB];simp) ?_
     refine Ok.eq (x:=(tb,!inB)) (by rw [aR,pz,aB]) ?_
     exact fin _ _ (by simp) (by simp)
    | false=>
     have h1:a'=ta:=h1
     rw [aD rfl] at h2
     subst h1;subst h2
     refine Ok.eq (x:=true) (by rw [jc,GD];simp) ?_
     rw [aR]
     refine Ok.eq (x:=false) ?_ ?_
     ·rw [rS,aQ]
      cases a' with
      | nil=>rfl
      | cons y a''=>
       have:=hx y (.inl (by simp))
       rw [jc,aR,ik,aB,ik,aB,bE (by omega)]
     ·rw [aQ]
      refine Ok.eq (x:=x) (by rw [ik,aB]) ?_
      refine Ok.eq (x:=false) ?_ ?_
      ·cases a' with
       | nil=>rfl
       | cons y a''=>
        have:=hx y (.inl (by simp))
        rw [jc,aR,ik,aB,show (y==x)=false by rw [beq_eq_false_iff_ne];omega]
      ·refine Ok.eq (x:=(a',inA)) (by rw [aQ]) ?_
       refine Ok.eq (x:=true) (by rw [jc,aR,ik,aB];simp) ?_
       refine Ok.eq (x:=(tb,!inB)) (by rw [aR,pz,aB]) ?_
       exact fin _ _ (by simp) (by simp)
  ·have ea:a'= []:=Classical.byContradiction fun h=>hne (.inl h)
   have eb:b'= []:=Classical.byContradiction fun h=>hne (.inr h)
   subst ea;subst eb
   refine Ok.eq (x:=false) rfl ?_
   refine Ok.br ⟨I.inc,?_,fun x=>?_,fun c hc=>?_⟩
   ·have h1:=I.ea;have h2:=I.eb
    rw [lu] at h1 h2
    have h3:DY out=false:=by
     rw [<-I.oo,I.ok,I.oa,I.ob,<-h1,<-h2]
     unfold DY;rw [hae,hbe];exact hk
    unfold DY at h3
    rw [beq_eq_false_iff_ne] at h3
    dsimp only;omega
   ·have:=I.J3 x (fun d hd=>by rcases hd with h | h <;> cases h)
    have h1:=I.ea;have h2:=I.eb
    rw [lu] at h1 h2
    rw [h1,h2];exact this
   ·have h1:=I.ea;have h2:=I.eb
    rw [lu] at h1 h2
    rw [h1,h2];exact I.mem c hc
 ·exact⟨[],[],rfl,rfl,rfl,rfl,rfl,hk.symm,fun c hc=>(by rcases hc with h | h | h <;> cases h),kH,fun x _=>hk.symm,fun c hc=>(by cases hc),bN _⟩
 ·rintro o ho
  exact Ok.cs ho (fun s h=>Ok.ret h) (fun r=>r.elim)
theorem eA.app {s t:List Bd} (h:eA (s++t)):eA t:=⟨fun b hb=>h.each b (List.mem_append_right _ hb),(List.pairwise_append.1 h.ord).2.1⟩
theorem eA.low {b:Bd} {s:List Bd} (h:eA (b::s)): ∀c∈b::s,b.y0<=c.y0:=fun c hc=>by
 rcases gm.1 hc with rfl | hc
 ·exact Int.le_refl _
 ·have:=h.xk c hc;have:=(h.each b (by simp)).1;omega
theorem eA.high {s:List Bd} {b:Bd} (h:eA (s++[b])): ∀c∈s++[b],c.y1<=b.y1:=fun c hc=>by
 rcases cR.1 hc with hc | hc
 ·have:=((List.pairwise_append.1 h.ord).2.2 c hc b (by simp)).1
  have:=(h.each b (by simp)).1;omega
 ·simp at hc;subst hc;exact Int.le_refl _
def BO (s:List aA) (y e:Int):List Int×Int:=match s with
 | []=>([],e)
 | b::_=>if y<b.Y0 then ([],if b.Y0<e then b.Y0 else e) else (b.Xs,if b.Y1<e then b.Y1 else e)
theorem Ft {α:Type} (x:α) (l:List α):idx (x::l) 0=some x:=rfl
theorem Hn (s:List aA) (y e:Int):kP N s y e=some (BO s y e):=by
 unfold kP BO
 cases s with
 | nil=>rfl
 | cons b s=>
  dsimp only
  rw [rS,aQ,Ft,aB,aB,aB,aB]
  by_cases h:y<b.Y0
  ·rw [cB h,aR,aD h]
  ·rw [bE h,aQ,aC h]
theorem C4 {s:List aA} {y e:Int} {X Y:List Int} (hc:eA (s.map bM)) (hl:tA X Y (s.map bM)) (hh: ∀b t,s=b::t->y<b.Y1) (hy:y<e):
  y< (BO s y e).2/\(BO s y e).2<=e/\(∀y',y<=y'->y'< (BO s y e).2->rowAt (s.map bM) y'= (BO s y e).1)/\lG (BO s y e).1/\(BO s y e).1.length % 2=0/\((BO s y e).2=e\/(BO s y e).2∈Y)/\∀c∈(BO s y e).1,c∈X:=by
 cases s with
 | nil=>exact⟨hy,Int.le_refl _,fun y' _ _=>rfl,kH,rfl, .inl rfl,fun c hc=>(by cases hc)⟩
 | cons b t=>
  have hb:=hc.each (bM b) (by simp)
  have hlb:=hl (bM b) (by simp)
  have h1:=hh b t rfl
  unfold BO
  dsimp only
  by_cases h:y<b.Y0
  ·rw [aD h]
   dsimp only
   refine⟨by split <;> omega,by split <;> omega,fun y' h2 h3=>?_,kH,rfl,?_,fun c hc=>(by cases hc)⟩
   ·exact hc.rQ (by show y'<b.Y0;split at h3 <;> omega)
   ·split
    ·exact .inr hlb.1
    ·exact .inl rfl
  ·rw [aC h]
   dsimp only
   refine⟨by split <;> omega,by split <;> omega,fun y' h2 h3=>?_,hb.2.2.1,hb.2.2.2,?_,hlb.2.2⟩
   ·exact eA.kC (b:=bM b) (by show b.Y0<=y';omega) (by show y'<b.Y1;split at h3 <;> omega)
   ·split
    ·exact .inr hlb.2.1
    ·exact .inl rfl
theorem yQ {y:Int} {a:List aA} (hN:a.length<N) {body:List aA->Option (Fl (List aA) Empty)}
  (hb:body=fun(s373: (List aA))=>((bif (decide ((s373.length:Int)>0)) then ((idx s373 0).bind fun x407=>some (decide (x407.Y1<=y))) else (some false)).bind fun s405=>bif s405 then ((qC s373 1 (s373.length:Int)).bind fun x410=>some (.nx x410)) else (some (.br s373)):Option (Fl ((List aA)) Empty))):
  Ok (nc body N a) (JY (fun a'=>∃p,a=p++a'/\(∀c∈p,c.Y1<=y)/\∀b t,a'=b::t->y<b.Y1) (fun _=>True)):=by
 subst hb
 refine Ok.nc (fun a'=>∃p,a=p++a'/\∀c∈p,c.Y1<=y) List.length ?_ ⟨[],rfl,fun c hc=>(by cases hc)⟩ hN
 rintro a' ⟨p,e,hp⟩
 cases a' with
 | nil=>exact Ok.eq (x:=false) rfl (Ok.br ⟨p,e,hp,fun b t h=>(by cases h)⟩)
 | cons b t=>
  refine Ok.eq (x:=decide (b.Y1<=y)) (by rw [jc,aR,Ft,aB]) ?_
  refine Ok.bif (fun h=>?_) (fun h=>Ok.br ⟨p,e,hp,fun b' t' h'=>?_⟩)
  ·have h:=of_decide_eq_true h
   refine Ok.eq (pz b t) (Ok.nx ⟨⟨p++[b],by rw [e];simp,fun c hc=>?_⟩,by simp⟩)
   rcases cR.1 hc with hc | hc
   ·exact hp c hc
   ·simp at hc;subst hc;exact h
  ·have h:=of_decide_eq_false h
   injection h' with h1 h2;subst h1;omega
theorem Bl {p a':List Bd} {y y':Int} (hp: ∀c∈p,c.y1<=y) (h:y<=y'):rowAt (p++a') y'=rowAt a' y':=by
 rw [nu,aC]
 rintro⟨b,hb,h1⟩
 have:=hp b hb;omega
structure zT (jO:Bool->Bool->Bool) (X Y:List Int) (a b s:List aA):Prop where
 can:eA (s.map bM)
 cover: ∀x y,uy (s.map bM) x y=jO (uy (a.map bM) x y) (uy (b.map bM) x y)
 lim:tA X Y (s.map bM)
theorem xw {s:List aA} (hs:s≠[]) (hl:s.length<=1099511627776) (hc:eA (s.map bM)): ∃f l,idx s 0=some f/\idx s (IntKind.wrap .i64 (((s.length:Nat):Int) - 1))=some l/\f∈s/\l∈s/\∀c∈s,f.Y0<=c.Y0/\c.Y1<=l.Y1:=by
 cases s with
 | nil=>exact absurd rfl hs
 | cons f t=>
  rw [lJ (by simp) (by omega)]
  have hlt: (f::t).length - 1< (f::t).length:=by simp
  refine⟨f,(f::t)[(f::t).length - 1],rfl,jq _ _ hlt,by simp,cI _,fun c hcm=>⟨?_,?_⟩⟩
  ·exact hc.low (bM c) (cP.2 ⟨c,hcm,rfl⟩)
  ·have e: (f::t)= (f::t).dropLast++[(f::t)[(f::t).length - 1]]:=by
    have:=List.dropLast_concat_getLast (show f::t≠[] by simp)
    rw [<-List.getLast_eq_getElem (h:=by simp)];exact this.symm
   generalize (f::t)[(f::t).length - 1]=l at e
   have hc2:=hc
   rw [e,eV] at hc2
   have hm:bM c∈(List.map bM (f::t).dropLast++[bM l]):=by
    have:bM c∈(f::t).map bM:=cP.2 ⟨c,hcm,rfl⟩
    rw [e,eV] at this;exact this
   exact eA.high hc2 (bM c) hm
theorem Ck {φ:Bool->Bool->Option Bool} {jO:Bool->Bool->Bool} (hφ: ∀p q,φ p q=some (jO p q)) (hk:jO false false=false) {a b:List aA} {X Y:List Int} (ca:eA (a.map bM)) (cb:eA (b.map bM))
  (la:tA X Y (a.map bM)) (lb:tA X Y (b.map bM)) (hX:X.length<=1048576000) (hY:Y.length<=1048576000) (hs: ∀c∈Y,small c) (hN:4398046511104<=N):Ok (mI N a b φ) (zT jO X Y a b):=by
 have jT:a.length<=Y.length:=by have:=la.len ca;rwa [gw] at this
 have hbl:b.length<=Y.length:=by have:=lb.len cb;rwa [gw] at this
 unfold mI
 rw [wrap_add (by omega)]
 refine Ok.bif (fun h=>Ok.ret ?_) (fun h=>?_)
 ·have h:a.length+b.length=0:=by have:=beq_iff_eq.1 h;omega
  have e1:a= []:=List.eq_nil_of_length_eq_zero (by omega)
  have e2:b= []:=List.eq_nil_of_length_eq_zero (by omega)
  subst e1;subst e2
  exact⟨eA.nil,fun x y=>hk.symm,fun c hc=>(by cases hc)⟩
 have h0:a≠[]\/b≠[]:=by
  rw [beq_eq_false_iff_ne] at h
  by_cases e:a= []
  ·right;intro e2;subst e;subst e2;exact h rfl
  ·exact .inl e
 refine Ok.bind (Ok.iY (fun k s=>match k with | 0=>True | 1=>a= []\/((∀c∈a,s.1<=c.Y0/\c.Y1<=s.2)/\s.1∈Y/\s.2∈Y) | _=>((∀c∈a,s.1<=c.Y0/\c.Y1<=s.2)/\(∀c∈b,s.1<=c.Y0/\c.Y1<=s.2)/\s.1∈Y/\s.2∈Y)) (by simp) trivial (fun k s hk hI=>?_)) ?_
 ·obtain⟨y,e⟩:=s
  have hk:k=0\/k=1:=by simp at hk;omega
  rcases hk with rfl | rfl
  ·refine Ok.ix (x:=a) rfl ?_
   by_cases ea:a= []
   ·subst ea
    exact Ok.eq (x:=(y,e)) rfl (Ok.ret (.inl rfl))
   ·obtain⟨f,l,f1,f2,f3,f4,f5⟩:=xw ea (by omega) ca
    have hpos:decide (((a.length:Nat):Int)>0)=true:=cB (by have:=List.length_pos_iff.2 ea;omega)
    refine Ok.eq (x:=(f.Y0,l.Y1)) ?_ (Ok.ret (.inr ⟨f5,(la _ (cP.2 ⟨f,f3,rfl⟩)).1,(la _ (cP.2 ⟨l,f4,rfl⟩)).2.1⟩))
    rw [hpos,aR]
    show ((some true).bind _)=_
    rw [aB,aR,f1,aB,f2,aB,aB,aB,aB]
    simp
  ·refine Ok.ix (x:=b) rfl ?_
   have hI:a= []\/((∀c∈a,y<=c.Y0/\c.Y1<=e)/\y∈Y/\e∈Y):=hI
   by_cases eb:b= []
   ·subst eb
    refine Ok.eq (x:=(y,e)) rfl (Ok.ret ?_)
    rcases hI with h | ⟨h1,h2,h3⟩
    ·rcases h0 with h' | h'
     ·exact absurd h h'
     ·exact absurd rfl h'
    ·exact⟨h1,fun c hc=>(by cases hc),h2,h3⟩
   ·obtain⟨f,l,f1,f2,f3,f4,f5⟩:=xw eb (by omega) cb
    have hpos:decide (((b.length:Nat):Int)>0)=true:=cB (by have:=List.length_pos_iff.2 eb;omega)
    have g1:f.Y0∈Y:=(lb _ (cP.2 ⟨f,f3,rfl⟩)).1
    have g2:l.Y1∈Y:=(lb _ (cP.2 ⟨l,f4,rfl⟩)).2.1
    by_cases ea:a= []
    ·subst ea
     refine Ok.eq (x:=(f.Y0,l.Y1)) ?_ (Ok.ret ⟨fun c hc=>(by cases hc),f5,g1,g2⟩)
     rw [hpos,aR]
     show ((some true).bind _)=_
     rw [aB,aR,f1,aB,f2,aB,aB,aB,aB]
     simp
    ·obtain⟨h1,h2,h3⟩:=hI.resolve_left ea
     refine Ok.eq (x:=(if f.Y0<y then f.Y0 else y,if e<l.Y1 then l.Y1 else e)) ?_ (Ok.ret ⟨fun c hc=>?_,fun c hc=>?_,?_,?_⟩)
     ·rw [hpos,aR]
      have ez: (((a.length:Nat):Int)==0)=false:=by rw [beq_eq_false_iff_ne];have:=List.length_pos_iff.2 ea;omega
      rw [ez]
      show ((some false).bind _)=_
      rw [aB,aQ,aB,f1,aB,f2,aB]
     ·have:=h1 c hc;dsimp only;split <;> split <;> omega
     ·have:=f5 c hc;dsimp only;split <;> split <;> omega
     ·dsimp only;split
      ·exact g1
      ·exact h2
     ·dsimp only;split
      ·exact g2
      ·exact h3
 ·rintro⟨y0,e0⟩ hI
  have hI: (∀c∈a,y0<=c.Y0/\c.Y1<=e0)/\(∀c∈b,y0<=c.Y0/\c.Y1<=e0)/\y0∈Y/\e0∈Y:=hI
  obtain⟨ia,ib,iy,ie⟩:=hI
  have sy:=hs _ iy
  have se:=hs _ ie
  unfold small at sy se
  dsimp only
  refine Ok.bind (Ok.nc (Go:=fun s=>zT jO X Y a b s.2.2.1) (Rt:=fun _=>True)
   (fun s=>∃pa pb,a=pa++s.1/\b=pb++s.2.1/\(∀c∈pa,c.Y1<=s.2.2.2)/\(∀c∈pb,c.Y1<=s.2.2.2)/\y0<=s.2.2.2/\s.2.2.2<=max y0 e0/\s.2.2.2∈Y/\eA (s.2.2.1.map bM)/\tA X Y (s.2.2.1.map bM)/\(∀c∈s.2.2.1,c.Y1<=s.2.2.2)/\
    ∀x y,uy (s.2.2.1.map bM) x y= (jO (uy (a.map bM) x y) (uy (b.map bM) x y)&&decide (y<s.2.2.2)))
   (fun s=>(e0 - s.2.2.2).toNat) ?_ ?_ (by dsimp only;omega)) ?_
  ·rintro⟨a',b',out,y⟩ ⟨pa,pb,ea,eb,hpa,hpb,hy0,hye,hyY,hcan,hlim,htop,hcov⟩
   dsimp only at ea eb hpa hpb hy0 hye hyY hcan hlim htop hcov ⊢
   refine Ok.bif (fun h=>?_) (fun h=>Ok.br ?_)
   ·have hlt:y<e0:=of_decide_eq_true h
    have hsl: ∀(p s t:List aA),t=p++s->s.length<=t.length:=fun p s t e=>by rw [e];simp
    have hal':=hsl _ _ _ ea
    have hbl':=hsl _ _ _ eb
    refine Ok.bind (yQ (y:=y) (a:=a') (by omega) rfl) (fun o ho=>Ok.cs ho ?_ (fun r=>r.elim))
    rintro a2 ⟨qa,ea2,hqa,hha⟩
    refine Ok.bind (yQ (y:=y) (a:=b') (by omega) rfl) (fun o ho=>Ok.cs ho ?_ (fun r=>r.elim))
    rintro b2 ⟨qb,eb2,hqb,hhb⟩
    have ea3:a= (pa++qa)++a2:=by rw [ea,ea2];simp
    have eb3:b= (pb++qb)++b2:=by rw [eb,eb2];simp
    have hPa: ∀c∈pa++qa,c.Y1<=y:=fun c hc=>by rcases cR.1 hc with h | h;exact hpa c h;exact hqa c h
    have hPb: ∀c∈pb++qb,c.Y1<=y:=fun c hc=>by rcases cR.1 hc with h | h;exact hpb c h;exact hqb c h
    have ca2:eA (a2.map bM):=by have:=ca;rw [ea3,eV] at this;exact this.app
    have cb2:eA (b2.map bM):=by have:=cb;rw [eb3,eV] at this;exact this.app
    have la2:tA X Y (a2.map bM):=fun c hc=>la c (by rw [ea3,eV];exact List.mem_append_right _ hc)
    have lb2:tA X Y (b2.map bM):=fun c hc=>lb c (by rw [eb3,eV];exact List.mem_append_right _ hc)
    refine Ok.eq (Hn a2 y e0) (Ok.eq (Hn b2 y e0) ?_)
    obtain⟨a1,a3,a4,a5,a6,a7,a8⟩:=C4 ca2 la2 hha hlt
    obtain⟨b1,b3,b4,b5,b6,b7,b8⟩:=C4 cb2 lb2 hhb hlt
    have hal2: (BO a2 y e0).1.length<=X.length:=eE a5.nodup a8
    have hbl2: (BO b2 y e0).1.length<=X.length:=eE b5.nodup b8
    generalize BO a2 y e0=pa2 at *
    generalize BO b2 y e0=pb2 at *
    obtain⟨xa,n⟩:=pa2
    obtain⟨xb,m⟩:=pb2
    dsimp only at *
    refine Ok.bind (DZ hφ hk a5 b5 a6 b6 (by omega) (by omega) (by omega)) ?_
    rintro row ⟨r1,r2,r3,r4⟩
    have hnx: ∃nx,nx= (if m<n then m else n)/\y<nx/\nx<=e0/\nx<=n/\nx<=m/\nx∈Y:=by
     refine⟨_,rfl,by split <;> omega,by split <;> omega,by split <;> omega,by split <;> omega,?_⟩
     split
     ·rcases b7 with h | h
      ·rw [h];exact ie
      ·exact h
     ·rcases a7 with h | h
      ·rw [h];exact ie
      ·exact h
    obtain⟨nx,hnx,n1,n2,n3,n4,n5⟩:=hnx
    rw [<-hnx]
    have hol:out.length<=Y.length:=by have:=hlim.len hcan;rwa [gw] at this
    obtain⟨out',p1,p2⟩:=C3 (N:=N) (s:=out) (b:=⟨y,nx,row⟩) (by omega) (fun c hc=>by
     have:=hlim.row hcan (b:=bM c) (cP.2 ⟨c,hc,rfl⟩)
     have e: (bM c).xs=c.Xs:=rfl
     rw [e] at this;omega)
    refine Ok.eq p1 ?_
    have htop': ∀c∈out.map bM,c.y1<=(bM ⟨y,nx,row⟩).y0:=fun c hc=>by
     obtain⟨d,hd,rfl⟩:=cP.1 hc
     exact htop d hd
    refine Ok.nx ⟨⟨pa++qa,pb++qb,ea3,eb3,fun c hc=>by have:=hPa c hc;dsimp only;omega,fun c hc=>by have:=hPb c hc;dsimp only;omega,by dsimp only;omega,by dsimp only;omega,n5,by dsimp only;rw [p2];exact vk hcan htop' r1 r2,?_,fun c hc=>?_,fun x y'=>?_⟩,by dsimp only;omega⟩
    ·dsimp only;rw [p2]
     refine hlim.push hyY n5 (fun c hc=>?_)
     rcases r4 c hc with h | h
     ·exact a8 c h
     ·exact b8 c h
    ·have hm':bM c∈lL (out.map bM) (bM ⟨y,nx,row⟩):=by rw [<-p2];exact cP.2 ⟨c,hc,rfl⟩
     exact vl htop' (by show y<=nx;omega) _ hm'
    ·show l5 (rowAt (out'.map bM) y') x=_
     rw [p2,vj htop' (fun c hc=>(hcan.each c hc).1) (fun h=>absurd h (by show ¬nx<=y;omega))]
     by_cases hyy:y<=y'/\y'<nx
     ·rw [aD (show (bM ⟨y,nx,row⟩).y0<=y'/\y'< (bM ⟨y,nx,row⟩).y1 from hyy),cB hyy.2,Bool.and_true]
      show l5 row x=_
      have mp: ∀p q:List aA,(∀c∈p++q,c.Y1<=y)->∀c∈(p++q).map bM,c.y1<=y:=fun p q h c hc=>by
       obtain⟨d,hd,rfl⟩:=cP.1 hc
       exact h d hd
      have q1:uy (a.map bM) x y'=l5 xa x:=by
       unfold uy
       rw [ea3,eV,Bl (mp _ _ hPa) hyy.1,a4 y' hyy.1 (by omega)]
      have q2:uy (b.map bM) x y'=l5 xb x:=by
       unfold uy
       rw [eb3,eV,Bl (mp _ _ hPb) hyy.1,b4 y' hyy.1 (by omega)]
      rw [r3,q1,q2]
     ·rw [aC (show ¬((bM ⟨y,nx,row⟩).y0<=y'/\y'< (bM ⟨y,nx,row⟩).y1) from hyy)]
      show uy (out.map bM) x y'=_
      rw [hcov]
      by_cases h1:y'<y
      ·rw [cB h1,cB (show y'<nx by omega)]
      ·rw [bE h1,bE (show ¬y'<nx by omega)]
   ·have hge:e0<=y:=by have:=of_decide_eq_false h;omega
    refine⟨hcan,fun x y'=>?_,hlim⟩
    dsimp only
    rw [hcov]
    by_cases h1:y'<y
    ·rw [cB h1,Bool.and_true]
    ·have z: ∀s:List aA,(∀c∈s,y0<=c.Y0/\c.Y1<=e0)->uy (s.map bM) x y'=false:=fun s h=>by
      unfold uy
      rw [jQ fun c hc=>?_]
      ·rfl
      ·obtain⟨d,hd,rfl⟩:=cP.1 hc
       exact .inr (by have:=(h d hd).2;show d.Y1<=y';omega)
     rw [z a ia,z b ib,hk];rfl
  ·refine⟨[],[],rfl,rfl,fun c hc=>(by cases hc),fun c hc=>(by cases hc),Int.le_refl _,by dsimp only;omega,iy,eA.nil,fun c hc=>(by cases hc),fun c hc=>(by cases hc),fun x y=>?_⟩
   dsimp only
   show false=_
   by_cases h1:y<y0
   ·have z: ∀s:List aA,(∀c∈s,y0<=c.Y0/\c.Y1<=e0)->uy (s.map bM) x y=false:=fun s h=>by
     unfold uy
     rw [jQ fun c hc=>?_]
     ·rfl
     ·obtain⟨d,hd,rfl⟩:=cP.1 hc
      exact .inl (by have:=(h d hd).1;show y<d.Y0;omega)
    rw [z a ia,z b ib,hk];rfl
   ·rw [bE h1,Bool.and_false]
  ·rintro o ho
   exact Ok.cs ho (fun s h=>Ok.ret h) (fun r=>r.elim)
theorem D0 {a b:List aA} {X Y:List Int} (ca:eA (a.map bM)) (cb:eA (b.map bM)) (la:tA X Y (a.map bM)) (lb:tA X Y (b.map bM)) (hX:X.length<=1048576000) (hY:Y.length<=1048576000) (hs: ∀c∈Y,small c) (hN:4398046511104<=N):
  Ok (jy N a b) (zT (fun p q=>p&& !q) X Y a b):=by
 unfold jy
 exact Ok.bind (Ck (jO:=fun p q=>p&& !q) (fun p q=>rfl) rfl ca cb la lb hX hY hs hN) (fun s h=>Ok.ret h)
end
end Go.Gk
namespace Go.Gk
open Go
section
variable {N:Nat}
structure UF (n:Nat) (up:List Int) (r:Nat->Nat):Prop where
 len:up.length=n
 rt: ∀i,i<n->∃u:Nat,up[i]? =some ((u:Nat):Int)/\u<=i/\r u=r i/\(u=i↔r i=i)
theorem UF.le {n:Nat} {up:List Int} {r:Nat->Nat} (h:UF n up r): ∀i,i<n->r i<=i:=by
 intro i
 induction i using Nat.strongRecOn with
 | ind i ih=>
  intro hi
  obtain⟨u,_,h2,h3,h4⟩:=h.rt i hi
  by_cases e:u=i
  ·rw [h4.1 e];exact bN _
  ·rw [<-h3];have:=ih u (by omega) (by omega);omega
theorem UF.rr {n:Nat} {up:List Int} {r:Nat->Nat} (h:UF n up r): ∀i,i<n->r (r i)=r i:=by
 intro i
 induction i using Nat.strongRecOn with
 | ind i ih=>
  intro hi
  obtain⟨u,_,h2,h3,h4⟩:=h.rt i hi
  by_cases e:u=i
  ·rw [h4.1 e,h4.1 e]
  ·rw [<-h3];exact ih u (by omega) (by omega)
theorem lB {l:List Int} {j:Nat} {v:Int} {i:Nat} (hj:j<l.length): (l.set j v)[i]? =if i=j then some v else l[i]? :=by
 rw [eX]
 by_cases e:j=i
 ·rw [aD e,aD e.symm,aD hj]
 ·rw [aC e,aC (fun h=>e h.symm)]
theorem UF.init (n:Nat) (up:List Int) (h1:up.length=n) (h2: ∀i,i<n->up[i]? =some ((i:Nat):Int)):UF n up (fun i=>i):=
 ⟨h1,fun i hi=>⟨i,h2 i hi,bN _,rfl,by simp⟩⟩
theorem rm {n:Nat} (hn:n<=1048576000): ∃up,iA N ((n:Nat):Int)=some up/\UF n up (fun i=>i):=by
 unfold iA
 rw [pT 0 (by omega),aB]
 have h0: (List.replicate n (0:Int)).length=n:=by simp
 obtain⟨s',h1,h2⟩:=wy (m:=(List.replicate n (0:Int)).length) (s:=List.replicate n (0:Int)) (body:=fun(k34:Nat) (s35: (List Int))=>((idx s35 (k34:Int)).bind fun x38=>some (s35.set (Int.toNat (k34:Int)) (k34:Int)):Option ((List Int))))
  (fun k s=>s.length=n/\∀i,i<k->s[i]? =some ((i:Nat):Int)) (by omega) ⟨h0,fun i hi=>by omega⟩ (fun k s hk ⟨hs,hi⟩=>by
   refine⟨s.set k ((k:Nat):Int),?_,by simp [hs],fun i hi'=>?_⟩
   ·rw [jq _ _ (by omega),aB,bX]
   ·rw [lB (by omega)]
    split
    ·rename_i e;rw [e]
    ·exact hi i (by omega))
 rw [h1,aB]
 exact⟨s',rfl,UF.init n s' h2.1 (fun i hi=>h2.2 i (by omega))⟩
theorem mY {n:Nat} {up:List Int} {r:Nat->Nat} (h:UF n up r) {i:Nat} (hi:i<n) (hn:n<N): ∃up',dO N up ((i:Nat):Int)=some (((r i:Nat):Int),up')/\UF n up' r:=by
 unfold dO
 obtain⟨o,h1,h2⟩:=tY (R:=Empty) (body:=fun(s32: (List Int)×Int)=>((idx s32.1 s32.2).bind fun x43=>bif (x43 != s32.2) then ((idx s32.1 s32.2).bind fun x44=>(idx s32.1 x44).bind fun x45=>(idx s32.1 s32.2).bind fun x46=>(idx (s32.1.set (Int.toNat s32.2) x45) s32.2).bind fun x47=>some (.nx ((s32.1.set (Int.toNat s32.2) x45),x47))) else (some (.br (s32.1,s32.2))):Option (Fl ((List Int)×Int) Empty)))
  (fun s=>UF n s.1 r/\∃j:Nat,s.2= ((j:Nat):Int)/\j<n/\r j=r i) (fun s=>s.2.toNat) (fun s=>s.2= ((r i:Nat):Int)/\UF n s.1 r) (fun _=>True) (fun s ⟨hu,j,hj,hjn,hr⟩=>by
   obtain⟨l,y⟩:=s
   dsimp only at hu hj ⊢
   subst hj
   obtain⟨u,a1,a2,a3,a4⟩:=hu.rt j hjn
   rw [dE a1,aB]
   by_cases e:u=j
   ·subst e
    refine⟨.br (l,((u:Nat):Int)),by rw [show (((u:Nat):Int) != ((u:Nat):Int))=false by simp,aQ],?_,hu⟩
    show ((u:Nat):Int)=_
    rw [<-hr,a4.1 rfl]
   ·obtain⟨v,b1,b2,b3,b4⟩:=hu.rt u (by omega)
    have hl:=hu.len
    refine⟨.nx (l.set j ((v:Nat):Int),((v:Nat):Int)),by
     rw [show (((u:Nat):Int) != ((j:Nat):Int))=true by simp;omega,aR,aB,dE b1,aB,aB,bX,
      dE (x:=((v:Nat):Int)) (by rw [lB (by omega),aD rfl]),aB],⟨⟨by simp [hl],fun k hk=>?_⟩,v,rfl,by omega,?_⟩,?_⟩
    ·rw [lB (by omega)]
     by_cases e2:k=j
     ·subst e2
      rw [aD rfl]
      refine⟨v,rfl,by omega,by rw [b3,a3],?_⟩
      constructor
      ·intro h;omega
      ·intro h;exact absurd (a4.2 h) e
     ·rw [aC e2];exact hu.rt k hk
    ·rw [b3,a3,hr]
    ·simp only [bX];omega)
  N (up,((i:Nat):Int)) ⟨h,i,rfl,hi,rfl⟩ (by simp only [bX];omega)
 rw [h1,aB]
 cases o with
 | go s'=>exact⟨s'.1,by rw [<-h2.1];rfl,h2.2⟩
 | rt r=>exact r.elim
def me (r:Nat->Nat) (a b:Nat):Nat->Nat:=fun x=>if r x=max a b then min a b else r x
theorem Fu (a b:Nat): (if ((a:Nat):Int)< ((b:Nat):Int) then ((b:Nat):Int) else ((a:Nat):Int))= ((max a b:Nat):Int):=by
 rw [Nat.max_def];split <;> split <;> omega
theorem Fv (a b:Nat): (if ((b:Nat):Int)< ((a:Nat):Int) then ((b:Nat):Int) else ((a:Nat):Int))= ((min a b:Nat):Int):=by
 rw [Nat.min_def];split <;> split <;> omega
theorem C5 {n:Nat} {up:List Int} {r:Nat->Nat} (h:UF n up r) {i k:Nat} (hi:i<n) (hk:k<n) (hn:n<N):
  ∃up',dC N up ((i:Nat):Int) ((k:Nat):Int)=some up'/\UF n up' (me r (r i) (r k)):=by
 obtain⟨u1,a1,a2⟩:=mY h hi hn
 obtain⟨u2,b1,b2⟩:=mY a2 hk hn
 have hri:=h.le i hi
 have hrk:=h.le k hk
 have rri:=h.rr i hi
 have rrk:=h.rr k hk
 unfold dC
 rw [a1,aB,b1,aB]
 dsimp only
 rw [Fu,Fv]
 have hm:max (r i) (r k)<n:=by omega
 have hl:=b2.len
 rw [jq _ _ (by omega),aB,bX]
 refine⟨_,rfl,by simp [hl],fun x hx=>?_⟩
 have rmax:r (max (r i) (r k))=max (r i) (r k):=by rcases Nat.le_total (r i) (r k) with e | e <;> simp [Nat.max_def] <;> split <;> omega
 have rmin:r (min (r i) (r k))=min (r i) (r k):=by rcases Nat.le_total (r i) (r k) with e | e <;> simp [Nat.min_def] <;> split <;> omega
 rw [lB (by omega)]
 by_cases e:x=max (r i) (r k)
 ·subst e
  rw [aD rfl]
  refine⟨min (r i) (r k),rfl,by omega,?_,?_⟩
  ·unfold me;rw [rmin,rmax,aD rfl];split <;> rfl
  ·unfold me;rw [rmax,aD rfl]
 ·rw [aC e]
  obtain⟨u,c1,c2,c3,c4⟩:=b2.rt x hx
  refine⟨u,c1,c2,?_,?_⟩
  ·unfold me;rw [c3]
  ·unfold me
   split
   ·rename_i e2
    constructor
    ·intro hu;have:=c4.1 hu;omega
    ·intro hu
     have h1:=b2.le x hx
     have:min (r i) (r k)=max (r i) (r k)\/x<max (r i) (r k):=by omega
     have h3:x=max (r i) (r k):=by omega
     exact absurd h3 e
   ·exact c4
def my (r:Nat->Nat) (E:List (Nat×Nat)):Prop:=∀p∈E,r p.1=r p.2
def vq (n:Nat) (r:Nat->Nat) (E:List (Nat×Nat)):Prop:=∀S:Nat->Prop,(∀p∈E,S p.1↔S p.2)->∀i j,i<n->j<n->r i=r j->S i->S j
theorem my.join {r:Nat->Nat} {E:List (Nat×Nat)} (h:my r E) (i k:Nat) (_h2:r (r i)=r i):my (me r (r i) (r k)) (E++[(i,k)]):=fun p hp=>by
 rcases cR.1 hp with hp | hp
 ·unfold me;rw [h p hp]
 ·simp at hp;subst hp
  unfold me
  dsimp only
  split <;> split <;> omega
theorem vq.join {n:Nat} {r:Nat->Nat} {E:List (Nat×Nat)} (h:vq n r E) {i k:Nat} (hi:i<n) (hk:k<n):vq n (me r (r i) (r k)) (E++[(i,k)]):=fun S hS x y hx hy hr hSx=>by
 have hE: ∀p∈E,S p.1↔S p.2:=fun p hp=>hS p (List.mem_append_left _ hp)
 have hik:S i↔S k:=hS (i,k) (by simp)
 have key:=h S hE
 unfold me at hr
 by_cases h1:r x=r y
 ·exact key x y hx hy h1 hSx
 ·have: (r x=r i/\r y=r k)\/(r x=r k/\r y=r i):=by
   split at hr <;> split at hr <;> omega
  rcases this with ⟨e1,e2⟩ | ⟨e1,e2⟩
  ·exact key k y hk hy e2.symm (hik.1 (key x i hx hi e1 hSx))
  ·exact key i y hi hy e2.symm (hik.2 (key x k hx hk e1 hSx))
theorem vq.id (n:Nat):vq n (fun i=>i) []:=fun S _ i j _ _ h hs=>by
 have h:i=j:=h
 subst h;exact hs
theorem my.id:my (fun i=>i) []:=fun p hp=>by simp at hp
def bT (n:Nat) (r:Nat->Nat):List Nat:=(List.range n).filter (fun k=>decide (r k=k))
def cls (n:Nat) (r:Nat->Nat) (k:Nat):List Nat:=(List.range n).filter (fun i=>decide (r i=k))
theorem ji (n:Nat) (r:Nat->Nat):bT (n+1) r=if r n=n then bT n r++[n] else bT n r:=by
 unfold bT
 rw [List.range_succ,iq]
 by_cases h:r n=n
 ·rw [aD h];simp [h]
 ·rw [aC h];simp [h]
theorem rn (n:Nat) (r:Nat->Nat) (k:Nat):cls (n+1) r k=if r n=k then cls n r k++[n] else cls n r k:=by
 unfold cls
 rw [List.range_succ,iq]
 by_cases h:r n=k
 ·rw [aD h];simp [h]
 ·rw [aC h];simp [h]
theorem mz (n:Nat) (r:Nat->Nat): (bT n r).length<=n:=by
 have:=ka (fun k=>decide (r k=k)) (List.range n)
 rw [List.length_range] at this;exact this
theorem zU (n:Nat) (r:Nat->Nat) (k:Nat): (cls n r k).length<=n:=by
 have:=ka (fun i=>decide (r i=k)) (List.range n)
 rw [List.length_range] at this;exact this
theorem gY {n k:Nat} {r:Nat->Nat}:k∈bT n r↔k<n/\r k=k:=by unfold bT;simp
theorem lO (n:Nat) (r:Nat->Nat): (bT n r).Nodup:=List.Nodup.sublist List.filter_sublist List.nodup_range
def nW (n:Nat) (r:Nat->Nat):List (List Int):=(bT n r).map (fun k=>(cls n r k).map (fun i=>((i:Nat):Int)))
theorem C6 {n k:Nat} {r:Nat->Nat} (h: ∀i,i<n->r i<=i) (hk:n<=k):cls n r k= []:=by
 unfold cls
 rw [List.filter_eq_nil_iff]
 intro i hi
 have h1:=kG.1 hi
 have:=h i h1
 simp;omega
theorem rp {α β:Type} (f g:α->β) (l:List α) (j:Nat) (a:α) (hn:l.Nodup) (hj:l[j]? =some a) (hf: ∀b,b∈l->b≠a->f b=g b): (l.map f).set j (g a)=l.map g:=by
 apply List.ext_getElem?
 intro i
 have hjl:=(aZ.1 hj).1
 rw [eX,gw,il,il]
 by_cases e:j=i
 ·subst e;rw [aD rfl,aD hjl,hj];rfl
 ·rw [aC e]
  cases hb:l[i]? with
  | none=>rfl
  | some b=>
   have hne:b≠a:=fun he=>by
    subst he
    have hil:=(aZ.1 hb).1
    exact e ((List.getElem_inj hn).1 (by rw [(aZ.1 hb).2,(aZ.1 hj).2]) |>.symm)
   show some (f b)=some (g b)
   rw [hf b (gJ hb) hne]
def J4 (n:Nat) (r:Nat->Nat) (m:List (Int×Int)):Prop:=∀(j k:Nat),(bT n r)[j]? =some k->dK m ((k:Nat):Int) 0= ((j:Nat):Int)
theorem GM {n:Nat} {up:List Int} {r:Nat->Nat} (h:UF n up r) (hn:n<N) (hn2:n<=1048576000): ∃up',iG N up=some (nW n r,up')/\UF n up' r:=by
 unfold iG
 have hlen:=h.len
 have hle:=h.le
 have hrr:=h.rr
 obtain⟨s',h1,h2⟩:=wy (m:=up.length) (s:=(up,([]: (List (List Int))),([]: (List (Int×Int)))))
  (body:=fun(k32:Nat) (s33: (List Int)×(List (List Int))×(List (Int×Int)))=>((dO N s33.1 (k32:Int)).bind fun x117=>(bif (x117.1==(k32:Int)) then ((app 24 s33.2.1 [([]: (List Int))]).bind fun x126=>some (x126,(oM s33.2.2 (k32:Int) (s33.2.1.length:Int)))) else (some (s33.2.1,s33.2.2))).bind fun s122=>(idx s122.1 (dK s122.2 x117.1 (0:Int))).bind fun x128=>(app 8 x128 ([(k32:Int)]: (List Int))).bind fun x134=>(idx s122.1 (dK s122.2 x117.1 (0:Int))).bind fun x136=>some (x117.2,(s122.1.set (Int.toNat (dK s122.2 x117.1 (0:Int))) x134),s122.2):Option ((List Int)×(List (List Int))×(List (Int×Int)))))
  (fun k s=>UF n s.1 r/\s.2.1=nW k r/\J4 k r s.2.2) (by omega) ⟨h,rfl,fun j k hj=>by simp [bT] at hj⟩ (fun k s hk ⟨hu,hs,hm⟩=>by
   obtain⟨l,ss,m⟩:=s
   dsimp only at hu hs hm ⊢
   subst hs
   rw [hlen] at hk
   obtain⟨u',a1,a2⟩:=mY hu hk hn
   rw [a1,aB]
   dsimp only
   have hhl:=mz k r
   have hsl: (nW k r).length= (bT k r).length:=by unfold nW;simp
   have hrk:=hle k hk
   by_cases e:r k=k
   ·
    rw [show (((r k:Nat):Int)==((k:Nat):Int))=true by rw [e];simp,aR,gQ (by rw [hsl];simp;omega),aB,aB]
    dsimp only
    rw [e,iV,aD rfl,hsl]
    have hi: (nW k r++[([]:List Int)])[(bT k r).length]? =some []:=by rw [<-hsl,fA (bN _),Nat.sub_self];rfl
    rw [dE hi,aB,gQ (by simp),aB,aB,bX]
    refine⟨_,rfl,a2,?_,fun j q hj=>?_⟩
    ·dsimp only
     rw [<-hsl,List.set_append_right _ _ (bN _),Nat.sub_self]
     unfold nW
     rw [ji,aD e,eV]
     congr 1
     ·apply List.map_congr_left
      intro a ha
      have:=(gY.1 ha).1
      rw [rn,aC (by omega)]
     ·simp only [List.set_cons_zero,eH,List.map_nil,List.nil_append]
      rw [rn,aD e,C6 (fun i hi=>hle i (by omega)) (bN _)];rfl
    ·dsimp only
     rw [ji,aD e] at hj
     rw [iV]
     by_cases e2:j< (bT k r).length
     ·rw [fF e2] at hj
      have:=(gY.1 (gJ hj)).1
      rw [aC (by omega)];exact hm j q hj
     ·rw [fA (by omega)] at hj
      have hj0:j - (bT k r).length=0:=by
       have:=(aZ.1 hj).1;simp at this;omega
      rw [hj0] at hj;simp at hj;subst hj
      rw [aD rfl];congr 1;omega
   ·rw [show (((r k:Nat):Int)==((k:Nat):Int))=false by simp;omega,aQ,aB]
    dsimp only
    have hh:r k∈bT k r:=gY.2 ⟨by omega,hrr k hk⟩
    obtain⟨j,hj⟩:=fY hh
    rw [hm j (r k) hj]
    have hcl:=zU k r (r k)
    have hi: (nW k r)[j]? =some ((cls k r (r k)).map (fun i=>((i:Nat):Int))):=by unfold nW;rw [il,hj];rfl
    rw [dE hi,aB,gQ (by simp;omega),aB,aB,bX]
    refine⟨_,rfl,a2,?_,fun j' q hj'=>?_⟩
    ·unfold nW
     rw [ji,aC e]
     have:=rp (fun a=>(cls k r a).map (fun i=>((i:Nat):Int))) (fun a=>(cls (k+1) r a).map (fun i=>((i:Nat):Int))) (bT k r) j (r k) (lO k r) hj (fun b hb hne=>by
      rw [rn,aC (fun h=>hne h.symm)])
     rw [rn,aD rfl,eV] at this
     exact this
    ·rw [ji,aC e] at hj';exact hm j' q hj')
 rw [h1,aB]
 obtain⟨l,ss,m⟩:=s'
 dsimp only at h2
 rw [hlen] at h2
 refine⟨l,?_,h2.1⟩
 rw [<-h2.2.1]
end
end Go.Gk
namespace Go.Gk
open Go
section
variable {N:Nat}
theorem zV {n:Nat} {up:List Int} {r:Nat->Nat} (h:UF n up r) {i:Nat} (hi:i<n) (hn:n<N): ∃up',dZ N ((i:Nat):Int) up=some (((r i:Nat):Int),up')/\UF n up' r:=by
 unfold dZ
 have:=Ok.bind (β:=Int×List Int) (Q:=fun x=>x.1= ((r i:Nat):Int)/\UF n x.2 r) (Ok.nc (body:=fun(s32:Int×(List Int))=>((idx s32.2 s32.1).bind fun x43=>bif (x43 != s32.1) then ((idx s32.2 s32.1).bind fun x44=>(idx s32.2 x44).bind fun x45=>(idx s32.2 s32.1).bind fun x46=>(idx (s32.2.set (Int.toNat s32.1) x45) s32.1).bind fun x47=>some (.nx (x47,(s32.2.set (Int.toNat s32.1) x45)))) else (some (.br (s32.1,s32.2))):Option (Fl (Int×(List Int)) Empty)))
  (N:=N) (s:=(((i:Nat):Int),up)) (Go:=fun s=>s.1= ((r i:Nat):Int)/\UF n s.2 r) (Rt:=fun _=>True) (fun s=>UF n s.2 r/\∃j:Nat,s.1= ((j:Nat):Int)/\j<n/\r j=r i) (fun s=>s.1.toNat) (by
   rintro⟨y,l⟩ ⟨hu,j,hj,hjn,hr⟩
   dsimp only at hu hj ⊢
   subst hj
   obtain⟨u,a1,a2,a3,a4⟩:=hu.rt j hjn
   refine Ok.ix a1 ?_
   by_cases e:u=j
   ·subst e
    rw [show (((u:Nat):Int) != ((u:Nat):Int))=false by simp,aQ]
    refine Ok.br ⟨?_,hu⟩
    show ((u:Nat):Int)=_
    rw [<-hr,a4.1 rfl]
   ·obtain⟨v,b1,b2,b3,b4⟩:=hu.rt u (by omega)
    have hl:=hu.len
    rw [show (((u:Nat):Int) != ((j:Nat):Int))=true by simp;omega,aR]
    refine Ok.ix a1 (Ok.ix b1 (Ok.ix a1 (Ok.ix (x:=((v:Nat):Int)) (by rw [bX,lB (by omega),aD rfl]) (Ok.nx ⟨⟨⟨by simp [hl],fun k hk=>?_⟩,v,rfl,by omega,?_⟩,?_⟩))))
    ·rw [bX,lB (by omega)]
     by_cases e2:k=j
     ·subst e2
      rw [aD rfl]
      refine⟨v,rfl,by omega,by rw [b3,a3],?_⟩
      constructor
      ·intro h;omega
      ·intro h;exact absurd (a4.2 h) e
     ·rw [aC e2];exact hu.rt k hk
    ·rw [b3,a3,hr]
    ·simp only [bX];omega)
  ⟨h,i,rfl,hi,rfl⟩ (by simp only [bX];omega))
  (fun o ho=>Ok.cs (f:=fun(s32:Int×(List Int))=>some (s32.1,s32.2)) (g:=fun r:Empty=>r.elim) ho (fun s h=>Ok.ret h) (fun r=>r.elim))
 obtain⟨⟨x,up'⟩,h1,h2,h3⟩:=this
 exact⟨up',by rw [<-h2];exact h1,h3⟩
theorem Fw {n:Nat} {up:List Int} {r:Nat->Nat} (h:UF n up r) {i k:Nat} (hi:i<n) (hk:k<n) {f:List Int->Option (List Int)} (hn:n<N):
  ∃up',((dZ N ((i:Nat):Int) up).bind fun x840=>(dZ N ((k:Nat):Int) x840.2).bind fun x842=>(idx x842.2 (if x840.1<x842.1 then x842.1 else x840.1)).bind fun x844=>some (x842.2.set (Int.toNat (if x840.1<x842.1 then x842.1 else x840.1)) (if x842.1<x840.1 then x842.1 else x840.1)))=some up'/\UF n up' (me r (r i) (r k)):=by
 obtain⟨u1,a1,a2⟩:=zV h hi hn
 obtain⟨u2,b1,b2⟩:=zV a2 hk hn
 obtain⟨v1,c1,c2⟩:=mY h hi hn
 have hri:=h.le i hi
 have hrk:=h.le k hk
 have rri:=h.rr i hi
 have rrk:=h.rr k hk
 rw [a1,aB,b1,aB]
 dsimp only
 rw [Fu,Fv]
 have hm:max (r i) (r k)<n:=by omega
 have hl:=b2.len
 rw [jq _ _ (by omega),aB,bX]
 refine⟨_,rfl,by simp [hl],fun x hx=>?_⟩
 have rmax:r (max (r i) (r k))=max (r i) (r k):=by rcases Nat.le_total (r i) (r k) with e | e <;> simp [Nat.max_def] <;> split <;> omega
 have rmin:r (min (r i) (r k))=min (r i) (r k):=by rcases Nat.le_total (r i) (r k) with e | e <;> simp [Nat.min_def] <;> split <;> omega
 rw [lB (by omega)]
 by_cases e:x=max (r i) (r k)
 ·subst e
  rw [aD rfl]
  refine⟨min (r i) (r k),rfl,by omega,?_,?_⟩
  ·unfold me;rw [rmin,rmax,aD rfl];split <;> rfl
  ·unfold me;rw [rmax,aD rfl]
 ·rw [aC e]
  obtain⟨u,c1,c2,c3,c4⟩:=b2.rt x hx
  refine⟨u,c1,c2,?_,?_⟩
  ·unfold me;rw [c3]
  ·unfold me
   split
   ·rename_i e2
    constructor
    ·intro hu;have:=c4.1 hu;omega
    ·intro hu
     have h1:=b2.le x hx
     have h3:x=max (r i) (r k):=by omega
     exact absurd h3 e
   ·exact c4
def gv (s:List aA) (k:Nat):Nat:=(aN (s.take k)).length
theorem vr {s:List aA} {k:Nat} (h:k<s.length):gv s (k+1)=gv s k+s[k].Xs.length / 2:=by
 unfold gv
 rw [fw h,ll,dS]
 show _+ (aN [s[k]]).length=_
 rw [show aN [s[k]]=lM s[k] by simp [aN],kU]
theorem vt {s:List aA} {k m:Nat} (h:k<=m):gv s k<=gv s m:=by
 unfold gv
 have:=vn (s.take m) k
 rwa [List.take_take,Nat.min_eq_left h] at this
theorem Bm (s:List aA):gv s s.length= (aN s).length:=by unfold gv;rw [eW]
theorem GN {s:List aA} {k t:Nat} (h:k<s.length) (ht:2*t+1<s[k].Xs.length): (aN s)[gv s k+t]? =some ⟨s[k].Xs[2*t],s[k].Y0,s[k].Xs[2*t+1],s[k].Y1⟩:=by
 have e:aN s=aN (s.take k)++(lM s[k]++aN (s.drop (k+1))):=by
  conv=>lhs;rw [<-List.take_append_drop k s,pH h]
  rw [ll,lN]
 rw [e]
 unfold gv
 rw [fA (by omega),Nat.add_sub_cancel_left,fF (by rw [kU];omega)]
 unfold lM
 rw [il,uA _ _ ht];rfl
theorem C7 {s:List aA} {i:Nat} (h:i< (aN s).length): ∃k,k<s.length/\gv s k<=i/\i<gv s (k+1):=by
 have key: ∀m,m<=s.length->i<gv s m->∃k,k<m/\gv s k<=i/\i<gv s (k+1):=by
  intro m
  induction m with
  | zero=>intro _ h;unfold gv at h;simp [aN] at h
  | succ m ih=>
   intro hm hi
   by_cases h1:i<gv s m
   ·obtain⟨k,hk,h2⟩:=ih (by omega) h1
    exact⟨k,by omega,h2⟩
   ·exact⟨m,by omega,by omega,hi⟩
 exact key s.length (bN _) (by rw [Bm];exact h)
def H3 (a c:aI):Prop:=a.Y1=c.Y0/\a.X0<c.X1/\c.X0<a.X1
def D1 (all:List aI) (i j:Nat):Prop:=∃a c,all[i]? =some a/\all[j]? =some c/\H3 a c
theorem rT {s:List aA} (he: ∀b∈s,b.Xs.length % 2=0) {k i:Nat} (hk:k<s.length) (h1:gv s k<=i) (h2:i<gv s (k+1)): ∃t,i=gv s k+t/\∃h:2*t+1<s[k].Xs.length,(aN s)[i]? =some ⟨s[k].Xs[2*t],s[k].Y0,s[k].Xs[2*t+1],s[k].Y1⟩:=by
 rw [vr hk] at h2
 have:=he _ (cI hk)
 refine⟨i - gv s k,by omega,by omega,?_⟩
 have h3:=GN (t:=i - gv s k) hk (by omega)
 rwa [show gv s k+ (i - gv s k)=i by omega] at h3
theorem xx {s:List aA} (hc:eA (s.map bM)) {p q:Nat} (hp:p<s.length) (hq:q<s.length) (h:p<q):s[p].Y1<=s[q].Y0:=by
 have:=mC.1 hc.ord p q (by simp;omega) (by simp;omega) h
 simp only [List.getElem_map] at this
 exact this.1
theorem xy {s:List aA} (hc:eA (s.map bM)) {p:Nat} (hp:p<s.length):s[p].Y0<s[p].Y1:=(hc.each (bM s[p]) (cP.2 ⟨_,cI hp,rfl⟩)).1
theorem pA {s:List aA} (hc:eA (s.map bM)): ∀b∈s,b.Xs.length % 2=0:=fun b hb=>(hc.each (bM b) (cP.2 ⟨b,hb,rfl⟩)).2.2.2
theorem C8 {s:List aA} (hc:eA (s.map bM)): ∀b∈s,lG b.Xs:=fun b hb=>(hc.each (bM b) (cP.2 ⟨b,hb,rfl⟩)).2.2.1
theorem Bn {s:List aA} (hc:eA (s.map bM)) {i j q:Nat} (hq:q<s.length) (h1:gv s q<=j) (h2:j<gv s (q+1)) (ht:D1 (aN s) i j): ∃hq0:0<q,s[q - 1].Y1=s[q].Y0/\gv s (q - 1)<=i/\i<gv s q:=by
 obtain⟨a,c,ha,hb,e1,e2,e3⟩:=ht
 obtain⟨t,e4,ht,hj⟩:=rT (pA hc) hq h1 h2
 rw [hj] at hb;injection hb with hb;subst hb
 have hil:=(aZ.1 ha).1
 obtain⟨p,hp,p1,p2⟩:=C7 hil
 obtain⟨u,e5,hu,hi⟩:=rT (pA hc) hp p1 p2
 rw [hi] at ha;injection ha with ha;subst ha
 have e1:s[p].Y1=s[q].Y0:=e1
 have hpp:=xy hc hp
 have hqq:=xy hc hq
 have hpq:p+1=q:=by
  rcases Nat.lt_trichotomy p q with h | h | h
  ·by_cases h':p+1=q
   ·exact h'
   ·have h3:=xx hc hp (show p+1<s.length by omega) (by omega)
    have h4:=xx hc (show p+1<s.length by omega) hq (by omega)
    have h5:=xy hc (show p+1<s.length by omega)
    omega
  ·subst h;omega
  ·have:=xx hc hq hp h;omega
 subst hpq
 exact⟨by omega,e1,p1,p2⟩
structure PJ (all:List aI) (n:Nat) (up:List Int) (r:Nat->Nat) (E:List (Nat×Nat)):Prop where
 uf:UF n up r
 co:my r E
 fi:vq n r E
 so: ∀p∈E,D1 all p.1 p.2
theorem PJ.join {all:List aI} {n:Nat} {up up':List Int} {r:Nat->Nat} {E:List (Nat×Nat)} (h:PJ all n up r E) {i j:Nat} (hi:i<n) (hj:j<n) (hu:UF n up' (me r (r i) (r j))) (ht:D1 all i j):PJ all n up' (me r (r i) (r j)) (E++[(i,j)]):=
 ⟨hu,h.co.join i j (h.uf.rr i hi),h.fi.join hi hj,fun p hp=>by
  rcases cR.1 hp with hp | hp
  ·exact h.so p hp
  ·simp at hp;subst hp;exact ht⟩
structure Joined (all:List aI) (r:Nat->Nat):Prop where
 le: ∀i,i<all.length->r i<=i
 rr: ∀i,i<all.length->r (r i)=r i
 co: ∀i j,D1 all i j->r i=r j
 fi: ∀S:Nat->Prop,(∀i j,D1 all i j->(S i↔S j))->∀i j,i<all.length->j<all.length->r i=r j->S i->S j
def lR (all:List aI) (n:Nat) (r:Nat->Nat) (h:Nat):List aI:=(cls n r h).filterMap (fun i=>all[i]?)
theorem xz (all:List aI) (n:Nat) (r:Nat->Nat) (h:Nat): (lR all n r h).length<=n:=by
 have h1:=List.length_filterMap_le (fun i=>all[i]?) (cls n r h)
 have h2:=zU n r h
 unfold lR;omega
theorem rU {all:List aI} {n:Nat} {r:Nat->Nat} (h:Nat) {x:aI} (hx:all[n]? =some x):lR all (n+1) r h=if r n=h then lR all n r h++[x] else lR all n r h:=by
 unfold lR
 rw [rn]
 split
 ·rw [List.filterMap_append];simp [hx]
 ·rfl
theorem mQ {all:List aI} {n:Nat} {r:Nat->Nat} {h:Nat} {x:aI}:x∈lR all n r h↔∃i,i<n/\r i=h/\all[i]? =some x:=by
 unfold lR cls
 rw [List.mem_filterMap]
 constructor
 ·rintro⟨i,hi,h⟩
  have:=gE.1 hi
  exact⟨i,kG.1 this.1,by simpa using this.2,h⟩
 ·rintro⟨i,h1,h2,h3⟩
  exact⟨i,gE.2 ⟨kG.2 h1,by simpa using h2⟩,h3⟩
structure pX (s:List aA) (r:Nat->Nat) (ps:List (List aA)):Prop where
 join:Joined (aN s) r
 len:ps.length= (bT (aN s).length r).length
 each: ∀(j h:Nat) (p:List aA),(bT (aN s).length r)[j]? =some h->ps[j]? =some p->oG (lR (aN s) (aN s).length r h) p
def Ll (n:Nat) (r:Nat->Nat) (m:List (Int×Int)):Prop:=(∀(j k:Nat),(bT n r)[j]? =some k->dK m ((k:Nat):Int) 0= ((j:Nat):Int))/\∀k:Nat,iM m ((k:Nat):Int)=decide (k∈bT n r)
theorem Cl {s:List aA} {X Y:List Int} (hc:eA (s.map bM)) (hl:tA X Y (s.map bM)) (hX: ∀c∈X,small c) (hY: ∀c∈Y,small c) (h1:s.length<=1073741824) (h2: ∀b∈s,b.Xs.length<=1073741824) (h3: (aN s).length<=134217728) (hN:4398046511104<=N):
  Ok (jU N s) (fun ps=>∃r,pX s r ps):=by
 unfold jU
 have hev:=pA hc
 have hinc:=C8 hc
 refine Ok.eq (xt hev (by omega) (fun b hb=>by have:=h2 b hb;omega) (by omega)) ?_
 have hok:=xu hc hl hX hY
 have hall:gv s s.length= (aN s).length:=Bm s
 generalize hn: (aN s).length=n at *
 refine Ok.eq (pT 0 (by omega)) ?_
 rw [show ((List.replicate n (0:Int)).length)=n by simp]
 refine Ok.bind (Ok.iY (fun k up=>up.length=n/\∀i,i<k->up[i]? =some ((i:Nat):Int)) (by omega) ⟨by simp,fun i hi=>by omega⟩ (fun k up hk hI=>?_)) ?_
 ·obtain⟨hs,hi⟩:=hI
  refine Ok.idx (by omega) (Ok.ret ⟨by simp [hs],fun i hi'=>?_⟩)
  rw [bX,lB (by omega)]
  split
  ·rename_i e;rw [e]
  ·exact hi i (by omega)
 rintro up0 ⟨hu1,hu2⟩
 refine Ok.bind (Ok.iY (fun k st=>st.2.1= ((gv s k:Nat):Int)/\(0<k->st.2.2= ((gv s (k - 1):Nat):Int))/\∃r E,PJ (aN s) n st.1 r E/\∀q,q<k->∀i j,gv s q<=j->j<gv s (q+1)->D1 (aN s) i j->(i,j)∈E) (by omega)
  ⟨rfl,fun h=>by omega,_,_,⟨UF.init n up0 hu1 hu2,my.id,vq.id n,fun p hp=>(by cases hp)⟩,fun q hq=>by omega⟩ (fun k st hk hI=>?_)) ?_
 ·obtain⟨up,a,b⟩:=st
  obtain⟨e1,e2,r,E,hP,hE⟩:=hI
  dsimp only at e1 e2 hP ⊢
  subst e1
  refine Ok.idx hk ?_
  have hoff:=vr hk
  have hoffle:gv s (k+1)<=n:=by rw [<-hall];exact vt hk
  have hkm:=cI hk
  have hlen:IntKind.wrap .i64 (Int.tdiv ((s[k].Xs.length:Nat):Int) 2)= ((s[k].Xs.length / 2:Nat):Int):=by
   have:=h2 _ hkm
   rw [show (2:Int)= ((2:Nat):Int) by rfl,<-Int.ofNat_tdiv,Bi (by omega)]
  rw [hlen,wrap_add (by omega),<-hoff]
  refine Ok.bind (P:=fun c=>c=true↔∃h0:0<k,s[k - 1].Y1=s[k].Y0) ?_ (fun c hcc=>?_)
  ·refine Ok.bif (fun h=>?_) (fun h=>Ok.ret ?_)
   ·have hpos:0<k:=by have:=of_decide_eq_true h;omega
    rw [lJ hpos (by omega)]
    refine Ok.idx (by omega) (Ok.ret ?_)
    rw [beq_iff_eq]
    exact⟨fun h=>⟨hpos,h⟩,fun⟨_,h⟩=>h⟩
   ·have:=of_decide_eq_false h
    constructor
    ·intro h;cases h
    ·rintro⟨h0,_⟩;omega
  refine Ok.bind (P:=fun up'=>∃r E,PJ (aN s) n up' r E/\∀q,q<k+1->∀i j,gv s q<=j->j<gv s (q+1)->D1 (aN s) i j->(i,j)∈E) ?_ (fun up' hI=>Ok.ret ⟨rfl,fun _=>rfl,hI⟩)
  refine Ok.bif (fun h=>?_) (fun h=>Ok.ret ⟨r,E,hP,fun q hq i j q1 q2 ht=>?_⟩)
  ·obtain⟨hpos,hyy⟩:=hcc.1 h
   rw [e2 hpos]
   have hoffp:=vr (show k - 1<s.length by omega)
   rw [show k - 1+1=k by omega] at hoffp
   refine Ok.bind (Ok.nc (Go:=fun st=>∃r E,PJ (aN s) n st.1 r E/\∀q,q<k+1->∀i j,gv s q<=j->j<gv s (q+1)->D1 (aN s) i j->(i,j)∈E) (Rt:=fun _=>True)
    (fun st=>∃i j:Nat,st.2.1= ((i:Nat):Int)/\st.2.2= ((j:Nat):Int)/\gv s (k - 1)<=i/\i<=gv s k/\gv s k<=j/\j<=gv s (k+1)/\∃r E,PJ (aN s) n st.1 r E/\(∀q,q<k->∀i j,gv s q<=j->j<gv s (q+1)->D1 (aN s) i j->(i,j)∈E)/\
     ∀i' j',gv s (k - 1)<=i'->i'<gv s k->gv s k<=j'->j'<gv s (k+1)->(i'<i\/j'<j)->D1 (aN s) i' j'->(i',j')∈E)
    (fun st=>(n - st.2.1.toNat)+ (n - st.2.2.toNat)) ?_ ?_ (by simp only [bX];omega)) (fun o ho=>Ok.cs ho (fun st h=>Ok.ret h) (fun r=>r.elim))
   ·rintro⟨up,a,b⟩ ⟨i,j,e3,e4,i1,i2,j1,j2,r,E,hP,hE,hE2⟩
    dsimp only at e3 e4 hP ⊢
    subst e3;subst e4
    refine Ok.bif (fun h=>?_) (fun h=>Ok.br ?_)
    ·rw [bP,bK,bK] at h
     have hi:i<gv s k:=by omega
     have hj:j<gv s (k+1):=by omega
     obtain⟨t,et,_,hri⟩:=rT hev (show k - 1<s.length by omega) i1 (by rw [show k - 1+1=k by omega];exact hi)
     obtain⟨u,eu,_,hrj⟩:=rT hev hk j1 hj
     have xi:=hinc _ (cI (show k - 1<s.length by omega))
     have xj:=hinc _ hkm
     have farI: ∀i' a,i<i'->i'<gv s k->(aN s)[i']? =some a->s[k - 1].Xs[2*t+1]<a.X0:=fun i' a h4 h5 h6=>by
      obtain⟨t',et',ht',hr'⟩:=rT hev (show k - 1<s.length by omega) (show gv s (k - 1)<=i' by omega) (by rw [show k - 1+1=k by omega];exact h5)
      rw [hr'] at h6;injection h6 with h6;subst h6
      exact xi.lt (show 2*t+1<2*t' by omega) (aJ _) (aJ _)
     have farJ: ∀j' a,j<j'->j'<gv s (k+1)->(aN s)[j']? =some a->s[k].Xs[2*u+1]<a.X0:=fun j' a h4 h5 h6=>by
      obtain⟨u',eu',hu',hr'⟩:=rT hev hk (show gv s k<=j' by omega) h5
      rw [hr'] at h6;injection h6 with h6;subst h6
      exact xj.lt (show 2*u+1<2*u' by omega) (aJ _) (aJ _)
     refine Ok.bind (P:=fun c=>c=true↔D1 (aN s) i j) ?_ (fun c hct=>?_)
     ·refine Ok.ix hri (Ok.ix hrj (Ok.bif (fun h=>Ok.ix hrj (Ok.ix hri (Ok.ret ?_))) (fun h=>Ok.ret ?_)))
      ·rw [bK] at h ⊢
       constructor
       ·intro h';exact⟨_,_,hri,hrj,hyy,h,h'⟩
       ·rintro⟨a,c,ha,hc',_,_,h'⟩
        rw [hri] at ha;injection ha with ha;subst ha
        rw [hrj] at hc';injection hc' with hc';subst hc'
        exact h'
      ·constructor
       ·intro h;cases h
       ·rintro⟨a,c,ha,hc',_,h',_⟩
        rw [hri] at ha;injection ha with ha;subst ha
        rw [hrj] at hc';injection hc' with hc';subst hc'
        rw [decide_eq_false_iff_not] at h;exact absurd h' h
     refine Ok.bind (P:=fun up'=>∃r E',PJ (aN s) n up' r E'/\(∀p∈E,p∈E')/\(D1 (aN s) i j->(i,j)∈E')) ?_ ?_
     ·refine Ok.bif (fun h=>?_) (fun h=>Ok.ret ⟨r,E,hP,fun p hp=>hp,fun ht=>by rw [hct.2 ht] at h;cases h⟩)
      obtain⟨up',u1,u2⟩:=Fw (N:=N) (f:=fun x=>some x) hP.uf (i:=i) (k:=j) (by omega) (by omega) (by omega)
      refine⟨up',u1,_,_,hP.join (by omega) (by omega) u2 (hct.1 h),fun p hp=>List.mem_append_left _ hp,fun _=>by simp⟩
     ·rintro up' ⟨r',E',hP',hsub,hij⟩
      refine Ok.ix hri (Ok.ix hrj ?_)
      dsimp only
      by_cases hx:s[k - 1].Xs[2*t+1]<s[k].Xs[2*u+1]
      ·rw [cB hx,aR]
       refine Ok.eq (x:=(((i+1:Nat):Int),((j:Nat):Int))) (by rw [fU (by omega)]) (Ok.nx ⟨⟨i+1,j,rfl,rfl,by omega,by omega,j1,j2,r',E',hP',fun q hq i j q1 q2 ht=>hsub _ (hE q hq i j q1 q2 ht),fun i' j' g1 g2 g3 g4 g5 ht=>?_⟩,by simp only [bX];omega⟩)
       by_cases h5:i'<i\/j'<j
       ·exact hsub _ (hE2 i' j' g1 g2 g3 g4 h5 ht)
       ·have:i'=i:=by omega
        subst this
        by_cases h6:j'=j
        ·subst h6;exact hij ht
        ·exfalso
         obtain⟨a,c,ha,hc',_,_,h'⟩:=ht
         rw [hri] at ha;injection ha with ha;subst ha
         have:=farJ j' c (by omega) g4 hc'
         dsimp only at h';omega
      ·rw [bE hx,aQ]
       refine Ok.eq (x:=(((i:Nat):Int),((j+1:Nat):Int))) (by rw [fU (by omega)]) (Ok.nx ⟨⟨i,j+1,rfl,rfl,i1,i2,by omega,by omega,r',E',hP',fun q hq i j q1 q2 ht=>hsub _ (hE q hq i j q1 q2 ht),fun i' j' g1 g2 g3 g4 g5 ht=>?_⟩,by simp only [bX];omega⟩)
       by_cases h5:i'<i\/j'<j
       ·exact hsub _ (hE2 i' j' g1 g2 g3 g4 h5 ht)
       ·have:j'=j:=by omega
        subst this
        by_cases h6:i'=i
        ·subst h6;exact hij ht
        ·exfalso
         obtain⟨a,c,ha,hc',_,h',_⟩:=ht
         rw [hrj] at hc';injection hc' with hc';subst hc'
         have:=farI i' a (by omega) g2 ha
         dsimp only at h';omega
    ·refine⟨r,E,hP,fun q hq i' j' q1 q2 ht=>?_⟩
     by_cases hqk:q<k
     ·exact hE q hqk i' j' q1 q2 ht
     ·have:q=k:=by omega
      subst this
      obtain⟨_,_,g1,g2⟩:=Bn hc hk q1 q2 ht
      refine hE2 i' j' g1 g2 q1 q2 ?_ ht
      rw [Bool.and_eq_false_iff,decide_eq_false_iff_not,decide_eq_false_iff_not] at h
      omega
   ·exact⟨gv s (k - 1),gv s k,rfl,rfl,bN _,vt (by omega),bN _,vt (by omega),r,E,hP,hE,fun i' j' g1 g2 g3 g4 g5=>by omega⟩
  ·by_cases hqk:q<k
   ·exact hE q hqk i j q1 q2 ht
   ·have:q=k:=by omega
    subst this
    obtain⟨g0,g1,_⟩:=Bn hc hk q1 q2 ht
    rw [hcc.2 ⟨g0,g1⟩] at h;cases h
 ·rintro⟨up,a,b⟩ ⟨_,_,r,E,hP,hE⟩
  dsimp only at hP ⊢
  have hEq: ∀i j,D1 (aN s) i j->(i,j)∈E:=fun i j ht=>by
   have hjl:j< (aN s).length:=by obtain⟨a,c,_,hb,_⟩:=ht;exact(aZ.1 hb).1
   obtain⟨q,hq,q1,q2⟩:=C7 hjl
   exact hE q hq i j q1 q2 ht
  have hJ:Joined (aN s) r:=⟨by rw [hn];exact hP.uf.le,by rw [hn];exact hP.uf.rr,fun i j ht=>hP.co (i,j) (hEq i j ht),fun S hS i j hi hj=>by
   rw [hn] at hi hj
   exact hP.fi S (fun p hp=>hS p.1 p.2 (hP.so p hp)) i j hi hj⟩
  refine Ok.bind (Ok.iY (fun k st=>UF n st.1 r/\Ll k r st.2.1/\st.2.2= (bT k r).map (lR (aN s) k r)) (by omega) ⟨hP.uf,⟨fun j k hj=>by simp [bT] at hj,fun k=>rfl⟩,rfl⟩ (fun k st hk hI=>?_)) ?_
  ·obtain⟨l,m,ls⟩:=st
   obtain⟨hu,⟨hm1,hm2⟩,hs⟩:=hI
   dsimp only at hu hm1 hm2 hs ⊢
   subst hs
   have hkx: (aN s)[k]? =some ((aN s)[k]'(by omega)):=aJ (by omega)
   refine Ok.ix hkx ?_
   obtain⟨u',a1,a2⟩:=zV (N:=N) hu hk (by omega)
   refine Ok.eq a1 ?_
   dsimp only
   have hhl:=mz k r
   have hrk:=hP.uf.le k hk
   have hrr:=hP.uf.rr k hk
   have hcl:=xz (aN s) k r (r k)
   have hmap: ((bT k r).map (lR (aN s) k r)).length= (bT k r).length:=by simp
   rw [hm2]
   by_cases e:r k=k
   ·have hnot:r k∉bT k r:=fun h=>by have:=(gY.1 h).1;omega
    refine Ok.eq (x:=(oM m ((r k:Nat):Int) (((bT k r).length:Nat):Int),(bT k r).map (lR (aN s) k r)++[([]:List aI)],(((bT k r).length:Nat):Int))) ?_ ?_
    ·rw [bE hnot,mD,aR,gQ (by simp;omega),aB,hmap]
    ·dsimp only
     have hi: ((bT k r).map (lR (aN s) k r)++[([]:List aI)])[(bT k r).length]? =some []:=by rw [<-hmap,fA (bN _),Nat.sub_self];rfl
     refine Ok.ix hi (Ok.app (by simp) (Ok.ix hi (Ok.ret ⟨a2,⟨fun j q hj=>?_,fun q=>?_⟩,?_⟩)))
     ·dsimp only
      rw [ji,aD e] at hj
      rw [iV]
      by_cases e2:j< (bT k r).length
      ·rw [fF e2] at hj
       have:=(gY.1 (gJ hj)).1
       rw [aC (by omega)];exact hm1 j q hj
      ·rw [fA (by omega)] at hj
       have hj0:j - (bT k r).length=0:=by
        have:=(aZ.1 hj).1;simp at this;omega
       rw [hj0] at hj;simp at hj;subst hj
       rw [aD (by rw [e])];congr 1;omega
     ·dsimp only
      rw [kT,hm2,ji,aD e,fX]
      rw [dQ,bK,bK,bK,cR,List.mem_singleton,e]
      constructor
      ·rintro(h | h)
       ·exact .inr (by omega)
       ·exact .inl h
      ·rintro(h | h)
       ·exact .inr h
       ·exact .inl (by omega)
     ·dsimp only
      rw [bX,<-hmap,List.set_append_right _ _ (bN _),Nat.sub_self,ji,aD e,eV]
      congr 1
      ·apply List.map_congr_left
       intro a ha
       have:=(gY.1 ha).1
       rw [rU a hkx,aC (by omega)]
      ·simp only [List.set_cons_zero,eH,List.map_nil,List.nil_append]
       rw [rU k hkx,aD e]
       have:lR (aN s) k r k= []:=by unfold lR;rw [C6 (fun i hi=>hP.uf.le i (by omega)) (bN _)];rfl
       rw [this];rfl
   ·have hh:r k∈bT k r:=gY.2 ⟨by omega,hrr⟩
    obtain⟨j,hj⟩:=fY hh
    refine Ok.eq (x:=(m,(bT k r).map (lR (aN s) k r),((j:Nat):Int))) ?_ ?_
    ·rw [cB hh,lv,aQ,hm1 j (r k) hj]
    ·dsimp only
     have hi: ((bT k r).map (lR (aN s) k r))[j]? =some (lR (aN s) k r (r k)):=by rw [il,hj];rfl
     refine Ok.ix hi (Ok.app (by simp;omega) (Ok.ix hi (Ok.ret ⟨a2,⟨fun j' q hj'=>?_,fun q=>?_⟩,?_⟩)))
     ·rw [ji,aC e] at hj';exact hm1 j' q hj'
     ·rw [ji,aC e];exact hm2 q
     ·dsimp only
      rw [bX,ji,aC e]
      have:=rp (lR (aN s) k r) (lR (aN s) (k+1) r) (bT k r) j (r k) (lO k r) hj (fun b hb hne=>by
       rw [rU b hkx,aC (fun h=>hne h.symm)])
      rw [rU (r k) hkx,aD rfl] at this
      exact this
  ·rintro⟨l,m,ls⟩ ⟨_,_,hs⟩
   dsimp only at hs ⊢
   subst hs
   have hhl:=mz n r
   refine Ok.bind (Ok.iY (fun k ps=>ps.length=k/\∀(j h:Nat) (p:List aA),j<k->(bT n r)[j]? =some h->ps[j]? =some p->oG (lR (aN s) n r h) p) (by simp;omega) ⟨rfl,fun j h p hj=>by omega⟩ (fun k ps hk hI=>?_)) ?_
   ·obtain⟨hp1,hp2⟩:=hI
    have hk':k< (bT n r).length:=by simpa using hk
    refine Ok.ix (x:=lR (aN s) n r (bT n r)[k]) (by rw [il,aJ hk'];rfl) ?_
    have hcl:=xz (aN s) n r (bT n r)[k]
    refine Ok.bind (pW (N:=N) (by omega) (fun x hx=>?_) (by omega)) ?_
    ·obtain⟨i,_,_,h⟩:=mQ.1 hx
     exact(hok x (gJ h)).1
    ·intro p hp
     refine Ok.app (by rw [hp1];simp;omega) (Ok.ret ⟨by simp [hp1],fun j h q hj hh hq=>?_⟩)
     by_cases hjk:j<k
     ·rw [fF (by omega)] at hq
      exact hp2 j h q hjk hh hq
     ·have:j=k:=by omega
      subst this
      rw [fA (by omega),hp1,Nat.sub_self] at hq
      simp at hq;subst hq
      rw [aJ hk'] at hh;injection hh with hh;subst hh
      exact hp
   ·rintro ps ⟨hp1,hp2⟩
    refine Ok.ret ⟨r,hJ,?_,fun j h p hh hp=>?_⟩
    ·rw [hp1,hn];simp
    ·rw [hn] at hh ⊢
     exact hp2 j h p (by have:=(aZ.1 hp).1;omega) hh hp
end
end Go.Gk
namespace Go.Gk
open Go
section
variable {N:Nat}
theorem mG {n:Int} (h: -9223372036854775808<=n/\n<=9223372036854775807):IntKind.wrap .i64 n=n:=by rw [IntKind.wrap_i64];omega
def gZ (n lo hi:Int):Bool:=decide (n>=lo)&&decide (n<=hi)
def nX (n:Int):Bool:=gZ n (-1000000) 1000000
def sH (p:eK):Bool:=nX p.X&&nX p.Y
def cW (r:aI):Bool:=nX r.X0&&(nX r.Y0&&(nX r.X1&&nX r.Y1))
theorem xA (n:Int):jI N n=some (nX n):=rfl
theorem vP (p:eK):iv N p=some (sH p):=by
 unfold iv sH
 rw [xA,aB,xA]
 cases nX p.X <;> rfl
theorem xB (r:aI):kL N r=some (cW r):=by
 unfold kL cW
 simp only [xA,aB]
 cases nX r.X0 <;> cases nX r.Y0 <;> cases nX r.X1 <;> rfl
theorem Bo {a b:Int} (h:a≠b):fJ (N+4) [a,b]=some [a,b]:=by
 have e: (b==a)=false:=by rw [beq_eq_false_iff_ne];exact fun e=>h e.symm
 have w1:IntKind.wrap .i64 ((1:Int) - 1)=0:=by decide
 have w2:IntKind.wrap .i64 ((1:Int)+1)=2:=by decide
 unfold fJ
 have e1:idx [a,b] 1=some b:=rfl
 have e2:idx [a,b] 0=some a:=rfl
 have l2: (([a,b]:List Int).length:Int)=2:=rfl
 rw [l2,show decide ((2:Int)<2)=false by decide,aQ]
 rw [nc.eq_def]
 dsimp only
 rw [show decide ((1:Int)<2)=true by decide,aR,e1,aB,w1,e2,aB,e,aQ,aB,w2]
 dsimp only
 rw [nc.eq_def]
 dsimp only
 rw [show decide ((2:Int)<2)=false by decide,aQ,aB]
 rfl
theorem Ho (x:Int):IntKind.wrap .i64 (x - x)=0:=by rw [Int.sub_self];decide
theorem D2 {r:aI} (hx:r.X0<r.X1) (hy:r.Y0<r.Y1):fP (N+16) [r]=some [⟨r.Y0,r.Y1,[r.X0,r.X1]⟩]:=by
 have s1:tI (iD (N+16)) [r]=some [r]:=yM (by unfold iD;rw [Ho])
 have s2:tI (fK (N+16)) [r]=some [r]:=yM (by unfold fK;rw [Ho])
 have s3:qH [r.Y0,r.Y1]=some [r.Y0,r.Y1]:=ya (by simp;omega) (by simp)
 have c1:gT (N+16) [r]=some [r]:=rfl
 have f1: ∀φ,f9 (N+16) [] φ=some []:=fun φ=>rfl
 have st:g9 (N+16) [r]=some ([r.X0,r.X1],[r]):=by
  unfold g9
  rw [s2,aB]
  rfl
 have pu: ∀b:aA,b.Xs= [r.X0,r.X1]->b.Y0<b.Y1->gN (N+16) [] b=some [b]:=fun b h1 h2=>by
  unfold gN
  rw [h1,bE (show ¬b.Y1<=b.Y0 by omega)]
  rfl
 unfold fP
 rw [c1,aB,s1,aB]
 have ys: (iY ([r]:List aI).length (fun(k35:Nat) (s36: (List Int))=>((idx [r] (k35:Int)).bind fun x54=>(app 8 s36 ([x54.Y0,x54.Y1]: (List Int))).bind fun x58=>some x58:Option ((List Int)))) ([]: (List Int)))=some [r.Y0,r.Y1]:=rfl
 rw [ys,aB,s3,aB,Bo (N:=N+12) (by omega),aB]
 have l2: (([r.Y0,r.Y1]:List Int).length:Int)=2:=rfl
 have l1: (([r]:List aI).length:Int)=1:=rfl
 have w1:IntKind.wrap .i64 ((0:Int)+1)=1:=by decide
 have w2:IntKind.wrap .i64 ((1:Int)+1)=2:=by decide
 have i0:idx [r.Y0,r.Y1] 0=some r.Y0:=rfl
 have i1:idx [r.Y0,r.Y1] 1=some r.Y1:=rfl
 have j0:idx [r] 0=some r:=rfl
 have a1:app 32 ([]:List aI) [r]=some [r]:=rfl
 rw [l2,l1]
 rw [nc.eq_def]
 dsimp only
 rw [w1,show decide ((1:Int)<2)=true by decide,aR,f1,aB]
 rw [nc.eq_def]
 dsimp only
 rw [show decide ((0:Int)<1)=true by decide,aR,j0,aB,i0,aB,aB,show decide (r.Y0<=r.Y0)=true by simp,aR,aB,a1,aB,w1,aB]
 dsimp only
 rw [nc.eq_def]
 dsimp only
 rw [show decide ((1:Int)<1)=false by decide,aQ,aB,aQ,aB,aB]
 unfold Fo.cs
 dsimp only
 rw [aB,i1,aB,st,aB,pu _ rfl hy,aB,aB]
 dsimp only
 rw [nc.eq_def]
 dsimp only
 rw [w2,show decide ((2:Int)<2)=false by decide,aQ,aB]
 rfl
theorem Fx {r:aI} (hx:r.X0<r.X1):kn N [⟨r.Y0,r.Y1,[r.X0,r.X1]⟩]=some (cW r):=by
 have ar:kN N [⟨r.Y0,r.Y1,[r.X0,r.X1]⟩]=some r:=by
  have e1: (if r.X0<r.X0 then r.X0 else r.X0)=r.X0:=by split <;> rfl
  have e2: (if r.X1<r.X1 then r.X1 else r.X1)=r.X1:=by split <;> rfl
  show some ({X0:=(if r.X0<r.X0 then r.X0 else r.X0),Y0:=r.Y0,X1:=(if r.X1<r.X1 then r.X1 else r.X1),Y1:=r.Y1}:aI)=some r
  rw [e1,e2]
 unfold kn
 rw [ar,aB,xB]
 rfl
def wA (b:bQ):aI:=⟨b.At.X - b.eU / 2,b.At.Y - b.eU / 2,b.At.X - b.eU / 2+b.eU,b.At.Y - b.eU / 2+b.eU⟩
def rq (b:bQ):Bool:=gZ b.eU 1 10000&&sH b.At
def mH (b:bQ):aI×Int:=if rq b&&cW (wA b) then (wA b,0) else (⟨0,0,0,0⟩,1)
theorem ru {b:bQ} (h:rq b=true): (1<=b.eU/\b.eU<=10000)/\(-1000000<=b.At.X/\b.At.X<=1000000)/\(-1000000<=b.At.Y/\b.At.Y<=1000000):=by
 simp only [rq,gZ,sH,nX,bP,decide_eq_true_iff] at h
 omega
theorem lP {b:bQ} (h:rq b=true):eT N b=some (wA b):=by
 obtain⟨h1,h2,h3⟩:=ru h
 have t:Int.tdiv b.eU 2=b.eU / 2:=Int.tdiv_eq_ediv_of_nonneg (by omega)
 unfold eT wA
 rw [t,mG (n:=b.eU / 2) (by omega),mG (n:=b.At.X - b.eU / 2) (by omega),mG (n:=b.At.Y - b.eU / 2) (by omega),mG (by omega),mG (by omega)]
theorem vu {b:bQ}:j3 (N+16) b=some (mH b):=by
 have e0:fW (N+16) b.eU 1 10000=some (gZ b.eU 1 10000):=rfl
 have e1: (bif (!(gZ b.eU 1 10000)) then (some true) else (some (!(sH b.At))))=some (!rq b):=by unfold rq;cases gZ b.eU 1 10000 <;> rfl
 unfold j3 mH
 rw [e0,aB,vP,aB,e1,aB]
 cases hf:rq b with
 | false=>rfl
 | true=>
  obtain⟨h1,h2,h3⟩:=ru hf
  have hx: (wA b).X0< (wA b).X1:=by simp only [wA];omega
  have hy: (wA b).Y0< (wA b).Y1:=by simp only [wA];omega
  rw [lv,aQ,lP hf,aB,D2 hx hy,aB,Fx hx,aB]
  cases cW (wA b) <;> rfl
end
end Go.Gk
namespace Go.Gk
open Go
section
variable {N:Nat}
def H4 (c:UInt8):Bool:=
 ((((decide (((c.toNat:Nat):Int)<65))||(decide (((c.toNat:Nat):Int)>90)))&&((decide (((c.toNat:Nat):Int)<97))||(decide (((c.toNat:Nat):Int)>122))))&&((decide (((c.toNat:Nat):Int)<48))||(decide (((c.toNat:Nat):Int)>57))))&&decide (Lib.indexByte [95,43,45,35] c<0)
def isWord (s:dD):Bool:= !s.cM.any H4&&(decide (1<=s.cM.length)&&decide (s.cM.length<=40))
theorem uC (s:dD) (c:UInt8):gV N s ((c.toNat:Nat):Int)=some (Lib.indexByte s.cM c):=by
 show some (Lib.indexByte s.cM (Int.toNat ((c.toNat:Nat):Int)).toUInt8)=_
 rw [bX];simp
theorem Cm {R:Type} (b1:Bool) (c:UInt8) (r:R):
  ((bif b1 then ((gV N (⟨[95,43,45,35]⟩) ((c.toNat:Nat):Int)).bind fun x14=>some (decide (x14<0))) else (some false)).bind fun s12=>bif s12 then (some (.rt r)) else (some (.nx ())):Option (Fl Unit R))=some (if (b1&&decide (Lib.indexByte [95,43,45,35] c<0))=true then .rt r else .nx ()):=by
 rw [uC,aB]
 cases b1
 ·rfl
 ·rw [aR,aB,Bool.true_and]
  cases decide (Lib.indexByte [95,43,45,35] c<0) <;> rfl
theorem oH {s:dD} (h:s.cM.length<=1048576):gO N s=some (isWord s):=by
 unfold gO
 rw [GC H4 false (by omega) (fun k x hx=>by
  have hk:=(aZ.1 hx).1
  have e:Dl s ((k:Nat):Int)=some x:=by rw [E5 s k hk,<-aJ hk,hx]
  rw [e,aB]
  exact Cm (R:=Bool) _ x false),aB]
 unfold isWord
 cases s.cM.any H4
 ·simp only [Fo.cs,mD,Bool.true_and,Bool.false_eq_true,if_false,Option.some.injEq]
  rw [fX,bP,bP]
  simp only [bK]
  omega
 ·simp [Fo.cs]
def cutAt (c:UInt8):List UInt8->List (List UInt8)
 | []=>[[]]
 | b::l=>if b==c then []::cutAt c l else match cutAt c l with | h::t=>(b::h)::t | []=>[[b]]
theorem xC {c:UInt8}: ∀{l:List UInt8},c∉l->cutAt c l= [l]
 | [],_=>rfl
 | b::l,h=>by
  unfold cutAt
  have hb: (b==c)=false:=by rw [beq_eq_false_iff_ne];rintro rfl;exact h (by simp)
  rw [hb,xC (fun h'=>h (by simp [h']))];rfl
theorem Bp {c:UInt8}: ∀{a b:List UInt8},c∉a->cutAt c (a++c::b)=a::cutAt c b
 | [],b,_=>by rw [List.nil_append];show (if (c==c)=true then _ else _)=_;simp
 | x::a,b,h=>by
  have hb: (x==c)=false:=by rw [beq_eq_false_iff_ne];rintro rfl;exact h (by simp)
  have ih:=Bp (c:=c) (a:=a) (b:=b) (fun h'=>h (by simp [h']))
  show (if (x==c)=true then []::cutAt c (a++c::b) else match cutAt c (a++c::b) with | h::t=>(x::h)::t | []=>[[x]])=_
  rw [hb,ih];rfl
theorem ry: ∀(l:List UInt8) (c:UInt8),(Lib.indexByte l c = -1/\c∉l)\/∃a b,l=a++c::b/\c∉a/\Lib.indexByte l c= ((a.length:Nat):Int)
 | [],c=> .inl ⟨rfl,by simp⟩
 | x::l,c=>by
  unfold Lib.indexByte
  by_cases hx:x=c
  ·subst hx;exact .inr ⟨[],l,rfl,by simp,by simp⟩
  ·have hb: (x==c)=false:=by rw [beq_eq_false_iff_ne];exact hx
   rcases ry l c with ⟨h1,h2⟩ | ⟨a,b,h1,h2,h3⟩
   ·left;rw [hb,h1];refine⟨by simp,?_⟩;simp [h2];exact fun h=>hx h.symm
   ·right
    refine⟨x::a,b,by rw [h1];rfl,by simp [h2];exact fun h=>hx h.symm,?_⟩
    rw [hb,h3]
    have: (((a.length:Nat):Int)== -1)=false:=by rw [beq_eq_false_iff_ne];omega
    rw [this];simp
theorem Fy (s:dD) (c:UInt8):j4 N s ⟨[c]⟩=some (Lib.indexByte s.cM c):=by
 show (i6 N s ⟨[c]⟩).bind _=_
 unfold i6
 by_cases h:dD.BQ ⟨[c]⟩ s=true
 ·have:s= ⟨[c]⟩:=(GB.1 h).symm
  subst this
  rw [h];simp [Lib.indexByte]
 ·rw [ou] at h
  rw [h]
  show ((gu N s ((c.toNat:Nat):Int)).bind _).bind _=_
  have:=uC (N:=N) s c
  simp only [gV] at this
  rw [this];rfl
theorem Fz (s:dD) (c:UInt8):k6 N s ⟨[c]⟩=some ((s.cM.count c:Nat):Int):=by
 unfold k6
 show (some _:Option Int)=_
 simp [Lib.countByte]
theorem D3 {s:dD} {k:Nat} (h:k<=s.cM.length):sO s 0 ((k:Nat):Int)=some ⟨s.cM.take k⟩:=by
 unfold sO;rw [aD ⟨by omega,by omega,by omega⟩]
 simp only [Int.toNat_zero,List.drop_zero,Int.sub_zero,bX]
theorem D4 {s:dD} {k:Nat} (h:k<=s.cM.length):sO s ((k:Nat):Int) ((s.cM.length:Nat):Int)=some ⟨s.cM.drop k⟩:=by
 unfold sO;rw [aD ⟨by omega,by omega,by omega⟩]
 simp only [bX]
 rw [ov];rw [gF];omega
def pY (s:dD) (c:UInt8):List dD:=(cutAt c s.cM).map dD.mk
theorem FA {s:dD} (c:UInt8) (h:s.cM.length<=1048576) (hN:4194304<=N):k7 N s ⟨[c]⟩=some (pY s c):=by
 have hc:s.cM.count c<=s.cM.length:=List.count_le_length
 unfold k7 kO
 rw [show ((-1:Int)==0)=false by decide,aQ,show dD.BQ ⟨[c]⟩ ⟨[]⟩=false by simp [dD.BQ],aQ,Fz,aB]
 rw [eO (x:=((s.cM.count c:Nat):Int)+1) (by omega) (by omega),show decide ((-1:Int)<0)=true by decide,aR,aB]
 rw [eO (x:=((s.cM.length:Nat):Int)+1) (by omega) (by omega)]
 have e1: (if ((s.cM.length:Nat):Int)+1< ((s.cM.count c:Nat):Int)+1 then ((s.cM.length:Nat):Int)+1 else ((s.cM.count c:Nat):Int)+1)= ((s.cM.count c+1:Nat):Int):=by
  rw [aC (by omega)];omega
 rw [e1,pT _ (by omega),aB]
 rw [eO (x:=((s.cM.count c+1:Nat):Int) - 1) (by omega) (by omega)]
 have key:=tY (S:=dD×List dD×Int) (R:=Empty) (body:=(fun(s7:dD×(List dD)×Int)=>(bif (decide (s7.2.2< ((s.cM.count c+1:Nat):Int) - 1)) then ((j4 N s7.1 ⟨[c]⟩).bind fun x23=>bif (decide (x23<0)) then (some (.br (s7.1,s7.2.1,s7.2.2))) else ((sO s7.1 0 (IntKind.wrap .i64 (x23+0))).bind fun x24=>(idx s7.2.1 s7.2.2).bind fun x25=>(sO s7.1 (IntKind.wrap .i64 (x23+ (((⟨[c]⟩:dD).cM.length:Nat):Int))) ((s7.1.cM.length:Nat):Int)).bind fun x27=>some (.nx (x27,(s7.2.1.set (Int.toNat s7.2.2) x24),(IntKind.wrap .i64 (s7.2.2+1)))))) else (some (.br (s7.1,s7.2.1,s7.2.2))):Option (Fl (dD×(List dD)×Int) Empty))))
  (fun st=>∃ws:List (List UInt8),st.2.2= ((ws.length:Nat):Int)/\cutAt c s.cM=ws++cutAt c st.1.cM/\ws.length+st.1.cM.count c=s.cM.count c/\st.1.cM.length<=s.cM.length/\st.2.1=ws.map dD.mk++List.replicate (s.cM.count c+1 - ws.length) ⟨[]⟩)
  (fun st=>s.cM.count c+1 - st.2.2.toNat)
  (fun st=>∃ws:List (List UInt8),st.2.2= ((ws.length:Nat):Int)/\cutAt c s.cM=ws++[st.1.cM]/\ws.length=s.cM.count c/\st.2.1=ws.map dD.mk++[⟨[]⟩])
  (fun _=>True) (by
   rintro⟨r,arr,i⟩ ⟨ws,h1,h2,h3,h4,h5⟩
   simp only at h1 h2 h3 h4 h5
   subst h1 h5
   by_cases hlt:ws.length<s.cM.count c
   ·have hd:decide (((ws.length:Nat):Int)< ((s.cM.count c+1:Nat):Int) - 1)=true:=by rw [bK];omega
    simp only [hd,aR,Fy,aB]
    rcases ry r.cM c with ⟨_,hn⟩ | ⟨a,b,hr,ha,hi⟩
    ·rw [List.count_eq_zero_of_not_mem hn] at h3;omega
    ·have hrl:r.cM.length=a.length+ (b.length+1):=by rw [hr];simp
     rw [hi,bE (by omega),aQ]
     rw [show ((a.length:Nat):Int)+0= ((a.length:Nat):Int) by omega,eO (x:=((a.length:Nat):Int)) (by omega) (by omega),D3 (by omega),aB]
     rw [jq _ _ (by simp;omega),aB]
     rw [show ((a.length:Nat):Int)+ (((⟨[c]⟩:dD).cM.length:Nat):Int)= ((a.length+1:Nat):Int) by simp,eO (x:=((a.length+1:Nat):Int)) (by omega) (by omega),D4 (by omega),aB]
     refine⟨_,rfl,⟨ws++[a],?_,?_,?_,?_,?_⟩,?_⟩
     ·simp only;rw [eO (by omega) (by omega)];simp
     ·simp only
      rw [h2,hr,Bp ha];simp
     ·simp only
      rw [hr] at h3 ⊢
      simp [List.count_eq_zero_of_not_mem ha] at h3 ⊢;omega
     ·simp;omega
     ·simp only [bX]
      rw [List.set_append_right _ _ (by simp)]
      simp only [gw,Nat.sub_self]
      obtain⟨d,hd'⟩: ∃d,s.cM.count c+1 - ws.length=d+1:=⟨s.cM.count c - ws.length,by omega⟩
      rw [hd',List.replicate_succ,List.set_cons_zero,show s.cM.count c+1 - (ws++[a]).length=d by simp;omega]
      simp [hr]
     ·simp only;rw [eO (by omega) (by omega)];omega
   ·have hd:decide (((ws.length:Nat):Int)< ((s.cM.count c+1:Nat):Int) - 1)=false:=by rw [decide_eq_false_iff_not];omega
    simp only [hd,aQ]
    refine⟨_,rfl,ws,rfl,?_,by omega,?_⟩
    ·have h0:r.cM.count c=0:=by omega
     rw [h2,xC (List.count_eq_zero.1 h0)]
    ·rw [show s.cM.count c+1 - ws.length=1 by omega];rfl)
  N (s,List.replicate (s.cM.count c+1) ⟨[]⟩,0) ⟨[],rfl,rfl,by simp,bN _,by simp⟩ (by simp only;omega)
 obtain⟨o,ho,hgo⟩:=key
 rw [ho,aB]
 cases o with
 | rt r=>exact r.elim
 | go st=>
  obtain⟨r,arr,i⟩:=st
  obtain⟨ws,h1,h2,h3,h4⟩:=hgo
  simp only at h1 h2 h3 h4
  subst h1 h4
  simp only [Fo.cs]
  rw [jq _ _ (by simp),aB,eO (by omega) (by omega)]
  rw [show ((ws.length:Nat):Int)+1= ((ws.length+1:Nat):Int) by omega,tZ _ _ (by simp),aB,aB]
  unfold pY
  rw [h2]
  rw [bX,List.set_append_right _ _ (by simp),ov (by simp)]
  simp
def oX (s:dD):Bool:=decide (s.cM.length<=200)&&(pY s 47).all isWord
theorem rV {c:UInt8}: ∀{l x:List UInt8},x∈cutAt c l->x.length<=l.length
 | [],x,h=>by simp [cutAt] at h;subst h;simp
 | b::l,x,h=>by
  unfold cutAt at h
  split at h
  ·rcases gm.1 h with h | h
   ·subst h;simp
   ·have:=rV h;simp;omega
  ·split at h
   ·rename_i t e
    rcases gm.1 h with h | h
    ·subst h;have:=rV (c:=c) (l:=l) (by rw [e];exact List.mem_cons_self);simp;omega
    ·have:=rV (c:=c) (l:=l) (by rw [e];exact jo _ h);simp;omega
   ·simp at h;subst h;simp
theorem yR (c:UInt8): ∀(l:List UInt8),(cutAt c l).length<=l.length+1
 | []=>by simp [cutAt]
 | b::l=>by
  have:=yR c l
  unfold cutAt
  split
  ·simp;omega
  ·split
   ·rename_i e;rw [e] at this;simp at this ⊢;omega
   ·simp
theorem D5 {s x:dD} {c:UInt8} (h:x∈pY s c):x.cM.length<=s.cM.length:=by
 obtain⟨y,hy,rfl⟩:=cP.1 h
 exact rV hy
theorem D6 (s:dD) (c:UInt8): (pY s c).length<=s.cM.length+1:=by unfold pY;rw [gw];exact yR c _
theorem uD {s:dD} (h:s.cM.length<=1048576) (hN:4194304<=N):ko N s=some (oX s):=by
 unfold ko oX
 by_cases hl:s.cM.length<=200
 ·rw [cB (by omega),aR,FA 47 h hN,aB]
  have e:=ph (l:=pY s 47) (φ:=gh N) (fun x=> !isWord x) (by have:=D6 s 47;omega) (fun x hx=>by
   unfold gh
   rw [oH (by have:=D5 hx;omega)];rfl)
  have e2:ga N (pY s 47) (gh N)=oR (pY s 47) (gh N):=rfl
  rw [e2,e,aB,aB,cB hl,Bool.true_and]
  congr 1
  rw [fX]
  simp
 ·rw [bE (by omega),aQ,aB,bE hl,Bool.false_and]
end
end Go.Gk
namespace Go.Gk
open Go Classical
section
variable {N:Nat}
theorem FB {a b:aA} (h:bM a=bM b):a=b:=by cases a;cases b;unfold bM at h;simp at h;obtain⟨h1,h2,h3⟩:=h;subst h1;subst h2;subst h3;rfl
theorem uE: ∀{s t:List aA},s.map bM=t.map bM->s=t
 | [],[],_=>rfl
 | [],_::_,h=>by cases h
 | _::_,[],h=>by cases h
 | a::s,b::t,h=>by
  rw [eH,eH] at h
  injection h with h1 h2
  rw [FB h1,uE h2]
theorem Bq {s t:List aA} (hs:eA (s.map bM)) (ht:eA (t.map bM)) (h: ∀x y,uy (s.map bM) x y=uy (t.map bM) x y):s=t:=uE (xm hs ht h)
theorem oG.unique {l:List aI} {s t:List aA} (hs:oG l s) (ht:oG l t):s=t:=Bq hs.can ht.can fun x y=>by rw [hs.cover,ht.cover]
theorem oG.FC {l:List aI} {s:List aA} (h:oG l s):s.length<=2*l.length/\(∀b∈s,b.Xs.length<=2*l.length)/\(aN s).length<=2*l.length* (2*l.length):=by
 have h1:s.length<=2*l.length:=by have:=h.lim.len h.can;rwa [gw,jC] at this
 have h2: ∀b∈s,b.Xs.length<=2*l.length:=fun b hb=>by
  have:=h.lim.row h.can (b:=bM b) (cP.2 ⟨b,hb,rfl⟩)
  rwa [lk] at this
 exact⟨h1,h2,xq h1 h2⟩
theorem rW {n:Int} (h:nX n=true): -1000000<=n/\n<=1000000:=by
 unfold nX gZ at h
 rw [bP,bK,bK] at h;omega
theorem gR {r:aI} (h:cW r=true): (-1000000<=r.X0/\r.X0<=1000000)/\(-1000000<=r.Y0/\r.Y0<=1000000)/\(-1000000<=r.X1/\r.X1<=1000000)/\(-1000000<=r.Y1/\r.Y1<=1000000):=by
 unfold cW at h
 simp only [bP] at h
 exact⟨rW h.1,rW h.2.1,rW h.2.2.1,rW h.2.2.2⟩
theorem xD {r:aI} (h: (-1000000<=r.X0/\r.X0<=1000000)/\(-1000000<=r.Y0/\r.Y0<=1000000)/\(-1000000<=r.X1/\r.X1<=1000000)/\(-1000000<=r.Y1/\r.Y1<=1000000)):cW r=true:=by
 unfold cW nX gZ
 simp only [bP,bK]
 omega
theorem FD {r:aI} (h:cW r=true) (hx:r.X0<r.X1) (hy:r.Y0<r.Y1):BN r:=by
 have:=gR h
 refine⟨hx,hy,?_,?_,?_,?_⟩ <;> unfold small <;> omega
def nv (r:aI):Option Int:=if cW r=true then (if r.X1<=r.X0\/r.Y1<=r.Y0 then some 13 else none) else some 1
def ln (l:List aI):Int:=if 2000<l.length then 2 else (l.findSome? nv).getD 0
theorem yc {l:List aI} (hl:l.length<=4611686018427387904):jt N l=some (ln l):=by
 unfold jt ln
 by_cases h:2000<l.length
 ·rw [cB (by omega),aR,aD h]
 ·rw [bE (by omega),aQ,aC h,t8 nv hl (fun k x hx=>by
   rw [dE hx,aB,xB,aB]
   unfold nv
   cases hr:cW x with
   | false=>rfl
   | true=>
    rw [lv,aQ,aD rfl]
    by_cases h2:x.X1<=x.X0\/x.Y1<=x.Y0
    ·rw [aD h2,show (decide (x.X1<=x.X0)||decide (x.Y1<=x.Y0))=true by rw [dQ,bK,bK];exact h2];rfl
    ·rw [aC h2,show (decide (x.X1<=x.X0)||decide (x.Y1<=x.Y0))=false by rw [<-ou,dQ,bK,bK];exact h2];rfl),aB]
  cases l.findSome? nv <;> rfl
theorem uF {r:aI}:nv r=none↔cW r=true/\r.X0<r.X1/\r.Y0<r.Y1:=by
 unfold nv
 by_cases h:cW r=true
 ·rw [aD h]
  by_cases h2:r.X1<=r.X0\/r.Y1<=r.Y0
  ·rw [aD h2]
   constructor
   ·intro h;cases h
   ·rintro⟨_,h3,h4⟩;omega
  ·rw [aC h2]
   exact⟨fun _=>⟨h,by omega,by omega⟩,fun _=>rfl⟩
 ·rw [aC h]
  constructor
  ·intro h;cases h
  ·rintro⟨h3,_⟩;exact absurd h3 h
theorem Bs {r:aI} {e:Int} (h:nv r=some e):e≠0:=by
 unfold nv at h
 split at h
 ·split at h
  ·injection h with h;omega
  ·cases h
 ·injection h with h;omega
theorem oY {l:List aI}:ln l=0↔l.length<=2000/\∀r∈l,cW r=true/\r.X0<r.X1/\r.Y0<r.Y1:=by
 unfold ln
 by_cases h:2000<l.length
 ·rw [aD h];constructor
  ·intro h;omega
  ·intro h;omega
 ·rw [aC h]
  cases hf:l.findSome? nv with
  | none=>
   rw [List.findSome?_eq_none_iff] at hf
   exact⟨fun _=>⟨by omega,fun r hr=>uF.1 (hf r hr)⟩,fun _=>rfl⟩
  | some e=>
   obtain⟨r,hr,he⟩:=List.exists_of_findSome?_eq_some hf
   constructor
   ·intro h0;exact absurd h0 (Bs he)
   ·rintro⟨_,h2⟩
    rw [uF.2 (h2 r hr)] at he;cases he
def J5 (l:List aI):Prop:=∀(k:Nat) a b,l[k]? =some a->l[k+1]? =some b->¬(b.Y0<a.Y0\/(b.Y0=a.Y0/\b.X0<=a.X0))
def zW (l:List aI):Prop:=∃s,oG l s/\aN s=l
noncomputable def iQ (l:List aI):Int:=if ln l≠0 then ln l else if J5 l then (if zW l then 0 else 3) else 8
theorem Cn {l:List aI} (h:ln l=0):l.length<=2000/\∀r∈l,BN r:=⟨(oY.1 h).1,fun r hr=>by have:=(oY.1 h).2 r hr;exact FD this.1 this.2.1 this.2.2⟩
theorem Co {l m:List aI} (hl:l.length<=4611686018427387904):iZ N l m=some (decide (l=m)):=by
 have:=yK (l:=l) (m:=m) hl
 unfold Cc at this
 unfold iZ
 rw [show (decide (l=m)) = @decide (l=m) (instDecidableEqList l m) from decide_eq_decide.2 Iff.rfl]
 exact this
theorem rz {l:List aI} (hl:l.length<=1073741824) (hN:4398046511104<=N):gU N l=some (iQ l):=by
 refine Ok.get ?_
 unfold gU
 refine Ok.eq (yc (by omega)) ?_
 unfold iQ
 refine Ok.bif (fun h=>Ok.ret ?_) (fun h=>?_)
 ·rw [aD (by simpa using h)]
 ·have h0:ln l=0:=by simpa using h
  rw [aC (by simpa using h0)]
  obtain⟨hlen,hok⟩:=Cn h0
  refine Ok.bind (Ok.nc (Go:=fun _=>J5 l) (Rt:=fun r=>r=8/\¬J5 l) (fun s=>∃k:Nat,s= ((k:Nat):Int)/\1<=k/\∀(j:Nat) a b,j+1<k->l[j]? =some a->l[j+1]? =some b->¬(b.Y0<a.Y0\/(b.Y0=a.Y0/\b.X0<=a.X0))) (fun s=>l.length - s.toNat) ?_ ⟨1,rfl,bN _,fun j a b hj=>by omega⟩ (by simp;omega)) ?_
  ·rintro s ⟨k,rfl,hk,hI⟩
   refine Ok.bif (fun h=>?_) (fun h=>Ok.br fun j a b ha hb=>hI j a b ?_ ha hb)
   ·have hk2:k<l.length:=by have:=of_decide_eq_true h;omega
    rw [lJ hk (by omega)]
    refine Ok.idx (by omega) (Ok.idx hk2 (Ok.bif (fun hb=>Ok.rt ⟨rfl,fun hu=>?_⟩) (fun hb=>Ok.nx ⟨⟨k+1,by rw [fU (by omega)],by omega,fun j a b hj ha hb'=>?_⟩,by rw [fU (by omega)];simp only [bX];omega⟩)))
    ·refine hu (k - 1) l[k - 1] l[k] (aJ _) (by rw [show k - 1+1=k by omega];exact aJ _) ?_
     rw [dQ,bP,bK,bK,beq_iff_eq] at hb;exact hb
    ·by_cases e:j+1<k
     ·exact hI j a b e ha hb'
     ·have:j+1=k:=by omega
      subst this
      rw [aJ (by omega)] at ha hb'
      injection ha with ha;injection hb' with hb'
      subst ha;subst hb'
      rw [<-ou,dQ,bP,bK,bK,beq_iff_eq] at hb;exact hb
   ·have:=of_decide_eq_false h
    have:=(aZ.1 hb).1;omega
  ·rintro o ho
   refine Ok.cs ho (fun s hu=>?_) (fun r hr=>Ok.ret (by rw [hr.1,aC hr.2]))
   rw [aD hu]
   refine Ok.bind (pW (N:=N) (by omega) hok (by omega)) ?_
   intro s hs
   obtain⟨z1,z2,z3⟩:=hs.FC
   have z4:2*l.length* (2*l.length)<=4000*4000:=Nat.mul_le_mul (by omega) (by omega)
   refine Ok.eq (xt (pA hs.can) (by omega) (fun b hb=>by have:=z2 b hb;omega) (by omega)) (Ok.eq (Co (by omega)) ?_)
   have hiff:zW l↔aN s=l:=⟨fun⟨t,h1,h2⟩=>by rw [hs.unique h1];exact h2,fun h=>⟨s,hs,h⟩⟩
   refine Ok.bif (fun h=>Ok.ret ?_) (fun h=>Ok.ret ?_)
   ·have h: ¬aN s=l:=by simpa using h
    rw [aC (fun h'=>h (hiff.1 h'))]
   ·have h:aN s=l:=by simpa using h
    rw [aD (hiff.2 h)]
theorem oI {l:List aI}:iQ l=0↔ln l=0/\J5 l/\zW l:=by
 unfold iQ
 by_cases h:ln l=0
 ·rw [aC (by simpa using h)]
  by_cases h2:J5 l
  ·rw [aD h2]
   by_cases h3:zW l
   ·rw [aD h3];exact⟨fun _=>⟨h,h2,h3⟩,fun _=>rfl⟩
   ·rw [aC h3];constructor
    ·intro h;omega
    ·rintro⟨_,_,h4⟩;exact absurd h4 h3
  ·rw [aC h2];constructor
   ·intro h;omega
   ·rintro⟨_,h4,_⟩;exact absurd h4 h2
 ·rw [aD h]
  constructor
  ·intro h2;exact absurd h2 h
  ·rintro⟨h2,_⟩;exact absurd h2 h
theorem tm (n lo hi:Int):fW N n lo hi=some (gZ n lo hi):=rfl
theorem D7 {b:bQ} (hN:16<=N):j3 N b=some (mH b):=by
 have:=vu (N:=N - 16) (b:=b)
 rwa [show N - 16+16=N by omega] at this
def oJ (n:Nat) (b:bQ):Option Int:=if (mH b).2≠0 then some (mH b).2 else if gZ b.bR 0 (((n:Nat):Int) - 1)=true/\gZ b.To b.bR (((n:Nat):Int) - 1)=true then none else some 1
def lq (a:iu):Int:=if 500<a.aT.length then 2 else (a.aT.findSome? (oJ a.aK.length)).getD 0
theorem yd {a:iu} (h1:a.aK.length<=4611686018427387904) (h2:a.aT.length<=4611686018427387904) (hN:16<=N):i5 N a=some (lq a):=by
 unfold i5 lq
 by_cases h:500<a.aT.length
 ·rw [cB (by omega),aR,aD h]
 ·have hw:IntKind.wrap .i64 (((a.aK.length:Nat):Int) - 1)= ((a.aK.length:Nat):Int) - 1:=eO (by omega) (by omega)
  rw [bE (by omega),aQ,aC h,t8 (oJ a.aK.length) h2 (fun k x hx=>by
   rw [dE hx,aB,D7 hN,aB]
   unfold oJ
   by_cases h0: (mH x).2=0
   ·rw [aC (by simpa using h0),h0,show ((0:Int) != 0)=false by rfl,aQ,hw,tm,aB,tm,aB]
    cases h3:gZ x.bR 0 (((a.aK.length:Nat):Int) - 1) <;> cases h4:gZ x.To x.bR (((a.aK.length:Nat):Int) - 1) <;> rfl
   ·rw [aD h0,show ((mH x).2 != 0)=true by simpa using h0];rfl),aB]
  cases a.aT.findSome? (oJ a.aK.length) <;> rfl
theorem Bt {b:bQ} (h: (mH b).2=0):rq b=true/\cW (wA b)=true:=by
 unfold mH at h
 split at h
 ·rename_i h';rwa [bP] at h'
 ·cases h
theorem oZ {a:iu} (h:lq a=0):a.aT.length<=500/\∀b∈a.aT,rq b=true/\cW (wA b)=true/\0<=b.bR/\b.bR<=b.To/\b.To< ((a.aK.length:Nat):Int):=by
 unfold lq at h
 split at h
 ·omega
 ·refine⟨by omega,fun b hb=>?_⟩
  have hn:oJ a.aK.length b=none:=by
   cases hf:a.aT.findSome? (oJ a.aK.length) with
   | none=>exact List.findSome?_eq_none_iff.1 hf b hb
   | some e=>
    rw [hf] at h
    obtain⟨c,hc,he⟩:=List.exists_of_findSome?_eq_some hf
    have h:e=0:=h
    subst h
    unfold oJ at he
    split at he
    ·rename_i h';injection he with he;exact absurd he h'
    ·split at he
     ·cases he
     ·injection he with he;omega
  unfold oJ at hn
  split at hn
  ·cases hn
  ·rename_i h0
   split at hn
   ·rename_i h1
    have h0: (mH b).2=0:=by simpa using h0
    have:=Bt h0
    unfold gZ at h1
    simp only [bP,bK] at h1
    exact⟨this.1,this.2,by omega,by omega,by omega⟩
   ·cases hn
theorem J6 {b:bQ} (h1:rq b=true) (h2:cW (wA b)=true):BN (wA b):=by
 have hf:=ru h1
 refine FD h2 ?_ ?_
 ·show b.At.X - b.eU / 2<b.At.X - b.eU / 2+b.eU;omega
 ·show b.At.Y - b.eU / 2<b.At.Y - b.eU / 2+b.eU;omega
def gq (p q:fN):Int:=if Lib.compareBytes p.Part.cM q.Part.cM≠0 then Lib.compareBytes p.Part.cM q.Part.cM else Lib.compareBytes p.fN.cM q.fN.cM
theorem jX (p q:fN):dG N p q=some (gq p q):=by
 unfold dG gq
 show (bif (Lib.compareBytes p.Part.cM q.Part.cM != 0) then _ else _)=_
 by_cases h:Lib.compareBytes p.Part.cM q.Part.cM=0
 ·rw [h,aC (by simp)];rfl
 ·rw [aD h,show (Lib.compareBytes p.Part.cM q.Part.cM != 0)=true by simpa using h];rfl
def kE (l:cQ):fN:=⟨l.Part,l.fN⟩
theorem vv (l:cQ):jJ N l=some (kE l):=rfl
def kV (a:iu) (k:Nat):Option Int:=(a.bD[k]?).bind fun x=>
 if (oX x.Part&&isWord x.fN)=true then
  if (gZ x.cU 0 (((a.aK.length:Nat):Int) - 1)&&sH x.At)=true then
   if 0<k/\(∃y,a.bD[k - 1]? =some y/\gq (kE x) (kE y)<=0) then some 8 else none
  else some 1
 else some 5
noncomputable def kF (a:iu):Int:=if 1000<a.bD.length then 2 else (mJ a.bD.length (kV a)).getD 0
end
end Go.Gk
namespace Go.Gk
open Go Classical
section
variable {N:Nat}
def xE (a:iu):Prop:=∀x∈a.bD,x.Part.cM.length<=1048576/\x.fN.cM.length<=1048576
theorem ye {a:iu} (h1:a.aK.length<=1073741824) (h2:a.bD.length<=1073741824) (h3:xE a) (hN:4194304<=N):i7 N a=some (kF a):=by
 unfold i7 kF
 by_cases h:1000<a.bD.length
 ·rw [cB (by omega),aR,aD h]
 ·have hw:IntKind.wrap .i64 (((a.aK.length:Nat):Int) - 1)= ((a.aK.length:Nat):Int) - 1:=eO (by omega) (by omega)
  rw [bE (by omega),aQ,aC h,lY (kV a) (by omega) (fun k hk _=>by
   have hx:a.bD[k]? =some a.bD[k]:=aJ hk
   have hs:=h3 _ (cI hk)
   rw [dE hx,aB,uD hs.1 hN,aB]
   have hle:kV a k= (if (oX a.bD[k].Part&&isWord a.bD[k].fN)=true then
     if (gZ a.bD[k].cU 0 (((a.aK.length:Nat):Int) - 1)&&sH a.bD[k].At)=true then
      if 0<k/\(∃y,a.bD[k - 1]? =some y/\gq (kE a.bD[k]) (kE y)<=0) then some 8 else none
     else some 1
    else some 5):=by unfold kV;rw [hx];rfl
   rw [hle]
   have e1: ((bif (!oX a.bD[k].Part) then (some true) else ((gO N a.bD[k].fN).bind fun x225=>some (!x225))):Option Bool)=some (!(oX a.bD[k].Part&&isWord a.bD[k].fN)):=by
    rw [oH hs.2,aB]
    cases oX a.bD[k].Part <;> rfl
   have e2: ((fW N a.bD[k].cU 0 (IntKind.wrap .i64 (((a.aK.length:Nat):Int) - 1))).bind fun x318=>bif (!x318) then (some true) else ((iv N a.bD[k].At).bind fun x321=>some (!x321)))=some (!(gZ a.bD[k].cU 0 (((a.aK.length:Nat):Int) - 1)&&sH a.bD[k].At)):=by
    rw [hw,tm,aB,vP,aB]
    cases gZ a.bD[k].cU 0 (((a.aK.length:Nat):Int) - 1) <;> rfl
   show ((bif (!oX a.bD[k].Part) then (some true) else ((gO N a.bD[k].fN).bind fun x225=>some (!x225))):Option Bool).bind _=_
   rw [e1,aB]
   cases h4: (oX a.bD[k].Part&&isWord a.bD[k].fN) with
   | false=>rfl
   | true=>
    rw [lv,aQ,aD rfl]
    show (((fW N a.bD[k].cU 0 (IntKind.wrap .i64 (((a.aK.length:Nat):Int) - 1))).bind fun x318=>bif (!x318) then (some true) else ((iv N a.bD[k].At).bind fun x321=>some (!x321)))).bind _=_
    rw [e2,aB]
    cases h5: (gZ a.bD[k].cU 0 (((a.aK.length:Nat):Int) - 1)&&sH a.bD[k].At) with
    | false=>rfl
    | true=>
     rw [lv,aQ,aD rfl]
     by_cases h0:0<k
     ·rw [cB (by omega),aR,lJ h0 (by omega),jq _ _ (by omega:k - 1<a.bD.length)]
      simp only [vv,aB,jX]
      by_cases h6:gq (kE a.bD[k]) (kE a.bD[k - 1])<=0
      ·rw [cB h6,aD ⟨h0,_,aJ (by omega:k - 1<a.bD.length),h6⟩];rfl
      ·rw [bE h6,aC (by
        rintro⟨_,y,hy,h7⟩
        rw [aJ (by omega:k - 1<a.bD.length)] at hy;injection hy with hy
        rw [<-hy] at h7;exact h6 h7)];rfl
     ·rw [bE (by omega),aC (fun h=>h0 h.1)];rfl),aB]
  cases mJ a.bD.length (kV a) <;> rfl
def lr (b:bQ) (k:Int):Bool:=decide (b.bR<=k)&&decide (k<=b.To)
theorem xF (b:bQ) (k:Int):jw N b k=some (lr b k):=rfl
def mR (bs:List bQ) (k:Int):List aI:=(bs.filter (fun b=>lr b k)).map wA
structure mA (bs:List bQ):Prop where
 len:bs.length<=500
 ok: ∀b∈bs,rq b=true/\cW (wA b)=true
structure rX (r hs:List aI) (s:List aA):Prop where
 can:eA (s.map bM)
 cover: ∀x y,uy (s.map bM) x y= (vO r x y&& !vO hs x y)
 lim:tA (px r++px hs) (lj r++lj hs) (s.map bM)
theorem yS {bs:List bQ} (h:mA bs) (k:Int): (mR bs k).length<=500:=by
 unfold mR
 rw [gw]
 have:=ka (fun b=>lr b k) bs
 have:=h.len;omega
theorem uG {bs:List bQ} (h:mA bs) (k:Int): ∀r∈mR bs k,BN r/\cW r=true:=by
 intro r hr
 unfold mR at hr
 obtain⟨b,hb,rfl⟩:=cP.1 hr
 have:=h.ok b (gE.1 hb).1
 exact⟨J6 this.1 this.2,this.2⟩
theorem rX.small {r hs:List aI} {s:List aA} (h:rX r hs s) (h1: ∀x∈r,BN x) (h2: ∀x∈hs,BN x): (∀c∈px r++px hs,small c)/\∀c∈lj r++lj hs,small c:=by
 constructor
 ·intro c hc
  rcases cR.1 hc with h | h
  ·obtain⟨x,hx,rfl | rfl⟩:=py.1 h
   ·exact(h1 x hx).s1
   ·exact(h1 x hx).s2
  ·obtain⟨x,hx,rfl | rfl⟩:=py.1 h
   ·exact(h2 x hx).s1
   ·exact(h2 x hx).s2
 ·intro c hc
  rcases cR.1 hc with h | h
  ·obtain⟨x,hx,rfl | rfl⟩:=kD.1 h
   ·exact(h1 x hx).s3
   ·exact(h1 x hx).s4
  ·obtain⟨x,hx,rfl | rfl⟩:=kD.1 h
   ·exact(h2 x hx).s3
   ·exact(h2 x hx).s4
theorem vx {s:List aA} {X Y:List Int} {A:Nat} (hc:eA (s.map bM)) (h:tA X Y (s.map bM)) (hX:X.length<=A) (hY:Y.length<=A):s.length<=A/\(∀b∈s,b.Xs.length<=A)/\(aN s).length<=A*A:=by
 have h1:s.length<=A:=by have:=h.len hc;rw [gw] at this;omega
 have h2: ∀b∈s,b.Xs.length<=A:=fun b hb=>by
  have:=h.row hc (b:=bM b) (cP.2 ⟨b,hb,rfl⟩)
  have e: (bM b).xs=b.Xs:=rfl
  rw [e] at this;omega
 exact⟨h1,h2,xq h1 h2⟩
theorem yf {r hs:List aI} (h1:r.length<=2000) (h2: ∀x∈r,BN x) (h3:hs.length<=500) (h4: ∀x∈hs,BN x) (hN:4398046511104<=N) {β:Type} {f:List aA->Option β} {Q:β->Prop} (k: ∀s,rX r hs s->Ok (f s) Q):
  Ok ((fP N r).bind fun x378=>(fP N hs).bind fun x380=>(jy N x378 x380).bind f) Q:=by
 refine Ok.bind (pW (N:=N) (by omega) h2 (by omega)) (fun s hs1=>?_)
 refine Ok.bind (pW (N:=N) (by omega) h4 (by omega)) (fun t ht=>?_)
 have hz: ∀c∈lj r++lj hs,small c:=by
  intro c hc
  rcases cR.1 hc with h | h
  ·obtain⟨x,hx,rfl | rfl⟩:=kD.1 h
   ·exact(h2 x hx).s3
   ·exact(h2 x hx).s4
  ·obtain⟨x,hx,rfl | rfl⟩:=kD.1 h
   ·exact(h4 x hx).s3
   ·exact(h4 x hx).s4
 refine Ok.bind (D0 (X:=px r++px hs) (Y:=lj r++lj hs) hs1.can ht.can (hs1.lim.mono (fun c h=>List.mem_append_left _ h) (fun c h=>List.mem_append_left _ h)) (ht.lim.mono (fun c h=>List.mem_append_right _ h) (fun c h=>List.mem_append_right _ h))
  (by rw [dS,lk,lk];omega) (by rw [dS,jC,jC];omega) hz hN) (fun u hu=>?_)
 exact k u ⟨hu.can,fun x y=>by rw [hu.cover,hs1.cover,ht.cover],hu.lim⟩
def bH:Nat->List (List (List aA))->List aH
 | _,[]=>[]
 | k,ps::r=>ps.map (fun p=>⟨((k:Nat):Int),p,aN p⟩)++bH (k+1) r
theorem tn (ps:List (List aA)): ∀(r:List (List (List aA))) (k:Nat),bH k (r++[ps])=bH k r++ps.map (fun p=>⟨((k+r.length:Nat):Int),p,aN p⟩)
 | [],k=>by unfold bH;simp [bH]
 | q::r,k=>by
  show _++bH (k+1) (r++[ps])= (_++bH (k+1) r)++_
  rw [tn ps r (k+1),iW]
  congr 3
  simp only [j9]
  rw [show k+ (r.length+1)=k+1+r.length by omega]
theorem xG {s p:List aA} {ps:List (List aA)} {r:Nat->Nat} {X Y:List Int} (h:pX s r ps) (hc:eA (s.map bM)) (hl:tA X Y (s.map bM)) (hX: ∀c∈X,small c) (hY: ∀c∈Y,small c) (hp:p∈ps):
  ∃j k:Nat,ps[j]? =some p/\(bT (aN s).length r)[j]? =some k/\oG (lR (aN s) (aN s).length r k) p/\tA X Y (p.map bM):=by
 obtain⟨j,hj⟩:=fY hp
 have hjl:=(aZ.1 hj).1
 rw [h.len] at hjl
 have hh: (bT (aN s).length r)[j]? =some (bT (aN s).length r)[j]:=aJ hjl
 have hs:=h.each j _ p hh hj
 refine⟨j,_,hj,hh,hs,hs.lim.mono (fun c hcx=>?_) (fun c hcx=>?_)⟩
 ·obtain⟨x,hx,hxc⟩:=py.1 hcx
  obtain⟨i,_,_,hi⟩:=mQ.1 hx
  have:=xu hc hl hX hY x (gJ hi)
  rcases hxc with rfl | rfl
  ·exact this.2.1.1
  ·exact this.2.1.2
 ·obtain⟨x,hx,hxc⟩:=kD.1 hcx
  obtain⟨i,_,_,hi⟩:=mQ.1 hx
  have:=xu hc hl hX hY x (gJ hi)
  rcases hxc with rfl | rfl
  ·exact this.2.2.1
  ·exact this.2.2.2
structure tp (cs:List (List aI)) (bs:List bQ) (k:Nat) (jm:List (List aA)) (cV:List (List (List aA))):Prop where
 len:jm.length=k
 zX:cV.length=k
 dr: ∀(i:Nat) r s,i<k->cs[i]? =some r->jm[i]? =some s->rX r (mR bs ((i:Nat):Int)) s
 pt: ∀(i:Nat) s ps,i<k->jm[i]? =some s->cV[i]? =some ps->∃u,pX s u ps
 zY: (bH 0 cV).length<=k*25000000
theorem pX.zY {s:List aA} {u:Nat->Nat} {ps:List (List aA)} (h:pX s u ps):ps.length<=(aN s).length:=by
 rw [h.len];exact mz _ _
theorem Cp {cs:List (List aI)} {bs:List bQ} (hcs:cs.length<=16) (hc: ∀r∈cs,r.length<=2000/\∀x∈r,BN x) (hb:mA bs) (hN:4398046511104<=N):
  Ok (iE N cs bs [] []) (fun x=>∃cV,tp cs bs cs.length x.2.1 cV/\x.2.2=bH 0 cV/\(x.1=true↔(∀s∈x.2.1,(aN s).length<=2000)/\x.2.2.length<=2000)):=by
 unfold iE
 refine Ok.bind (P:=fun(st:List (List aA)×List aH×Bool)=>∃cV,tp cs bs cs.length st.1 cV/\st.2.1=bH 0 cV/\(st.2.2=true↔∀s∈st.1,(aN s).length<=2000)) (Ok.iY (fun(k:Nat) (st:List (List aA)×List aH×Bool)=>∃cV,tp cs bs k st.1 cV/\st.2.1=bH 0 cV/\(st.2.2=true↔∀s∈st.1,(aN s).length<=2000)) (by omega)
  ⟨[],⟨rfl,rfl,fun i r s hi=>by omega,fun i s ps hi=>by omega,by simp [bH]⟩,rfl,by simp⟩ (fun k st hk hI=>?_)) ?_
 ·obtain⟨jm,pcs,okk⟩:=st
  obtain⟨cV,D,e1,e2⟩:=hI
  dsimp only at D e1 e2 ⊢
  subst e1
  have hkx:cs[k]? =some cs[k]:=aJ hk
  obtain⟨hr1,hr2⟩:=hc _ (cI hk)
  refine Ok.ix hkx ?_
  refine Ok.bind (P:=fun t=>t=mR bs ((k:Nat):Int)) (Ok.mono (Ok.iY (fun j t=>t=mR (bs.take j) ((k:Nat):Int)) (by have:=hb.len;omega) rfl (fun j t hj e=>?_)) (fun t e=>by rw [e,eW])) (fun t e=>?_)
  ·subst e
   refine Ok.idx hj (Ok.eq (xF _ _) ?_)
   have hts:bs.take (j+1)=bs.take j++[bs[j]]:=fw hj
   have hgb:=hb.ok _ (cI hj)
   have hl: (mR (bs.take j) ((k:Nat):Int)).length<=500:=by
    unfold mR
    rw [gw]
    have:=ka (fun b=>lr b ((k:Nat):Int)) (bs.take j)
    rw [cZ] at this
    have:=hb.len;omega
   cases ht:lr bs[j] ((k:Nat):Int) with
   | false=>
    rw [aQ]
    refine Ok.eq rfl (Ok.ret ?_)
    unfold mR
    rw [hts,iq];simp [ht]
   | true=>
    rw [aR]
    refine Ok.eq (x:=mR (bs.take j) ((k:Nat):Int)++[wA bs[j]]) (by rw [lP hgb.1,aB,gQ (by simp;omega),aB]) (Ok.ret ?_)
    unfold mR
    rw [hts,iq,eV];simp [ht]
  ·subst e
   have hho:=uG hb ((k:Nat):Int)
   have hhl:=yS hb ((k:Nat):Int)
   refine yf hr1 hr2 hhl (fun x hx=>(hho x hx).1) hN (fun s hs=>?_)
   obtain⟨sx,sy⟩:=hs.small hr2 (fun x hx=>(hho x hx).1)
   obtain⟨z1,z2,z3⟩:=vx (A:=5000) hs.can hs.lim (by rw [dS,lk,lk];omega) (by rw [dS,jC,jC];omega)
   have hmany:=GL (N:=N) (s:=s) (by omega) (fun b hb=>by have:=z2 b hb;omega) (by omega)
   refine Ok.eq (x:=(okk&&decide ((aN s).length<=2000),s)) ?_ ?_
   ·cases okk with
    | false=>rfl
    | true=>
     rw [aR,hmany,aB,Bool.true_and]
     rw [show decide ((((aN s).length:Nat):Int)<=2000)=decide ((aN s).length<=2000) from decide_eq_decide.2 (by omega)]
   dsimp only
   refine Ok.app (by rw [D.len];simp;omega) ?_
   refine Ok.bind (Cl (N:=N) hs.can hs.lim sx sy (by omega) (fun b hb=>by have:=z2 b hb;omega) (by omega) hN) ?_
   rintro ps ⟨u,hu⟩
   have hfew:=hu.zY
   have hk16:k*25000000<=16*25000000:=Nat.mul_le_mul_right _ (by omega)
   have hDf:=D.zY
   refine Ok.bind (P:=fun t=>t=bH 0 cV++ps.map (fun p=>(⟨((k:Nat):Int),p,aN p⟩:aH))) (Ok.mono (Ok.iY (fun j t=>t=bH 0 cV++(ps.take j).map (fun p=>(⟨((k:Nat):Int),p,aN p⟩:aH))) (by omega) (by simp) (fun j t hj e=>?_)) (fun t e=>by rw [e,eW])) (fun t e=>Ok.ret ?_)
   ·subst e
    have hjx:ps[j]? =some ps[j]:=aJ hj
    refine Ok.ix hjx ?_
    obtain⟨_,_,_,_,lD,hpl⟩:=xG hu hs.can hs.lim sx sy (cI hj)
    obtain⟨y1,y2,y3⟩:=vx (A:=5000) lD.can hpl (by rw [dS,lk,lk];omega) (by rw [dS,jC,jC];omega)
    refine Ok.eq (xt (pA lD.can) (by omega) (fun b hb=>by have:=y2 b hb;omega) (by omega)) (Ok.app ?_ (Ok.ret ?_))
    ·simp only [dS,gw,cZ,List.length_singleton];omega
    ·rw [fw hj,eV,iW];rfl
   ·subst e
    refine⟨cV++[ps],⟨by simp [D.len],by simp [D.zX],fun i r s' hi hr hs'=>?_,fun i s' ps' hi hs' hps'=>?_,?_⟩,?_,?_⟩
    ·dsimp only at hs'
     by_cases hik:i<k
     ·rw [fF (by rw [D.len];exact hik)] at hs'
      exact D.dr i r s' hik hr hs'
     ·have:i=k:=by omega
      subst this
      rw [fA (by rw [D.len];omega),D.len,Nat.sub_self] at hs'
      simp at hs';subst hs'
      rw [hkx] at hr;injection hr with hr;subst hr
      exact hs
    ·dsimp only at hs'
     by_cases hik:i<k
     ·rw [fF (by rw [D.len];exact hik)] at hs'
      rw [fF (by rw [D.zX];exact hik)] at hps'
      exact D.pt i s' ps' hik hs' hps'
     ·have:i=k:=by omega
      subst this
      rw [fA (by rw [D.len];omega),D.len,Nat.sub_self] at hs'
      rw [fA (by rw [D.zX];omega),D.zX,Nat.sub_self] at hps'
      simp at hs' hps';subst hs';subst hps'
      exact⟨u,hu⟩
    ·rw [tn,dS,gw];omega
    ·dsimp only
     rw [tn,D.zX,fV]
    ·dsimp only
     rw [bP,e2,bK]
     constructor
     ·rintro⟨h1,h2⟩ s' hs'
      rcases cR.1 hs' with h | h
      ·exact h1 s' h
      ·simp at h;subst h;exact h2
     ·intro h
      exact⟨fun s' hs'=>h s' (List.mem_append_left _ hs'),h s (by simp)⟩
 ·rintro⟨jm,pcs,okk⟩ ⟨cV,D,e1,e2⟩
  dsimp only at D e1 e2 ⊢
  subst e1
  refine Ok.bind (P:=fun b=>b=true↔(∀s∈jm,(aN s).length<=2000)/\(bH 0 cV).length<=2000) (Ok.bif (fun h=>Ok.ret ?_) (fun h=>Ok.ret ?_)) (fun b hb=>Ok.ret ⟨cV,D,rfl,hb⟩)
  ·rw [bK]
   constructor
   ·intro h';exact⟨e2.1 h,by omega⟩
   ·rintro⟨_,h'⟩;omega
  ·constructor
   ·intro h';cases h'
   ·rintro⟨h',_⟩;rw [e2.2 h'] at h;cases h
end
end Go.Gk
namespace Go.Gk
open Go Classical
section
variable {N:Nat}
section
variable {α:Type}
def rA (P:α->Bool) (l:List α) (n:Nat):List Nat:=(List.range n).filter (fun k=>(l[k]?).any P)
theorem Cq {P:α->Bool} {l:List α} {n:Nat} {x:α} (h:l[n]? =some x):rA P l (n+1)=if P x=true then rA P l n++[n] else rA P l n:=by
 unfold rA
 rw [List.range_succ,iq]
 by_cases hp:P x=true
 ·rw [aD hp];simp [h,hp]
 ·rw [aC hp];simp [h,hp]
theorem yT (P:α->Bool) (l:List α) (n:Nat): (rA P l n).length<=n:=by
 have:=ka (fun k=>(l[k]?).any P) (List.range n)
 rw [List.length_range] at this;exact this
theorem D8 {P:α->Bool} {l:List α} {n k:Nat}:k∈rA P l n↔k<n/\(l[k]?).any P=true:=by unfold rA;simp
theorem uH {β:Type} {l:List α} (P:α->Bool) (g:Nat->β):mJ l.length (fun k=>(l[k]?).bind fun x=>if P x=true then some (g k) else none)= (l.findIdx? P).map g:=by
 cases h:l.findIdx? P with
 | none=>
  rw [List.findIdx?_eq_none_iff] at h
  refine gX.2 fun k hk=>?_
  rw [aJ hk]
  have:=h _ (cI hk)
  simp [this]
 | some j=>
  obtain⟨hj,hp,hn⟩:=List.findIdx?_eq_some_iff_getElem.1 h
  refine iU.2 ⟨j,hj,by rw [aJ hj];simp [hp],fun i hi=>?_⟩
  rw [aJ (by omega)]
  have:=hn i hi
  simp [this]
end
def ints (l:List Nat):List Int:=l.map fun i=>((i:Nat):Int)
theorem rB (l m:List Nat):ints (l++m)=ints l++ints m:=eV
theorem l3 (l:List Nat): (ints l).length=l.length:=gw _
theorem xH {l:List Nat} {x:Int}:x∈ints l↔∃i∈l,x= ((i:Nat):Int):=by
 unfold ints;rw [cP]
 constructor
 ·rintro⟨i,h1,h2⟩;exact⟨i,h1,h2.symm⟩
 ·rintro⟨i,h1,h2⟩;exact⟨i,h1,h2.symm⟩
def C9 (p0 p1:aI):Bool:=((((decide (p0.X0<p1.X1))&&(decide (p1.X0<p0.X1)))&&((p0.Y1==p1.Y0)||(p1.Y1==p0.Y0)))||(((decide (p0.Y0<p1.Y1))&&(decide (p1.Y0<p0.Y1)))&&((p0.X1==p1.X0)||(p1.X1==p0.X0))))
def l4 (b:bQ) (p:aH):Bool:=b.gL&&(lr b p.cU&&p.iO.any (fun r=>C9 r (wA b)))
def dW (bs:List bQ) (pcs:List aH):List (List Int):=bs.map fun b=>ints (rA (l4 b) pcs pcs.length)
theorem oK {l:List aI} {φ:aI->Option Bool} (p:aI->Bool) (hl:l.length<=4611686018427387904) (h: ∀x∈l,φ x=some (p x)):fD N l φ=some (l.any p):=
 ph p hl h
theorem FE {bs:List bQ} {pcs:List aH} (hb:mA bs) (hp:pcs.length<=1073741824) (hr: ∀p∈pcs,p.iO.length<=1073741824):iF N bs pcs []=some (dW bs pcs):=by
 refine Ok.get ?_
 have hbl:=hb.len
 unfold iF
 refine Ok.bind (Ok.iY (fun k st=>st=dW (bs.take k) pcs) (by omega) rfl (fun k st hk e=>?_)) (fun st e=>Ok.ret (by rw [e,eW]))
 subst e
 have hg:=hb.ok _ (cI hk)
 refine Ok.idx hk ?_
 refine Ok.bind (P:=fun t=>t=ints (rA (l4 bs[k]) pcs pcs.length)) (Ok.iY (fun j t=>t=ints (rA (l4 bs[k]) pcs j)) (by omega) rfl (fun j t hj e=>?_)) (fun t e=>?_)
 ·subst e
  have hjx:pcs[j]? =some pcs[j]:=aJ hj
  have hl:=yT (l4 bs[k]) pcs j
  refine Ok.ix hjx ?_
  refine Ok.eq (x:=l4 bs[k] pcs[j]) ?_ ?_
  ·unfold l4
   cases bs[k].gL with
   | false=>rfl
   | true=>
    rw [aR,xF,aB,Bool.true_and]
    cases lr bs[k] pcs[j].cU with
    | false=>rfl
    | true=>
     rw [aR,oK (fun r=>C9 r (wA bs[k])) (by have:=hr _ (cI hj);omega) (fun r _=>by
      unfold iK;rw [lP hg.1];rfl),aB,Bool.true_and]
  ·rw [Cq hjx]
   cases ht:l4 bs[k] pcs[j] with
   | false=>rw [aQ,aC (by simp)];exact Ok.eq rfl (Ok.ret rfl)
   | true=>
    rw [aR,aD rfl]
    refine Ok.eq (x:=ints (rA (l4 bs[k]) pcs j)++[((j:Nat):Int)]) (by rw [gQ (by rw [l3];simp;omega),aB]) (Ok.ret ?_)
    rw [rB];rfl
 ·subst e
  refine Ok.app ?_ (Ok.ret ?_)
  ·unfold dW;simp;omega
  ·unfold dW
   rw [fw hk,eV];rfl
def Bu (r:List aI) (p:eK):Bool:=r.any (fun x=>decide (p.X>=x.X0)&&(decide (p.X<x.X1)&&(decide (p.Y>=x.Y0)&&decide (p.Y<x.Y1))))
theorem uI {r:List aI} {p:eK} (hl:r.length<=4611686018427387904):iT N r p=some (Bu r p):=by
 unfold iT
 rw [oK (fun x=>decide (p.X>=x.X0)&&(decide (p.X<x.X1)&&(decide (p.Y>=x.Y0)&&decide (p.Y<x.Y1)))) hl (fun x _=>by
  unfold jK
  cases decide (p.X>=x.X0) <;> cases decide (p.X<x.X1) <;> cases decide (p.Y>=x.Y0) <;> rfl)];rfl
def tq (l:cQ) (b:bQ):Bool:=b.gL&&(lr b l.cU&&Bu [wA b] l.At)
def uJ (l:cQ) (p:aH):Bool:=(p.cU==l.cU)&&Bu p.iO l.At
def mZ (bs:List bQ) (pcs:List aH) (l:cQ):Option dF:=match bs.findIdx? (tq l) with
 | some k=>some ⟨true,((k:Nat):Int)⟩
 | none=>(pcs.findIdx? (uJ l)).map fun k=>⟨false,((k:Nat):Int)⟩
theorem FF {bs:List bQ} {pcs:List aH} (hb:mA bs) (hp:pcs.length<=1073741824) (hr: ∀p∈pcs,p.iO.length<=1073741824) (l:cQ):
  iH N bs pcs l=some ((mZ bs pcs l).getD ⟨false,0⟩,(mZ bs pcs l).isSome):=by
 have hbl:=hb.len
 unfold iH
 rw [lY (fun k=>(bs[k]?).bind fun x=>if tq l x=true then some ((⟨true,((k:Nat):Int)⟩:dF),true) else none) (by omega) (fun k hk _=>by
  have hkx:bs[k]? =some bs[k]:=aJ hk
  have hg:=hb.ok _ (cI hk)
  rw [dE hkx,aB,hkx,lP hg.1,aB,aB,uI (by simp)]
  unfold tq
  cases bs[k].gL with
  | false=>rfl
  | true=>
   show (((bif lr bs[k] l.cU then _ else _:Option Bool)).bind _)=_
   cases lr bs[k] l.cU with
   | false=>rfl
   | true=>
    cases Bu [wA bs[k]] l.At <;> rfl),aB,uH (tq l) (fun k=>((⟨true,((k:Nat):Int)⟩:dF),true))]
 unfold mZ
 cases bs.findIdx? (tq l) with
 | some k=>rfl
 | none=>
  show ((pF pcs.length _ ()).bind _)=_
  rw [lY (fun k=>(pcs[k]?).bind fun x=>if uJ l x=true then some ((⟨false,((k:Nat):Int)⟩:dF),true) else none) (by omega) (fun k hk _=>by
   have hkx:pcs[k]? =some pcs[k]:=aJ hk
   rw [dE hkx,aB,hkx,aB,uI (by have:=hr _ (cI hk);omega)]
   unfold uJ
   cases pcs[k].cU==l.cU with
   | false=>rfl
   | true=>cases Bu pcs[k].iO l.At <;> rfl),aB,uH (uJ l) (fun k=>((⟨false,((k:Nat):Int)⟩:dF),true))]
  cases pcs.findIdx? (uJ l) <;> rfl
def Lk (n:Nat) (tch:List (List Int)) (i j:Nat):Prop:=∃(k:Nat) (l:List Int),tch[k]? =some l/\((i:Nat):Int)∈l/\j=n+k
structure yg (n m:Nat) (tch:List (List Int)) (r:Nat->Nat):Prop where
 le: ∀i,i<n+m->r i<=i
 rr: ∀i,i<n+m->r (r i)=r i
 co: ∀i j,Lk n tch i j->r i=r j
 fi: ∀S:Nat->Prop,(∀i j,Lk n tch i j->(S i↔S j))->∀i j,i<n+m->j<n+m->r i=r j->S i->S j
theorem yU {n m:Nat} {tch:List (List Int)} (hm:tch.length=m) (ht: ∀l∈tch,l.length<=1073741824/\∀x∈l,∃i:Nat,i<n/\x= ((i:Nat):Int)) (hn:n<=1073741824) (hm2:m<=1073741824) {up:List Int} (hu:UF (n+m) up (fun i=>i)) (hN:4398046511104<=N):
  Ok (iY tch.length (fun(k34:Nat) (s35: (List Int))=>((idx tch (k34:Int)).bind fun x89=>(iY x89.length (fun(k92:Nat) (s93: (List Int))=>((idx x89 (k92:Int)).bind fun x107=>(dC N s93 x107 (IntKind.wrap .i64 ((n:Int)+ (k34:Int)))).bind fun x109=>some x109:Option ((List Int)))) s35).bind fun s93=>some s93:Option ((List Int)))) up)
   (fun up'=>∃r,UF (n+m) up' r/\yg n m tch r):=by
 have base:Ok (iY tch.length (fun(k34:Nat) (s35: (List Int))=>((idx tch (k34:Int)).bind fun x89=>(iY x89.length (fun(k92:Nat) (s93: (List Int))=>((idx x89 (k92:Int)).bind fun x107=>(dC N s93 x107 (IntKind.wrap .i64 ((n:Int)+ (k34:Int)))).bind fun x109=>some x109:Option ((List Int)))) s35).bind fun s93=>some s93:Option ((List Int)))) up)
   (fun up'=>∃r E,UF (n+m) up' r/\my r E/\vq (n+m) r E/\(∀p∈E,Lk n tch p.1 p.2)/\∀(k:Nat) l (i:Nat),k<tch.length->tch[k]? =some l->((i:Nat):Int)∈l->(i,n+k)∈E):=by
  refine Ok.iY (fun q up'=>∃r E,UF (n+m) up' r/\my r E/\vq (n+m) r E/\(∀p∈E,Lk n tch p.1 p.2)/\∀(k:Nat) l (i:Nat),k<q->tch[k]? =some l->((i:Nat):Int)∈l->(i,n+k)∈E) (by omega)
   ⟨_,_,hu,my.id,vq.id _,fun p hp=>(by cases hp),fun k l i hk=>by omega⟩ (fun q up' hq hI=>?_)
  obtain⟨r,E,h1,h2,h3,h4,h5⟩:=hI
  have hqx:tch[q]? =some tch[q]:=aJ hq
  obtain⟨hl1,hl2⟩:=ht _ (cI hq)
  refine Ok.ix hqx ?_
  rw [wrap_add (by omega)]
  refine Ok.bind (Ok.iY (fun t up'=>∃r E,UF (n+m) up' r/\my r E/\vq (n+m) r E/\(∀p∈E,Lk n tch p.1 p.2)/\(∀(k:Nat) l (i:Nat),k<q->tch[k]? =some l->((i:Nat):Int)∈l->(i,n+k)∈E)/\∀i:Nat,((i:Nat):Int)∈tch[q].take t->(i,n+q)∈E) (by omega)
   ⟨r,E,h1,h2,h3,h4,h5,fun i hi=>by simp at hi⟩ (fun t up' htl hI=>?_)) (fun up' hI=>Ok.ret ?_)
  ·obtain⟨r,E,h1,h2,h3,h4,h5,h6⟩:=hI
   refine Ok.idx htl ?_
   obtain⟨i,hi,e⟩:=hl2 _ (cI htl)
   rw [e]
   obtain⟨u2,a1,a2⟩:=C5 (N:=N) h1 (i:=i) (k:=n+q) (by omega) (by omega) (by omega)
   refine Ok.eq a1 (Ok.ret ⟨_,_,a2,h2.join i (n+q) (h1.rr i (by omega)),h3.join (by omega) (by omega),fun p hp=>?_,fun k l j hk hl hj=>List.mem_append_left _ (h5 k l j hk hl hj),fun j hj=>?_⟩)
   ·rcases cR.1 hp with hp | hp
    ·exact h4 p hp
    ·simp at hp;subst hp
     exact⟨q,tch[q],hqx,by rw [<-e];exact cI htl,rfl⟩
   ·rw [fw htl,cR] at hj
    rcases hj with hj | hj
    ·exact List.mem_append_left _ (h6 j hj)
    ·rw [List.mem_singleton,e] at hj
     have:j=i:=by omega
     subst this;simp
  ·obtain⟨r,E,h1,h2,h3,h4,h5,h6⟩:=hI
   refine⟨r,E,h1,h2,h3,h4,fun k l i hk hl hi=>?_⟩
   by_cases hkq:k<q
   ·exact h5 k l i hkq hl hi
   ·have:k=q:=by omega
    subst this
    rw [hqx] at hl;injection hl with hl;subst hl
    exact h6 i (by rw [eW];exact hi)
 obtain⟨up',e,r,E,h1,h2,h3,h4,h5⟩:=base
 have hE: ∀i j,Lk n tch i j->(i,j)∈E:=fun i j ⟨k,l,hl,hi,hj⟩=>by
  rw [hj];exact h5 k l i (aZ.1 hl).1 hl hi
 exact⟨up',e,r,h1,h1.le,h1.rr,fun i j h=>h2 (i,j) (hE i j h),fun S hS i j hi hj=>h3 S (fun p hp=>hS p.1 p.2 (h4 p hp)) i j hi hj⟩
def tr (bs:List bQ) (j:Nat):Bool:=(bs[j]?).any (fun b=>b.gL)
def gP (n:Nat) (c:List Nat):List Nat:=c.filter (fun i=>decide (i<n))
def gB (bs:List bQ) (n:Nat) (c:List Nat):List Nat:=(c.filter (fun i=> !decide (i<n)&&tr bs (i - n))).map (fun i=>i - n)
def FG (bs:List bQ) (n:Nat) (c:List Nat):Bool:=decide (0< (gP n c).length+ (gB bs n c).length)
def Lx (bs:List bQ) (n:Nat) (c:List Nat):cE:=⟨ints (gP n c),ints (gB bs n c),[]⟩
theorem Da (n:Nat) (c:List Nat) (i:Nat):gP n (c++[i])=if i<n then gP n c++[i] else gP n c:=by
 unfold gP;rw [iq];split <;> rename_i h <;> simp [h]
theorem Db (bs:List bQ) (n:Nat) (c:List Nat) (i:Nat):gB bs n (c++[i])=if i<n then gB bs n c else if tr bs (i - n)=true then gB bs n c++[i - n] else gB bs n c:=by
 unfold gB;rw [iq,eV]
 split
 ·rename_i h;simp [h]
 ·rename_i h
  split <;> rename_i h2 <;> simp [h,h2]
theorem FH (n:Nat) (c:List Nat): (gP n c).length<=c.length:=ka _ _
theorem FI (bs:List bQ) (n:Nat) (c:List Nat): (gB bs n c).length<=c.length:=by unfold gB;rw [gw];exact ka _ _
def live (bs:List bQ) (n t:Nat) (r:Nat->Nat) (hs:List Nat):List Nat:=hs.filter (fun h=>FG bs n (cls t r h))
def pZ (bs:List bQ) (n t:Nat) (r:Nat->Nat) (hs:List Nat):List cE:=(live bs n t r hs).map (fun h=>Lx bs n (cls t r h))
theorem D9 (bs:List bQ) (n t:Nat) (r:Nat->Nat) (hs:List Nat) (h:Nat):live bs n t r (hs++[h])=if FG bs n (cls t r h)=true then live bs n t r hs++[h] else live bs n t r hs:=by
 unfold live;rw [iq];split <;> rename_i h2 <;> simp [h2]
theorem rC (bs:List bQ) (n t:Nat) (r:Nat->Nat) (hs:List Nat): (pZ bs n t r hs).length= (live bs n t r hs).length:=by unfold pZ;rw [gw]
def gi (bs:List bQ) (n t:Nat) (r:Nat->Nat) (h:Nat):Nat:=(live bs n t r ((bT t r).takeWhile (fun x=>decide (x≠h)))).length
theorem sI {l:List Nat} (hn:l.Nodup) {k h:Nat} (hk:l[k]? =some h):l.takeWhile (fun x=>decide (x≠h))=l.take k:=by
 induction l generalizing k with
 | nil=>simp at hk
 | cons a l ih=>
  cases k with
  | zero=>simp at hk;subst hk;simp
  | succ k=>
   have hk:l[k]? =some h:=by simpa using hk
   have hne:a≠h:=fun e=>(List.nodup_cons.1 hn).1 (by rw [e];exact gJ hk)
   rw [List.takeWhile_cons,aD (by simpa using hne),List.take_succ_cons,ih (List.nodup_cons.1 hn).2 hk]
theorem qc (bs:List bQ) (n t:Nat) (r:Nat->Nat) (hs:List Nat): (live bs n t r hs).length<=hs.length:=ka _ _
theorem Bv {bs:List bQ} {n t:Nat} {r:Nat->Nat} {h:Nat} (hh:h∈bT t r) (hne:FG bs n (cls t r h)=true):gi bs n t r h< (live bs n t r (bT t r)).length/\(live bs n t r (bT t r))[gi bs n t r h]? =some h:=by
 obtain⟨k,hk⟩:=fY hh
 have hkl:=(aZ.1 hk).1
 unfold gi
 rw [sI (lO t r) hk]
 have e:bT t r= (bT t r).take k++h::(bT t r).drop (k+1):=by
  have h1:=(List.take_append_drop k (bT t r)).symm
  rw [pH hkl,(aZ.1 hk).2] at h1;exact h1
 have e2:live bs n t r (bT t r)=live bs n t r ((bT t r).take k)++h::live bs n t r ((bT t r).drop (k+1)):=by
  conv=>lhs;rw [e]
  unfold live
  rw [iq,List.filter_cons,aD hne]
 constructor
 ·rw [e2];simp
 ·rw [e2]
  simp
end
end Go.Gk
namespace Go.Gk
open Go Classical
section
variable {N:Nat}
theorem yV {l:List Nat} (h:l.Nodup) {i j a:Nat} (hi:l[i]? =some a) (hj:l[j]? =some a):i=j:=
 (List.getElem_inj (h₀:=(aZ.1 hi).1) (h₁:=(aZ.1 hj).1) h).1 (by rw [(aZ.1 hi).2,(aZ.1 hj).2])
theorem rY {n i k:Nat} {r:Nat->Nat}:i∈cls n r k↔i<n/\r i=k:=by unfold cls;simp
theorem Ea (n:Nat) (r:Nat->Nat) (k:Nat): (cls n r k).Nodup:=List.Nodup.sublist List.filter_sublist List.nodup_range
structure J7 (bs:List bQ) (n m:Nat) (r:Nat->Nat) (hs:List Nat) (ofP ofB:List Int):Prop where
 lp:ofP.length=n
 lb:ofB.length=m
 pc: ∀i,i<n->r i∈hs->ofP[i]? =some ((gi bs n (n+m) r (r i):Nat):Int)
 bo: ∀j,j<m->r (n+j)∈hs->ofB[j]? =some (if tr bs j=true then ((gi bs n (n+m) r (r (n+j)):Nat):Int) else -1)
theorem Bw {bs:List bQ} {n m:Nat} {r:Nat->Nat} (hm:bs.length=m) (hn:n<=1073741824) (hm2:m<=1073741824) {op ob:List Int} (hop:op.length=n) (hob:ob.length=m)
  {body:Nat->List cE×List Int×List Int->Option (List cE×List Int×List Int)}
  (hbody:body= (fun(k123:Nat) (s124: (List cE)×(List Int)×(List Int))=>((idx (nW (n+m) r) (k123:Int)).bind fun x455=>(iY x455.length (fun(k458:Nat) (s459: (List Int)×(List Int)×(List Int)×(List Int))=>((idx x455 (k458:Int)).bind fun x556=>(bif (decide (x556< (n:Int))) then ((idx s459.1 x556).bind fun x580=>(app 8 s459.2.2.1 ([x556]: (List Int))).bind fun x582=>some ((s459.1.set (Int.toNat x556) (s124.1.length:Int)),s459.2.1,x582,s459.2.2.2)) else ((idx bs (IntKind.wrap .i64 (x556 - (n:Int)))).bind fun x584=>(bif x584.gL then ((idx s459.2.1 (IntKind.wrap .i64 (x556 - (n:Int)))).bind fun x594=>(app 8 s459.2.2.2 ([(IntKind.wrap .i64 (x556 - (n:Int)))]: (List Int))).bind fun x596=>some ((s459.2.1.set (Int.toNat (IntKind.wrap .i64 (x556 - (n:Int)))) (s124.1.length:Int)),x596)) else ((idx s459.2.1 (IntKind.wrap .i64 (x556 - (n:Int)))).bind fun x598=>some ((s459.2.1.set (Int.toNat (IntKind.wrap .i64 (x556 - (n:Int)))) (-1)),s459.2.2.2))).bind fun s592=>some (s459.1,s592.1,s459.2.2.1,s592.2))).bind fun s577=>some (s577.1,s577.2.1,s577.2.2.1,s577.2.2.2):Option ((List Int)×(List Int)×(List Int)×(List Int)))) (s124.2.1,s124.2.2,([]: (List Int)),([]: (List Int)))).bind fun s459=>(bif (decide ((IntKind.wrap .i64 ((s459.2.2.1.length:Int)+ (s459.2.2.2.length:Int)))>0)) then ((app 72 s124.1 [(⟨s459.2.2.1,s459.2.2.2,([]: (List fN))⟩:cE)]).bind fun x610=>some x610) else (some s124.1)).bind fun s606=>some (s606,s459.1,s459.2.1):Option ((List cE)×(List Int)×(List Int))))):
  Ok (iY (nW (n+m) r).length body ([],op,ob)) (fun st=>st.1=pZ bs n (n+m) r (bT (n+m) r)/\J7 bs n m r (bT (n+m) r) st.2.1 st.2.2):=by
 subst hbody
 have hsl: (nW (n+m) r).length= (bT (n+m) r).length:=by unfold nW;simp
 have hhl:=mz (n+m) r
 refine Ok.mono (Ok.iY (fun(k:Nat) (st:List cE×List Int×List Int)=>st.1=pZ bs n (n+m) r ((bT (n+m) r).take k)/\J7 bs n m r ((bT (n+m) r).take k) st.2.1 st.2.2) (by omega) ⟨rfl,hop,hob,fun i hi h=>by simp at h,fun j hj h=>by simp at h⟩ (fun k st hk hI=>?_)) (fun st h=>by rw [hsl,eW] at h;exact h)
 obtain⟨gs,ofP,ofB⟩:=st
 obtain⟨e1,I⟩:=hI
 dsimp only at e1 I ⊢
 subst e1
 rw [hsl] at hk
 have hkx: (bT (n+m) r)[k]? =some (bT (n+m) r)[k]:=aJ hk
 have hts: (bT (n+m) r).take (k+1)= (bT (n+m) r).take k++[(bT (n+m) r)[k]]:=fw hk
 have hgk:gi bs n (n+m) r (bT (n+m) r)[k]= (pZ bs n (n+m) r ((bT (n+m) r).take k)).length:=by
  unfold gi;rw [sI (lO _ _) hkx,rC]
 generalize hh: (bT (n+m) r)[k]=h at *
 have hsx: (nW (n+m) r)[k]? =some (ints (cls (n+m) r h)):=by unfold nW;rw [il,hkx];rfl
 refine Ok.ix hsx ?_
 have hcl:=zU (n+m) r h
 rw [l3]
 have hgl: (pZ bs n (n+m) r ((bT (n+m) r).take k)).length<=n+m:=by
  rw [rC]
  have:=qc bs n (n+m) r ((bT (n+m) r).take k)
  rw [cZ] at this;omega
 have hold: ∀i∈cls (n+m) r h,∀i',r i'∈(bT (n+m) r).take k->i≠i':=fun i hi i' hi' e=>by
  subst e
  rw [(rY.1 hi).2] at hi'
  obtain⟨j,hj⟩:=fY hi'
  have hjk:j<k:=by have:=(aZ.1 hj).1;rw [cZ] at this;omega
  rw [List.getElem?_take_of_lt hjk] at hj
  have:=yV (lO (n+m) r) hj hkx
  omega
 refine Ok.bind (P:=fun s'=>J7 bs n m r ((bT (n+m) r).take (k+1)) s'.1 s'.2.1/\s'.2.2.1=ints (gP n (cls (n+m) r h))/\s'.2.2.2=ints (gB bs n (cls (n+m) r h))) (Ok.mono (Ok.iY
  (fun(t:Nat) (s':List Int×List Int×List Int×List Int)=>J7 bs n m r ((bT (n+m) r).take k) s'.1 s'.2.1/\s'.2.2.1=ints (gP n ((cls (n+m) r h).take t))/\s'.2.2.2=ints (gB bs n ((cls (n+m) r h).take t))/\
   (∀i∈(cls (n+m) r h).take t,i<n->s'.1[i]? =some ((gi bs n (n+m) r h:Nat):Int))/\∀i∈(cls (n+m) r h).take t,¬i<n->s'.2.1[i - n]? =some (if tr bs (i - n)=true then ((gi bs n (n+m) r h:Nat):Int) else -1)) (by omega)
   ⟨I,rfl,rfl,fun i hi=>by simp at hi,fun i hi=>by simp at hi⟩ (fun t s' ht hI'=>?_)) ?_) ?_
 ·obtain⟨oP,oB,pp,bb⟩:=s'
  obtain⟨J,e2,e3,J1,J2⟩:=hI'
  dsimp only at J e2 e3 J1 J2 ⊢
  subst e2;subst e3
  have htx: (ints (cls (n+m) r h))[t]? =some (((cls (n+m) r h)[t]:Nat):Int):=by unfold ints;rw [il,aJ ht];rfl
  refine Ok.ix htx ?_
  have htt: (cls (n+m) r h).take (t+1)= (cls (n+m) r h).take t++[(cls (n+m) r h)[t]]:=fw ht
  have hcm:=cI ht
  have hdist: ∀i∈(cls (n+m) r h).take t,i≠(cls (n+m) r h)[t]:=fun i hi e=>by
   obtain⟨j,hj⟩:=fY hi
   have hjt:j<t:=by have:=(aZ.1 hj).1;rw [cZ] at this;omega
   rw [List.getElem?_take_of_lt hjt] at hj
   have:=yV (Ea (n+m) r h) hj (by rw [e];exact aJ ht)
   omega
  generalize (cls (n+m) r h)[t]=c at *
  obtain⟨hc1,hc2⟩:=rY.1 hcm
  have hgp:=FH n ((cls (n+m) r h).take t)
  have hgb:=FI bs n ((cls (n+m) r h).take t)
  rw [cZ] at hgp hgb
  by_cases hcn:c<n
  ·rw [cB (by omega: ((c:Nat):Int)< ((n:Nat):Int)),aR]
   refine Ok.bind (P:=fun x=>x= (oP.set c ((gi bs n (n+m) r h:Nat):Int),oB,ints (gP n ((cls (n+m) r h).take t))++[((c:Nat):Int)],ints (gB bs n ((cls (n+m) r h).take t)))) ?_ ?_
   ·refine Ok.idx (by rw [J.lp];exact hcn) (Ok.app (by rw [l3];simp;omega) (Ok.ret ?_))
    rw [bX,hgk]
   ·rintro _ rfl
    refine Ok.ret ⟨⟨by simp [J.lp],J.lb,fun i hi hr=>?_,J.bo⟩,?_,?_,fun i hi hin=>?_,fun i hi hin=>?_⟩
    ·dsimp only
     rw [lB (by rw [J.lp];exact hcn),aC (fun e=>hold c hcm i hr e.symm)];exact J.pc i hi hr
    ·dsimp only;rw [htt,Da,aD hcn,rB];rfl
    ·dsimp only;rw [htt,Db,aD hcn]
    ·dsimp only
     rw [lB (by rw [J.lp];exact hcn)]
     split
     ·rfl
     ·rename_i hne
      rw [htt] at hi
      rcases cR.1 hi with hi | hi
      ·exact J1 i hi hin
      ·exact absurd (by simpa using hi) hne
    ·rw [htt] at hi
     rcases cR.1 hi with hi | hi
     ·exact J2 i hi hin
     ·have:i=c:=by simpa using hi
      subst this;exact absurd hcn hin
  ·rw [bE (by omega: ¬((c:Nat):Int)< ((n:Nat):Int)),aQ]
   have hw:IntKind.wrap .i64 (((c:Nat):Int) - ((n:Nat):Int))= ((c - n:Nat):Int):=by rw [eO (by omega) (by omega)];omega
   have hcm2:c - n<bs.length:=by omega
   have hpl:tr bs (c - n)=bs[c - n].gL:=by unfold tr;rw [aJ hcm2];rfl
   rw [hw]
   refine Ok.bind (P:=fun x=>x= (oP,oB.set (c - n) (if tr bs (c - n)=true then ((gi bs n (n+m) r h:Nat):Int) else -1),ints (gP n ((cls (n+m) r h).take t)),ints (gB bs n ((cls (n+m) r h).take t++[c])))) ?_ ?_
   ·refine Ok.idx hcm2 ?_
    rw [Db,aC hcn,hpl]
    cases hp:bs[c - n].gL with
    | true=>
     rw [aR,aD rfl,aD rfl]
     refine Ok.eq (x:=(oB.set (c - n) ((gi bs n (n+m) r h:Nat):Int),ints (gB bs n ((cls (n+m) r h).take t)++[c - n]))) ?_ (Ok.ret rfl)
     rw [jq _ _ (by rw [J.lb];omega),aB,gQ (by rw [l3];simp;omega),aB,bX,hgk,rB];rfl
    | false=>
     rw [aQ,aC (by simp),aC (by simp)]
     refine Ok.eq (x:=(oB.set (c - n) (-1),ints (gB bs n ((cls (n+m) r h).take t)))) ?_ (Ok.ret rfl)
     rw [jq _ _ (by rw [J.lb];omega),aB,bX]
   ·rintro _ rfl
    refine Ok.ret ⟨⟨J.lp,by simp [J.lb],J.pc,fun j hj hr=>?_⟩,?_,?_,fun i hi hin=>?_,fun i hi hin=>?_⟩
    ·dsimp only
     rw [lB (by rw [J.lb];omega),aC (fun e=>hold c hcm (n+j) hr (by omega))];exact J.bo j hj hr
    ·dsimp only;rw [htt,Da,aC hcn]
    ·dsimp only;rw [htt]
    ·rw [htt] at hi
     rcases cR.1 hi with hi | hi
     ·exact J1 i hi hin
     ·have:i=c:=by simpa using hi
      subst this;exact absurd hin hcn
    ·dsimp only
     rw [lB (by rw [J.lb];omega)]
     split
     ·rename_i e;rw [e]
     ·rename_i hne
      rw [htt] at hi
      rcases cR.1 hi with hi | hi
      ·exact J2 i hi hin
      ·exact absurd (by have:i=c:=(by simpa using hi);rw [this]) hne
 ·rintro⟨oP,oB,pp,bb⟩ ⟨J,e2,e3,J1,J2⟩
  dsimp only at J e2 e3 J1 J2 ⊢
  rw [eW] at e2 e3 J1 J2
  refine⟨⟨J.lp,J.lb,fun i hi hr=>?_,fun j hj hr=>?_⟩,e2,e3⟩
  ·rw [hts] at hr
   rcases cR.1 hr with hr | hr
   ·exact J.pc i hi hr
   ·have hr:r i=h:=by simpa using hr
    rw [hr];exact J1 i (rY.2 ⟨by omega,hr⟩) hi
  ·rw [hts] at hr
   rcases cR.1 hr with hr | hr
   ·exact J.bo j hj hr
   ·have hr:r (n+j)=h:=by simpa using hr
    rw [hr]
    have:=J2 (n+j) (rY.2 ⟨by omega,hr⟩) (by omega)
    rwa [Nat.add_sub_cancel_left] at this
 ·rintro⟨oP,oB,pp,bb⟩ ⟨J,e2,e3⟩
  dsimp only at J e2 e3 ⊢
  subst e2;subst e3
  have hgp:=FH n (cls (n+m) r h)
  have hgb:=FI bs n (cls (n+m) r h)
  rw [l3,l3,wrap_add (by omega)]
  have hgs:pZ bs n (n+m) r ((bT (n+m) r).take (k+1))=if FG bs n (cls (n+m) r h)=true then pZ bs n (n+m) r ((bT (n+m) r).take k)++[Lx bs n (cls (n+m) r h)] else pZ bs n (n+m) r ((bT (n+m) r).take k):=by
   unfold pZ
   rw [hts,D9]
   split
   ·rw [eV];rfl
   ·rfl
  refine Ok.bind (P:=fun x=>x=pZ bs n (n+m) r ((bT (n+m) r).take (k+1))) (Ok.bif (fun hb=>?_) (fun hb=>Ok.ret ?_)) (fun x e=>Ok.ret ⟨e,J⟩)
  ·have hne:FG bs n (cls (n+m) r h)=true:=cB (by have:=of_decide_eq_true hb;omega)
   refine Ok.app (by simp;omega) (Ok.ret ?_)
   rw [hgs,aD hne];rfl
  ·have hne: ¬FG bs n (cls (n+m) r h)=true:=fun h'=>by
    have h1:=of_decide_eq_true h'
    have h2:=of_decide_eq_false hb
    omega
   rw [hgs,aC hne]
end
end Go.Gk
namespace Go.Gk
open Go Classical
section
variable {N:Nat}
def eN (n:Nat) (h:dF):Nat:=if h.bQ=true then n+h.Number.toNat else h.Number.toNat
structure FJ (bs:List bQ) (n m:Nat) (h:dF):Prop where
 num: ∃k:Nat,h.Number= ((k:Nat):Int)/\(h.bQ=true->k<m/\tr bs k=true)/\(h.bQ=false->k<n)
theorem Cr {bs:List bQ} {pcs:List aH} {l:cQ} {h:dF} (hh:mZ bs pcs l=some h):FJ bs pcs.length bs.length h:=by
 unfold mZ at hh
 cases hf:bs.findIdx? (tq l) with
 | some k=>
  rw [hf] at hh
  injection hh with hh;subst hh
  obtain⟨hk,hp,_⟩:=List.findIdx?_eq_some_iff_getElem.1 hf
  refine⟨k,rfl,fun _=>⟨hk,?_⟩,fun h=>by cases h⟩
  unfold tq at hp
  unfold tr
  rw [aJ hk]
  rw [bP] at hp
  exact hp.1
 | none=>
  rw [hf] at hh
  dsimp only at hh
  rw [Option.map_eq_some_iff] at hh
  obtain⟨k,hk,rfl⟩:=hh
  obtain⟨hk,_⟩:=List.findIdx?_eq_some_iff_getElem.1 hk
  exact⟨k,rfl,fun h=>(by cases h),fun _=>hk⟩
def tt (bs:List bQ) (pcs:List aH) (r:Nat->Nat) (l:cQ):Option Nat:=(mZ bs pcs l).map fun h=>gi bs pcs.length (pcs.length+bs.length) r (r (eN pcs.length h))
def Ah (bs:List bQ) (pcs:List aH) (r:Nat->Nat) (l:cQ):Int:=match tt bs pcs r l with | some g=>((g:Nat):Int) | none=> -1
def iJ (gs:List cE) (lg:cQ->Option Nat) (ls:List cQ):List cE:=gs.mapIdx (fun g x=>{x with gM:=(ls.filter (fun l=>decide (lg l=some g))).map kE})
theorem jS {gs:List cE} {lg:cQ->Option Nat} {ls:List cQ} {g:Nat}: (iJ gs lg ls)[g]? = (gs[g]?).map fun x=>{x with gM:=(ls.filter (fun l=>decide (lg l=some g))).map kE}:=by
 unfold iJ;rw [List.getElem?_mapIdx]
theorem uK (gs:List cE) (lg:cQ->Option Nat) (ls:List cQ): (iJ gs lg ls).length=gs.length:=by unfold iJ;rw [List.length_mapIdx]
theorem yh {gs:List cE} {lg:cQ->Option Nat} {ls:List cQ} {l:cQ} (h:lg l=none):iJ gs lg (ls++[l])=iJ gs lg ls:=by
 apply List.ext_getElem?
 intro g
 rw [jS,jS]
 congr 2
 funext x
 rw [iq]
 simp [h]
theorem zZ {gs:List cE} {lg:cQ->Option Nat} {ls:List cQ} {l:cQ} {k:Nat} {x:cE} (h:lg l=some k) (hx: (iJ gs lg ls)[k]? =some x):
  (iJ gs lg ls).set k {x with gM:=x.gM++[kE l]}=iJ gs lg (ls++[l]):=by
 apply List.ext_getElem?
 intro g
 have hk:=(aZ.1 hx).1
 rw [eX]
 by_cases e:k=g
 ·subst e
  rw [aD rfl,aD hk,jS]
  rw [jS,Option.map_eq_some_iff] at hx
  obtain⟨y,hy,rfl⟩:=hx
  rw [hy,iq]
  simp [h]
 ·rw [aC e,jS,jS]
  congr 2
  funext x
  rw [iq]
  have: ¬(lg l=some g):=by rw [h];intro h';injection h' with h';exact e h'
  simp [this]
theorem FK {bs:List bQ} {n t:Nat} {r:Nat->Nat} {i:Nat} (hi:i<n) (ht:i<t):FG bs n (cls t r (r i))=true:=by
 unfold FG
 rw [bK]
 have:i∈gP n (cls t r (r i)):=gE.2 ⟨rY.2 ⟨ht,rfl⟩,by simpa using hi⟩
 have:=List.length_pos_of_mem this
 omega
theorem FL {bs:List bQ} {n t:Nat} {r:Nat->Nat} {j:Nat} (hp:tr bs j=true) (ht:n+j<t):FG bs n (cls t r (r (n+j)))=true:=by
 unfold FG
 rw [bK]
 have:j∈gB bs n (cls t r (r (n+j))):=cP.2 ⟨n+j,gE.2 ⟨rY.2 ⟨ht,rfl⟩,by simp [hp]⟩,by omega⟩
 have:=List.length_pos_of_mem this
 omega
structure xI (bs:List bQ) (ls:List cQ) (pcs:List aH) (r:Nat->Nat) (gs:List cE) (ofP ofB hZ:List Int) (gS:List dF):Prop where
 conn:yg pcs.length bs.length (dW bs pcs) r
 gs:gs=iJ (pZ bs pcs.length (pcs.length+bs.length) r (bT (pcs.length+bs.length) r)) (tt bs pcs r) ls
 of:J7 bs pcs.length bs.length r (bT (pcs.length+bs.length) r) ofP ofB
 hZ:hZ=ls.map (Ah bs pcs r)
 gS:gS=ls.map (fun l=>(mZ bs pcs l).getD ⟨false,0⟩)
theorem xJ {bs:List bQ} {pcs:List aH} (hp:pcs.length<=1073741824): ∀l∈dW bs pcs,l.length<=1073741824/\∀x∈l,∃i:Nat,i<pcs.length/\x= ((i:Nat):Int):=by
 intro l hl
 unfold dW at hl
 obtain⟨b,_,rfl⟩:=cP.1 hl
 have:=yT (l4 b) pcs pcs.length
 refine⟨by rw [l3];omega,fun x hx=>?_⟩
 obtain⟨i,hi,rfl⟩:=xH.1 hx
 exact⟨i,(D8.1 hi).1,rfl⟩
theorem z5 {bs:List bQ} {ls:List cQ} {pcs:List aH} (hb:mA bs) (hp:pcs.length<=1000000000) (hr: ∀p∈pcs,p.iO.length<=1073741824) (hl:ls.length<=1073741824) (hN:4398046511104<=N):
  Ok (eP N bs ls pcs (dW bs pcs) [] [] [] []) (fun x=>∃r,xI bs ls pcs r x.1 x.2.1 x.2.2.1 x.2.2.2.1 x.2.2.2.2):=by
 have hbl:=hb.len
 unfold eP
 rw [wrap_add (by omega)]
 obtain⟨up0,u1,u2⟩:=rm (N:=N) (n:=pcs.length+bs.length) (by omega)
 refine Ok.eq u1 ?_
 refine Ok.bind (yU (n:=pcs.length) (m:=bs.length) (by unfold dW;simp) (xJ (by omega)) (by omega) (by omega) u2 hN) ?_
 rintro up1 ⟨r,v1,v2⟩
 refine Ok.eq (pT 0 (by omega)) (Ok.eq (pT 0 (by omega)) ?_)
 obtain⟨up2,w1,_⟩:=GM (N:=N) v1 (by omega) (by omega)
 refine Ok.eq w1 ?_
 refine Ok.bind (Bw (bs:=bs) (n:=pcs.length) (m:=bs.length) (r:=r) rfl (by omega) (by omega) (op:=List.replicate pcs.length 0) (ob:=List.replicate bs.length 0) (by simp) (by simp) rfl) ?_
 rintro⟨gs,ofP,ofB⟩ ⟨e1,I⟩
 dsimp only at e1 I ⊢
 subst e1
 have hgl: (pZ bs pcs.length (pcs.length+bs.length) r (bT (pcs.length+bs.length) r)).length<=pcs.length+bs.length:=by
  rw [rC]
  have:=qc bs pcs.length (pcs.length+bs.length) r (bT (pcs.length+bs.length) r)
  have:=mz (pcs.length+bs.length) r
  omega
 refine Ok.bind (Ok.iY (fun(k:Nat) (st:List cE×List Int×List Int×List Int×List dF)=>st= (iJ (pZ bs pcs.length (pcs.length+bs.length) r (bT (pcs.length+bs.length) r)) (tt bs pcs r) (ls.take k),ofP,ofB,(ls.take k).map (Ah bs pcs r),(ls.take k).map (fun l=>(mZ bs pcs l).getD ⟨false,0⟩))) (by omega) ?_ (fun k st hk e=>?_)) ?_
 ·congr 1
  unfold iJ
  apply List.ext_getElem?
  intro g
  rw [List.getElem?_mapIdx]
  unfold pZ
  rw [il]
  cases (live bs pcs.length (pcs.length+bs.length) r (bT (pcs.length+bs.length) r))[g]? <;> rfl
 ·subst e
  dsimp only
  have hts:ls.take (k+1)=ls.take k++[ls[k]]:=fw hk
  refine Ok.idx hk (Ok.eq (FF hb (by omega) hr _) ?_)
  dsimp only
  refine Ok.bind (P:=fun x=>x= (iJ (pZ bs pcs.length (pcs.length+bs.length) r (bT (pcs.length+bs.length) r)) (tt bs pcs r) (ls.take k++[ls[k]]),Ah bs pcs r ls[k])) ?_ ?_
  ·cases hh:mZ bs pcs ls[k] with
   | none=>
    refine Ok.ret ?_
    have h1:tt bs pcs r ls[k]=none:=by unfold tt;rw [hh];rfl
    rw [yh h1]
    unfold Ah;rw [h1]
   | some h=>
    have h1:tt bs pcs r ls[k]=some (gi bs pcs.length (pcs.length+bs.length) r (r (eN pcs.length h))):=by unfold tt;rw [hh];rfl
    have h2:Ah bs pcs r ls[k]= ((gi bs pcs.length (pcs.length+bs.length) r (r (eN pcs.length h)):Nat):Int):=by unfold Ah;rw [h1]
    obtain⟨q,q1,q2,q3⟩:=(Cr hh).num
    have hix:eN pcs.length h<pcs.length+bs.length/\FG bs pcs.length (cls (pcs.length+bs.length) r (r (eN pcs.length h)))=true/\fQ N ofP ofB h=some ((gi bs pcs.length (pcs.length+bs.length) r (r (eN pcs.length h)):Nat):Int):=by
     unfold fQ eN
     rw [q1,bX]
     cases hbo:h.bQ with
     | true=>
      obtain⟨q4,q5⟩:=q2 hbo
      rw [aR,aD rfl]
      refine⟨by omega,FL q5 (by omega),?_⟩
      have:=I.bo q q4 (gY.2 ⟨by have:=v2.le (pcs.length+q) (by omega);omega,v2.rr _ (by omega)⟩)
      rw [aD q5] at this
      rw [dE this,aB]
     | false=>
      have q4:=q3 hbo
      rw [aQ,aC (by simp)]
      refine⟨by omega,FK q4 (by omega),?_⟩
      have:=I.pc q q4 (gY.2 ⟨by have:=v2.le q (by omega);omega,v2.rr _ (by omega)⟩)
      rw [dE this,aB]
    obtain⟨i1,i2,i3⟩:=hix
    have hgi:=Bv (r:=r) (t:=pcs.length+bs.length) (bs:=bs) (n:=pcs.length) (h:=r (eN pcs.length h)) (gY.2 ⟨by have:=v2.le _ i1;omega,v2.rr _ i1⟩) i2
    have hgx:gi bs pcs.length (pcs.length+bs.length) r (r (eN pcs.length h))< (iJ (pZ bs pcs.length (pcs.length+bs.length) r (bT (pcs.length+bs.length) r)) (tt bs pcs r) (ls.take k)).length:=by
     rw [uK,rC];exact hgi.1
    rw [h2]
    dsimp only [Option.getD,Option.isSome]
    rw [aR]
    refine Ok.eq i3 ?_
    generalize gi bs pcs.length (pcs.length+bs.length) r (r (eN pcs.length h))=g at *
    refine Ok.idx hgx (Ok.eq (vv _) ?_)
    have hpl: ((iJ (pZ bs pcs.length (pcs.length+bs.length) r (bT (pcs.length+bs.length) r)) (tt bs pcs r) (ls.take k))[g]).gM.length<=ls.length:=by
     have:=jS (gs:=pZ bs pcs.length (pcs.length+bs.length) r (bT (pcs.length+bs.length) r)) (lg:=tt bs pcs r) (ls:=ls.take k) (g:=g)
     rw [aJ hgx] at this
     have:=this.symm
     rw [Option.map_eq_some_iff] at this
     obtain⟨y,_,hy⟩:=this
     rw [<-hy,gw]
     have:=ka (fun l=>decide (tt bs pcs r l=some g)) (ls.take k)
     rw [cZ] at this;omega
    refine Ok.app (by simp;omega) (Ok.idx hgx (Ok.ret ?_))
    rw [bX]
    congr 1
    exact zZ h1 (aJ hgx)
  ·rintro _ rfl
   dsimp only
   refine Ok.app (by simp;omega) (Ok.app (by simp;omega) (Ok.ret ?_))
   rw [hts,eV,eV];rfl
 ·rintro st rfl
  dsimp only
  rw [eW]
  exact Ok.ret ⟨r,v2,rfl,I,rfl,rfl⟩
end
end Go.Gk
