/-
  Helping texts: plain functions and plain laws. No statement of the seed is proved here.
-/
import Derived.Test.YtjocleflknekmaaGreatDoorA1
import Derived.ChangeShapes
import Derived.ChangeSame
import Derived.Carry
import Derived.RowKit
import Derived.Test.YtjocleflknekmaaGreatDoorA2
set_option linter.unusedVariables false
set_option linter.unusedSimpArgs false
set_option linter.unusedSectionVars false
namespace Go.Gk
open Go
noncomputable section
structure aI where
 X0:Int
 Y0:Int
 X1:Int
 Y1:Int
 deriving DecidableEq,Inhabited
structure j6 where
 X:Int
 Y:Int
 deriving DecidableEq,Inhabited
structure bW where
 At:j6
 eW:Int
 cZ:Int
 To:Int
 gD:Bool
 deriving DecidableEq,Inhabited
structure dL where
 Part:dK
 fX:dK
 eQ:Int
 At:j6
 deriving DecidableEq,Inhabited
structure iW where
 aN: (List (List aI))
 dH: (List aI)
 aL: (List bW)
 bD: (List dL)
 deriving DecidableEq,Inhabited
structure fX where
 Part:dK
 fX:dK
 deriving DecidableEq,Inhabited
structure aA where
 Y0:Int
 Y1:Int
 Xs: (List Int)
 deriving DecidableEq,Inhabited
structure aH where
 eQ:Int
 Set: (List aA)
 m6: (List aI)
 deriving DecidableEq,Inhabited
structure cU where
 mW: (List Int)
 aL: (List Int)
 iI: (List fX)
 deriving DecidableEq,Inhabited
structure bE where
 bW:Bool
 Number:Int
 deriving DecidableEq,Inhabited
structure fM where
 Open:Bool
 bE:bE
 A:Int
 B:Int
 deriving DecidableEq,Inhabited
def pH (N:Nat) (p0 p1 p2:Int):Option (Bool):=
 some ((decide (p0>=p1))&&(decide (p0<=p2)))
def jz (N:Nat) (p0:Int):Option (Bool):=
 (pH N p0 (-1000000) 1000000).bind fun j=>some j
def kB (N:Nat) (p0:aI):Option (Bool):=
 ((jz N p0.X0).bind fun j=>bif j then ((jz N p0.Y0).bind fun o=>bif o then ((jz N p0.X1).bind fun aa=>bif aa then ((jz N p0.Y1).bind fun ab=>some ab) else (some false)) else (some false)) else (some false)).bind fun ad=>some ad
def jc (N:Nat) (p0: (List aI)):Option (Int):=
 bif (decide ((p0.length:Int)>2000)) then (some 2) else ((oW p0.length (fun(o:Nat) (aa:Unit)=>((idx p0 (o:Int)).bind fun j=>(kB N j).bind fun ab=>bif (!ab) then (some (.rt 1)) else (bif ((decide (j.X1<=j.X0))||(decide (j.Y1<=j.Y0))) then (some (.rt 13)) else (some (.nx ()))):Option (Fl (Unit) Int))) ()).bind fun ad=>ad.cs (fun(aa:Unit)=>some 0) (fun r=>some r))
def gS (N:Nat) (p0: (List aI)):Option ((List aI)):=
 (app 32 ([]: (List aI)) p0).bind fun j=>some j
def iu (N:Nat) (p0 p1:aI):Option (Int):=
 some (IntKind.wrap .i64 (p0.Y0 - p1.Y0))
def fN (N:Nat) (p0: (List Int)):Option ((List Int)):=
 bif (decide ((p0.length:Int)<2)) then (some p0) else ((mm (fun(o:Int)=>(bif (decide (o< (p0.length:Int))) then ((idx p0 o).bind fun ab=>(idx p0 (IntKind.wrap .i64 (o - 1))).bind fun ad=>bif (ab==ad) then ((qt p0 o (p0.length:Int)).bind fun ak=>(mm (fun(j: (List Int)×Int×Int)=>(bif (decide (j.2.2< (((j.1.length - Int.toNat o):Nat):Int))) then ((A8 j.1 o j.2.2).bind fun ae=>(A8 j.1 o (IntKind.wrap .i64 (j.2.2 - 1))).bind fun af=>(bif (ae != af) then ((A8 j.1 o j.2.2).bind fun ag=>(idx j.1 j.2.1).bind fun al=>some ((j.1.set (Int.toNat j.2.1) ag),(IntKind.wrap .i64 (j.2.1+1)))) else (some (j.1,j.2.1))).bind fun aa=>some (.nx (aa.1,aa.2,(IntKind.wrap .i64 (j.2.2+1))))) else (some (.br (j.1,j.2.1,j.2.2))):Option (Fl ((List Int)×Int×Int) Empty))) N (p0,o,1)).bind fun ah=>ah.cs (fun(j: (List Int)×Int×Int)=>(qt j.1 j.2.1 (j.1.length:Int)).bind fun an=>(qt (j.1.take (Int.toNat j.2.1)++List.replicate (j.1.length - Int.toNat j.2.1) (0:Int)) 0 j.2.1).bind fun ai=>some (.rt ai)) (fun r=>r.elim)) else (some (.nx (IntKind.wrap .i64 (o+1))))) else (some (.br o)):Option (Fl (Int) (List Int)))) N 1).bind fun aj=>aj.cs (fun(o:Int)=>some p0) (fun r=>some r))
def lQ (N:Nat) (p0:aI) (p1: (List Int)) (p2:Int):Option (Bool):=
 (idx p1 p2).bind fun j=>some (decide (p0.Y1<=j))
def jT (N:Nat) (p0: (List aI)) (p1:aI->Option Bool):Option (Int):=
 (oW p0.length (fun(j:Nat) (o:Unit)=>((idx p0 (j:Int)).bind fun aa=>(p1 aa).bind fun ab=>bif ab then (some (.rt (j:Int))) else (some (.nx ())):Option (Fl (Unit) Int))) ()).bind fun ad=>ad.cs (fun(o:Unit)=>some (-1)) (fun r=>some r)
def iY (N:Nat) (p0: (List aI)) (p1:aI->Option Bool):Option (Int):=
 (oW p0.length (fun(j:Nat) (o:Unit)=>((idx p0 (j:Int)).bind fun aa=>(p1 aa).bind fun ab=>bif ab then (some (.rt (j:Int))) else (some (.nx ())):Option (Fl (Unit) Int))) ()).bind fun ad=>ad.cs (fun(o:Unit)=>some (-1)) (fun r=>some r)
def gh (N:Nat) (p0: (List aI)) (p1:aI->Option Bool):Option ((List aI)):=
 (iY N p0 p1).bind fun o=>bif (o==(-1)) then (some p0) else ((mm (fun(j: (List aI)×Int×Int)=>(bif (decide (j.2.2< (j.1.length:Int))) then ((idx j.1 j.2.2).bind fun aa=>(p1 aa).bind fun ad=>(bif (!ad) then ((idx j.1 j.2.1).bind fun ag=>some ((j.1.set (Int.toNat j.2.1) aa),(IntKind.wrap .i64 (j.2.1+1)))) else (some (j.1,j.2.1))).bind fun ab=>some (.nx (ab.1,ab.2,(IntKind.wrap .i64 (j.2.2+1))))) else (some (.br (j.1,j.2.1,j.2.2))):Option (Fl ((List aI)×Int×Int) Empty))) N (p0,o,(IntKind.wrap .i64 (o+1)))).bind fun ae=>ae.cs (fun(j: (List aI)×Int×Int)=>(qt j.1 j.2.1 (j.1.length:Int)).bind fun ah=>(qt (j.1.take (Int.toNat j.2.1)++List.replicate (j.1.length - Int.toNat j.2.1) (⟨0,0,0,0⟩:aI)) 0 j.2.1).bind fun af=>some af) (fun r=>r.elim))
def fO (N:Nat) (p0 p1:aI):Option (Int):=
 some (IntKind.wrap .i64 (p0.X0 - p1.X0))
def gY (N:Nat) (p0: (List aI)):Option ((List Int)×(List aI)):=
 (tl (fO N) p0).bind fun aa=>(jq aa.length (fun(ad:Nat) (j: (List Int))=>((idx aa (ad:Int)).bind fun o=>(bif (decide ((IntKind.wrap .i64 ((j.length:Int) - 1))>=0)) then ((idx j (IntKind.wrap .i64 ((j.length:Int) - 1))).bind fun ae=>some (decide (o.X0<=ae))) else (some false)).bind fun af=>(bif af then ((idx j (IntKind.wrap .i64 ((j.length:Int) - 1))).bind fun ab=>(idx j (IntKind.wrap .i64 ((j.length:Int) - 1))).bind fun ai=>some (j.set (Int.toNat (IntKind.wrap .i64 ((j.length:Int) - 1))) (if ab<o.X1 then o.X1 else ab))) else ((app 8 j ([o.X0,o.X1]: (List Int))).bind fun ag=>some ag)).bind fun ah=>some ah:Option ((List Int)))) ([]: (List Int))).bind fun j=>some (j,aa)
def kC (N:Nat) (p0: (List Int)) (p1: (List Int)):Option (Bool):=
 bif ((p0.length:Int) != (p1.length:Int)) then (some false) else ((oW p0.length (fun(j:Nat) (o:Unit)=>((idx p0 (j:Int)).bind fun aa=>(idx p1 (j:Int)).bind fun ab=>bif (aa != ab) then (some (.rt false)) else (some (.nx ())):Option (Fl (Unit) Bool))) ()).bind fun ad=>ad.cs (fun(o:Unit)=>some true) (fun r=>some r))
def gM (N:Nat) (p0: (List aA)) (p1:aA):Option ((List aA)):=
 bif (((p1.Xs.length:Int)==0)||(decide (p1.Y1<=p1.Y0))) then (some p0) else ((bif (decide ((IntKind.wrap .i64 ((p0.length:Int) - 1))>=0)) then ((idx p0 (IntKind.wrap .i64 ((p0.length:Int) - 1))).bind fun j=>bif (j.Y1==p1.Y0) then ((idx p0 (IntKind.wrap .i64 ((p0.length:Int) - 1))).bind fun o=>(kC N o.Xs p1.Xs).bind fun aa=>some aa) else (some false)) else (some false)).bind fun ab=>bif ab then ((idx p0 (IntKind.wrap .i64 ((p0.length:Int) - 1))).bind fun ad=>some (p0.set (Int.toNat (IntKind.wrap .i64 ((p0.length:Int) - 1))) ({ad with Y1:=p1.Y1}))) else ((app 40 p0 ([p1]: (List aA))).bind fun ae=>some ae))
def fQ (N:Nat) (p0: (List aI)):Option ((List aA)):=
 (gS N p0).bind fun ag=>(tl (iu N) ag).bind fun aa=>(jq aa.length (fun(ah:Nat) (ad: (List Int))=>((idx aa (ah:Int)).bind fun ae=>(app 8 ad ([ae.Y0,ae.Y1]: (List Int))).bind fun ai=>some ai:Option ((List Int)))) ([]: (List Int))).bind fun ad=>(qy ad).bind fun aj=>(fN N aj).bind fun ab=>(mm (fun(j: (List aA)×(List aI)×Int×Int)=>(bif (decide ((IntKind.wrap .i64 (j.2.2.2+1))< (ab.length:Int))) then ((gh N j.2.1 (fun y0=>lQ N y0 ab j.2.2.2)).bind fun ak=>(mm (fun(o: (List aI)×Int)=>((bif (decide (o.2< (aa.length:Int))) then ((idx aa o.2).bind fun al=>(idx ab j.2.2.2).bind fun an=>some (decide (al.Y0<=an))) else (some false)).bind fun ao=>bif ao then ((idx aa o.2).bind fun aq=>(app 32 o.1 ([aq]: (List aI))).bind fun ar=>some (.nx (ar,(IntKind.wrap .i64 (o.2+1))))) else (some (.br (o.1,o.2))):Option (Fl ((List aI)×Int) Empty))) N (ak,j.2.2.1)).bind fun au=>au.cs (fun(o: (List aI)×Int)=>(idx ab j.2.2.2).bind fun av=>(idx ab (IntKind.wrap .i64 (j.2.2.2+1))).bind fun aw=>(gY N o.1).bind fun af=>(gM N j.1 (⟨av,aw,af.1⟩:aA)).bind fun ax=>some (.nx (ax,af.2,o.2,(IntKind.wrap .i64 (j.2.2.2+1))))) (fun r=>r.elim)) else (some (.br (j.1,j.2.1,j.2.2.1,j.2.2.2))):Option (Fl ((List aA)×(List aI)×Int×Int) Empty))) N (([]: (List aA)),([]: (List aI)),0,0)).bind fun ay=>ay.cs (fun(j: (List aA)×(List aI)×Int×Int)=>some j.1) (fun r=>r.elim)
def gZ (N:Nat) (p0: (List aA)):Option ((List aI)):=
 (jq p0.length (fun(ab:Nat) (aa: (List aI))=>((idx p0 (ab:Int)).bind fun o=>(mm (fun(j: (List aI)×Int)=>(bif (decide (j.2< (o.Xs.length:Int))) then ((idx o.Xs j.2).bind fun ad=>(idx o.Xs (IntKind.wrap .i64 (j.2+1))).bind fun ae=>(app 32 j.1 ([(⟨ad,o.Y0,ae,o.Y1⟩:aI)]: (List aI))).bind fun af=>some (.nx (af,(IntKind.wrap .i64 (j.2+2))))) else (some (.br (j.1,j.2))):Option (Fl ((List aI)×Int) Empty))) N (aa,0)).bind fun ag=>ag.cs (fun(j: (List aI)×Int)=>some j.1) (fun r=>r.elim):Option ((List aI)))) ([]: (List aI))).bind fun aa=>some aa
def iP (N:Nat) (p0: (List aI)) (p1: (List aI)):Option (Bool):=
 bif ((p0.length:Int) != (p1.length:Int)) then (some false) else ((oW p0.length (fun(j:Nat) (o:Unit)=>((idx p0 (j:Int)).bind fun aa=>(idx p1 (j:Int)).bind fun ab=>bif (!(decide (aa=ab))) then (some (.rt false)) else (some (.nx ())):Option (Fl (Unit) Bool))) ()).bind fun ad=>ad.cs (fun(o:Unit)=>some true) (fun r=>some r))
def gj (N:Nat) (p0: (List aI)):Option (Int):=
 (jc N p0).bind fun ab=>bif (ab != 0) then (some ab) else ((mm (fun(j:Int)=>(bif (decide (j< (p0.length:Int))) then ((idx p0 (IntKind.wrap .i64 (j - 1))).bind fun o=>(idx p0 j).bind fun aa=>bif ((decide (aa.Y0<o.Y0))||((aa.Y0==o.Y0)&&(decide (aa.X0<=o.X0)))) then (some (.rt 8)) else (some (.nx (IntKind.wrap .i64 (j+1))))) else (some (.br j)):Option (Fl (Int) Int))) N 1).bind fun ad=>ad.cs (fun(j:Int)=>(fQ N p0).bind fun ae=>(gZ N ae).bind fun af=>(iP N af p0).bind fun ag=>bif (!ag) then (some 3) else (some 0)) (fun r=>some r))
def fY (N:Nat) (p0 p1 p2:Int):Option (Bool):=
 some ((decide (p0>=p1))&&(decide (p0<=p2)))
def ig (N:Nat) (p0:j6):Option (Bool):=
 ((jz N p0.X).bind fun j=>bif j then ((jz N p0.Y).bind fun o=>some o) else (some false)).bind fun aa=>some aa
def eV (N:Nat) (p0:bW):Option (aI):=
 some (⟨(IntKind.wrap .i64 (p0.At.X - (IntKind.wrap .i64 (Int.tdiv p0.eW 2)))),(IntKind.wrap .i64 (p0.At.Y - (IntKind.wrap .i64 (Int.tdiv p0.eW 2)))),(IntKind.wrap .i64 ((IntKind.wrap .i64 (p0.At.X - (IntKind.wrap .i64 (Int.tdiv p0.eW 2))))+p0.eW)),(IntKind.wrap .i64 ((IntKind.wrap .i64 (p0.At.Y - (IntKind.wrap .i64 (Int.tdiv p0.eW 2))))+p0.eW))⟩:aI)
def kD (N:Nat) (p0: (List aA)):Option (aI):=
 (idx p0 0).bind fun ad=>(idx ad.Xs 0).bind fun ae=>(idx p0 0).bind fun af=>(idx p0 0).bind fun ag=>(idx ag.Xs 1).bind fun ah=>(idx p0 (IntKind.wrap .i64 ((p0.length:Int) - 1))).bind fun ai=>(jq p0.length (fun(aj:Nat) (j:aI)=>((idx p0 (aj:Int)).bind fun o=>(idx o.Xs 0).bind fun aa=>(idx o.Xs (IntKind.wrap .i64 ((o.Xs.length:Int) - 1))).bind fun ab=>some ({{j with X0:=(if aa<j.X0 then aa else j.X0)} with X1:=(if j.X1<ab then ab else j.X1)}):Option (aI))) (⟨ae,af.Y0,ah,ai.Y1⟩:aI)).bind fun j=>some j
def kf (N:Nat) (p0: (List aA)):Option (Bool):=
 (bif ((p0.length:Int)==0) then (some true) else ((kD N p0).bind fun j=>(kB N j).bind fun o=>some o)).bind fun aa=>some aa
def jO (N:Nat) (p0:bW):Option (aI×Int):=
 ((fY N p0.eW 1 10000).bind fun o=>bif (!o) then (some true) else ((ig N p0.At).bind fun aa=>some (!aa))).bind fun ab=>bif ab then (some ((⟨0,0,0,0⟩:aI),1)) else ((eV N p0).bind fun j=>(fQ N ([j]: (List aI))).bind fun ad=>(kf N ad).bind fun ae=>bif (!ae) then (some ((⟨0,0,0,0⟩:aI),1)) else (some (j,0)))
def iQ (N:Nat) (p0:iW):Option (Int):=
 bif (decide ((p0.aL.length:Int)>500)) then (some 2) else ((oW p0.aL.length (fun(aa:Nat) (ab:Unit)=>((idx p0.aL (aa:Int)).bind fun j=>(jO N j).bind fun o=>bif (o.2 != 0) then (some (.rt o.2)) else (((fY N j.cZ 0 (IntKind.wrap .i64 ((p0.aN.length:Int) - 1))).bind fun ad=>bif (!ad) then (some true) else ((fY N j.To j.cZ (IntKind.wrap .i64 ((p0.aN.length:Int) - 1))).bind fun ae=>some (!ae))).bind fun af=>bif af then (some (.rt 1)) else (some (.nx ()))):Option (Fl (Unit) Int))) ()).bind fun ag=>ag.cs (fun(ab:Unit)=>some 0) (fun r=>some r))
def gz (N:Nat) (p0:dK) (p1:Int):Option (Int):=
 some (Lib.indexByte p0.cN (Int.toNat p1).toUInt8)
def iR (N:Nat) (p0 p1:dK):Option (Int):=
 bif (((p1.cN.length:Int)==0)||(p1.AY p0)) then (some 0) else (bif ((p1.cN.length:Int)==1) then ((CJ p1 0).bind fun j=>(gz N p0 (j.toNat:Int)).bind fun o=>some o) else (bif (decide ((p1.cN.length:Int)>=(p0.cN.length:Int))) then (some (-1)) else (none)))
def jP (N:Nat) (p0 p1:dK):Option (Int):=
 (iR N p0 p1).bind fun j=>some j
def kS (N:Nat) (p0 p1:dK):Option (Int):=
 bif ((p1.cN.length:Int)==0) then (none) else (bif ((p1.cN.length:Int)==1) then ((CJ p1 0).bind fun aa=>some ((Lib.countByte p0.cN (Int.toNat (aa.toNat:Int)).toUInt8:Nat):Int)) else ((mm (fun(j:dK×Int)=>((jP N j.1 p1).bind fun o=>bif (o==(-1)) then (some (.rt j.2)) else ((sC j.1 (IntKind.wrap .i64 (o+ (p1.cN.length:Int))) (j.1.cN.length:Int)).bind fun ab=>some (.nx (ab,(IntKind.wrap .i64 (j.2+1))))):Option (Fl (dK×Int) Int))) N (p0,0)).bind fun ad=>ad.cs (fun(j:dK×Int)=>some 0) (fun r=>some r)))
def kE (N:Nat) (p0 p1:dK) (p2 p3:Int):Option ((List dK)):=
 bif (p3==0) then (some ([]: (List dK))) else (bif (p1.AY (⟨[]⟩)) then (none) else ((bif (decide (p3<0)) then ((kS N p0 p1).bind fun ab=>some (IntKind.wrap .i64 (ab+1))) else (some p3)).bind fun o=>(mk 16 (⟨[]⟩:dK) (if (IntKind.wrap .i64 ((p0.cN.length:Int)+1))<o then (IntKind.wrap .i64 ((p0.cN.length:Int)+1)) else o)).bind fun ad=>(mm (fun(j:dK×(List dK)×Int)=>(bif (decide (j.2.2< (IntKind.wrap .i64 ((if (IntKind.wrap .i64 ((p0.cN.length:Int)+1))<o then (IntKind.wrap .i64 ((p0.cN.length:Int)+1)) else o) - 1)))) then ((jP N j.1 p1).bind fun aa=>bif (decide (aa<0)) then (some (.br (j.1,j.2.1,j.2.2))) else ((sC j.1 0 (IntKind.wrap .i64 (aa+p2))).bind fun ae=>(idx j.2.1 j.2.2).bind fun ai=>(sC j.1 (IntKind.wrap .i64 (aa+ (p1.cN.length:Int))) (j.1.cN.length:Int)).bind fun af=>some (.nx (af,(j.2.1.set (Int.toNat j.2.2) ae),(IntKind.wrap .i64 (j.2.2+1)))))) else (some (.br (j.1,j.2.1,j.2.2))):Option (Fl (dK×(List dK)×Int) Empty))) N (p0,ad,0)).bind fun ag=>ag.cs (fun(j:dK×(List dK)×Int)=>(idx j.2.1 j.2.2).bind fun aj=>(qt (j.2.1.set (Int.toNat j.2.2) j.1) 0 (IntKind.wrap .i64 (j.2.2+1))).bind fun ah=>some ah) (fun r=>r.elim)))
def kT (N:Nat) (p0 p1:dK):Option ((List dK)):=
 (kE N p0 p1 0 (-1)).bind fun j=>some j
def jd (N:Nat) (p0: (List dK)) (p1:dK->Option Bool):Option (Int):=
 (oW p0.length (fun(j:Nat) (o:Unit)=>((idx p0 (j:Int)).bind fun aa=>(p1 aa).bind fun ab=>bif ab then (some (.rt (j:Int))) else (some (.nx ())):Option (Fl (Unit) Int))) ()).bind fun ad=>ad.cs (fun(o:Unit)=>some (-1)) (fun r=>some r)
def gk (N:Nat) (p0: (List dK)) (p1:dK->Option Bool):Option (Bool):=
 (jd N p0 p1).bind fun j=>some (decide (j>=0))
def gT (N:Nat) (p0:dK) (p1:Int):Option (Int):=
 (gz N p0 p1).bind fun j=>some j
def gN (N:Nat) (p0:dK):Option (Bool):=
 (oW p0.cN.length (fun(o:Nat) (aa:Unit)=>((CJ p0 (o:Int)).bind fun j=>(bif ((((decide ((j.toNat:Int)<65))||(decide ((j.toNat:Int)>90)))&&((decide ((j.toNat:Int)<97))||(decide ((j.toNat:Int)>122))))&&((decide ((j.toNat:Int)<48))||(decide ((j.toNat:Int)>57)))) then ((gT N (⟨[95,43,45,35]⟩) (j.toNat:Int)).bind fun ab=>some (decide (ab<0))) else (some false)).bind fun ad=>bif ad then (some (.rt false)) else (some (.nx ())):Option (Fl (Unit) Bool))) ()).bind fun ae=>ae.cs (fun(aa:Unit)=>some ((decide ((p0.cN.length:Int)>=1))&&(decide ((p0.cN.length:Int)<=40)))) (fun r=>some r)
def gl (N:Nat) (p0:dK):Option (Bool):=
 (gN N p0).bind fun j=>some (!j)
def kg (N:Nat) (p0:dK):Option (Bool):=
 (bif (decide ((p0.cN.length:Int)<=200)) then ((kT N p0 (⟨[47]⟩)).bind fun j=>(gk N j (gl N)).bind fun o=>some (!o)) else (some false)).bind fun aa=>some aa
def jA (N:Nat) (p0:dL):Option (fX):=
 some (⟨p0.Part,p0.fX⟩:fX)
def jU (N:Nat) (p0 p1:dK):Option (Int):=
 some (Lib.compareBytes p0.cN p1.cN)
def ll (N:Nat) (p0 p1:dK):Option (Int):=
 (jU N p0 p1).bind fun j=>some j
def gp (N:Nat) (p0 p1:fX):Option (Int):=
 (ll N p0.Part p1.Part).bind fun j=>bif (j != 0) then (some j) else ((ll N p0.fX p1.fX).bind fun o=>some o)
def iS (N:Nat) (p0:iW):Option (Int):=
 bif (decide ((p0.bD.length:Int)>1000)) then (some 2) else ((oW p0.bD.length (fun(o:Nat) (aa:Unit)=>((idx p0.bD (o:Int)).bind fun j=>((kg N j.Part).bind fun ab=>bif (!ab) then (some true) else ((gN N j.fX).bind fun ad=>some (!ad))).bind fun ae=>bif ae then (some (.rt 5)) else (((fY N j.eQ 0 (IntKind.wrap .i64 ((p0.aN.length:Int) - 1))).bind fun af=>bif (!af) then (some true) else ((ig N j.At).bind fun ag=>some (!ag))).bind fun ah=>bif ah then (some (.rt 1)) else ((bif (decide ((o:Int)>0)) then ((idx p0.bD (IntKind.wrap .i64 ((o:Int) - 1))).bind fun ai=>(jA N j).bind fun aj=>(jA N ai).bind fun ak=>(gp N aj ak).bind fun al=>some (decide (al<=0))) else (some false)).bind fun an=>bif an then (some (.rt 8)) else (some (.nx ())))):Option (Fl (Unit) Int))) ()).bind fun ao=>ao.cs (fun(aa:Unit)=>some 0) (fun r=>some r))
def jQ (N:Nat) (p0 p1:Int) (p2 p3:Int):Option (Int):=
 some (if (if 0< (IntKind.wrap .i64 ((IntKind.wrap .i64 (p2 - p1))+1)) then (IntKind.wrap .i64 ((IntKind.wrap .i64 (p2 - p1))+1)) else 0)< (IntKind.wrap .i64 ((IntKind.wrap .i64 (p0 - p3))+1)) then (IntKind.wrap .i64 ((IntKind.wrap .i64 (p0 - p3))+1)) else (if 0< (IntKind.wrap .i64 ((IntKind.wrap .i64 (p2 - p1))+1)) then (IntKind.wrap .i64 ((IntKind.wrap .i64 (p2 - p1))+1)) else 0))
def oX (N:Nat) (p0 p1:aI):Option (Int):=
 (jQ N p0.X0 p0.X1 p1.X0 p1.X1).bind fun j=>(jQ N p0.Y0 p0.Y1 p1.Y0 p1.Y1).bind fun o=>some (if j<o then o else j)
def je (N:Nat) (p0:bW) (p1:Int):Option (Bool):=
 some ((decide (p0.cZ<=p1))&&(decide (p1<=p0.To)))
def kF (N:Nat) (p0: (List aA)) (p1 p2:Int):Option ((List Int)×Int):=
 bif ((p0.length:Int)==0) then (some (([]: (List Int)),p2)) else ((idx p0 0).bind fun aa=>bif (decide (p1<aa.Y0)) then ((idx p0 0).bind fun j=>some (([]: (List Int)),(if j.Y0<p2 then j.Y0 else p2))) else ((idx p0 0).bind fun ab=>(idx p0 0).bind fun o=>some (ab.Xs,(if o.Y1<p2 then o.Y1 else p2))))
def nN (N:Nat) (p0: (List Int)) (p1: (List Int)) (p2:Bool->Bool->Option Bool):Option ((List Int)):=
 (mm (fun(j: (List Int)×(List Int)×(List Int)×Bool×Bool×Bool)=>((bif (decide ((j.1.length:Int)>0)) then (some true) else (some (decide ((j.2.1.length:Int)>0)))).bind fun af=>bif af then ((bif ((j.2.1.length:Int)==0) then (some true) else (bif (decide ((j.1.length:Int)>0)) then ((idx j.1 0).bind fun ag=>(idx j.2.1 0).bind fun ah=>some (decide (ag<=ah))) else (some false))).bind fun ai=>(bif ai then ((idx j.1 0).bind fun aj=>some aj) else ((idx j.2.1 0).bind fun ak=>some ak)).bind fun o=>(bif (decide ((j.1.length:Int)>0)) then ((idx j.1 0).bind fun al=>some (al==o)) else (some false)).bind fun an=>(bif an then ((qt j.1 1 (j.1.length:Int)).bind fun ao=>some (ao,(!j.2.2.2.1))) else (some (j.1,j.2.2.2.1))).bind fun aa=>(bif (decide ((j.2.1.length:Int)>0)) then ((idx j.2.1 0).bind fun aq=>some (aq==o)) else (some false)).bind fun ar=>(bif ar then ((qt j.2.1 1 (j.2.1.length:Int)).bind fun au=>some (au,(!j.2.2.2.2.1))) else (some (j.2.1,j.2.2.2.2.1))).bind fun ab=>(p2 aa.2 ab.2).bind fun ad=>(bif (ad != j.2.2.2.2.2) then ((app 8 j.2.2.1 ([o]: (List Int))).bind fun av=>some (av,ad)) else (some (j.2.2.1,j.2.2.2.2.2))).bind fun ae=>some (.nx (aa.1,ab.1,ae.1,aa.2,ab.2,ae.2))) else (some (.br (j.1,j.2.1,j.2.2.1,j.2.2.2.1,j.2.2.2.2.1,j.2.2.2.2.2))):Option (Fl ((List Int)×(List Int)×(List Int)×Bool×Bool×Bool) Empty))) N (p0,p1,([]: (List Int)),false,false,false)).bind fun aw=>aw.cs (fun(j: (List Int)×(List Int)×(List Int)×Bool×Bool×Bool)=>some j.2.2.1) (fun r=>r.elim)
def mJ (N:Nat) (p0: (List aA)) (p1: (List aA)) (p2:Bool->Bool->Option Bool):Option ((List aA)):=
 bif ((IntKind.wrap .i64 ((p0.length:Int)+ (p1.length:Int)))==0) then (some ([]: (List aA))) else ((jq (([p0,p1]: (List (List aA))).length) (fun(ah:Nat) (o:Int×Int)=>((idx ([p0,p1]: (List (List aA))) (ah:Int)).bind fun ad=>(bif (decide ((ad.length:Int)>0)) then ((bif ((ah:Int)==0) then (some true) else (some ((p0.length:Int)==0))).bind fun al=>(bif al then ((idx ad 0).bind fun an=>(idx ad (IntKind.wrap .i64 ((ad.length:Int) - 1))).bind fun ao=>some (an.Y0,ao.Y1)) else (some (o.1,o.2))).bind fun ag=>(idx ad 0).bind fun ai=>(idx ad (IntKind.wrap .i64 ((ad.length:Int) - 1))).bind fun aj=>some ((if ai.Y0<ag.1 then ai.Y0 else ag.1),(if ag.2<aj.Y1 then aj.Y1 else ag.2))) else (some (o.1,o.2))).bind fun ak=>some (ak.1,ak.2):Option (Int×Int))) (0,0)).bind fun o=>(mm (fun(j: (List aA)×(List aA)×(List aA)×Int)=>(bif (decide (j.2.2.2<o.2)) then ((mm (fun(aa: (List aA))=>((bif (decide ((aa.length:Int)>0)) then ((idx aa 0).bind fun aq=>some (decide (aq.Y1<=j.2.2.2))) else (some false)).bind fun ar=>bif ar then ((qt aa 1 (aa.length:Int)).bind fun au=>some (.nx au)) else (some (.br aa)):Option (Fl ((List aA)) Empty))) N j.1).bind fun av=>av.cs (fun(aa: (List aA))=>(mm (fun(ab: (List aA))=>((bif (decide ((ab.length:Int)>0)) then ((idx ab 0).bind fun aw=>some (decide (aw.Y1<=j.2.2.2))) else (some false)).bind fun ax=>bif ax then ((qt ab 1 (ab.length:Int)).bind fun ay=>some (.nx ay)) else (some (.br ab)):Option (Fl ((List aA)) Empty))) N j.2.1).bind fun az=>az.cs (fun(ab: (List aA))=>(kF N aa j.2.2.2 o.2).bind fun ae=>(kF N ab j.2.2.2 o.2).bind fun af=>(nN N ae.1 af.1 p2).bind fun a0=>(gM N j.2.2.1 (⟨j.2.2.2,(if af.2<ae.2 then af.2 else ae.2),a0⟩:aA)).bind fun a1=>some (.nx (aa,ab,a1,(if af.2<ae.2 then af.2 else ae.2)))) (fun r=>r.elim)) (fun r=>r.elim)) else (some (.br (j.1,j.2.1,j.2.2.1,j.2.2.2))):Option (Fl ((List aA)×(List aA)×(List aA)×Int) Empty))) N (p0,p1,([]: (List aA)),o.1)).bind fun a2=>a2.cs (fun(j: (List aA)×(List aA)×(List aA)×Int)=>some j.2.2.1) (fun r=>r.elim))
def lR (N:Nat) (p0 p1:Bool):Option (Bool):=
 some (p0&&(!p1))
def jf (N:Nat) (p0: (List aA)) (p1: (List aA)):Option ((List aA)):=
 (mJ N p0 p1 (lR N)).bind fun j=>some j
def kh (N:Nat) (p0: (List aA)):Option (Int):=
 (jq p0.length (fun(o:Nat) (j:Int)=>((idx p0 (o:Int)).bind fun aa=>some (IntKind.wrap .i64 (j+ (IntKind.wrap .i64 (Int.tdiv (aa.Xs.length:Int) 2)))):Option (Int))) 0).bind fun j=>some j
def eB (N:Nat) (p0:Int) (p1_0: (List Int)):Option (Int×(List Int)):=
 (mm (fun(j:Int×(List Int))=>((idx j.2 j.1).bind fun aa=>bif (aa != j.1) then ((idx j.2 j.1).bind fun ab=>(idx j.2 ab).bind fun o=>(idx j.2 j.1).bind fun af=>(idx (j.2.set (Int.toNat j.1) o) j.1).bind fun ad=>some (.nx (ad,(j.2.set (Int.toNat j.1) o)))) else (some (.br (j.1,j.2))):Option (Fl (Int×(List Int)) Empty))) N (p0,p1_0)).bind fun ae=>ae.cs (fun(j:Int×(List Int))=>some (j.1,j.2)) (fun r=>r.elim)
def jJ (N:Nat) (p0: (List aA)):Option ((List (List aA))):=
 (gZ N p0).bind fun ab=>(mk 8 (0:Int) (ab.length:Int)).bind fun an=>(jq an.length (fun(ai:Nat) (ag: (List Int))=>((idx ag (ai:Int)).bind fun bd=>some (ag.set (Int.toNat (ai:Int)) (ai:Int)):Option ((List Int)))) an).bind fun ag=>(jq p0.length (fun(aj:Nat) (aa: (List Int)×Int×Int)=>((idx p0 (aj:Int)).bind fun ak=>(bif (decide ((aj:Int)>0)) then ((idx p0 (IntKind.wrap .i64 ((aj:Int) - 1))).bind fun ar=>some (ar.Y1==ak.Y0)) else (some false)).bind fun au=>(bif au then ((mm (fun(j: (List Int)×Int×Int)=>(bif ((decide (j.2.1<aa.2.1))&&(decide (j.2.2< (IntKind.wrap .i64 (aa.2.1+ (IntKind.wrap .i64 (Int.tdiv (ak.Xs.length:Int) 2))))))) then (((idx ab j.2.1).bind fun av=>(idx ab j.2.2).bind fun aw=>bif (decide (av.X0<aw.X1)) then ((idx ab j.2.2).bind fun ax=>(idx ab j.2.1).bind fun ay=>some (decide (ax.X0<ay.X1))) else (some false)).bind fun az=>(bif az then ((eB N j.2.1 j.1).bind fun ae=>(eB N j.2.2 ae.2).bind fun ad=>(idx ad.2 (if ae.1<ad.1 then ad.1 else ae.1)).bind fun bf=>some (ad.2.set (Int.toNat (if ae.1<ad.1 then ad.1 else ae.1)) (if ad.1<ae.1 then ad.1 else ae.1))) else (some j.1)).bind fun a0=>(idx ab j.2.1).bind fun a1=>(idx ab j.2.2).bind fun a2=>(bif (decide (a1.X1<a2.X1)) then (some ((IntKind.wrap .i64 (j.2.1+1)),j.2.2)) else (some (j.2.1,(IntKind.wrap .i64 (j.2.2+1))))).bind fun ao=>some (.nx (a0,ao.1,ao.2))) else (some (.br (j.1,j.2.1,j.2.2))):Option (Fl ((List Int)×Int×Int) Empty))) N (aa.1,aa.2.2,aa.2.1)).bind fun a3=>a3.cs (fun(j: (List Int)×Int×Int)=>some j.1) (fun r=>r.elim)) else (some aa.1)).bind fun a4=>some (a4,(IntKind.wrap .i64 (aa.2.1+ (IntKind.wrap .i64 (Int.tdiv (ak.Xs.length:Int) 2)))),aa.2.1):Option ((List Int)×Int×Int))) (ag,0,0)).bind fun aa=>(jq ab.length (fun(aq:Nat) (o: (List Int)×(List (Int×Int))×(List (List aI)))=>((idx ab (aq:Int)).bind fun a5=>(eB N (aq:Int) o.1).bind fun ah=>(bif (!(dM o.2.1 ah.1)) then ((app 24 o.2.2 [([]: (List aI))]).bind fun a6=>some ((j9 o.2.1 ah.1 (o.2.2.length:Int)),a6,(o.2.2.length:Int))) else (some (o.2.1,o.2.2,(cL o.2.1 ah.1 (0:Int))))).bind fun af=>(idx af.2.1 af.2.2).bind fun a7=>(app 32 a7 ([a5]: (List aI))).bind fun a8=>(idx af.2.1 af.2.2).bind fun bg=>some (ah.2,af.1,(af.2.1.set (Int.toNat af.2.2) a8)):Option ((List Int)×(List (Int×Int))×(List (List aI))))) (aa.1,([]: (List (Int×Int))),([]: (List (List aI))))).bind fun o=>(jq o.2.2.length (fun(a9:Nat) (al: (List (List aA)))=>((idx o.2.2 (a9:Int)).bind fun ba=>(fQ N ba).bind fun bb=>(app 24 al ([bb]: (List (List aA)))).bind fun bc=>some bc:Option ((List (List aA))))) ([]: (List (List aA)))).bind fun al=>some al
def iv (N:Nat) (p0_0: (List (List aI))) (p0_2: (List bW)) (p0_4: (List (List aA))) (p0_5: (List aH)):Option (Bool×(List (List aA))×(List aH)):=
 (jq p0_0.length (fun(aa:Nat) (j: (List (List aA))×(List aH)×Bool)=>((idx p0_0 (aa:Int)).bind fun ai=>(jq p0_2.length (fun(aj:Nat) (o: (List aI))=>((idx p0_2 (aj:Int)).bind fun af=>(je N af (aa:Int)).bind fun ak=>(bif ak then ((eV N af).bind fun al=>(app 32 o ([al]: (List aI))).bind fun an=>some an) else (some o)).bind fun ao=>some ao:Option ((List aI)))) ([]: (List aI))).bind fun o=>(fQ N ai).bind fun aq=>(fQ N o).bind fun ar=>(jf N aq ar).bind fun ab=>(bif j.2.2 then ((kh N ab).bind fun au=>some ((decide (au<=2000)),ab)) else (some (false,ab))).bind fun ad=>(app 24 j.1 ([ad.2]: (List (List aA)))).bind fun av=>(jJ N ad.2).bind fun ag=>(jq ag.length (fun(aw:Nat) (ae: (List aH))=>((idx ag (aw:Int)).bind fun ah=>(gZ N ah).bind fun ax=>(app 56 ae ([(⟨(aa:Int),ah,ax⟩:aH)]: (List aH))).bind fun ay=>some ay:Option ((List aH)))) j.2.1).bind fun ae=>some (av,ae,ad.1):Option ((List (List aA))×(List aH)×Bool))) (p0_4,p0_5,true)).bind fun j=>(bif j.2.2 then (some (decide ((j.2.1.length:Int)<=2000))) else (some false)).bind fun az=>some (az,j.1,j.2.1)
def oK (N:Nat) (p0 p1:aI):Option (Bool):=
 some ((((decide (p0.X0<p1.X1))&&(decide (p1.X0<p0.X1)))&&((p0.Y1==p1.Y0)||(p1.Y1==p0.Y0)))||(((decide (p0.Y0<p1.Y1))&&(decide (p1.Y0<p0.Y1)))&&((p0.X1==p1.X0)||(p1.X1==p0.X0))))
def iG (N:Nat) (p0:aI) (p1:bW):Option (Bool):=
 (eV N p1).bind fun j=>(oK N p0 j).bind fun o=>some o
def fJ (N:Nat) (p0: (List aI)) (p1:aI->Option Bool):Option (Bool):=
 (jT N p0 p1).bind fun j=>some (decide (j>=0))
def iw (N:Nat) (p0_2: (List bW)) (p0_5: (List aH)) (p0_6: (List (List Int))):Option ((List (List Int))):=
 (jq p0_2.length (fun(ae:Nat) (o: (List (List Int)))=>((idx p0_2 (ae:Int)).bind fun aa=>(jq p0_5.length (fun(ab:Nat) (j: (List Int))=>((idx p0_5 (ab:Int)).bind fun ad=>(bif aa.gD then ((je N aa ad.eQ).bind fun af=>bif af then ((fJ N ad.m6 (fun y0=>iG N y0 aa)).bind fun ag=>some ag) else (some false)) else (some false)).bind fun ah=>(bif ah then ((app 8 j ([(ab:Int)]: (List Int))).bind fun ai=>some ai) else (some j)).bind fun aj=>some aj:Option ((List Int)))) ([]: (List Int))).bind fun j=>(app 24 o ([j]: (List (List Int)))).bind fun ak=>some ak:Option ((List (List Int))))) p0_6).bind fun o=>some o
def ij (N:Nat) (p0:Int):Option (((List Int))):=
 (mk 8 (0:Int) p0).bind fun aa=>(jq aa.length (fun(o:Nat) (j: (List Int))=>((idx j (o:Int)).bind fun ab=>some (j.set (Int.toNat (o:Int)) (o:Int)):Option ((List Int)))) aa).bind fun j=>some j
def dI (N:Nat) (p0_0: (List Int)) (p1:Int):Option (Int×(List Int)):=
 (mm (fun(j: (List Int)×Int)=>((idx j.1 j.2).bind fun aa=>bif (aa != j.2) then ((idx j.1 j.2).bind fun ab=>(idx j.1 ab).bind fun o=>(idx j.1 j.2).bind fun af=>(idx (j.1.set (Int.toNat j.2) o) j.2).bind fun ad=>some (.nx ((j.1.set (Int.toNat j.2) o),ad))) else (some (.br (j.1,j.2))):Option (Fl ((List Int)×Int) Empty))) N (p0_0,p1)).bind fun ae=>ae.cs (fun(j: (List Int)×Int)=>some (j.2,j.1)) (fun r=>r.elim)
def eR (N:Nat) (p0_0: (List Int)) (p1 p2:Int):Option ((List Int)):=
 (dI N p0_0 p1).bind fun o=>(dI N o.2 p2).bind fun j=>(idx j.2 (if o.1<j.1 then j.1 else o.1)).bind fun aa=>some (j.2.set (Int.toNat (if o.1<j.1 then j.1 else o.1)) (if j.1<o.1 then j.1 else o.1))
def iz (N:Nat) (p0_0: (List Int)):Option ((List (List Int))×(List Int)):=
 (jq p0_0.length (fun(ab:Nat) (j: (List Int)×(List (List Int))×(List (Int×Int)))=>((dI N j.1 (ab:Int)).bind fun aa=>(bif (aa.1==(ab:Int)) then ((app 24 j.2.1 [([]: (List Int))]).bind fun ad=>some (ad,(j9 j.2.2 (ab:Int) (j.2.1.length:Int)))) else (some (j.2.1,j.2.2))).bind fun o=>(idx o.1 (cL o.2 aa.1 (0:Int))).bind fun ae=>(app 8 ae ([(ab:Int)]: (List Int))).bind fun uD=>(idx o.1 (cL o.2 aa.1 (0:Int))).bind fun af=>some (aa.2,(o.1.set (Int.toNat (cL o.2 aa.1 (0:Int))) uD),o.2):Option ((List Int)×(List (List Int))×(List (Int×Int))))) (p0_0,([]: (List (List Int))),([]: (List (Int×Int))))).bind fun j=>some (j.2.1,j.1)
def jB (N:Nat) (p0:aI) (p1:j6):Option (Bool):=
 (bif (decide (p1.X>=p0.X0)) then (bif (decide (p1.X<p0.X1)) then (bif (decide (p1.Y>=p0.Y0)) then (some (decide (p1.Y<p0.Y1))) else (some false)) else (some false)) else (some false)).bind fun j=>some j
def iL (N:Nat) (p0: (List aI)) (p1:j6):Option (Bool):=
 (fJ N p0 (fun y0=>jB N y0 p1)).bind fun j=>some j
def iA (N:Nat) (p0_2: (List bW)) (p0_5: (List aH)) (p1:dL):Option (bE×Bool):=
 (oW p0_2.length (fun(o:Nat) (ad:Unit)=>((idx p0_2 (o:Int)).bind fun j=>(bif j.gD then ((je N j p1.eQ).bind fun ae=>bif ae then ((eV N j).bind fun af=>(iL N ([af]: (List aI)) p1.At).bind fun ag=>some ag) else (some false)) else (some false)).bind fun ah=>bif ah then (some (.rt ((⟨true,(o:Int)⟩:bE),true))) else (some (.nx ())):Option (Fl (Unit) (bE×Bool)))) ()).bind fun ai=>ai.cs (fun(ad:Unit)=>(oW p0_5.length (fun(aa:Nat) (aj:Unit)=>((idx p0_5 (aa:Int)).bind fun ab=>(bif (ab.eQ==p1.eQ) then ((iL N ab.m6 p1.At).bind fun ak=>some ak) else (some false)).bind fun al=>bif al then (some (.rt ((⟨false,(aa:Int)⟩:bE),true))) else (some (.nx ())):Option (Fl (Unit) (bE×Bool)))) ()).bind fun an=>an.cs (fun(aj:Unit)=>some ((⟨false,0⟩:bE),false)) (fun r=>some r)) (fun r=>some r)
def fR (N:Nat) (p0_8: (List Int)) (p0_9: (List Int)) (p1:bE):Option (Int):=
 bif p1.bW then ((idx p0_9 p1.Number).bind fun j=>some j) else ((idx p0_8 p1.Number).bind fun o=>some o)
def eT (N:Nat) (p0_2: (List bW)) (p0_3: (List dL)) (p0_5: (List aH)) (p0_6: (List (List Int))) (p0_8: (List Int)) (p0_9: (List Int)) (p0_10: (List Int)) (p0_11: (List bE)):Option ((List cU)×(List Int)×(List Int)×(List Int)×(List bE)):=
 (ij N (IntKind.wrap .i64 ((p0_5.length:Int)+ (p0_2.length:Int)))).bind fun ar=>(jq p0_6.length (fun(ai:Nat) (af: (List Int))=>((idx p0_6 (ai:Int)).bind fun aj=>(jq aj.length (fun(au:Nat) (ag: (List Int))=>((idx aj (au:Int)).bind fun av=>(eR N ag av (IntKind.wrap .i64 ((p0_5.length:Int)+ (ai:Int)))).bind fun aw=>some aw:Option ((List Int)))) af).bind fun ag=>some ag:Option ((List Int)))) ar).bind fun af=>(mk 8 (0:Int) (p0_5.length:Int)).bind fun ax=>(mk 8 (0:Int) (p0_2.length:Int)).bind fun ay=>(iz N af).bind fun ak=>(jq ak.1.length (fun(az:Nat) (aa: (List cU)×(List Int)×(List Int))=>((idx ak.1 (az:Int)).bind fun al=>(jq al.length (fun(a0:Nat) (j: (List Int)×(List Int)×(List Int)×(List Int))=>((idx al (a0:Int)).bind fun ab=>(bif (decide (ab< (p0_5.length:Int))) then ((idx j.1 ab).bind fun bd=>(app 8 j.2.2.1 ([ab]: (List Int))).bind fun a1=>some ((j.1.set (Int.toNat ab) (aa.1.length:Int)),j.2.1,a1,j.2.2.2)) else ((idx p0_2 (IntKind.wrap .i64 (ab - (p0_5.length:Int)))).bind fun a2=>(bif a2.gD then ((idx j.2.1 (IntKind.wrap .i64 (ab - (p0_5.length:Int)))).bind fun bf=>(app 8 j.2.2.2 ([(IntKind.wrap .i64 (ab - (p0_5.length:Int)))]: (List Int))).bind fun a3=>some ((j.2.1.set (Int.toNat (IntKind.wrap .i64 (ab - (p0_5.length:Int)))) (aa.1.length:Int)),a3)) else ((idx j.2.1 (IntKind.wrap .i64 (ab - (p0_5.length:Int)))).bind fun bg=>some ((j.2.1.set (Int.toNat (IntKind.wrap .i64 (ab - (p0_5.length:Int)))) (-1)),j.2.2.2))).bind fun an=>some (j.1,an.1,j.2.2.1,an.2))).bind fun ad=>some (ad.1,ad.2.1,ad.2.2.1,ad.2.2.2):Option ((List Int)×(List Int)×(List Int)×(List Int)))) (aa.2.1,aa.2.2,([]: (List Int)),([]: (List Int)))).bind fun j=>(bif (decide ((IntKind.wrap .i64 ((j.2.2.1.length:Int)+ (j.2.2.2.length:Int)))>0)) then ((app 72 aa.1 [(⟨j.2.2.1,j.2.2.2,([]: (List fX))⟩:cU)]).bind fun a4=>some a4) else (some aa.1)).bind fun a5=>some (a5,j.1,j.2.1):Option ((List cU)×(List Int)×(List Int)))) (([]: (List cU)),ax,ay)).bind fun aa=>(jq p0_3.length (fun(a6:Nat) (o: (List cU)×(List Int)×(List Int)×(List Int)×(List bE))=>((idx p0_3 (a6:Int)).bind fun ao=>(iA N p0_2 p0_5 ao).bind fun ah=>(bif ah.2 then ((fR N o.2.1 o.2.2.1 ah.1).bind fun ae=>(idx o.1 ae).bind fun a7=>(jA N ao).bind fun a8=>(app 32 a7.iI ([a8]: (List fX))).bind fun a9=>(idx o.1 ae).bind fun ba=>some ((o.1.set (Int.toNat ae) {ba with iI:=a9}),ae)) else (some (o.1,(-1)))).bind fun aq=>(app 8 o.2.2.2.1 ([aq.2]: (List Int))).bind fun bb=>(app 16 o.2.2.2.2 ([ah.1]: (List bE))).bind fun bc=>some (aq.1,o.2.1,o.2.2.1,bb,bc):Option ((List cU)×(List Int)×(List Int)×(List Int)×(List bE)))) (aa.1,aa.2.1,aa.2.2,p0_10,p0_11)).bind fun o=>some (o.1,o.2.1,o.2.2.1,o.2.2.2.1,o.2.2.2.2)
def gu (N:Nat) (p0:iW):Option (Option ((List (List aI))×(List aI)×(List bW)×(List dL)×(List (List aA))×(List aH)×(List (List Int))×(List cU)×(List Int)×(List Int)×(List Int)×(List bE))×Int):=
 bif ((p0.aN.length:Int)==0) then (some (none,9)) else (bif (decide ((p0.aN.length:Int)>16)) then (some (none,2)) else ((oW p0.aN.length (fun(an:Nat) (aa:Int)=>((idx p0.aN (an:Int)).bind fun ae=>(gj N ae).bind fun af=>bif (af != 0) then (some (.rt (none,af))) else (some (.nx (IntKind.wrap .i64 (aa+ (ae.length:Int))))):Option (Fl (Int) (Option ((List (List aI))×(List aI)×(List bW)×(List dL)×(List (List aA))×(List aH)×(List (List Int))×(List cU)×(List Int)×(List Int)×(List Int)×(List bE))×Int)))) (p0.dH.length:Int)).bind fun ao=>ao.cs (fun(aa:Int)=>(gj N p0.dH).bind fun ag=>bif (ag != 0) then (some (none,ag)) else (bif (decide (aa>2000)) then (some (none,2)) else ((iQ N p0).bind fun ah=>bif (ah != 0) then (some (none,ah)) else ((iS N p0).bind fun ai=>bif (ai != 0) then (some (none,ai)) else ((oW p0.aL.length (fun(aj:Nat) (aq:Unit)=>((idx p0.aL (aj:Int)).bind fun ab=>(qt p0.aL 0 (aj:Int)).bind fun ak=>(oW ak.length (fun(ar:Nat) (au:Unit)=>((idx ak (ar:Int)).bind fun ad=>(bif ((decide (ab.cZ<=ad.To))&&(decide (ad.cZ<=ab.To))) then ((eV N ab).bind fun av=>(eV N ad).bind fun aw=>(oX N av aw).bind fun ax=>some (ax==0)) else (some false)).bind fun ay=>bif ay then (some (.rt (none,12))) else (some (.nx ())):Option (Fl (Unit) (Option ((List (List aI))×(List aI)×(List bW)×(List dL)×(List (List aA))×(List aH)×(List (List Int))×(List cU)×(List Int)×(List Int)×(List Int)×(List bE))×Int)))) ()).bind fun az=>az.cs (fun(au:Unit)=>some (.nx ())) (fun r=>some (.rt r)):Option (Fl (Unit) (Option ((List (List aI))×(List aI)×(List bW)×(List dL)×(List (List aA))×(List aH)×(List (List Int))×(List cU)×(List Int)×(List Int)×(List Int)×(List bE))×Int)))) ()).bind fun a0=>a0.cs (fun(aq:Unit)=>(iv N p0.aN p0.aL ([]: (List (List aA))) ([]: (List aH))).bind fun j=>bif (!j.1) then (some (none,2)) else ((iw N p0.aL j.2.2 ([]: (List (List Int)))).bind fun al=>(eT N p0.aL p0.bD j.2.2 al ([]: (List Int)) ([]: (List Int)) ([]: (List Int)) ([]: (List bE))).bind fun o=>some (some (p0.aN,p0.dH,p0.aL,p0.bD,j.2.1,j.2.2,al,o.1,o.2.1,o.2.2.1,o.2.2.2.1,o.2.2.2.2),0))) (fun r=>some r)))))) (fun r=>some r)))
def eL (N:Nat) (p0: (List dL)) (p1:fX) (p2:dL->fX->Option Int):Option (Int×Bool):=
 (mm (fun(j:Int×Int)=>(bif (decide (j.1<j.2)) then ((idx p0 (IntKind.wrap .i64 (Int.fdiv (IntKind.wrap .u64 (IntKind.wrap .i64 (j.1+j.2))) 2))).bind fun aa=>(p2 aa p1).bind fun ab=>(bif (decide (ab<0)) then (some ((IntKind.wrap .i64 ((IntKind.wrap .i64 (Int.fdiv (IntKind.wrap .u64 (IntKind.wrap .i64 (j.1+j.2))) 2))+1)),j.2)) else (some (j.1,(IntKind.wrap .i64 (Int.fdiv (IntKind.wrap .u64 (IntKind.wrap .i64 (j.1+j.2))) 2))))).bind fun o=>some (.nx (o.1,o.2))) else (some (.br (j.1,j.2))):Option (Fl (Int×Int) Empty))) N (0,(p0.length:Int))).bind fun ad=>ad.cs (fun(j:Int×Int)=>(bif (decide (j.1< (p0.length:Int))) then ((idx p0 j.1).bind fun ae=>(p2 ae p1).bind fun af=>some (af==0)) else (some false)).bind fun ag=>some (j.1,ag)) (fun r=>r.elim)
def gE (N:Nat) (p0:dL) (p1:fX):Option (Int):=
 (jA N p0).bind fun j=>(gp N j p1).bind fun o=>some o
def gL (N:Nat) (p0:iW) (p1:fX):Option (Int):=
 (eL N p0.bD p1 (gE N)).bind fun j=>bif (!j.2) then (some (-1)) else (some j.1)
def fE (N:Nat) (p0_0: (List (List aI))) (p0_1: (List aI)) (p0_2: (List bW)) (p0_3: (List dL)) (p0_10: (List Int)) (p0_11: (List bE)) (p1 p2:fX):Option (bE×bE×Bool×Int):=
 (gL N (⟨p0_0,p0_1,p0_2,p0_3⟩:iW) p1).bind fun j=>(gL N (⟨p0_0,p0_1,p0_2,p0_3⟩:iW) p2).bind fun o=>bif ((decide (j<0))||(decide (o<0))) then (some ((⟨false,0⟩:bE),(⟨false,0⟩:bE),false,9)) else (((idx p0_11 j).bind fun ab=>(idx p0_11 o).bind fun ad=>(idx p0_10 j).bind fun ae=>bif (decide (ae>=0)) then ((idx p0_10 o).bind fun af=>some (ab,ad,(decide (af>=0)))) else (some (ab,ad,false))).bind fun aa=>some (aa.1,aa.2.1,aa.2.2,0))
def kU (N:Nat) (p0:Int):Option (Bool):=
 some (p0 != p0)
def lS (N:Nat) (p0 p1:Int):Option (Bool):=
 ((kU N p0).bind fun j=>bif j then ((kU N p1).bind fun o=>some ((!o)||(decide (p0<p1)))) else (some (decide (p0<p1)))).bind fun aa=>some aa
def jg (N:Nat) (p0:Int):Option (Bool):=
 some (p0 != p0)
def fS (N:Nat) (p0: (List Int)) (p1:Int):Option (Int×Bool):=
 (mm (fun(j:Int×Int)=>(bif (decide (j.1<j.2)) then ((idx p0 (IntKind.wrap .i64 (Int.fdiv (IntKind.wrap .u64 (IntKind.wrap .i64 (j.1+j.2))) 2))).bind fun aa=>(lS N aa p1).bind fun ab=>(bif ab then (some ((IntKind.wrap .i64 ((IntKind.wrap .i64 (Int.fdiv (IntKind.wrap .u64 (IntKind.wrap .i64 (j.1+j.2))) 2))+1)),j.2)) else (some (j.1,(IntKind.wrap .i64 (Int.fdiv (IntKind.wrap .u64 (IntKind.wrap .i64 (j.1+j.2))) 2))))).bind fun o=>some (.nx (o.1,o.2))) else (some (.br (j.1,j.2))):Option (Fl (Int×Int) Empty))) N (0,(p0.length:Int))).bind fun ad=>ad.cs (fun(j:Int×Int)=>(bif (decide (j.1< (p0.length:Int))) then ((idx p0 j.1).bind fun ae=>bif (ae==p1) then (some true) else ((idx p0 j.1).bind fun af=>(jg N af).bind fun ag=>bif ag then ((jg N p1).bind fun ah=>some ah) else (some false))) else (some false)).bind fun ai=>some (j.1,ai)) (fun r=>r.elim)
def fF (N:Nat) (p0_6: (List (List Int))) (p1:bE):Option ((List bE)):=
 bif p1.bW then ((idx p0_6 p1.Number).bind fun aa=>(jq aa.length (fun(ad:Nat) (o: (List bE))=>((idx aa (ad:Int)).bind fun ae=>(app 16 o ([(⟨false,ae⟩:bE)]: (List bE))).bind fun af=>some af:Option ((List bE)))) ([]: (List bE))).bind fun o=>some o) else ((jq p0_6.length (fun(ab:Nat) (j: (List bE))=>((idx p0_6 (ab:Int)).bind fun ag=>(fS N ag p1.Number).bind fun ah=>(bif ah.2 then ((app 16 j ([(⟨true,(ab:Int)⟩:bE)]: (List bE))).bind fun ai=>some ai) else (some j)).bind fun aj=>some aj:Option ((List bE)))) ([]: (List bE))).bind fun j=>some j)
def iT (N:Nat) (p0_6: (List (List Int))) (p1:bE):Option ((List (bE×Int))):=
 (mm (fun(o: (List (bE×Int))×(List bE))=>(bif (decide ((o.2.length:Int)>0)) then ((idx o.2 0).bind fun ae=>(fF N p0_6 ae).bind fun ab=>(jq ab.length (fun(af:Nat) (j: (List (bE×Int))×(List bE))=>((idx ab (af:Int)).bind fun aa=>(bif (!(dM j.1 aa)) then (some true) else (some false)).bind fun ag=>(bif ag then ((idx j.2 0).bind fun ah=>(app 16 j.2 ([aa]: (List bE))).bind fun ai=>some ((j9 j.1 aa (IntKind.wrap .i64 ((cL j.1 ah (0:Int))+1))),ai)) else (some (j.1,j.2))).bind fun ad=>some (ad.1,ad.2):Option ((List (bE×Int))×(List bE)))) (o.1,o.2)).bind fun j=>(qt j.2 1 (j.2.length:Int)).bind fun aj=>some (.nx (j.1,aj))) else (some (.br (o.1,o.2))):Option (Fl ((List (bE×Int))×(List bE)) Empty))) N ((j9 ([]: (List (bE×Int))) p1 0),([p1]: (List bE)))).bind fun ak=>ak.cs (fun(o: (List (bE×Int))×(List bE))=>some o.1) (fun r=>r.elim)
def gF (N:Nat) (p0_6: (List (List Int))) (p1 p2:bE):Option ((List bE)×Bool):=
 (iT N p0_6 p2).bind fun aa=>bif (!(dM aa p1)) then (some (([]: (List bE)),false)) else ((mm (fun(j: (List bE)×bE)=>(bif (!(decide (j.2=p2))) then ((fF N p0_6 j.2).bind fun ad=>(oW ad.length (fun(ae:Nat) (o:bE)=>((idx ad (ae:Int)).bind fun ab=>(bif (dM aa ab) then (some ((cL aa ab (0:Int))==(IntKind.wrap .i64 ((cL aa o (0:Int)) - 1)))) else (some false)).bind fun af=>bif af then (some (.br ab)) else (some (.nx o)):Option (Fl (bE) Empty))) j.2).bind fun ag=>ag.cs (fun(o:bE)=>(app 16 j.1 ([o]: (List bE))).bind fun ah=>some (.nx (ah,o))) (fun r=>r.elim)) else (some (.br (j.1,j.2))):Option (Fl ((List bE)×bE) Empty))) N (([p1]: (List bE)),p1)).bind fun ai=>ai.cs (fun(j: (List bE)×bE)=>some (j.1,true)) (fun r=>r.elim))
def iZ (N:Nat) (p0:iW) (p1 p2:fX):Option ((List bE)×Bool×Int):=
 (gu N p0).bind fun o=>B3 o.1 (bif (o.2 != 0) then (some (([]: (List bE)),false,o.2)) else (none)) (fun(j: ((List (List aI))×(List aI)×(List bW)×(List dL)×(List (List aA))×(List aH)×(List (List Int))×(List cU)×(List Int)×(List Int)×(List Int)×(List bE)))=>bif (o.2 != 0) then (some (([]: (List bE)),false,o.2)) else ((fE N j.1 j.2.1 j.2.2.1 j.2.2.2.1 j.2.2.2.2.2.2.2.2.2.2.1 j.2.2.2.2.2.2.2.2.2.2.2 p1 p2).bind fun aa=>bif ((aa.2.2.2 != 0)||(!aa.2.2.1)) then (some (([]: (List bE)),false,aa.2.2.2)) else ((gF N j.2.2.2.2.2.2.1 aa.1 aa.2.1).bind fun ab=>some (ab.1,ab.2,0))))
def lT (N:Nat) (p0: (List aI)):Option (Int):=
 (jq p0.length (fun(aa:Nat) (o:Int)=>((idx p0 (aa:Int)).bind fun j=>some (IntKind.wrap .i64 (o+ (IntKind.wrap .i64 ((IntKind.wrap .i64 (j.X1 - j.X0))* (IntKind.wrap .i64 (j.Y1 - j.Y0)))))):Option (Int))) 0).bind fun o=>some o
def nO (N:Nat) (p0: (List aI)):Option (Int×Int):=
 (gj N p0).bind fun j=>bif (j != 0) then (some (0,j)) else ((lT N p0).bind fun o=>some (o,0))
def gG (N:Nat):Option (Bool):=
 (nO N ([(⟨0,0,2,3⟩:aI)]: (List aI))).bind fun j=>some ((j.2==0)&&(j.1==6))
def kG (N:Nat) (p0_6: (List (List Int))) (p1 p2:bE):Option ((List (bE×Int))):=
 (mm (fun(o: (List (bE×Int))×(List bE))=>(bif (decide ((o.2.length:Int)>0)) then ((idx o.2 0).bind fun ae=>(fF N p0_6 ae).bind fun ab=>(jq ab.length (fun(af:Nat) (j: (List (bE×Int))×(List bE))=>((idx ab (af:Int)).bind fun aa=>(bif (!(dM j.1 aa)) then (some (!(decide (aa=p2)))) else (some false)).bind fun ag=>(bif ag then ((idx j.2 0).bind fun ah=>(app 16 j.2 ([aa]: (List bE))).bind fun ai=>some ((j9 j.1 aa (IntKind.wrap .i64 ((cL j.1 ah (0:Int))+1))),ai)) else (some (j.1,j.2))).bind fun ad=>some (ad.1,ad.2):Option ((List (bE×Int))×(List bE)))) (o.1,o.2)).bind fun j=>(qt j.2 1 (j.2.length:Int)).bind fun aj=>some (.nx (j.1,aj))) else (some (.br (o.1,o.2))):Option (Fl ((List (bE×Int))×(List bE)) Empty))) N ((j9 ([]: (List (bE×Int))) p1 0),([p1]: (List bE)))).bind fun ak=>ak.cs (fun(o: (List (bE×Int))×(List bE))=>some o.1) (fun r=>r.elim)
def eD (N:Nat) (p0:iW) (p1 p2:fX):Option ((List bE)×Int):=
 (gu N p0).bind fun aa=>B3 aa.1 (bif (aa.2 != 0) then (some (([]: (List bE)),aa.2)) else (none)) (fun(o: ((List (List aI))×(List aI)×(List bW)×(List dL)×(List (List aA))×(List aH)×(List (List Int))×(List cU)×(List Int)×(List Int)×(List Int)×(List bE)))=>bif (aa.2 != 0) then (some (([]: (List bE)),aa.2)) else ((fE N o.1 o.2.1 o.2.2.1 o.2.2.2.1 o.2.2.2.2.2.2.2.2.2.2.1 o.2.2.2.2.2.2.2.2.2.2.2 p1 p2).bind fun j=>bif (j.2.2.2 != 0) then (some (([]: (List bE)),j.2.2.2)) else ((bif j.2.2.1 then ((gF N o.2.2.2.2.2.2.1 j.1 j.2.1).bind fun af=>some (af.1,af.2)) else (some (([]: (List bE)),false))).bind fun ae=>bif (!ae.2) then (some (([]: (List bE)),9)) else ((jq ae.1.length (fun(ag:Nat) (ab: (List bE))=>((idx ae.1 (ag:Int)).bind fun ad=>(kG N o.2.2.2.2.2.2.1 j.2.1 ad).bind fun ah=>(bif (decide (ad=j.1)) then (some true) else (some ((decide (ad=j.2.1))||(!(dM ah j.1))))).bind fun ai=>(bif ai then ((app 16 ab ([ad]: (List bE))).bind fun aj=>some aj) else (some ab)).bind fun ak=>some ak:Option ((List bE)))) ([]: (List bE))).bind fun ab=>some (ab,0)))))
def lU (N:Nat) (p0 p1 p2:Int):Option (Bool):=
 some ((decide (p0>=p1))&&(decide (p0<=p2)))
def fA (N:Nat) (p0:Int) (p1h_5: (List aH)):Option (Bool):=
 (lU N p0 0 (IntKind.wrap .i64 ((p1h_5.length:Int) - 1))).bind fun j=>some j
def lV (N:Nat) (p0: (List fM)) (p1:fM):Option (Int):=
 (oW p0.length (fun(j:Nat) (o:Unit)=>((idx p0 (j:Int)).bind fun aa=>bif (decide (p1=aa)) then (some (.rt (j:Int))) else (some (.nx ())):Option (Fl (Unit) Int))) ()).bind fun ab=>ab.cs (fun(o:Unit)=>some (-1)) (fun r=>some r)
def gO (N:Nat) (p0: (List fM)) (p1:fM):Option (Bool):=
 (lV N p0 p1).bind fun j=>some (decide (j>=0))
def jh (N:Nat) (p0_0: (List (List aI))) (p0_1: (List aI)) (p0_2: (List bW)) (p0_3: (List dL)) (p0_4: (List (List aA))) (p0_5: (List aH)) (p0_6: (List (List Int))) (p0_7: (List cU)) (p0_8: (List Int)) (p0_9: (List Int)) (p0_10: (List Int)) (p0_11: (List bE)) (p1: (List fM)):Option (Int):=
 bif (decide ((p1.length:Int)>20)) then (some 2) else ((oW p1.length (fun(o:Nat) (aa:Unit)=>((idx p1 (o:Int)).bind fun j=>(bif (j.Open&&((j.A != 0)||(j.B != 0))) then (some true) else (bif (!j.Open) then (some (!(decide (j.bE= (⟨false,0⟩:bE))))) else (some false))).bind fun ab=>bif ab then (some (.rt 3)) else (((fA N j.A p0_5).bind fun ad=>bif ad then ((fA N j.B p0_5).bind fun ae=>some ae) else (some false)).bind fun af=>(bif j.Open then ((fA N j.bE.Number p0_5).bind fun ag=>some ag) else (some af)).bind fun ah=>(bif (j.Open&&j.bE.bW) then (((lU N j.bE.Number 0 (IntKind.wrap .i64 ((p0_2.length:Int) - 1))).bind fun ai=>bif ai then ((idx p0_2 j.bE.Number).bind fun aj=>some aj.gD) else (some false)).bind fun ak=>some ak) else (some ah)).bind fun al=>bif (!al) then (some (.rt 9)) else (bif ((!j.Open)&&(decide (j.B<=j.A))) then (some (.rt 8)) else ((qt p1 0 (o:Int)).bind fun an=>(gO N an j).bind fun ao=>bif ao then (some (.rt 7)) else (some (.nx ()))))):Option (Fl (Unit) Int))) ()).bind fun aq=>aq.cs (fun(aa:Unit)=>some 0) (fun r=>some r))
def fT (N:Nat) (p0:bE) (p1:Int):Option (Int):=
 bif p0.bW then (some (IntKind.wrap .i64 (p1+p0.Number))) else (some p0.Number)
def ik (N:Nat) (p0 p1:Int) (p2_0: (List (Int×Bool))) (p3h_0: (List Int)):Option ((List Int)):=
 (bif (!(cL p2_0 p0 (false:Bool))) then (some (!(cL p2_0 p1 (false:Bool)))) else (some false)).bind fun j=>(bif j then ((eR N p3h_0 p0 p1).bind fun o=>some o) else (some p3h_0)).bind fun aa=>some aa
def fZ (N:Nat) (p0_2: (List bW)) (p0_3: (List dL)) (p0_5: (List aH)) (p0_6: (List (List Int))) (p0_10: (List Int)) (p0_11: (List bE)) (p1: (List fM)):Option ((List Int)):=
 (jq p1.length (fun(aq:Nat) (aa: (List (Int×Bool)))=>((idx p1 (aq:Int)).bind fun aj=>(bif aj.Open then ((fT N aj.bE (p0_5.length:Int)).bind fun ar=>some (j9 aa ar true)) else (some aa)).bind fun au=>some au:Option ((List (Int×Bool))))) ([]: (List (Int×Bool)))).bind fun aa=>(ij N (IntKind.wrap .i64 ((p0_5.length:Int)+ (p0_2.length:Int)))).bind fun av=>(jq p0_6.length (fun(ak:Nat) (ae: (List Int))=>((idx p0_6 (ak:Int)).bind fun al=>(jq al.length (fun(aw:Nat) (af: (List Int))=>((idx al (aw:Int)).bind fun ax=>(ik N ax (IntKind.wrap .i64 ((p0_5.length:Int)+ (ak:Int))) aa af).bind fun ay=>some ay:Option ((List Int)))) ae).bind fun af=>some af:Option ((List Int)))) av).bind fun ae=>(jq p1.length (fun(az:Nat) (ab: (List Int))=>((idx p1 (az:Int)).bind fun ag=>(bif (!ag.Open) then ((ik N ag.A ag.B aa ab).bind fun a0=>some a0) else (some ab)).bind fun a1=>some a1:Option ((List Int)))) ae).bind fun ab=>(mk 8 (0:Int) (p0_3.length:Int)).bind fun a2=>(jq p0_11.length (fun(o:Nat) (j: (List Int)×(List (Int×Int))×(List Int))=>((idx p0_11 (o:Int)).bind fun a3=>(fT N a3 (p0_5.length:Int)).bind fun ad=>((idx p0_10 (o:Int)).bind fun a4=>bif (decide (a4<0)) then (some true) else (some (cL aa ad (false:Bool)))).bind fun a5=>bif a5 then ((idx j.2.2 (o:Int)).bind fun a6=>some (j.1,j.2.1,(j.2.2.set (Int.toNat (o:Int)) (-1)))) else ((dI N j.1 ad).bind fun ah=>(bif (!(dM j.2.1 ah.1)) then ((dI N ah.2 ad).bind fun an=>some (an.2,(j9 j.2.1 an.1 (o:Int)))) else (some (ah.2,j.2.1))).bind fun ai=>(dI N ai.1 ad).bind fun ao=>(idx j.2.2 (o:Int)).bind fun a7=>some (ao.2,ai.2,(j.2.2.set (Int.toNat (o:Int)) (cL ai.2 ao.1 (0:Int))))):Option ((List Int)×(List (Int×Int))×(List Int)))) (ab,([]: (List (Int×Int))),a2)).bind fun j=>some j.2.2
def g8 (N:Nat) (p0:iW) (p1: (List fM)) (p2 p3:fX):Option (Bool×Int):=
 (gu N p0).bind fun o=>B3 o.1 (bif (o.2 != 0) then (some (false,o.2)) else (none)) (fun(j: ((List (List aI))×(List aI)×(List bW)×(List dL)×(List (List aA))×(List aH)×(List (List Int))×(List cU)×(List Int)×(List Int)×(List Int)×(List bE)))=>bif (o.2 != 0) then (some (false,o.2)) else ((jh N j.1 j.2.1 j.2.2.1 j.2.2.2.1 j.2.2.2.2.1 j.2.2.2.2.2.1 j.2.2.2.2.2.2.1 j.2.2.2.2.2.2.2.1 j.2.2.2.2.2.2.2.2.1 j.2.2.2.2.2.2.2.2.2.1 j.2.2.2.2.2.2.2.2.2.2.1 j.2.2.2.2.2.2.2.2.2.2.2 p1).bind fun ad=>bif (ad != 0) then (some (false,ad)) else ((gL N p0 p2).bind fun aa=>(gL N p0 p3).bind fun ae=>bif ((decide (aa<0))||(decide (ae<0))) then (some (false,9)) else ((fZ N j.2.2.1 j.2.2.2.1 j.2.2.2.2.2.1 j.2.2.2.2.2.2.1 j.2.2.2.2.2.2.2.2.2.2.1 j.2.2.2.2.2.2.2.2.2.2.2 p1).bind fun ab=>((idx ab aa).bind fun af=>bif (decide (af>=0)) then ((idx ab aa).bind fun ag=>(idx ab ae).bind fun ah=>some (ag==ah)) else (some false)).bind fun ai=>some (ai,0)))))
def kH (N:Nat) (p0: (List bE)) (p1:bE):Option (Int):=
 (oW p0.length (fun(j:Nat) (o:Unit)=>((idx p0 (j:Int)).bind fun aa=>bif (decide (p1=aa)) then (some (.rt (j:Int))) else (some (.nx ())):Option (Fl (Unit) Int))) ()).bind fun ab=>ab.cs (fun(o:Unit)=>some (-1)) (fun r=>some r)
def gq (N:Nat) (p0: (List bE)) (p1:bE):Option (Bool):=
 (kH N p0 p1).bind fun j=>some (decide (j>=0))
def cO (N:Nat) (p0:iW) (p1 p2:fX):Option (Bool):=
 (iZ N p0 p1 p2).bind fun j=>bif ((j.2.2 != 0)||(!j.2.1)) then ((bif ((j.1.length:Int)==0) then ((gG N).bind fun af=>some af) else (some false)).bind fun ag=>some ag) else ((eD N p0 p1 p2).bind fun aa=>bif (aa.2 != 0) then (some false) else ((oW j.1.length (fun(ah:Nat) (o: (List bE))=>((idx j.1 (ah:Int)).bind fun ab=>(g8 N p0 ([(⟨true,ab,0,0⟩:fM)]: (List fM)) p1 p2).bind fun ad=>(bif (ad.2 != 0) then (some true) else ((gq N o ab).bind fun ai=>some (ad.1==ai))).bind fun aj=>bif aj then (some (.rt false)) else (some (.nx o)):Option (Fl ((List bE)) Bool))) aa.1).bind fun ak=>ak.cs (fun(o: (List bE))=>(g8 N p0 ([]: (List fM)) p1 p2).bind fun ae=>(bif ((ae.2==0)&&ae.1) then ((gG N).bind fun al=>some al) else (some false)).bind fun an=>some an) (fun r=>some r)))
end
end Go.Gk
namespace Go.Gk
open Go
def qH {R:Type} (m:Nat) (e:Nat->Option R):Option R:=(List.range m).findSome? e
theorem kJ {R:Type} {m:Nat} {e:Nat->Option R}:qH m e=none↔∀k,k<m->e k=none:=by
 simp [qH]
theorem mx {R:Type} {m:Nat} {e:Nat->Option R} {r:R}:qH m e=some r↔∃k,k<m/\e k=some r/\∀j,j<k->e j=none:=by
 constructor
 ·intro h
  obtain⟨l1,a,l2,hl,ha,hn⟩:=List.findSome?_eq_some_iff.1 h
  have hlen:l1.length<m:=by have:=congrArg List.length hl;simp at this;omega
  have hget: ∀i,i<l1.length->l1[i]? =some i:=fun i hi=>by
   have:=congrArg (·[i]?) hl
   simp only [eX hi,List.getElem?_range (show i<m by omega)] at this
   exact this.symm
  have hat:a=l1.length:=by
   have:=congrArg (·[l1.length]?) hl
   simp [List.getElem?_range hlen] at this
   exact this.symm
  refine⟨a,by omega,ha,fun j hj=>hn j ?_⟩
  exact fz (hget j (by omega))
 ·rintro⟨k,hk,he,hn⟩
  refine List.findSome?_eq_some_iff.2 ⟨List.range k,k,(List.range (m - k - 1)).map (· + (k+1)),?_,he,fun x hx=>hn x (lI.1 hx)⟩
  refine List.ext_getElem? fun i=>?_
  by_cases h1:i<k
  ·rw [eX (by simpa using h1),List.getElem?_range (by omega),List.getElem?_range h1]
  ·rw [eY (by simpa using h1),List.length_range]
   by_cases h2:i=k
   ·subst h2;simp [List.getElem?_range hk]
   ·obtain⟨d,rfl⟩: ∃d,i=k+1+d:=⟨i - (k+1),by omega⟩
    rw [show k+1+d - k=d+1 by omega,List.getElem?_cons_succ,eJ]
    by_cases h3:k+1+d<m
    ·rw [List.getElem?_range h3,List.getElem?_range (by omega)];simp;omega
    ·rw [List.getElem?_eq_none (by simp;omega),List.getElem?_eq_none (by simp;omega)];rfl
section
variable {S R:Type}
def C7 (o:Option R) (s:S):Fl S R:=match o with | some r=> .rt r | none=> .nx s
def Bm (o:Option R) (s:S):Fo S R:=match o with | some r=> .rt r | none=> .go s
theorem Ae {body:Nat->S->Option (Fl S R)} (F:Nat->S) (e:Nat->Option R) (m:Nat): ∀(n k:Nat),k+n=m->
  (∀j,k<=j->j<m->(∀i,k<=i->i<j->e i=none)->body j (F j)=some (C7 (e j) (F (j+1))))->
  ∃o,yo body n k (F k)=some o/\((∀j,k<=j->j<m->e j=none)/\o = .go (F m)\/∃j r,k<=j/\j<m/\e j=some r/\(∀i,k<=i->i<j->e i=none)/\o = .rt r)
 | 0,k,hk,_=>⟨_,rfl, .inl ⟨fun j h1 h2=>by omega,by rw [show k=m by omega]⟩⟩
 | n+1,k,hk,h=>by
  have hb:=h k (bI _) (by omega) (fun i h1 h2=>by omega)
  unfold yo
  rw [hb]
  cases hx:e k with
  | some r=>exact⟨_,rfl, .inr ⟨k,r,bI _,by omega,hx,fun i h1 h2=>by omega,rfl⟩⟩
  | none=>
   obtain⟨o,ho,hc⟩:=Ae F e m n (k+1) (by omega) (fun j h1 h2 h3=>h j (by omega) h2 fun i h4 h5=>by
    by_cases h6:i=k
    ·subst h6;exact hx
    ·exact h3 i (by omega) h5)
   refine⟨o,ho,?_⟩
   rcases hc with ⟨h1,h2⟩ | ⟨j,r,h1,h2,h3,h4,h5⟩
   ·refine .inl ⟨fun j h3 h4=>?_,h2⟩
    by_cases h6:j=k
    ·subst h6;exact hx
    ·exact h1 j (by omega) h4
   ·refine .inr ⟨j,r,by omega,h2,h3,fun i h6 h7=>?_,h5⟩
    by_cases h8:i=k
    ·subst h8;exact hx
    ·exact h4 i (by omega) h7
theorem FH {body:Nat->S->Option (Fl S R)} {m:Nat} {s:S} (F:Nat->S) (e:Nat->Option R) (hm:m<=4611686018427387904) (hs:F 0=s)
  (h: ∀k,k<m->(∀i,i<k->e i=none)->body k (F k)=some (C7 (e k) (F (k+1)))):oW m body s=some (Bm (qH m e) (F m)):=by
 subst hs
 unfold oW
 rw [aD hm]
 obtain⟨o,ho,hc⟩:=Ae F e m m 0 (by omega) (fun j _ h2 h3=>h j h2 fun i hi=>h3 i (nk _) hi)
 rw [ho]
 rcases hc with ⟨h1,h2⟩ | ⟨j,r,_,h2,h3,h4,h5⟩
 ·rw [kJ.2 fun k hk=>h1 k (nk _) hk,h2];rfl
 ·rw [mx.2 ⟨j,h2,h3,fun i hi=>h4 i (nk _) hi⟩,h5];rfl
theorem nR {body:Nat->Unit->Option (Fl Unit R)} {m:Nat} (e:Nat->Option R) (hm:m<=4611686018427387904)
  (h: ∀k,k<m->(∀i,i<k->e i=none)->body k ()=some (C7 (e k) ())):oW m body ()=some (Bm (qH m e) ()):=
 FH (fun _=>()) e hm rfl h
theorem Af {body:Nat->S->Option S} (F:Nat->S): ∀(n k:Nat),(∀j,k<=j->j<k+n->body j (F j)=some (F (j+1)))->A0 body n k (F k)=some (F (k+n))
 | 0,_,_=>rfl
 | n+1,k,h=>by
  unfold A0
  rw [h k (bI _) (by omega)]
  have:=Af F n (k+1) (fun j h1 h2=>h j (by omega) (by omega))
  rw [show k+ (n+1)=k+1+n by omega]
  exact this
theorem FI {body:Nat->S->Option S} {m:Nat} {s:S} (F:Nat->S) (hm:m<=4611686018427387904) (hs:F 0=s)
  (h: ∀k,k<m->body k (F k)=some (F (k+1))):jq m body s=some (F m):=by
 subst hs
 unfold jq
 rw [aD hm]
 have:=Af F m 0 (fun j _ h2=>h j (by omega))
 rwa [ga] at this
theorem tG {body:S->Option (Fl S R)} (Inv:S->Prop) (μ:S->Nat) (Go:S->Prop) (Rt:R->Prop)
  (h: ∀s,Inv s->∃fl,body s=some fl/\match fl with | .nx s'=>Inv s'/\μ s'<μ s | .br s'=>Go s' | .rt r=>Rt r):
  ∀(N:Nat) (s:S),Inv s->μ s<N->∃o,mm body N s=some o/\match o with | .go s'=>Go s' | .rt r=>Rt r
 | 0,s,_,hn=>by omega
 | N+1,s,hi,hn=>by
  obtain⟨fl,hb,hf⟩:=h s hi
  unfold mm
  rw [hb]
  cases fl with
  | nx s'=>exact tG Inv μ Go Rt h N s' hf.1 (by have:=hf.2;omega)
  | br s'=>exact⟨_,rfl,hf⟩
  | rt r=>exact⟨_,rfl,hf⟩
theorem Ag {body:Nat->S->Option (Fl S R)} (Inv:Nat->S->Prop) (Go:S->Prop) (Rt:R->Prop) (m:Nat)
  (h: ∀k s,k<m->Inv k s->∃fl,body k s=some fl/\match fl with | .nx s'=>Inv (k+1) s' | .br s'=>Go s' | .rt r=>Rt r) (hg: ∀s,Inv m s->Go s):
  ∀(n k:Nat) (s:S),k+n=m->Inv k s->∃o,yo body n k s=some o/\match o with | .go s'=>Go s' | .rt r=>Rt r
 | 0,k,s,hk,hi=>⟨_,rfl,hg s (by rw [<-hk];exact hi)⟩
 | n+1,k,s,hk,hi=>by
  obtain⟨fl,hb,hf⟩:=h k s (by omega) hi
  unfold yo
  rw [hb]
  cases fl with
  | nx s'=>exact Ag Inv Go Rt m h hg n (k+1) s' (by omega) hf
  | br s'=>exact⟨_,rfl,hf⟩
  | rt r=>exact⟨_,rfl,hf⟩
theorem FJ {body:Nat->S->Option (Fl S R)} {m:Nat} {s:S} (Inv:Nat->S->Prop) (Go:S->Prop) (Rt:R->Prop) (hm:m<=4611686018427387904) (h0:Inv 0 s)
  (h: ∀k s,k<m->Inv k s->∃fl,body k s=some fl/\match fl with | .nx s'=>Inv (k+1) s' | .br s'=>Go s' | .rt r=>Rt r) (hg: ∀s,Inv m s->Go s):
  ∃o,oW m body s=some o/\match o with | .go s'=>Go s' | .rt r=>Rt r:=by
 unfold oW
 rw [aD hm]
 exact Ag Inv Go Rt m h hg m 0 s (by omega) h0
theorem Ah {body:Nat->S->Option S} (Inv:Nat->S->Prop) (m:Nat) (h: ∀k s,k<m->Inv k s->∃s',body k s=some s'/\Inv (k+1) s'):
  ∀(n k:Nat) (s:S),k+n=m->Inv k s->∃s',A0 body n k s=some s'/\Inv m s'
 | 0,k,s,hk,hi=>⟨_,rfl,by rw [<-hk];exact hi⟩
 | n+1,k,s,hk,hi=>by
  obtain⟨s',hb,hf⟩:=h k s (by omega) hi
  unfold A0
  rw [hb]
  exact Ah Inv m h n (k+1) s' (by omega) hf
theorem vR {body:Nat->S->Option S} {m:Nat} {s:S} (Inv:Nat->S->Prop) (hm:m<=4611686018427387904) (h0:Inv 0 s)
  (h: ∀k s,k<m->Inv k s->∃s',body k s=some s'/\Inv (k+1) s'): ∃s',jq m body s=some s'/\Inv m s':=by
 unfold jq
 rw [aD hm]
 exact Ah Inv m h m 0 s (by omega) h0
end
section
variable {α β:Type}
theorem aB (x:α) (f:α->Option β): (some x).bind f=f x:=rfl
theorem i9 (l:List α) (k:Nat) (h:k<l.length):idx l ((k:Nat):Int)=some l[k]:=by
 unfold idx;rw [aD (by omega),bO,aK h]
theorem eU {l:List α} {k:Nat} {x:α} (h:l[k]? =some x):idx l ((k:Nat):Int)=some x:=by
 unfold idx;rw [aD (by omega),bO,h]
theorem Ei (s:dK) (k:Nat) (h:k<s.cN.length):CJ s ((k:Nat):Int)=some s.cN[k]:=by
 unfold CJ;rw [aD (by omega),bO,aK h]
theorem lA {k:Nat} (h:0<k) (hk:k<=4611686018427387904):IntKind.wrap .i64 (((k:Nat):Int) - 1)= ((k - 1:Nat):Int):=by
 rw [eP (by omega) (by omega)];omega
theorem tH (l:List α) (k:Nat) (h:k<=l.length):qt l 0 ((k:Nat):Int)=some (l.take k):=by
 unfold qt;rw [aD ⟨by omega,by omega,by omega⟩]
 simp only [Int.toNat_zero,List.drop_zero,Int.sub_zero,bO]
theorem qI (l:List α) (k:Nat) (h:k<=l.length):qt l ((k:Nat):Int) ((l.length:Nat):Int)=some (l.drop k):=by
 unfold qt;rw [aD ⟨by omega,by omega,by omega⟩]
 simp only [bO,Option.some.injEq]
 rw [oy];rw [fB];omega
theorem g9 {b:Nat} {l ys:List α} (h: (l.length+ys.length)*b<=140737488355328):app b l ys=some (l++ys):=by unfold app;rw [aD h]
theorem rB {b:Nat} (z:α) {n:Nat} (h:n*b<=140737488355328):mk b z ((n:Nat):Int)=some (List.replicate n z):=by
 unfold mk
 have e: ((n:Nat):Int)* ((b:Nat):Int)= ((n*b:Nat):Int):=(Int.natCast_mul n b).symm
 rw [e]
 generalize n*b=q at h ⊢
 rw [aD ⟨by omega,by omega⟩,bO]
end
theorem dK.ext' {a b:dK} (h:a.cN=b.cN):a=b:=by cases a;cases b;simp at h;rw [h]
theorem FK {a b:dK}:a.AY b=true↔a=b:=by
 unfold dK.AY;rw [beq_iff_eq];exact⟨dK.ext',fun h=>by rw [h]⟩
theorem vt: ∀(a:List UInt8),Op.bytesLess a a=false
 | []=>rfl
 | a::l=>by
  unfold Op.bytesLess
  rw [vt l];simp
theorem wx: ∀{a b c:List UInt8},Op.bytesLess a b=true->Op.bytesLess b c=true->Op.bytesLess a c=true
 | [],[],_,h,_=>by simp [Op.bytesLess] at h
 | [],_::_,[],_,h=>by simp [Op.bytesLess] at h
 | [],_::_,_::_,_,_=>rfl
 | _::_,[],_,h,_=>by simp [Op.bytesLess] at h
 | _::_,_::_,[],_,h=>by simp [Op.bytesLess] at h
 | a::l,b::m,c::n,h1,h2=>by
  unfold Op.bytesLess at h1 h2 ⊢
  simp only [dP,bV,bT,beq_iff_eq] at h1 h2 ⊢
  rcases h1 with h1 | ⟨rfl,h1⟩
  ·rcases h2 with h2 | ⟨rfl,h2⟩
   ·exact .inl (UInt8.lt_trans h1 h2)
   ·exact .inl h1
  ·rcases h2 with h2 | ⟨rfl,h2⟩
   ·exact .inl h2
   ·exact .inr ⟨rfl,wx h1 h2⟩
theorem wy: ∀(a b:List UInt8),Op.bytesLess a b=true\/a=b\/Op.bytesLess b a=true
 | [],[]=> .inr (.inl rfl)
 | [],_::_=> .inl rfl
 | _::_,[]=> .inr (.inr rfl)
 | a::l,b::m=>by
  unfold Op.bytesLess
  simp only [dP,bV,bT,beq_iff_eq]
  by_cases h1:a<b
  ·exact .inl (.inl h1)
  ·by_cases h2:b<a
   ·exact .inr (.inr (.inl h2))
   ·have e:a=b:=by
     simp only [UInt8.lt_iff_toNat_lt] at h1 h2
     exact UInt8.toNat_inj.1 (by omega)
    subst e
    rcases wy l m with h | h | h
    ·exact .inl (.inr ⟨rfl,h⟩)
    ·exact .inr (.inl (by rw [h]))
    ·exact .inr (.inr (.inr ⟨rfl,h⟩))
theorem sJ: ∀(a b:List UInt8),Lib.compareBytes a b<0↔Op.bytesLess a b=true
 | [],[]=>by simp [Lib.compareBytes,Op.bytesLess]
 | [],_::_=>by simp [Lib.compareBytes,Op.bytesLess]
 | _::_,[]=>by simp [Lib.compareBytes,Op.bytesLess]
 | a::l,b::m=>by
  unfold Lib.compareBytes Op.bytesLess
  simp only [dP,bV,bT,beq_iff_eq]
  split
  ·simp_all
  ·rename_i h1
   split
   ·rename_i h2
    have h3:a≠b:=fun e=>by subst e;exact h1 h2
    simp [h1,h3]
   ·rename_i h2
    have e:a=b:=by
     simp only [UInt8.lt_iff_toNat_lt] at h1 h2
     exact UInt8.toNat_inj.1 (by omega)
    subst e
    rw [sJ l m];simp [h1]
theorem sK: ∀(a b:List UInt8),Lib.compareBytes a b=0↔a=b
 | [],[]=>by simp [Lib.compareBytes]
 | [],_::_=>by simp [Lib.compareBytes]
 | _::_,[]=>by simp [Lib.compareBytes]
 | a::l,b::m=>by
  unfold Lib.compareBytes
  split
  ·rename_i h1
   have h3:a≠b:=fun e=>by subst e;exact absurd h1 (by simp)
   simp [h3]
  ·rename_i h1
   split
   ·rename_i h2
    have h3:a≠b:=fun e=>by subst e;exact h1 h2
    simp [h3]
   ·rename_i h2
    have e:a=b:=by
     simp only [UInt8.lt_iff_toNat_lt] at h1 h2
     exact UInt8.toNat_inj.1 (by omega)
    subst e
    rw [sK l m];simp
def dK.lt (a b:dK):Prop:=a.Gt b=true
theorem dK.lt_irrefl (a:dK): ¬dK.lt a a:=by unfold dK.lt dK.Gt;rw [vt];decide
theorem dK.lt_trans {a b c:dK} (h1:dK.lt a b) (h2:dK.lt b c):dK.lt a c:=wx h1 h2
theorem dK.Ai (a b:dK):dK.lt a b\/a=b\/dK.lt b a:=by
 rcases wy a.cN b.cN with h | h | h
 ·exact .inl h
 ·exact .inr (.inl (dK.ext' h))
 ·exact .inr (.inr h)
theorem dK.Gl {a b:dK} (h:dK.lt a b):a≠b:=fun e=>by subst e;exact dK.lt_irrefl a h
end Go.Gk
namespace Go.Gk
open Go
class Bk (α:Type) where
 bk:α->Nat
 pos: ∀x,1<=bk x
def bk {α:Type} [Bk α] (x:α):Nat:=Bk.bk x
theorem Ej {α:Type} [Bk α] (x:α):1<=bk x:=Bk.pos x
instance:Bk dK:=⟨fun s=>s.cN.length+1,fun _=>by omega⟩
instance:Bk Int:=⟨fun _=>1,fun _=>by omega⟩
instance:Bk Bool:=⟨fun _=>1,fun _=>by omega⟩
instance {α:Type} [Bk α]:Bk (List α):=⟨fun l=>(l.map bk).sum+1,fun _=>by omega⟩
theorem Ek {α:Type} [Bk α]:bk ([]:List α)=1:=rfl
theorem yT {α:Type} [Bk α] (x:α) (l:List α):bk (x::l)=bk x+bk l:=by
 show (List.map bk (x::l)).sum+1=bk x+ ((List.map bk l).sum+1)
 simp;omega
theorem Bn {α:Type} [Bk α]: ∀{l:List α} {x:α},x∈l->bk x+1<=bk l
 | y::l,x,h=>by
  rw [yT]
  rcases eZ.1 h with h | h
  ·subst h;have:=Ej l;omega
  ·have:=Bn h;omega
theorem uS {α:Type} [Bk α]: ∀(l:List α),l.length+1<=bk l
 | []=>by rw [Ek];simp
 | x::l=>by rw [yT,f0];have:=uS l;have:=Ej x;omega
theorem El (s:dK):bk s=s.cN.length+1:=rfl
section
variable {α R:Type}
theorem C8 {l:List α} {e:Nat->Option R} (f:α->Option R) (h: ∀k x,l[k]? =some x->e k=f x):qH l.length e=l.findSome? f:=by
 cases hx:qH l.length e with
 | none=>
  refine(List.findSome?_eq_none_iff.2 fun x hm=>?_).symm
  obtain⟨k,hk⟩:=eO hm
  rw [<-h k x hk];exact kJ.1 hx k (aY.1 hk).1
 | some r=>
  obtain⟨k,hk,he,hn⟩:=mx.1 hx
  refine(List.findSome?_eq_some_iff.2 ⟨l.take k,l[k],l.drop (k+1),?_,?_,fun y hy=>?_⟩).symm
  ·rw [<-pD hk,List.take_append_drop]
  ·rw [<-h k l[k] (aK hk)];exact he
  ·obtain⟨j,hj⟩:=eO hy
   have hjk:j<k:=by have:=(aY.1 hj).1;rw [dA] at this;omega
   rw [List.getElem?_take_of_lt hjk] at hj
   rw [<-h j y hj];exact hn j hjk
theorem yU (l:List α) (p:α->Bool) (r:R):l.findSome? (fun x=>if p x=true then some r else none)=if l.any p=true then some r else none:=by
 induction l with
 | nil=>simp
 | cons x l ih=>
  rw [List.findSome?_cons,List.any_cons]
  cases h:p x <;> simp [ih]
theorem wz {l:List α} {body:Nat->Unit->Option (Fl Unit R)} (f:α->Option R) (hl:l.length<=4611686018427387904)
  (h: ∀k x,l[k]? =some x->body k ()=some (C7 (f x) ())):oW l.length body ()=some (Bm (l.findSome? f) ()):=by
 have h2:=nR (body:=body) (m:=l.length) (fun k=>(l[k]?).bind f) hl (fun k hk _=>by
  rw [h k l[k] (aK hk),aK hk];rfl)
 rw [h2,C8 f (fun k x hx=>by rw [hx];rfl)]
theorem FL {l:List α} {body:Nat->Unit->Option (Fl Unit R)} (p:α->Bool) (r:R) (hl:l.length<=4611686018427387904)
  (h: ∀k x,l[k]? =some x->body k ()=some (if p x=true then .rt r else .nx ())):oW l.length body ()=some (if l.any p=true then .rt r else .go ()):=by
 rw [wz (fun x=>if p x=true then some r else none) hl (fun k x hx=>by rw [h k x hx];cases p x <;> rfl),yU]
 cases l.any p <;> rfl
end
theorem FM {β:Type} (b:Bool) (x y:β): (bif b then some x else some y)=some (bif b then x else y):=by cases b <;> rfl
section
variable {α β:Type}
def Ch (l:List α) (p:α->Bool):Int:=match l.findIdx? p with | some k=>((k:Nat):Int) | none=> -1
theorem Em {l:List α} {p:α->Bool} (h:l.any p=false):Ch l p = -1:=by
 unfold Ch
 rw [List.findIdx?_eq_none_iff.2]
 intro x hx
 rw [<-nj]
 intro hp
 rw [<-nj] at h
 exact h (ky.2 ⟨x,hx,hp⟩)
theorem En {l:List α} {p:α->Bool} {k:Nat} {x:α} (hk:l[k]? =some x) (hp:p x=true) (hn: ∀j y,j<k->l[j]? =some y->p y=false):Ch l p= ((k:Nat):Int):=by
 unfold Ch
 have hlt:=(aY.1 hk).1
 have:l.findIdx? p=some k:=by
  rw [List.findIdx?_eq_some_iff_getElem]
  refine⟨hlt,?_,fun j hj=>?_⟩
  ·have:=aK hlt;rw [hk] at this;injection this with this;rw [<-this];exact hp
  ·have:=hn j l[j] hj (aK (by omega));simpa using this
 rw [this]
theorem rC (l:List α) (p:α->Bool): (Ch l p = -1/\∀x∈l,p x=false)\/∃k x,Ch l p= ((k:Nat):Int)/\l[k]? =some x/\p x=true/\∀j y,j<k->l[j]? =some y->p y=false:=by
 unfold Ch
 cases h:l.findIdx? p with
 | none=>exact .inl ⟨rfl,fun x hx=>by have:=List.findIdx?_eq_none_iff.1 h x hx;simpa using this⟩
 | some k=>
  obtain⟨hk,hp,hn⟩:=List.findIdx?_eq_some_iff_getElem.1 h
  refine .inr ⟨k,l[k],rfl,aK hk,hp,fun j y hj hy=>?_⟩
  have:=hn j hj
  rw [aK (by omega)] at hy
  injection hy with hy
  subst hy;simpa using this
theorem Eo (l:List α) (p:α->Bool):decide (Ch l p>=0)=l.any p:=by
 rcases rC l p with ⟨h,hn⟩ | ⟨k,x,h,hx,hp,_⟩
 ·rw [h,List.any_eq_false.2 (fun x hx=>by rw [hn x hx];decide)];decide
 ·rw [h,ky.2 ⟨x,fz hx,hp⟩];simp
def pQ (p0:List α) (p1:α->Option Bool):Option Int:=
 (oW p0.length (fun(k1:Nat) (_:Unit)=>((idx p0 ((k1:Nat):Int)).bind fun x7=>(p1 x7).bind fun x10=>bif x10 then (some (.rt ((k1:Nat):Int))) else (some (.nx ())):Option (Fl (Unit) Int))) ()).bind fun o11=>o11.cs (fun(_:Unit)=>some (-1)) (fun r=>some r)
theorem oL {l:List α} {φ:α->Option Bool} (p:α->Bool) (hl:l.length<=4611686018427387904) (h: ∀x∈l,φ x=some (p x)):pQ l φ=some (Ch l p):=by
 unfold pQ
 rw [nR (fun k=>(l[k]?).bind fun x=>if p x=true then some ((k:Nat):Int) else none) hl (fun k hk _=>by
  rw [i9 l k hk,aB,h _ (cM hk),aB,aK hk]
  cases hp:p l[k] <;> simp [C7,hp]),aB]
 rcases rC l p with ⟨h1,h2⟩ | ⟨k,x,h1,h2,h3,h4⟩
 ·rw [kJ.2 (fun k hk=>by rw [aK hk];simp [h2 _ (cM hk)])]
  simp [Bm,Fo.cs,h1]
 ·rw [(mx (r:=((k:Nat):Int))).2 ⟨k,(aY.1 h2).1,by rw [h2];simp [h3],fun j hj=>by
   cases hy:l[j]? with
   | none=>rfl
   | some y=>simp [h4 j y hj hy]⟩]
  simp [Bm,Fo.cs,h1]
def oM (p0:List α) (p1:α->Option Bool):Option Bool:=
 (pQ p0 p1).bind fun x1=>some (decide (x1>=0))
theorem o6 {l:List α} {φ:α->Option Bool} (p:α->Bool) (hl:l.length<=4611686018427387904) (h: ∀x∈l,φ x=some (p x)):oM l φ=some (l.any p):=by
 unfold oM
 rw [oL p hl h,aB,Eo]
def Bo [DecidableEq α] (p0:List α) (p1:α):Option Int:=
 (oW p0.length (fun(k2:Nat) (_:Unit)=>((idx p0 ((k2:Nat):Int)).bind fun x12=>bif (decide (p1=x12)) then (some (.rt ((k2:Nat):Int))) else (some (.nx ())):Option (Fl (Unit) Int))) ()).bind fun o18=>o18.cs (fun(_:Unit)=>some (-1)) (fun r=>some r)
theorem C9 [DecidableEq α] {l:List α} {a:α} (hl:l.length<=4611686018427387904):Bo l a=some (Ch l (fun x=>decide (a=x))):=by
 have:=oL (l:=l) (φ:=fun x=>some (decide (a=x))) (fun x=>decide (a=x)) hl (fun _ _=>rfl)
 rw [<-this];rfl
def o7 [DecidableEq α] (p0:List α) (p1:α):Option Bool:=(Bo p0 p1).bind fun x3=>some (decide (x3>=0))
theorem tI [DecidableEq α] {l:List α} {a:α} (hl:l.length<=4611686018427387904):o7 l a=some (decide (a∈l)):=by
 unfold o7
 rw [C9 hl,aB,Eo,Option.some.injEq,fD]
 simp
def Bp [DecidableEq α] (p0 p1:List α):Option Bool:=
 bif (((p0.length:Nat):Int) != ((p1.length:Nat):Int)) then (some false) else ((oW p0.length (fun(k1:Nat) (_:Unit)=>((idx p0 ((k1:Nat):Int)).bind fun x13=>(idx p1 ((k1:Nat):Int)).bind fun x16=>bif (!(decide (x13=x16))) then (some (.rt false)) else (some (.nx ())):Option (Fl (Unit) Bool))) ()).bind fun o23=>o23.cs (fun(_:Unit)=>some true) (fun r=>some r))
theorem x6 [DecidableEq α] {l m:List α} (hl:l.length<=4611686018427387904):Bp l m=some (decide (l=m)):=by
 unfold Bp
 by_cases h:l.length=m.length
 ·have e: (((l.length:Nat):Int) != ((m.length:Nat):Int))=false:=by rw [h];simp
  rw [e,aV]
  rw [nR (fun k=>if l[k]? =m[k]? then none else some false) hl (fun k hk _=>by
   rw [i9 l k hk,aB,i9 m k (by omega),aB,aK hk,aK (by omega:k<m.length)]
   by_cases hx:l[k]=m[k] <;> simp [C7,hx]),aB]
  by_cases hx:l=m
  ·subst hx;rw [kJ.2 (fun k _=>aD rfl)];simp [Bm,Fo.cs]
  ·have: ∃r,qH l.length (fun k=>if l[k]? =m[k]? then none else some false)=some r:=by
    cases hf:qH l.length (fun k=>if l[k]? =m[k]? then none else some false) with
    | some r=>exact⟨r,rfl⟩
    | none=>
     exfalso;refine hx (List.ext_getElem? fun i=>?_)
     by_cases hi:i<l.length
     ·have:=kJ.1 hf i hi
      by_cases h6:l[i]? =m[i]?
      ·exact h6
      ·rw [aC h6] at this;cases this
     ·rw [List.getElem?_eq_none (by omega),List.getElem?_eq_none (by omega)]
   obtain⟨r,hr⟩:=this
   have hr2:r=false:=by
    obtain⟨k,_,hk,_⟩:=mx.1 hr
    split at hk
    ·cases hk
    ·injection hk with hk;exact hk.symm
   rw [hr,hr2];simp [Bm,Fo.cs,hx]
 ·have e: (((l.length:Nat):Int) != ((m.length:Nat):Int))=true:=by simp;omega
  rw [e,aS,bG (fun h'=>h (by rw [h']))]
def Sorted (key:α->dK) (l:List α):Prop:=∀(i j:Nat) (x y:α),i<j->l[i]? =some x->l[j]? =some y->dK.lt (key x) (key y)
theorem Sorted.inj {key:α->dK} {l:List α} (h:Sorted key l) {i j:Nat} {x y:α} (hx:l[i]? =some x) (hy:l[j]? =some y) (e:key x=key y):i=j:=by
 rcases Nat.lt_trichotomy i j with h1 | h1 | h1
 ·exact absurd e (dK.Gl (h i j x y h1 hx hy))
 ·exact h1
 ·exact absurd e.symm (dK.Gl (h j i y x h1 hy hx))
def Ep (N:Nat) (p0:List α) (p1:β) (p2:α->β->Option Int):Option (Int×Bool):=
 (mm (fun(s2:Int×Int)=>(bif (decide (s2.1<s2.2)) then ((idx p0 (IntKind.wrap .i64 (Int.fdiv (IntKind.wrap .u64 (IntKind.wrap .i64 (s2.1+s2.2))) 2))).bind fun x13=>(p2 x13 p1).bind fun x16=>(bif (decide (x16<0)) then (some ((IntKind.wrap .i64 ((IntKind.wrap .i64 (Int.fdiv (IntKind.wrap .u64 (IntKind.wrap .i64 (s2.1+s2.2))) 2))+1)),s2.2)) else (some (s2.1,(IntKind.wrap .i64 (Int.fdiv (IntKind.wrap .u64 (IntKind.wrap .i64 (s2.1+s2.2))) 2))))).bind fun s17=>some (.nx (s17.1,s17.2))) else (some (.br (s2.1,s2.2))):Option (Fl (Int×Int) Empty))) N (0,((p0.length:Nat):Int))).bind fun o29=>o29.cs (fun(s2:Int×Int)=>(bif (decide (s2.1< ((p0.length:Nat):Int))) then ((idx p0 s2.1).bind fun x25=>(p2 x25 p1).bind fun x28=>some (x28==0)) else (some false)).bind fun s23=>some (s2.1,s23)) (fun r=>r.elim)
theorem x8 {a b:Nat} (h:a<b) (hb:b<=4611686018427387904):IntKind.wrap .i64 (Int.fdiv (IntKind.wrap .u64 (IntKind.wrap .i64 (((a:Nat):Int)+ ((b:Nat):Int)))) 2)= (((a+b) / 2:Nat):Int):=by
 rw [eP (x:=((a:Nat):Int)+ ((b:Nat):Int)) (by omega) (by omega)]
 have e:IntKind.wrap .u64 (((a:Nat):Int)+ ((b:Nat):Int))= ((a+b:Nat):Int):=by
  show ((a:Int)+b) % 18446744073709551616=_
  omega
 rw [e,Int.fdiv_eq_ediv_of_nonneg _ (by omega),eP (by omega) (by omega)]
 omega
end
end Go.Gk
namespace Go.Gk
open Go Go.ChangeShapes Go.WideShapes Go.RowKit
structure UB (ub: (H:Type)->DataW H->Nat) (ua: (H:Type)->List (DataW H)->Nat):Prop where
 str: ∀(H:Type) (b:List UInt8),ub H (.lit (.string b))=b.length+1
 pos: ∀(H:Type) (d:DataW H),1<=ub H d
 sl: ∀(H:Type) (e s:List (DataW H)),ub H (.slice e s)=ua H e+ua H s+1
 ag: ∀(H:Type) (l:List (DataW H)),ub H (.agg l)=ua H l+1
 nil: ∀(H:Type),ua H []=0
 cons: ∀(H:Type) (x:DataW H) (l:List (DataW H)),ua H (x::l)=ub H x+ua H l
def Hw (w:World):dJ:=fun b=>w.heap[b]?
structure jk (ub: (H:Type)->DataW H->Nat) (P:Program) (T:TypeId) (α:Type) [GT α] [Bk α]:Prop where
 trod: ∀{H:Type} {enc:TypeId×Value->H} {w:World} {base:Nat} {spare:Nat->Bool} {held:Bool} {fuel:Nat} {cs:List Value} {d:DataW H×List MemPlace},
  DataW.trod enc P w base spare held fuel T cs=some d->∃x:α,GT.ok (Hw w) cs x/\bk x<=ub H d.1
 Iq: ∀{w:World} {r:Reach} {base:Nat} {v:Value},Value.okWide P w r base T v->v=rn α v.cells.toList
section
variable {ub: (H:Type)->DataW H->Nat} {ua: (H:Type)->List (DataW H)->Nat} {P:Program} {T e:TypeId}
theorem Da (u:UB ub ua) (ht:P.underlying T=some (.int .i64)):jk ub P T Int where
 trod:=fun h=>by
  obtain⟨n,rfl,rfl,_⟩:=DataW.trod_int ht h
  exact⟨n,rfl,u.pos _ _⟩
 Iq:=fun h=>by obtain⟨n,rfl⟩:=okWide_int ht h;rfl
theorem Bq (u:UB ub ua) (ht:P.underlying T=some .bool):jk ub P T Bool where
 trod:=fun h=>by
  obtain⟨n,rfl,rfl⟩:=DataW.trod_bool ht h
  exact⟨n,rfl,u.pos _ _⟩
 Iq:=fun h=>by obtain⟨n,rfl⟩:=okWide_bool ht h;rfl
theorem Db (u:UB ub ua) (ht:P.underlying T=some .string):jk ub P T dK where
 trod:=fun h=>by
  obtain⟨s,rfl,rfl,_⟩:=DataW.trod_string ht h
  refine⟨⟨s.data.toList⟩,?_,?_⟩
  ·show [Value.string s]= [Gk.str ⟨s.data.toList⟩]
   cases s;rfl
  ·rw [u.str];exact bI _
 Iq:=fun h=>by obtain⟨n,rfl⟩:=okWide_string ht h;rfl
theorem vu {α:Type} {R:Nat->α->Prop}: ∀(n:Nat),(∀i,i<n->∃x,R i x)->∃l:List α,l.length=n/\∀i x,l[i]? =some x->R i x
 | 0,_=>⟨[],rfl,fun i x h=>by simp at h⟩
 | n+1,h=>by
  obtain⟨l,h1,h2⟩:=vu n (fun i hi=>h i (by omega))
  obtain⟨x,hx⟩:=h n (by omega)
  refine⟨l++[x],by simp [h1],fun i y hy=>?_⟩
  by_cases hi:i<n
  ·rw [eX (by omega)] at hy;exact h2 i y hy
  ·have:=(aY.1 hy).1
   rw [dR] at this
   have:i=n:=by simp at this;omega
   subst this
   rw [eY (by omega),h1] at hy
   simp at hy;subst hy;exact hx
theorem x9 {H α:Type} [Bk α] (u:UB ub ua): ∀{l:List α} {es:List (DataW H×List MemPlace)},l.length=es.length->
  (∀(i:Nat) (x:α) (y:DataW H×List MemPlace),l[i]? =some x->es[i]? =some y->bk x<=ub H y.1)->bk l<=ua H (es.map (·.1))+1
 | [],[],_,_=>by rw [Ek];omega
 | x::l,y::es,hl,h=>by
  have h1:=h 0 x y rfl rfl
  have h2:=x9 (H:=H) u (l:=l) (es:=es) (by simpa using hl) (fun i x y hx hy=>h (i+1) x y (by simpa using hx) (by simpa using hy))
  rw [yT,dG,u.cons];omega
theorem Aj {w:World} {base:Nat} {a:Addr} {n:Nat} {cs:List Value} (h:w.cells? base a n=some cs):At (Hw w) a cs:=by
 intro j v hv
 obtain⟨_,hlen,hc⟩:=World.cells?_some h
 have hj:=(aY.1 hv).1
 have h2:=hc j (by omega)
 rw [hv] at h2
 unfold te Hw
 unfold World.cell? at h2
 exact h2
theorem pR {α:Type} [GT α] [Bk α] (u:UB ub ua) (he:jk ub P e α) (ht:P.underlying T=some (.slice e):=by kernel_rfl) (hc:P.cellsOf e=GT.sz α:=by kernel_rfl):jk ub P T (List α) where
 trod:=fun{H enc w base spare held fuel cs d} h=>by
  rcases DataW.trod_slice ht h with ⟨rfl,rfl⟩ | ⟨a,len,cap,elems,rest,n,_,rfl,rfl,_,hlc,hcm,hlen,hel,_⟩
  ·exact⟨[],⟨_,rfl,none,0,0,rfl,rfl,bI _,by simp [maxLen],fun i x hx=>by simp at hx⟩,u.pos _ _⟩
  ·have each: ∀i,i<len->∃x:α,(∃c y,GT.ok (Hw w) c x/\At (Hw w) (a.add (i*GT.sz α)) c/\elems[i]? =some y/\bk x<=ub H y.1):=by
    intro i hi
    have h1:=hel i hi
    rw [aK (by omega:i<elems.length),Option.bind_eq_some_iff] at h1
    obtain⟨c,h2,h3⟩:=h1
    obtain⟨x,h4,h5⟩:=he.trod h3
    refine⟨x,c,_,h4,?_,aK (by omega),h5⟩
    rw [hc] at h2
    exact Aj h2
   obtain⟨l,hl,hr⟩:=vu len each
   refine⟨l,⟨_,rfl,some a,len,cap,rfl,hl.symm,hlc,hcm,fun i x hx=>?_⟩,?_⟩
   ·obtain⟨c,y,h1,h2,_⟩:=hr i x hx
    exact⟨a,c,rfl,h1,h2⟩
   ·have:=x9 (H:=H) u (l:=l) (es:=elems) (by omega) (fun i x y hx hy=>by
     obtain⟨c,y',_,_,h3,h4⟩:=hr i x hx
     rw [hy] at h3;injection h3 with h3;subst h3;exact h4)
    rw [u.sl];omega
 Iq:=fun h=>by obtain⟨a,n,c,rfl⟩:=okWide_slice ht h;rfl
def Ci (ub: (H:Type)->DataW H->Nat) (ua: (H:Type)->List (DataW H)->Nat) (P:Program) (off:Nat) (fs:List Field) (β:Type) [GT β] (m:β->Nat):Prop:=
 ∀{H:Type} {enc:TypeId×Value->H} {w:World} {base:Nat} {spare:Nat->Bool} {held:Bool} {n:Nat} {cs:List Value} {ys:List (DataW H×List MemPlace)},
  (∀(i:Nat) (f:Field),fs[i]? =some f->DataW.trod enc P w base spare held n f.type ((cs.drop f.offset).take (P.cellsOf f.type))=ys[i]?)->ys.length=fs.length->
  cs.length=off+GT.sz β->∃x:β,GT.ok (Hw w) (cs.drop off) x/\m x<=ua H (ys.map (·.1))
theorem nI {β:Type} [GT β] [Bk β] {off:Nat} {f:Field} (u:UB ub ua) (h:jk ub P f.type β) (ho:f.offset=off:=by exact rfl) (hc:P.cellsOf f.type=GT.sz β:=by kernel_rfl):Ci ub ua P off [f] β bk:=by
 intro H enc w base spare held n cs ys hf hl hcs
 match ys,hl with
 | [y],_=>
  have h1:=hf 0 f rfl
  rw [ho,hc,oy (by rw [fB];omega)] at h1
  obtain⟨x,h2,h3⟩:=h.trod (d:=y) h1
  exact⟨x,h2,by rw [dG,u.cons];omega⟩
theorem fP {α β:Type} [GT α] [GT β] [Bk α] {off off':Nat} {f:Field} {fs:List Field} {m:β->Nat} (u:UB ub ua) (h:jk ub P f.type α) (hr:Ci ub ua P off' fs β m) (ho:f.offset=off:=by exact rfl) (hc:P.cellsOf f.type=GT.sz α:=by kernel_rfl) (hoff:off'=off+GT.sz α:=by exact rfl):Ci ub ua P off (f::fs) (α×β) (fun x=>bk x.1+m x.2):=by
 intro H enc w base spare held n cs ys hf hl hcs
 have hsz:GT.sz (α×β)=GT.sz α+GT.sz β:=rfl
 match ys,hl with
 | y::ys,hl=>
  have h1:=hf 0 f rfl
  rw [ho,hc] at h1
  obtain⟨x,h2,h3⟩:=h.trod (d:=y) h1
  obtain⟨x',h4,h5⟩:=hr (n:=n) (cs:=cs) (ys:=ys) (fun i g hg=>hf (i+1) g hg) (by simpa using hl) (by omega)
  refine⟨(x,x'),⟨_,_,?_,h2,h4⟩,?_⟩
  ·rw [hoff,<-List.drop_drop,List.take_append_drop]
  ·rw [dG,u.cons];show bk x+m x'<=_;omega
theorem kK {γ β:Type} [GT β] [Bk γ] {fs:Array Field} {m:β->Nat} (u:UB ub ua) (f:γ->β) (g:β->γ) (hfg: ∀b,f (g b)=b) (ht:P.underlying T=some (.struct fs)) (h:Ci ub ua P 0 fs.toList β m) (hm: ∀b,bk (g b)<=m b+1) (hc:P.cellsOf T=GT.sz β:=by kernel_rfl): @jk ub P T γ (GT.via f) _:=
 @jk.mk ub P T γ (GT.via f) _
  (fun{H enc w base spare held fuel cs d} hd=>by
   obtain⟨xs,n,_,rfl,hl,hlen,hf⟩:=DataW.trod_struct ht hd
   obtain⟨b,h1,h2⟩:=h (n:=n) (cs:=cs) (ys:=xs) (fun i g hg=>hf i g (by rw [<-Array.getElem?_toList];exact hg)) (by rw [hlen];simp) (by omega)
   refine⟨g b,?_,?_⟩
   ·show GT.ok (Hw w) cs (f (g b))
    rw [hfg];exact h1
   ·rw [u.ag];have:=hm b;omega)
  (fun hv=>by
   obtain⟨cs,rfl,_⟩:=okWide_struct ht hv
   cases cs;rfl)
theorem jk.arg {H:Type} {enc:TypeId×Value->H} {w:World} {base:Nat} {spare:Nat->Bool} {held:Bool} {r:Reach} {b0:Nat} {v:Value} {d:DataW H} {ps:List MemPlace} {α:Type} [GT α] [Bk α] (o:jk ub P T α)
  (hv:Value.okWide P w r b0 T v) (hd:DataW.Trod enc P w base spare held T v d ps): ∃x:α,sA (Hw w) v x/\bk x<=ub H d:=by
 obtain⟨fuel,hf⟩:=hd
 obtain⟨x,h1,h2⟩:=o.trod hf
 exact⟨x,⟨_,o.Iq hv,h1⟩,h2⟩
end
theorem Calls.fin {P:Program} {f:FuncId} {args:Array Value} {w:World} {R Q:Value->World->Prop} (h:Calls P f args w (gI R)) (k: ∀v w',R v w'->Q v w'):
  Calls P f args w (fun e W'=>∃v,e = .returned v/\Q v W'):=Calls.mono h fun _ w' ⟨v,e,hr⟩=>⟨v,e,k v w' hr⟩
def jC (W:World):HP:=⟨fun M h=>hle (Hw W) M/\h=nn,fun k ⟨a,b⟩=>⟨CF a k,b⟩⟩
theorem Holds.begin (W:World):Holds W W [jC W]:=by
 refine⟨Hw W,fun _=>nn,⟨rfl,rfl,rfl,bI _,fun b o h=>h,fun i Pr hq=>?_,fun _ _ _ _ h=>(by cases h),fun _ _ _ _ h=>(by cases h),fun _ _ _ _ _ _ _ h=>(by cases h)⟩⟩
 match i,hq with
 | 0,hq=>simp at hq;subst hq;exact⟨DI _,rfl⟩
theorem Holds.Er {α:Type} [GT α] {W:World} {V:List HP} {v:Value} {x:α} (h:Holds W W (V++[jC W])) (hv:Gk.sA (Hw W) v x):Holds W W (rd v x::(V++[jC W])):=
 h.xq fun M hs g=>by
  have h1:=(g.sat V.length (jC W) (by simp)).1
  exact⟨hv.mono h1,rfl⟩
theorem Holds.kept {E W w:World} {V:List HP} (h:Holds E w (V++[jC W])) (he:E=W):Below W.heap.size W w:=by
 subst he
 obtain⟨M,hs,g⟩:=h
 have h1:=(g.sat V.length (jC E) (by simp)).1
 have h2: ∀k o,E.heap[k]? =some o->w.heap[k]? =some o:=fun k o ho=>g.im k o (h1 k o ho)
 refine⟨g.os,g.tape,g.out,?_,fun k hk=>?_⟩
 ·by_cases h0:E.heap.size=0
  ·omega
  ·have h3:=h2 (E.heap.size - 1) _ (fK (by omega))
   have:=(Array.getElem?_eq_some_iff.1 h3).1
   omega
 ·rw [fK hk];exact h2 k _ (fK hk)
section
variable {H:Type} {enc:TypeId×Value->H} {P:Program}
theorem Dc {f:Func} {s:ChangeSpec} {apart fresh handsOn again:Bool} {W W':World} {args:Array Value} {v:Value} {ds gs:List (DataW H)} {before pa pv:List MemPlace}
  (hW:DataW.Whole enc P f.params.toList s.vars apart W args.toList ds gs before)
  (hres: ∀(b:Nat) (sp:Nat->Bool) (hd:Bool),DataW.TrodAll enc P W' b sp hd f.resultTypes.toList (v.resultList f.resultTypes.size) (s.fn H (ds++gs)).results [])
  (hargs: ∀sp:Nat->Bool,(∀p∈before,sp p.block=true)->DataW.TrodAll enc P W' 0 sp true f.params.toList args.toList (s.fn H (ds++gs)).args pa)
  (hvars: ∀sp:Nat->Bool,(∀p∈before,sp p.block=true)->DataW.TrodVars enc P W' sp s.vars (s.fn H (ds++gs)).vars pv)
  (hps:before=pa++pv) (hb:Below W.heap.size W W')
  (hok: ∀(j:Nat) (t:TypeId) (r:Value),f.resultTypes[j]? =some t->(v.resultList f.resultTypes.size)[j]? =some r->Value.okWide P W' .any 0 t r):
  s.post enc P f apart fresh handsOn again W args v W':=by
 have hlt: ∀p∈before,p.block<W.heap.size:=fun p hp=>hW.lt p hp
 have hold: ∀p∈before,(fun b=>decide (b<W.heap.size)) p.block=true:=fun p hp=>by simpa using hlt p hp
 refine⟨ds,gs,before,[],pa,pv,hW,hres _ _ _,hargs _ hold,hvars _ hold,World.keptBut_mono (fun p hp=>⟨hp,?_⟩) (hb.frame (· ∈before)),fun _=>?_⟩
 ·rw [hps,cQ] at hp
  exact Or.inr hp
 ·obtain⟨_,_,_,_,_,hz,hn⟩:=hW
  refine⟨hok,_,_,([]++pa)++pv,⟨[]++pa,pv,trodAll_append (hargs _ (fun _ _=>rfl)) (hres _ _ _),hvars _ (fun _ _=>rfl),rfl,?_,?_⟩,?_⟩
  ·intro b off hp
   have hin:MemPlace.cell b off∈before:=by rw [hps];simpa using hp
   rw [hb.frozen (hlt _ hin)]
   exact hz b off hin
  ·intro ha
   have:=hn ha
   rw [hps] at this
   simpa using this
  ·intro p hp _
   rw [hps]
   simpa using hp
theorem si {W W':World} (hl:laidOutB P=true) (hb:Below W.heap.size W W') {sp:Nat->Bool}: ∀{ts:List TypeId} {vs:List Value} {ds:List (DataW H)} {ps:List MemPlace},
  (∀t∈ts,P.readableRec t=true/\t<P.types.size)->DataW.TrodAll enc P W 0 (fun _=>true) true ts vs ds ps->(∀p∈ps,p.block<W.heap.size)->(∀p∈ps,sp p.block=true)->DataW.TrodAll enc P W' 0 sp true ts vs ds ps
 | [],_,_,_,_,h,_,_=>by
  obtain⟨rfl,rfl,rfl⟩:=trodAll_nil h
  rfl
 | t::ts,_,_,_,ht,h,hlt,hsp=>by
  obtain⟨v,vs,d,ds,p,q,rfl,rfl,rfl,h1,h2⟩:=trodAll_cons h
  refine⟨p,q,?_,si hl hb (fun t h=>ht t (by simp [h])) h2 (fun x hx=>hlt x (by simp [hx])) (fun x hx=>hsp x (by simp [hx])),rfl⟩
  exact WideElems.Trod_stays hl (ht t (by simp)).1 (ht t (by simp)).2 h1 (fun x hx=>hb.same (hlt x (by simp [hx]))) (fun x hx=>hsp x (by simp [hx]))
end
end Go.Gk
namespace Go.Gk
open Go
instance:Bk aI:=⟨fun x=>bk x.X0+bk x.Y0+bk x.X1+bk x.Y1+1,fun _=>by omega⟩
theorem FN (x:aI):bk x=bk x.X0+bk x.Y0+bk x.X1+bk x.Y1+1:=rfl
instance:Bk j6:=⟨fun x=>bk x.X+bk x.Y+1,fun _=>by omega⟩
theorem Es (x:j6):bk x=bk x.X+bk x.Y+1:=rfl
instance:Bk bW:=⟨fun x=>bk x.At+bk x.eW+bk x.cZ+bk x.To+bk x.gD+1,fun _=>by omega⟩
theorem FO (x:bW):bk x=bk x.At+bk x.eW+bk x.cZ+bk x.To+bk x.gD+1:=rfl
instance:Bk dL:=⟨fun x=>bk x.Part+bk x.fX+bk x.eQ+bk x.At+1,fun _=>by omega⟩
theorem Cj (x:dL):bk x=bk x.Part+bk x.fX+bk x.eQ+bk x.At+1:=rfl
instance:Bk iW:=⟨fun x=>bk x.aN+bk x.dH+bk x.aL+bk x.bD+1,fun _=>by omega⟩
theorem Et (x:iW):bk x=bk x.aN+bk x.dH+bk x.aL+bk x.bD+1:=rfl
instance:Bk fX:=⟨fun x=>bk x.Part+bk x.fX+1,fun _=>by omega⟩
theorem GZ (x:fX):bk x=bk x.Part+bk x.fX+1:=rfl
instance:Bk aA:=⟨fun x=>bk x.Y0+bk x.Y1+bk x.Xs+1,fun _=>by omega⟩
instance:Bk aH:=⟨fun x=>bk x.eQ+bk x.Set+bk x.m6+1,fun _=>by omega⟩
instance:Bk cU:=⟨fun x=>bk x.mW+bk x.aL+bk x.iI+1,fun _=>by omega⟩
instance:Bk bE:=⟨fun x=>bk x.bW+bk x.Number+1,fun _=>by omega⟩
instance:Bk fM:=⟨fun x=>bk x.Open+bk x.bE+bk x.A+bk x.B+1,fun _=>by omega⟩
end Go.Gk
namespace Go.Gk
open Go Go.Sort
section
variable {α:Type}
theorem vv {β:Type} (a:Array β) {n:Nat} (h:a.size=n):a.extract 0 n=a:=by subst h;exact Array.extract_size
theorem G0 {φ:α->α->Option Int} {l:List α} (cf:α->α->Int) (hφ: ∀x∈l,∀y∈l,φ x y=some (cf x y)) (h1: ∀x∈l,¬cf x x<0)
  (h2: ∀x∈l,∀y∈l,∀z∈l,cf x y<0->cf y z<0->cf x z<0) (h3: ∀x∈l,∀y∈l,∀z∈l,¬cf x y<0->¬cf y z<0->¬cf x z<0):SWO (Fb (zO φ l)):=by
 have hm: ∀i:Fin l.length,l[i]∈l:=fun i=>cM i.isLt
 have e: ∀i j:Fin l.length,zO φ l i j=cf l[i] l[j]:=fun i j=>by unfold zO;rw [hφ _ (hm i) _ (hm j)];rfl
 refine⟨fun x=>?_,fun x y z=>?_,fun x y z=>?_⟩
 ·simp only [Fb,e,decide_eq_false_iff_not];exact h1 _ (hm _)
 ·simp only [Fb,e,decide_eq_true_iff];exact h2 _ (hm _) _ (hm _) _ (hm _)
 ·simp only [Fb,e,decide_eq_false_iff_not];exact h3 _ (hm _) _ (hm _) _ (hm _)
theorem wD {φ:α->α->Option Int} {l:List α} (cf:α->α->Int) (hφ: ∀x∈l,∀y∈l,φ x y=some (cf x y)) (h1: ∀x∈l,¬cf x x<0)
  (h2: ∀x∈l,∀y∈l,∀z∈l,cf x y<0->cf y z<0->cf x z<0) (h3: ∀x∈l,∀y∈l,∀z∈l,¬cf x y<0->¬cf y z<0->¬cf x z<0) (hl:l.length<4611686018427387904):
  ∃m,tl φ l=some m/\m.Perm l/\m.Pairwise (fun x y=>¬cf y x<0):=by
 have hO:=G0 cf hφ h1 h2 h3
 have hm: ∀i:Fin l.length,l[i]∈l:=fun i=>cM i.isLt
 have hc: (∀i j:Fin l.length,∃c,φ l[i] l[j]=some c):=fun i j=>⟨_,hφ _ (hm i) _ (hm j)⟩
 refine⟨B5 φ l,by unfold tl;rw [aD ⟨⟨hc,hO⟩,hl⟩],?_⟩
 unfold B5
 by_cases hn:0<l.length
 ·rw [dif_pos hn]
  letI inh:Inhabited (Fin l.length):=⟨⟨0,hn⟩⟩
  have hds: (Array.ofFn fun i:Fin l.length=>i).size=l.length:=by simp
  obtain⟨hp,hs⟩:=pdq_sorts (Fb (zO φ l)) hO (Array.ofFn fun i:Fin l.length=>i) 0 l.length (Lib.bitLen l.length) true true (nk _) (by rw [hds];exact bI _) (Or.inl rfl)
  show (List.map (fun i=>l[i]) (pdq (Fb (zO φ l)) (Array.ofFn fun i:Fin l.length=>i) 0 l.length (Lib.bitLen l.length) true true).toList).Perm l/\_
  generalize pdq (Fb (zO φ l)) (Array.ofFn fun i:Fin l.length=>i) 0 l.length (Lib.bitLen l.length) true true=d' at hp hs
  obtain⟨hz,_,hpm⟩:=hp
  have hz':d'.size=l.length:=hz.trans hds
  rw [vv d' hz',vv _ hds] at hpm
  have hof: (Array.ofFn fun i:Fin l.length=>i).toList.map (fun i=>l[i])=l:=by
   rw [Array.toList_ofFn,List.map_ofFn]
   exact List.ofFn_getElem
  refine⟨(hpm.map (fun i=>l[i])).trans (List.Perm.of_eq hof),?_⟩
  rw [List.pairwise_map,lK]
  intro i j hi hj hij
  rw [Array.length_toList] at hi hj
  have:=hs i j (nk _) hij (by rw [<-hz'];exact hj)
  rw [getElem!_pos d' i hi,getElem!_pos d' j hj] at this
  have hij2:=hφ _ (hm (d'[j])) _ (hm (d'[i]))
  have hij3:zO φ l d'[j] d'[i]=cf l[d'[j]] l[d'[i]]:=by unfold zO;rw [hij2];rfl
  unfold Fb at this
  rw [decide_eq_false_iff_not,hij3] at this
  exact this
 ·rw [dif_neg hn]
  have:l= []:=List.length_eq_zero_iff.1 (by omega)
  subst this
  exact⟨List.Perm.refl _,lh⟩
theorem ya {φ:α->α->Option Int} {x:α} (h:φ x x=some 0):tl φ [x]=some [x]:=by
 obtain⟨m,h1,h2,_⟩:=wD (φ:=φ) (l:=[x]) (fun _ _=>0) (fun a ha b hb=>by simp at ha hb;rw [ha,hb];exact h) (fun _ _=>by decide) (fun _ _ _ _ _ _ h=>by simp at h) (fun _ _ _ _ _ _ _ _=>by decide) (by simp)
 rw [h1,List.perm_singleton.1 h2]
theorem xC {l:List Int} (h:l.Pairwise (fun x y=>x<=y)) (hl:l.length<4611686018427387904):qy l=some l:=by
 unfold qy
 rw [aD hl,List.mergeSort_of_pairwise (by simpa using h)]
end
end Go.Gk
namespace Go.Gk
open Go
def Bu (l:List Int) (x:Int):Nat:=l.countP (fun a=>decide (a<=x))
def mj (l:List Int) (x:Int):Bool:=Bu l x % 2==1
def kR (l:List Int):Prop:=l.Pairwise (· < ·)
theorem Cl (x:Int):Bu [] x=0:=rfl
theorem mQ (a:Int) (l:List Int) (x:Int):Bu (a::l) x= (if a<=x then 1 else 0)+Bu l x:=by
 unfold Bu
 rw [List.countP_cons]
 by_cases h:a<=x <;> simp [h];omega
theorem wE (l m:List Int) (x:Int):Bu (l++m) x=Bu l x+Bu m x:=List.countP_append
theorem Cm {l:List Int} {x:Int} (h: ∀a∈l,a<=x):Bu l x=l.length:=by
 unfold Bu;rw [List.countP_eq_length];intro a ha;simpa using h a ha
theorem wF {l:List Int} {x:Int} (h: ∀a∈l,x<a):Bu l x=0:=by
 unfold Bu;rw [List.countP_eq_zero];intro a ha;have:=h a ha;simp;omega
theorem tT {l:List Int} {x:Int}:mj l x=true↔Bu l x % 2=1:=by unfold mj;simp
theorem tU {l:List Int} {x:Int} (h: ∀a∈l,x<a):mj l x=false:=by unfold mj;rw [wF h];rfl
theorem kR.head {a:Int} {l:List Int} (h:kR (a::l)): ∀b∈l,a<b:=(List.pairwise_cons.1 h).1
theorem kR.tail {a:Int} {l:List Int} (h:kR (a::l)):kR l:=(List.pairwise_cons.1 h).2
theorem tV {a:Int} {l:List Int} (h:kR (a::l)):mj (a::l) a=true:=by
 rw [tT,mQ,aD (Int.le_refl _),wF h.head]
theorem wG: ∀{l m:List Int},kR l->kR m->(∀x,mj l x=mj m x)->l=m
 | [],[],_,_,_=>rfl
 | [],b::m,_,hm,h=>by have:=h b;rw [tV hm] at this;cases this
 | a::l,[],hl,_,h=>by have:=h a;rw [tV hl] at this;cases this
 | a::l,b::m,hl,hm,h=>by
  have hab:a=b:=by
   rcases Int.lt_trichotomy a b with h1 | h1 | h1
   ·have h2:=h a
    rw [tV hl,tU (l:=b::m) (fun c hc=>by
     rcases eZ.1 hc with rfl | hc
     ·exact h1
     ·have:=hm.head c hc;omega)] at h2
    cases h2
   ·exact h1
   ·have h2:=h b
    rw [tV hm,tU (l:=a::l) (fun c hc=>by
     rcases eZ.1 hc with rfl | hc
     ·exact h1
     ·have:=hl.head c hc;omega)] at h2
    cases h2
  subst hab
  rw [wG hl.tail hm.tail (fun x=>?_)]
  by_cases hx:a<=x
  ·have h2:=h x
   unfold mj at h2 ⊢
   rw [mQ,mQ,aD hx] at h2
   rw [fD] at h2 ⊢
   simp only [beq_iff_eq] at h2 ⊢
   omega
  ·rw [tU (fun c hc=>by have:=hl.head c hc;omega),tU (fun c hc=>by have:=hm.head c hc;omega)]
theorem tW {l:List Int} {a b:Int} (hl: ∀c∈l,c<a) (he:l.length % 2=0) (hab:a<b) (x:Int):mj (l++[a,b]) x= (mj l x||(decide (a<=x)&&decide (x<b))):=by
 rw [fD,dP,bV,bT,bT,tT,tT,wE,mQ,mQ,Cl]
 by_cases h1:a<=x
 ·have h2:Bu l x=l.length:=Cm fun c hc=>by have:=hl c hc;omega
  rw [h2,aD h1]
  by_cases h3:b<=x
  ·rw [aD h3];omega
  ·rw [aC h3];omega
 ·rw [aC h1,aC (by omega)];omega
theorem Ew {l:List Int} {s e a b:Int} (hl: ∀c∈l,c<s) (he:l.length % 2=0) (hs:s<e) (h1:s<=a) (h2:a<=e) (hab:a<b) (x:Int):mj (l++[s,max e b]) x= (mj (l++[s,e]) x||(decide (a<=x)&&decide (x<b))):=by
 rw [tW hl he (by omega),tW hl he hs]
 rw [fD]
 simp only [dP,bV,bT]
 constructor
 ·rintro(h | h)
  ·exact .inl (.inl h)
  ·by_cases hx:x<e
   ·exact .inl (.inr ⟨h.1,hx⟩)
   ·exact .inr ⟨by omega,by omega⟩
 ·rintro((h | h) | h)
  ·exact .inl h
  ·exact .inr ⟨h.1,by omega⟩
  ·exact .inr ⟨by omega,by omega⟩
theorem kR.snoc {l:List Int} {a b:Int} (h:kR l) (hl: ∀c∈l,c<a) (hab:a<b):kR (l++[a,b]):=by
 unfold kR
 rw [List.pairwise_append]
 refine⟨h,by simp [hab],fun c hc d hd=>?_⟩
 have:=hl c hc
 simp at hd
 rcases hd with rfl | rfl <;> omega
structure Bd where
 y0:Int
 y1:Int
 xs:List Int
def rowAt:List Bd->Int->List Int
 | [],_=>[]
 | b::s,y=>if b.y0<=y/\y<b.y1 then b.xs else rowAt s y
theorem kp (b:Bd) (s:List Bd) (y:Int):rowAt (b::s) y=if b.y0<=y/\y<b.y1 then b.xs else rowAt s y:=rfl
structure dU (s:List Bd):Prop where
 each: ∀b∈s,b.y0<b.y1/\b.xs≠[]/\kR b.xs/\b.xs.length % 2=0
 ord:s.Pairwise (fun b c=>b.y1<=c.y0/\(b.y1=c.y0->b.xs≠c.xs))
theorem dU.nil:dU []:=⟨fun b h=>by simp at h,lh⟩
theorem dU.tail {b:Bd} {s:List Bd} (h:dU (b::s)):dU s:=⟨fun c hc=>h.each c (jt _ hc),(List.pairwise_cons.1 h.ord).2⟩
theorem jE {s:List Bd} {y:Int} (h: ∀b∈s,y<b.y0\/b.y1<=y):rowAt s y= []:=by
 induction s with
 | nil=>rfl
 | cons b s ih=>
  unfold rowAt
  have:=h b (by simp)
  rw [aC (by omega)]
  exact ih fun c hc=>h c (jt _ hc)
theorem nB (s t:List Bd) (y:Int):rowAt (s++t) y=if (∃b∈s,b.y0<=y/\y<b.y1) then rowAt s y else rowAt t y:=by
 induction s with
 | nil=>simp
 | cons b s ih=>
  rw [List.cons_append,kp,kp]
  by_cases h:b.y0<=y/\y<b.y1
  ·rw [aD h,aD ⟨b,by simp,h⟩,aD h]
  ·rw [aC h,ih]
   by_cases h2: ∃c∈s,c.y0<=y/\y<c.y1
   ·obtain⟨c,hc,hc2⟩:=h2
    rw [aD ⟨c,hc,hc2⟩,aD ⟨c,jt _ hc,hc2⟩,aC h]
   ·rw [aC h2,aC (show ¬∃c∈b::s,c.y0<=y/\y<c.y1 from ?_)]
    rintro⟨c,hc,hc2⟩
    rcases eZ.1 hc with rfl | hc
    ·exact h hc2
    ·exact h2 ⟨c,hc,hc2⟩
theorem dU.kq {b:Bd} {s:List Bd} {y:Int} (h0:b.y0<=y) (h1:y<b.y1):rowAt (b::s) y=b.xs:=by unfold rowAt;rw [aD ⟨h0,h1⟩]
theorem dU.wH {b:Bd} {s:List Bd} (h:dU (b::s)): ∀c∈s,b.y1<=c.y0:=fun c hc=>((List.pairwise_cons.1 h.ord).1 c hc).1
theorem dU.rD {b:Bd} {s:List Bd} (h:dU (b::s)) {y:Int} (hy:y<b.y0):rowAt (b::s) y= []:=jE fun c hc=>by
 rcases eZ.1 hc with rfl | hc
 ·exact .inl hy
 ·have:=h.wH c hc;have:=(h.each b (by simp)).1;exact .inl (by omega)
theorem dU.Cn {b:Bd} {s:List Bd} (h:dU (b::s)):rowAt (b::s) b.y1≠b.xs:=by
 rw [kp,aC (by omega)]
 cases s with
 | nil=>exact fun e=>(h.each b (by simp)).2.1 e.symm
 | cons c s=>
  have h1:=(List.pairwise_cons.1 h.ord).1 c (by simp)
  by_cases e:b.y1=c.y0
  ·rw [dU.kq (by omega) (by have:=(h.tail.each c (by simp)).1;omega)]
   exact fun h=>h1.2 e h.symm
  ·rw [h.tail.rD (by have:=h1.1;omega)]
   exact fun e=>(h.each b (by simp)).2.1 e.symm
theorem wI: ∀{s t:List Bd},dU s->dU t->(∀y,rowAt s y=rowAt t y)->s=t
 | [],[],_,_,_=>rfl
 | [],c::t,_,ht,h=>by
  have hc:=ht.each c (by simp)
  have:=h c.y0
  rw [dU.kq (Int.le_refl _) hc.1] at this
  exact absurd this.symm hc.2.1
 | b::s,[],hs,_,h=>by
  have hb:=hs.each b (by simp)
  have:=h b.y0
  rw [dU.kq (Int.le_refl _) hb.1] at this
  exact absurd this hb.2.1
 | b::s,c::t,hs,ht,h=>by
  have hb:=hs.each b (by simp)
  have hc:=ht.each c (by simp)
  have e0:b.y0=c.y0:=by
   rcases Int.lt_trichotomy b.y0 c.y0 with h1 | h1 | h1
   ·have h2:=h b.y0
    rw [dU.kq (Int.le_refl _) hb.1,ht.rD h1] at h2
    exact absurd h2 hb.2.1
   ·exact h1
   ·have h2:=h c.y0
    rw [dU.kq (Int.le_refl _) hc.1,hs.rD h1] at h2
    exact absurd h2.symm hc.2.1
  have ex:b.xs=c.xs:=by
   have h2:=h b.y0
   rw [dU.kq (Int.le_refl _) hb.1,dU.kq (by omega) (by omega)] at h2
   exact h2
  have e1:b.y1=c.y1:=by
   rcases Int.lt_trichotomy b.y1 c.y1 with h1 | h1 | h1
   ·have h2:=h b.y1
    rw [dU.kq (b:=c) (by omega) h1] at h2
    exact absurd (h2.trans ex.symm) hs.Cn
   ·exact h1
   ·have h2:=h c.y1
    rw [dU.kq (b:=b) (by omega) h1] at h2
    exact absurd (h2.symm.trans ex) ht.Cn
  have ebc:b=c:=by cases b;cases c;simp_all
  subst ebc
  rw [wI hs.tail ht.tail (fun y=>?_)]
  by_cases hy:b.y1<=y
  ·have h2:=h y
   unfold rowAt at h2
   rw [aC (by omega),aC (by omega)] at h2
   exact h2
  ·rw [jE (fun d hd=>by have:=hs.wH d hd;exact .inl (by omega)),jE (fun d hd=>by have:=ht.wH d hd;exact .inl (by omega))]
def tX (s:List Bd) (x y:Int):Bool:=mj (rowAt s y) x
theorem yb {s:List Bd} (h: ∀b∈s,kR b.xs) (y:Int):kR (rowAt s y):=by
 induction s with
 | nil=>exact lh
 | cons b s ih=>
  unfold rowAt
  split
  ·exact h b (by simp)
  ·exact ih fun c hc=>h c (jt _ hc)
theorem wJ {s t:List Bd} (hs:dU s) (ht:dU t) (h: ∀x y,tX s x y=tX t x y):s=t:=
 wI hs ht fun y=>wG (yb (fun b hb=>(hs.each b hb).2.2.1) y) (yb (fun b hb=>(ht.each b hb).2.2.1) y) fun x=>h x y
def lB (s:List Bd) (b:Bd):List Bd:=
 if b.xs= []\/b.y1<=b.y0 then s else
  match s.getLast? with
  | some c=>if c.y1=b.y0/\c.xs=b.xs then s.dropLast++[⟨c.y0,b.y1,c.xs⟩] else s++[b]
  | none=>[b]
theorem pT {α:Type} {s:List α} {c:α} (h:s.getLast? =some c):s=s.dropLast++[c]:=by
 have hne:s≠[]:=fun e=>by rw [e] at h;cases h
 rw [List.getLast?_eq_some_getLast hne] at h
 injection h with h
 rw [<-h];exact(List.dropLast_concat_getLast hne).symm
theorem u4 {s:List Bd} {b:Bd} (hs: ∀c∈s,c.y1<=b.y0) (hg: ∀c∈s,c.y0<c.y1) (hb:b.y1<=b.y0->b.y1=b.y0) (y:Int):rowAt (lB s b) y=if b.y0<=y/\y<b.y1 then b.xs else rowAt s y:=by
 have key: ∀(s:List Bd) (c:Bd),(∀d∈s,d.y1<=c.y0)->rowAt (s++[c]) y=if c.y0<=y/\y<c.y1 then c.xs else rowAt s y:=by
  intro s c h
  rw [nB]
  by_cases h1:c.y0<=y/\y<c.y1
  ·rw [aD h1,aC (by rintro⟨d,hd,hd2⟩;have:=h d hd;omega),dU.kq h1.1 h1.2]
  ·rw [aC h1]
   by_cases h2: ∃d∈s,d.y0<=y/\y<d.y1
   ·rw [aD h2]
   ·rw [aC h2,kp,aC h1]
    refine(show rowAt [] y=_ from (jE (s:=s) fun d hd=>?_).symm)
    by_cases h3:d.y0<=y
    ·exact .inr (by have: ¬(d.y0<=y/\y<d.y1):=fun h4=>h2 ⟨d,hd,h4⟩;omega)
    ·exact .inl (by omega)
 unfold lB
 by_cases h0:b.xs= []\/b.y1<=b.y0
 ·rw [aD h0]
  by_cases h1:b.y0<=y/\y<b.y1
  ·rw [aD h1]
   rcases h0 with h0 | h0
   ·rw [h0];exact jE fun c hc=> .inr (by have:=hs c hc;omega)
   ·omega
  ·rw [aC h1]
 ·rw [aC h0]
  cases hl:s.getLast? with
  | none=>
   have:s= []:=by simpa using hl
   subst this
   rfl
  | some c=>
   dsimp only
   have hsp:=pT hl
   have hcm:c∈s:=by rw [hsp];simp
   by_cases h1:c.y1=b.y0/\c.xs=b.xs
   ·rw [aD h1]
    have hd: ∀d∈s.dropLast,d.y1<=c.y0\/True:=fun _ _=> .inr trivial
    rw [nB]
    have hrow:rowAt s y=if (∃d∈s.dropLast,d.y0<=y/\y<d.y1) then rowAt s.dropLast y else (if c.y0<=y/\y<c.y1 then c.xs else []):=by
     conv=>lhs;rw [hsp]
     rw [nB];rfl
    rw [hrow]
    have hcg:=hg c hcm
    by_cases h2: ∃d∈s.dropLast,d.y0<=y/\y<d.y1
    ·obtain⟨d,hd,hd2⟩:=h2
     have:=hs d (List.dropLast_subset _ hd)
     have he: ∃d∈s.dropLast,d.y0<=y/\y<d.y1:=⟨d,hd,hd2⟩
     rw [aD he,aD he,aC (by omega)]
    ·rw [aC h2,aC h2]
     show (if c.y0<=y/\y<b.y1 then c.xs else [])=_
     by_cases h3:b.y0<=y/\y<b.y1
     ·rw [aD h3,aD ⟨by omega,h3.2⟩,h1.2]
     ·rw [aC h3]
      by_cases h4:c.y0<=y/\y<c.y1
      ·rw [aD h4,aD ⟨h4.1,by omega⟩]
      ·rw [aC h4,aC (by omega)]
   ·rw [aC h1]
    exact key s b hs
theorem u5 {s:List Bd} {b:Bd} (h:dU s) (hs: ∀c∈s,c.y1<=b.y0) (hb:kR b.xs) (he:b.xs.length % 2=0):dU (lB s b):=by
 unfold lB
 by_cases h0:b.xs= []\/b.y1<=b.y0
 ·rw [aD h0];exact h
 ·rw [aC h0]
  have hbg:b.y0<b.y1/\b.xs≠[]/\kR b.xs/\b.xs.length % 2=0:=⟨by omega,fun e=>h0 (.inl e),hb,he⟩
  cases hl:s.getLast? with
  | none=>exact⟨fun c hc=>by simp at hc;subst hc;exact hbg,List.pairwise_singleton _ _⟩
  | some c=>
   dsimp only
   have hsp:=pT hl
   have hcm:c∈s:=by rw [hsp];simp
   have hc:=h.each c hcm
   have hord:=h.ord
   rw [hsp,List.pairwise_append] at hord
   by_cases h1:c.y1=b.y0/\c.xs=b.xs
   ·rw [aD h1]
    refine⟨fun d hd=>?_,?_⟩
    ·rcases cQ.1 hd with hd | hd
     ·exact h.each d (List.dropLast_subset _ hd)
     ·simp at hd;subst hd;exact⟨by show c.y0<b.y1;omega,hc.2⟩
    ·rw [List.pairwise_append]
     refine⟨hord.1,List.pairwise_singleton _ _,fun d hd e he=>?_⟩
     simp at he;subst he
     exact hord.2.2 d hd c (by simp)
   ·rw [aC h1]
    refine⟨fun d hd=>?_,?_⟩
    ·rcases cQ.1 hd with hd | hd
     ·exact h.each d hd
     ·simp at hd;subst hd;exact hbg
    ·rw [List.pairwise_append]
     refine⟨h.ord,List.pairwise_singleton _ _,fun d hd e he=>?_⟩
     simp at he;subst he
     refine⟨hs d hd,fun e1 e2=>?_⟩
     rw [hsp] at hd
     rcases cQ.1 hd with hd | hd
     ·have h2:=(hord.2.2 d hd c (by simp)).1
      have:=hs c hcm
      omega
     ·simp at hd;subst hd;exact h1 ⟨e1,e2⟩
theorem u6 {s:List Bd} {b:Bd} (hs: ∀c∈s,c.y1<=b.y0) (hb:b.y0<=b.y1): ∀c∈lB s b,c.y1<=b.y1:=by
 intro c hc
 unfold lB at hc
 split at hc
 ·have:=hs c hc;omega
 ·split at hc
  ·split at hc
   ·rcases cQ.1 hc with hc | hc
    ·have:=hs c (List.dropLast_subset _ hc);omega
    ·simp at hc;subst hc;exact Int.le_refl _
   ·rcases cQ.1 hc with hc | hc
    ·have:=hs c hc;omega
    ·simp at hc;subst hc;exact Int.le_refl _
  ·simp at hc;subst hc;exact Int.le_refl _
end Go.Gk
namespace Go.Gk
open Go
section
variable {N:Nat}
def bN (b:aA):Bd:=⟨b.Y0,b.Y1,b.Xs⟩
def small (a:Int):Prop:= -1099511627776<=a/\a<=1099511627776
structure AR (r:aI):Prop where
 x:r.X0<r.X1
 y:r.Y0<r.Y1
 s1:small r.X0
 s2:small r.X1
 s3:small r.Y0
 s4:small r.Y1
def Bv (l:List aI) (x:Int):Bool:=l.any (fun r=>decide (r.X0<=x)&&decide (x<r.X1))
def xD (l:List aI) (x y:Int):Bool:=l.any (fun r=>(decide (r.X0<=x)&&decide (x<r.X1))&&(decide (r.Y0<=y)&&decide (y<r.Y1)))
theorem wK {l:List aI} {x:Int}:Bv l x=true↔∃r∈l,r.X0<=x/\x<r.X1:=by unfold Bv;simp [ky]
theorem jF {l:List aI} {x y:Int}:xD l x y=true↔∃r∈l,(r.X0<=x/\x<r.X1)/\r.Y0<=y/\y<r.Y1:=by unfold xD;simp [ky]
theorem wrap_small {a b:Int} (ha:small a) (hb:small b):IntKind.wrap .i64 (a - b)=a - b:=by unfold small at *;exact eP (by omega) (by omega)
theorem Al {n:Nat} (h:0<n) (hn:n<=4611686018427387904):IntKind.wrap .i64 (((n:Nat):Int) - 1)= ((n - 1:Nat):Int):=lA h hn
structure Ki (out:List Int) (m:List aI) (k:Nat):Prop where
 row: (k=0/\out= [])\/∃A s e,out=A++[s,e]/\kR A/\(∀c∈A,c<s)/\A.length % 2=0/\s<e/\∃j r,j<k/\m[j]? =some r/\s=r.X0
 mj: ∀x,mj out x=Bv (m.take k) x
 len:out.length<=2*k
 mem: ∀c∈out,∃r∈m,c=r.X0\/c=r.X1
theorem u7 (l:List aI) (r:aI) (x:Int):Bv (l++[r]) x= (Bv l x||(decide (r.X0<=x)&&decide (x<r.X1))):=by unfold Bv;rw [List.any_append];simp
theorem yY {l:List aI} (hl:l.length<=268435456) (hok: ∀r∈l,AR r): ∃row l',gY N l=some (row,l')/\l'.Perm l/\kR row/\row.length % 2=0/\(∀x,mj row x=Bv l x)/\row.length<=2*l.length/\∀c∈row,∃r∈l,c=r.X0\/c=r.X1:=by
 unfold gY
 obtain⟨m,h1,h2,h3⟩:=wD (φ:=fO N) (l:=l) (fun a b=>a.X0 - b.X0) (fun a ha b hb=>by
  unfold fO;rw [wrap_small (hok a ha).s1 (hok b hb).s1]) (fun a _=>by omega) (fun a _ b _ c _ h1 h2=>by omega) (fun a _ b _ c _ h1 h2=>by omega) (by omega)
 have hml:m.length=l.length:=h2.length_eq
 have hmok: ∀r∈m,AR r:=fun r hr=>hok r (h2.subset hr)
 rw [h1,aB]
 obtain⟨out,a1,a2⟩:=vR (m:=m.length) (s:=([]:List Int)) (body:=fun(k32:Nat) (s33: (List Int))=>((idx m (k32:Int)).bind fun x79=>(bif (decide ((IntKind.wrap .i64 ((s33.length:Int) - 1))>=0)) then ((idx s33 (IntKind.wrap .i64 ((s33.length:Int) - 1))).bind fun x86=>some (decide (x79.X0<=x86))) else (some false)).bind fun s84=>(bif s84 then ((idx s33 (IntKind.wrap .i64 ((s33.length:Int) - 1))).bind fun x94=>(idx s33 (IntKind.wrap .i64 ((s33.length:Int) - 1))).bind fun x95=>some (s33.set (Int.toNat (IntKind.wrap .i64 ((s33.length:Int) - 1))) (if x94<x79.X1 then x79.X1 else x94))) else ((app 8 s33 ([x79.X0,x79.X1]: (List Int))).bind fun x97=>some x97)).bind fun s92=>some s92:Option ((List Int))))
  (fun k out=>Ki out m k) (by omega) ⟨.inl ⟨rfl,rfl⟩,fun x=>rfl,by simp,fun c hc=>by cases hc⟩ (fun k out hk ⟨i1,i2,i3,i4⟩=>by
   have hx:m[k]? =some m[k]:=aK hk
   have hr:=hmok _ (cM hk)
   rw [eU hx,aB]
   have hts:m.take (k+1)=m.take k++[m[k]]:=fH hk
   rcases i1 with ⟨rfl,rfl⟩ | ⟨A,s,e,rfl,hA,hAs,hAe,hse,j,r,hj,hjr,hsr⟩
   ·rw [show decide (IntKind.wrap .i64 (((([]:List Int).length:Nat):Int) - 1)>=0)=false by decide,aV,aB,aV,g9 (by simp),aB,aB]
    refine⟨_,rfl, .inr ⟨[],_,_,rfl,lh,fun c hc=>by simp at hc,rfl,hr.x,0,m[0],by omega,hx,rfl⟩,fun x=>?_,by simp,fun c hc=>⟨m[0],cM hk,by simpa using hc⟩⟩
    rw [hts,u7,<-i2 x]
    exact tW (l:=[]) (fun c hc=>by simp at hc) rfl hr.x x
   ·have hlen: (A++[s,e]).length=A.length+2:=by simp
    have hwp:IntKind.wrap .i64 ((((A++[s,e]).length:Nat):Int) - 1)= ((A.length+1:Nat):Int):=by rw [Al (by omega) (by omega),hlen];rfl
    have hlast: (A++[s,e])[A.length+1]? =some e:=by rw [eY (by omega)];simp
    have hs:s<=m[k].X0:=by
     have:=lK.1 h3 j k (by have:=(aY.1 hjr).1;omega) hk hj
     rw [hsr,<-(aY.1 hjr).2];omega
    rw [hwp,cE (by omega),aS,eU hlast,aB,aB]
    by_cases hc:m[k].X0<=e
    ·rw [cE hc,aS,aB,aB,aB,bO]
     have lu: (A++[s,e]).set (A.length+1) (if e<m[k].X1 then m[k].X1 else e)=A++[s,max e m[k].X1]:=by
      rw [List.set_append_right _ _ (by omega)]
      have:A.length+1 - A.length=1:=by omega
      rw [this,Int.max_def]
      simp only [List.set_cons_succ,List.set_cons_zero]
      congr 2
      split <;> split <;> simp <;> omega
     rw [lu]
     refine⟨_,rfl, .inr ⟨A,s,_,rfl,hA,hAs,hAe,by omega,j,r,by omega,hjr,hsr⟩,fun x=>?_,by simp at i3 ⊢;omega,fun c hc=>by
      rcases cQ.1 hc with h | h
      ·exact i4 c (List.mem_append_left _ h)
      ·simp at h
       rcases h with h | h
       ·exact i4 c (by simp [h])
       ·rw [Int.max_def] at h
        split at h
        ·exact⟨_,cM hk, .inr h⟩
        ·exact i4 c (by simp [h])⟩
     rw [hts,u7,<-i2 x]
     exact Ew hAs hAe hse hs hc hr.x x
    ·rw [bG hc,aV,g9 (by rw [hlen];simp;omega),aB,aB]
     have hall: ∀c∈A++[s,e],c<m[k].X0:=fun c hc'=>by
      rcases cQ.1 hc' with h | h
      ·have:=hAs c h;omega
      ·simp at h;omega
     refine⟨_,rfl, .inr ⟨A++[s,e],_,_,rfl,hA.snoc hAs hse,hall,by rw [hlen];omega,hr.x,k,m[k],by omega,hx,rfl⟩,fun x=>?_,by simp at i3 ⊢;omega,fun c hc=>by
      rcases cQ.1 hc with h | h
      ·exact i4 c h
      ·exact⟨m[k],cM hk,by simpa using h⟩⟩
     rw [hts,u7,<-i2 x]
     exact tW hall (by rw [hlen];omega) hr.x x)
 rw [a1,aB]
 refine⟨out,m,rfl,h2,?_,?_,fun x=>?_,by rw [<-hml];exact a2.len,fun c hc=>by obtain⟨r,hr,h⟩:=a2.mem c hc;exact⟨r,h2.subset hr,h⟩⟩
 ·rcases a2.row with ⟨_,h⟩ | ⟨A,s,e,rfl,hA,hAs,hAe,hse,_⟩
  ·rw [h];exact lh
  ·exact hA.snoc hAs hse
 ·rcases a2.row with ⟨_,h⟩ | ⟨A,s,e,rfl,hA,hAs,hAe,hse,_⟩
  ·rw [h];rfl
  ·simp;omega
 ·rw [a2.mj x,fC,fD,wK,wK]
  constructor
  ·rintro⟨r,hr,h⟩;exact⟨r,h2.subset hr,h⟩
  ·rintro⟨r,hr,h⟩;exact⟨r,h2.symm.subset hr,h⟩
theorem Dd {l m:List Int} (hl:l.length<=4611686018427387904):kC N l m=some (decide (l=m)):=x6 hl
theorem Co {s:List aA} {b:aA} (hs:s.length<=1048576000) (hx: ∀c∈s,c.Xs.length<=1048576000): ∃s',gM N s b=some s'/\s'.map bN=lB (s.map bN) (bN b):=by
 unfold gM lB
 by_cases h0:b.Xs= []\/b.Y1<=b.Y0
 ·have e: ((((b.Xs.length:Nat):Int)==0)||(decide (b.Y1<=b.Y0)))=true:=by
   rw [dP]
   rcases h0 with h | h
   ·left;rw [h];rfl
   ·right;exact cE h
  rw [e,aS,aD (show (bN b).xs= []\/(bN b).y1<=(bN b).y0 from h0)]
  exact⟨s,rfl,rfl⟩
 ·have e: ((((b.Xs.length:Nat):Int)==0)||(decide (b.Y1<=b.Y0)))=false:=by
   rw [Bool.or_eq_false_iff]
   constructor
   ·rw [beq_eq_false_iff_ne];intro h;exact h0 (.inl (List.eq_nil_of_length_eq_zero (by omega)))
   ·exact bG fun h=>h0 (.inr h)
  rw [e,aV,aC (show ¬((bN b).xs= []\/(bN b).y1<=(bN b).y0) from h0)]
  rcases List.eq_nil_or_concat s with rfl | ⟨A,c,hA⟩
  ·rw [show decide (IntKind.wrap .i64 (((([]:List aA).length:Nat):Int) - 1)>=0)=false by decide,aV,aB,aV,g9 (by simp),aB]
   exact⟨_,rfl,rfl⟩
  ·rw [List.concat_eq_append] at hA
   subst hA
   have hlen: (A++[c]).length=A.length+1:=by simp
   have hwp:IntKind.wrap .i64 ((((A++[c]).length:Nat):Int) - 1)= ((A.length:Nat):Int):=by rw [Al (by omega) (by omega),hlen];rfl
   have hlast: (A++[c])[A.length]? =some c:=by simp
   rw [hwp,cE (by omega),aS,eU hlast,aB,aB,Dd (by have:=hx c (by simp);omega),aB,aB,bO,g9 (by rw [hlen];simp;omega),aB]
   have hl2: ((A++[c]).map bN).getLast? =some (bN c):=by simp
   have hd2: ((A++[c]).map bN).dropLast=A.map bN:=by simp
   rw [hl2,hd2]
   dsimp only
   by_cases h1:c.Y1=b.Y0/\c.Xs=b.Xs
   ·rw [aD (show (bN c).y1= (bN b).y0/\(bN c).xs= (bN b).xs from h1),show (c.Y1==b.Y0)=true by rw [h1.1];simp,aS,cE h1.2,aB,aS]
    refine⟨_,rfl,?_⟩
    rw [List.set_append_right _ _ (bI _),Nat.sub_self]
    simp [bN]
   ·rw [aC (show ¬((bN c).y1= (bN b).y0/\(bN c).xs= (bN b).xs) from h1)]
    have e2: (bif (c.Y1==b.Y0) then (some (decide (c.Xs=b.Xs))) else (some false))=some false:=by
     by_cases h2:c.Y1=b.Y0
     ·rw [show (c.Y1==b.Y0)=true by rw [h2];simp,aS,bG (fun h=>h1 ⟨h2,h⟩)]
     ·rw [show (c.Y1==b.Y0)=false by simpa using h2,aV]
    rw [e2,aB,aV]
    exact⟨_,rfl,by simp⟩
end
end Go.Gk
namespace Go.Gk
open Go
def oG (l:List (Int×Int)):List Int:=l.flatMap fun s=>[s.1,s.2]
def De (l:List (Int×Int)) (x:Int):Bool:=l.any fun s=>decide (s.1<=x)&&decide (x<s.2)
theorem my (s:Int×Int) (l:List (Int×Int)):oG (s::l)=s.1::s.2::oG l:=rfl
theorem Df (l:List (Int×Int)): (oG l).length=2*l.length:=by
 induction l with
 | nil=>rfl
 | cons s l ih=>rw [my,f0,f0,f0,ih];omega
theorem Dg (s:Int×Int) (l:List (Int×Int)) (x:Int):De (s::l) x= ((decide (s.1<=x)&&decide (x<s.2))||De l x):=rfl
theorem wL {l:List (Int×Int)} {x:Int}:De l x=true↔∃s∈l,s.1<=x/\x<s.2:=by
 unfold De;simp
theorem Dh {a b:Int} {m:List Int} (h:kR (a::b::m)) (x:Int):mj (a::b::m) x= ((decide (a<=x)&&decide (x<b))||mj m x):=by
 have hab:a<b:=h.head b (by simp)
 have hm:=h.tail.head
 rw [fD,dP,bV,bT,bT,tT,tT,mQ,mQ]
 by_cases h1:a<=x
 ·rw [aD h1]
  by_cases h2:b<=x
  ·rw [aD h2];omega
  ·rw [aC h2,wF (fun c hc=>by have:=hm c hc;omega)];omega
 ·rw [aC h1,aC (by omega)];omega
theorem tY: ∀{l:List (Int×Int)},kR (oG l)->∀x,mj (oG l) x=De l x
 | [],_,x=>rfl
 | s::l,h,x=>by
  rw [my] at h ⊢
  rw [Dh h,Dg,tY h.tail.tail]
end Go.Gk
namespace Go.Gk
open Go
end Go.Gk
namespace Go.Gk
open Go
def Ok {β:Type} (o:Option β) (P:β->Prop):Prop:=∃r,o=some r/\P r
section
variable {α β S R:Type} {P:α->Prop} {Q:β->Prop}
theorem Ok.ret {x:β} (h:Q x):Ok (some x) Q:=⟨x,rfl,h⟩
theorem Ok.of {o:Option β} {x:β} (h:o=some x) (hq:Q x):Ok o Q:=⟨x,h,hq⟩
theorem Ok.mono {o:Option α} {P':α->Prop} (h:Ok o P) (k: ∀x,P x->P' x):Ok o P':=by obtain⟨x,h1,h2⟩:=h;exact⟨x,h1,k x h2⟩
theorem Ok.bind {o:Option α} {f:α->Option β} (h:Ok o P) (k: ∀x,P x->Ok (f x) Q):Ok (o.bind f) Q:=by
 obtain⟨x,h1,h2⟩:=h;rw [h1];exact k x h2
theorem Ok.eq {o:Option α} {f:α->Option β} {x:α} (h:o=some x) (k:Ok (f x) Q):Ok (o.bind f) Q:=by rw [h];exact k
theorem Ok.bif {b:Bool} {x y:Option β} (ht:b=true->Ok x Q) (hf:b=false->Ok y Q):Ok (bif b then x else y) Q:=by
 cases b with
 | true=>exact ht rfl
 | false=>exact hf rfl
theorem Ok.get {o:Option β} {x:β} (h:Ok o (fun r=>r=x)):o=some x:=by obtain⟨r,h1,h2⟩:=h;rw [h1,h2]
def Iv (Go:S->Prop) (Rt:R->Prop):Fo S R->Prop | .go s=>Go s | .rt r=>Rt r
def Gm (Nx Br:S->Prop) (Rt:R->Prop):Fl S R->Prop | .nx s=>Nx s | .br s=>Br s | .rt r=>Rt r
theorem Ok.nx {Nx Br:S->Prop} {Rt:R->Prop} {s:S} (h:Nx s):Ok (some (Fl.nx s)) (Gm Nx Br Rt):=⟨_,rfl,h⟩
theorem Ok.br {Nx Br:S->Prop} {Rt:R->Prop} {s:S} (h:Br s):Ok (some (Fl.br s)) (Gm Nx Br Rt):=⟨_,rfl,h⟩
theorem Ok.rt {Nx Br:S->Prop} {Rt:R->Prop} {r:R} (h:Rt r):Ok (some (Fl.rt r:Fl S R)) (Gm Nx Br Rt):=⟨_,rfl,h⟩
theorem Ok.cs {Go:S->Prop} {Rt:R->Prop} {o:Fo S R} {f:S->Option β} {g:R->Option β} (h:Iv Go Rt o) (hf: ∀s,Go s->Ok (f s) Q) (hg: ∀r,Rt r->Ok (g r) Q):Ok (o.cs f g) Q:=by
 cases o with
 | go s=>exact hf s h
 | rt r=>exact hg r h
theorem Ok.jq {body:Nat->S->Option S} {m:Nat} {s:S} (Inv:Nat->S->Prop) (hm:m<=4611686018427387904) (h0:Inv 0 s) (h: ∀k s,k<m->Inv k s->Ok (body k s) (Inv (k+1))):Ok (jq m body s) (Inv m):=
 vR Inv hm h0 h
theorem Ok.oW {body:Nat->S->Option (Fl S R)} {m:Nat} {s:S} (Inv:Nat->S->Prop) {Go:S->Prop} {Rt:R->Prop} (hm:m<=4611686018427387904) (h0:Inv 0 s)
  (h: ∀k s,k<m->Inv k s->Ok (body k s) (Gm (Inv (k+1)) Go Rt)) (hg: ∀s,Inv m s->Go s):Ok (oW m body s) (Iv Go Rt):=by
 obtain⟨o,h1,h2⟩:=FJ (R:=R) Inv Go Rt hm h0 (fun k s hk hi=>by
  obtain⟨fl,a1,a2⟩:=h k s hk hi
  exact⟨fl,a1,by cases fl <;> exact a2⟩) hg
 exact⟨o,h1,by cases o <;> exact h2⟩
theorem Ok.mm {body:S->Option (Fl S R)} {N:Nat} {s:S} (Inv:S->Prop) (μ:S->Nat) {Go:S->Prop} {Rt:R->Prop}
  (h: ∀s,Inv s->Ok (body s) (Gm (fun s'=>Inv s'/\μ s'<μ s) Go Rt)) (hi:Inv s) (hn:μ s<N):Ok (mm body N s) (Iv Go Rt):=by
 obtain⟨o,h1,h2⟩:=tG (R:=R) Inv μ Go Rt (fun s hi=>by
  obtain⟨fl,a1,a2⟩:=h s hi
  exact⟨fl,a1,by cases fl <;> exact a2⟩) N s hi hn
 exact⟨o,h1,by cases o <;> exact h2⟩
theorem Ok.app {b:Nat} {l ys:List α} {f:List α->Option β} (h: (l.length+ys.length)*b<=140737488355328) (k:Ok (f (l++ys)) Q):Ok ((Go.Gk.app b l ys).bind f) Q:=by rw [g9 h];exact k
theorem Ok.idx {l:List α} {i:Nat} {f:α->Option β} (h:i<l.length) (k:Ok (f l[i]) Q):Ok ((Go.Gk.idx l ((i:Nat):Int)).bind f) Q:=by rw [i9 l i h];exact k
theorem Ok.ix {l:List α} {i:Nat} {x:α} {f:α->Option β} (h:l[i]? =some x) (k:Ok (f x) Q):Ok ((Go.Gk.idx l ((i:Nat):Int)).bind f) Q:=by rw [eU h];exact k
end
theorem Am {n:Nat} (h:n<=4611686018427387904):IntKind.wrap .i64 ((n:Nat):Int)= ((n:Nat):Int):=eP (by omega) (by omega)
theorem wrap_add {n m:Nat} (h:n+m<=4611686018427387904):IntKind.wrap .i64 (((n:Nat):Int)+ ((m:Nat):Int))= ((n+m:Nat):Int):=by rw [eP (by omega) (by omega)];simp
theorem gQ {n:Nat} (h:n+1<=4611686018427387904):IntKind.wrap .i64 (((n:Nat):Int)+1)= ((n+1:Nat):Int):=by rw [eP (by omega) (by omega)];simp
theorem yc {n:Nat} (h:n+2<=4611686018427387904):IntKind.wrap .i64 (((n:Nat):Int)+2)= ((n+2:Nat):Int):=by rw [eP (by omega) (by omega)];simp
theorem dQ {α:Type} [DecidableEq α]: ∀{l m:List α},l.Nodup->(∀x∈l,x∈m)->l.length<=m.length
 | [],m,_,_=>nk _
 | a::l,m,hn,hs=>by
  have ha:a∈m:=hs a (by simp)
  have hn':=List.nodup_cons.1 hn
  have:=dQ (l:=l) (m:=m.erase a) hn'.2 (fun x hx=>by
   rw [List.mem_erase_of_ne (fun e=>hn'.1 (by rw [<-e];exact hx))]
   exact hs x (jt _ hx))
  rw [List.length_erase_of_mem ha] at this
  have:=List.length_pos_of_mem ha
  simp;omega
section
variable {α:Type} {N:Nat}
def Iw (z:α) (N:Nat) (p0:List α) (p1:α->Option Bool):Option (List α):=
 (pQ p0 p1).bind fun x31=>bif (x31==(-1)) then (some p0) else ((mm (fun(s33: (List α)×Int×Int)=>(bif (decide (s33.2.2< (s33.1.length:Int))) then ((idx s33.1 s33.2.2).bind fun x54=>(p1 x54).bind fun x58=>(bif (!x58) then ((idx s33.1 s33.2.1).bind fun x63=>some ((s33.1.set (Int.toNat s33.2.1) x54),(IntKind.wrap .i64 (s33.2.1+1)))) else (some (s33.1,s33.2.1))).bind fun s61=>some (.nx (s61.1,s61.2,(IntKind.wrap .i64 (s33.2.2+1))))) else (some (.br (s33.1,s33.2.1,s33.2.2))):Option (Fl ((List α)×Int×Int) Empty))) N (p0,x31,(IntKind.wrap .i64 (x31+1)))).bind fun o67=>o67.cs (fun(s33: (List α)×Int×Int)=>(qt s33.1 s33.2.1 (s33.1.length:Int)).bind fun x64=>(qt (s33.1.take (Int.toNat s33.2.1)++List.replicate (s33.1.length - Int.toNat s33.2.1) z) 0 s33.2.1).bind fun x65=>some x65) (fun r=>r.elim))
theorem Ex {z:α} {l:List α} {φ:α->Option Bool} (p:α->Bool) (hφ: ∀x∈l,φ x=some (p x)) (hl:l.length<=4611686018427387000) (hN:l.length<N):Iw z N l φ=some (l.filter (fun x=> !p x)):=by
 unfold Iw
 rw [oL p (by omega) hφ,aB]
 rcases rC l p with ⟨h1,h2⟩ | ⟨k,x,h1,h2,h3,h4⟩
 ·rw [h1]
  have:l.filter (fun x=> !p x)=l:=List.filter_eq_self.2 fun a ha=>by rw [h2 a ha];rfl
  rw [this];rfl
 ·rw [h1,show (((k:Nat):Int)== -1)=false by simp,aV]
  have hk:=(aY.1 h2).1
  have hpre: (l.take k).filter (fun x=> !p x)=l.take k:=List.filter_eq_self.2 fun a ha=>by
   obtain⟨j,hj⟩:=eO ha
   have hjk:j<k:=by have:=(aY.1 hj).1;rw [dA] at this;omega
   rw [List.getElem?_take_of_lt hjk] at hj
   rw [h4 j a hjk hj];rfl
  have hst:l.take (k+1)=l.take k++[x]:=by
   rw [fH hk];congr 1
   have:=(aY.1 h2).2;rw [this]
  have hk1:IntKind.wrap .i64 (((k:Nat):Int)+1)= ((k+1:Nat):Int):=by rw [eP (by omega) (by omega)];omega
  rw [hk1]
  obtain⟨o,a1,a2⟩:=tG (S:=(List α)×Int×Int) (R:=Empty) (body:=fun(s33: (List α)×Int×Int)=>(bif (decide (s33.2.2< (s33.1.length:Int))) then ((idx s33.1 s33.2.2).bind fun x54=>(φ x54).bind fun x58=>(bif (!x58) then ((idx s33.1 s33.2.1).bind fun x63=>some ((s33.1.set (Int.toNat s33.2.1) x54),(IntKind.wrap .i64 (s33.2.1+1)))) else (some (s33.1,s33.2.1))).bind fun s61=>some (.nx (s61.1,s61.2,(IntKind.wrap .i64 (s33.2.2+1))))) else (some (.br (s33.1,s33.2.1,s33.2.2))):Option (Fl ((List α)×Int×Int) Empty)))
   (fun s=>∃i j:Nat,s.2.1= ((i:Nat):Int)/\s.2.2= ((j:Nat):Int)/\i<j/\j<=l.length/\s.1.length=l.length/\s.1.take i= (l.take j).filter (fun x=> !p x)/\∀m,j<=m->s.1[m]? =l[m]?)
   (fun s=>l.length - s.2.2.toNat) (fun s=>∃i:Nat,s.2.1= ((i:Nat):Int)/\i<=l.length/\s.1.length=l.length/\s.1.take i=l.filter (fun x=> !p x)) (fun _=>True) (fun s ⟨i,j,e1,e2,hij,hj,hlen,ht,hd⟩=>by
    obtain⟨s,a,b⟩:=s
    dsimp only at e1 e2 hlen ht hd ⊢
    subst e1;subst e2
    by_cases hlt:j<l.length
    ·rw [cE (by rw [hlen];omega),aS]
     have hx:s[j]? =some l[j]:=by rw [hd j (bI _)];exact aK hlt
     have w1:IntKind.wrap .i64 (((j:Nat):Int)+1)= ((j+1:Nat):Int):=by rw [eP (by omega) (by omega)];omega
     have w2:IntKind.wrap .i64 (((i:Nat):Int)+1)= ((i+1:Nat):Int):=by rw [eP (by omega) (by omega)];omega
     have hs2:l.take (j+1)=l.take j++[l[j]]:=fH hlt
     rw [eU hx,aB,hφ _ (cM hlt),aB,w1]
     cases hp:p l[j] with
     | true=>
      refine⟨.nx (s,((i:Nat):Int),((j+1:Nat):Int)),by rw [j5,aV,aB],⟨i,j+1,rfl,rfl,by omega,by omega,hlen,?_,fun m hm=>hd m (by omega)⟩,?_⟩
      ·rw [hs2,iF,ht];simp [hp]
      ·simp only [bO];omega
     | false=>
      refine⟨.nx (s.set i l[j],((i+1:Nat):Int),((j+1:Nat):Int)),by rw [lk,aS,i9 _ _ (by omega),aB,bO,w2,aB],⟨i+1,j+1,rfl,rfl,by omega,by omega,by simp [hlen],?_,fun m hm=>?_⟩,?_⟩
      ·rw [hs2,iF,<-ht]
       have: (s.set i l[j]).take (i+1)=s.take i++[l[j]]:=by
        rw [fH (by simp;omega),List.take_set_of_le (bI _)];simp
       rw [this];simp [hp]
      ·rw [eF,aC (by omega)];exact hd m (by omega)
      ·simp only [bO];omega
    ·rw [bG (by rw [hlen];omega),aV]
     have hje:j=l.length:=by omega
     subst hje
     rw [fC] at ht
     exact⟨.br (s,((i:Nat):Int),((l.length:Nat):Int)),rfl,i,rfl,by omega,hlen,ht⟩)
   N (l,((k:Nat):Int),((k+1:Nat):Int)) ⟨k,k+1,rfl,rfl,by omega,by omega,rfl,by rw [hst,iF,hpre];simp [h3],fun _ _=>rfl⟩ (by simp only [bO];omega)
  rw [a1,aB]
  cases o with
  | rt r=>exact r.elim
  | go s=>
   obtain⟨i,e1,hi,hlen,ht⟩:=a2
   obtain⟨s,a,b⟩:=s
   dsimp only at e1 hlen ht
   subst e1
   simp only [Fo.cs]
   rw [qI _ _ (by omega),aB,bO,tH _ _ (by simp;omega),aB,List.take_append_of_le_length (by simp;omega),List.take_take,Nat.min_self,ht]
end
section
variable {κ ν:Type} [DecidableEq κ]
theorem jS (m:List (κ×ν)) (k k':κ) (x z:ν):cL (j9 m k x) k' z=if k'=k then x else cL m k' z:=by
 induction m with
 | nil=>unfold j9 cL;by_cases h:k'=k <;> simp [h]
 | cons p m ih=>
  unfold j9
  by_cases h:k=p.1
  ·rw [aD h]
   by_cases h':k'=k
   ·subst h';simp [cL]
   ·simp only [cL,List.find?_cons,aC h',bG h']
    rw [bG (fun e=>h' (e.trans h.symm))]
  ·rw [aC h]
   by_cases h':k'=p.1
   ·have:k'≠k:=fun e=>h (e.symm.trans h')
    simp only [cL,List.find?_cons,cE h',aC this]
   ·unfold cL at ih ⊢
    simp only [List.find?_cons,bG h']
    exact ih
theorem mz (m:List (κ×ν)) (k k':κ) (x:ν):dM (j9 m k x) k'= (decide (k'=k)||dM m k'):=by
 induction m with
 | nil=>unfold j9 dM;simp
 | cons p m ih=>
  unfold j9
  by_cases h:k=p.1
  ·rw [aD h]
   by_cases h':k'=k
   ·simp [dM,h']
   ·simp only [dM,List.any_cons,bG h',Bool.false_or]
    rw [bG (fun e=>h' (e.trans h.symm)),Bool.false_or]
  ·rw [aC h]
   unfold dM at ih ⊢
   simp only [List.any_cons]
   rw [ih]
   cases decide (k'=p.1) <;> cases decide (k'=k) <;> simp
end
end Go.Gk
namespace Go.Gk
open Go
section
variable {N:Nat}
theorem wM (l:List Int) (a b:Nat) (h:a+b<l.length):A8 l ((a:Nat):Int) ((b:Nat):Int)=some l[a+b]:=by
 unfold A8
 rw [aD (by omega),show ((a:Nat):Int)+ ((b:Nat):Int)= ((a+b:Nat):Int) by omega,i9 _ _ h]
theorem kR.Ey {l:List Int} {a:Int} (h:kR l) (hl: ∀c∈l,c<a):kR (l++[a]):=by
 unfold kR
 rw [List.pairwise_append]
 exact⟨h,List.pairwise_singleton _ _,fun c hc d hd=>by simp at hd;subst hd;exact hl c hc⟩
theorem kR.last {l:List Int} {a:Int} (h:kR l) (hl:l.getLast? =some a): ∀c∈l,c<=a:=by
 intro c hc
 have hs:=pT hl
 rw [hs] at h hc
 rcases cQ.1 hc with h1 | h1
 ·have:=(List.pairwise_append.1 h).2.2 c h1 a (by simp);omega
 ·simp at h1;omega
theorem yZ {l:List Int} (hs:l.Pairwise (fun x y=>x<=y)) (hl:l.length<=4611686018427387000) (hN:l.length<N):
  Ok (fN N l) (fun m=>kR m/\∀c,c∈m↔c∈l):=by
 unfold fN
 refine Ok.bif (fun h2=>Ok.ret ⟨?_,fun c=>Iff.rfl⟩) (fun h2=>?_)
 ·have h2:=of_decide_eq_true h2
  match l,h2 with
  | [],_=>exact lh
  | [a],_=>exact List.pairwise_singleton _ _
  | a::b::l,h2=>simp at h2;omega
 ·have h2:=of_decide_eq_false h2
  have le: ∀(i j:Nat) (x y:Int),i<j->l[i]? =some x->l[j]? =some y->x<=y:=fun i j x y hij hx hy=>by
   have:=lK.1 hs i j (aY.1 hx).1 (aY.1 hy).1 hij
   rw [(aY.1 hx).2,(aY.1 hy).2] at this;exact this
  refine Ok.bind (Ok.mm (Go:=fun _=>kR l) (Rt:=fun m=>kR m/\∀c,c∈m↔c∈l) (fun s=>∃k:Nat,s= ((k:Nat):Int)/\1<=k/\k<=l.length/\kR (l.take k)) (fun s=>l.length - s.toNat) ?_ ⟨1,rfl,bI _,by omega,?_⟩ (by simp;omega)) ?_
  ·rintro s ⟨k,rfl,hk1,hkl,hinc⟩
   refine Ok.bif (fun h=>?_) (fun h=>Ok.br ?_)
   ·have hk:k<l.length:=by have:=of_decide_eq_true h;omega
    refine Ok.idx hk ?_
    rw [lA hk1 (by omega)]
    refine Ok.idx (by omega) ?_
    refine Ok.bif (fun he=>?_) (fun he=>?_)
    ·have he:l[k]=l[k - 1]:=by simpa using he
     refine Ok.eq (qI l k hkl) ?_
     refine Ok.bind (Ok.mm (Go:=fun s=>∃i:Nat,s.2.1= ((i:Nat):Int)/\i<=l.length/\s.1.length=l.length/\kR (s.1.take i)/\∀c,c∈s.1.take i↔c∈l) (Rt:=fun _=>True)
      (fun s=>∃i j:Nat,s.2.1= ((i:Nat):Int)/\s.2.2= ((j:Nat):Int)/\1<=j/\k+j<=l.length/\i<=k+j - 1/\s.1.length=l.length/\kR (s.1.take i)/\(s.1.take i).getLast? =l[k+j - 1]? /\
       (∀c,c∈s.1.take i↔c∈l.take (k+j))/\∀m,k+j - 1<=m->s.1[m]? =l[m]?) (fun s=>l.length - s.2.2.toNat) ?_ ?_ (by simp;omega)) ?_
     ·rintro⟨u,a,b⟩ ⟨i,j,e1,e2,hj,hjl,hij,hlen,hi,hlast,hmem,hrest⟩
      dsimp only at e1 e2 hlen hi hlast hmem hrest ⊢
      subst e1;subst e2
      rw [bO]
      refine Ok.bif (fun h=>?_) (fun h=>Ok.br ?_)
      ·have hlt:k+j<l.length:=by have:=of_decide_eq_true h;omega
       have hx:u[k+j]'(by omega)=l[k+j]:=by have:=hrest (k+j) (by omega);rw [aK (by omega),aK hlt] at this;injection this
       have hy:u[k+ (j - 1)]'(by omega)=l[k+ (j - 1)]:=by have:=hrest (k+ (j - 1)) (by omega);rw [aK (by omega),aK (by omega)] at this;injection this
       refine Ok.eq (wM u k j (by omega)) ?_
       rw [lA hj (by omega)]
       refine Ok.eq (wM u k (j - 1) (by omega)) ?_
       rw [hx,hy]
       have hts:l.take (k+j+1)=l.take (k+j)++[l[k+j]]:=fH hlt
       have hlast': (u.take i).getLast? =some l[k+ (j - 1)]:=by rw [hlast,show k+j - 1=k+ (j - 1) by omega,aK (by omega)]
       have hxy:l[k+ (j - 1)]<=l[k+j]:=le (k+ (j - 1)) (k+j) _ _ (by omega) (aK _) (aK _)
       refine Ok.bind (P:=fun s'=>s'.1.length=l.length/\∃i':Nat,s'.2= ((i':Nat):Int)/\i'<=k+j/\kR (s'.1.take i')/\(s'.1.take i').getLast? =l[k+j]? /\(∀c,c∈s'.1.take i'↔c∈l.take (k+j+1))/\∀m,k+j<=m->s'.1[m]? =l[m]?) ?_ ?_
       ·refine Ok.bif (fun hne=>?_) (fun hne=>Ok.ret ?_)
        ·have hne:l[k+j]≠l[k+ (j - 1)]:=by simpa using hne
         refine Ok.eq (wM u k j (by omega)) ?_
         rw [hx]
         refine Ok.idx (by omega) (Ok.ret ⟨by simp [hlen],i+1,?_,by omega,?_⟩)
         ·rw [gQ (by omega)]
         ·dsimp only
          rw [bO]
          have ht: (u.set i l[k+j]).take (i+1)=u.take i++[l[k+j]]:=by
           rw [fH (by simp;omega),List.take_set_of_le (bI _)];simp
          rw [ht]
          refine⟨hi.Ey fun c hc=>?_,by simp [aK hlt],fun c=>?_,fun m hm=>?_⟩
          ·have:=hi.last hlast' c hc;omega
          ·rw [hts,cQ,cQ,hmem]
          ·rw [eF,aC (by omega)];exact hrest m (by omega)
        ·have he:l[k+j]=l[k+ (j - 1)]:=by simpa using hne
         refine⟨hlen,i,rfl,by omega,hi,?_,fun c=>?_,fun m hm=>hrest m (by omega)⟩
         ·dsimp only;rw [hlast',aK hlt,he]
         ·rw [hts,cQ,<-hmem]
          constructor
          ·exact .inl
          ·rintro(h | h)
           ·exact h
           ·simp at h;subst h
            rw [he];exact List.mem_of_getLast? hlast'
       ·rintro⟨v,a⟩ ⟨g1,i',g2,g3,g4,g5,g6,g7⟩
        dsimp only at g1 g2 g4 g5 g6 g7 ⊢
        refine Ok.nx ⟨⟨i',j+1,g2,?_,by omega,by omega,by omega,g1,g4,?_,g6,fun m hm=>g7 m (by omega)⟩,?_⟩
        ·rw [gQ (by omega)]
        ·rw [show k+ (j+1) - 1=k+j by omega];exact g5
        ·rw [gQ (by omega)];simp only [bO];omega
      ·have hge:k+j=l.length:=by have:=of_decide_eq_false h;omega
       refine⟨i,rfl,by omega,hlen,hi,fun c=>?_⟩
       rw [hmem,hge,fC]
     ·refine⟨k,1,rfl,rfl,bI _,by omega,by omega,rfl,hinc,?_,fun c=>?_,fun m _=>rfl⟩
      ·dsimp only
       rw [show k+1 - 1=k by omega,aK hk,he,List.getLast?_eq_getElem?,dA,Nat.min_eq_left hkl,List.getElem?_take_of_lt (by omega),aK (by omega)]
      ·dsimp only
       rw [fH hk,cQ]
       constructor
       ·exact .inl
       ·rintro(h | h)
        ·exact h
        ·simp at h;subst h;rw [he]
         refine fz (i:=k - 1) ?_
         rw [List.getElem?_take_of_lt (by omega),aK (by omega)]
     ·rintro o ho
      refine Ok.cs ho ?_ (fun r=>r.elim)
      rintro⟨u,a,b⟩ ⟨i,e1,hi,hlen,hinc',hmem⟩
      dsimp only at e1 hlen hinc' hmem ⊢
      subst e1
      refine Ok.eq (qI u i (by omega)) ?_
      rw [bO]
      refine Ok.eq (tH _ i (by simp;omega)) (Ok.rt ?_)
      rw [List.take_append_of_le_length (by simp;omega),List.take_take,Nat.min_self]
      exact⟨hinc',hmem⟩
    ·have he:l[k]≠l[k - 1]:=by simpa using he
     refine Ok.nx ⟨⟨k+1,by rw [gQ (by omega)],by omega,by omega,?_⟩,by rw [gQ (by omega)];simp only [bO];omega⟩
     rw [fH hk]
     refine hinc.Ey fun c hc=>?_
     have hlast: (l.take k).getLast? =some l[k - 1]:=by
      rw [List.getLast?_eq_getElem?,dA,Nat.min_eq_left hkl,List.getElem?_take_of_lt (by omega),aK (by omega)]
     have h3:=hinc.last hlast c hc
     have h4:=le (k - 1) k _ _ (by omega) (aK (by omega:k - 1<l.length)) (aK hk)
     omega
   ·have hge:k=l.length:=by have:=of_decide_eq_false h;omega
    subst hge;rw [fC] at hinc;exact hinc
  ·match l,h2 with
   | [],h2=>simp at h2
   | a::l,_=>exact List.pairwise_singleton _ _
  ·rintro o ho
   exact Ok.cs ho (fun s h=>Ok.ret ⟨h,fun c=>Iff.rfl⟩) (fun r h=>Ok.ret h)
def po (l:List aI):List Int:=l.flatMap fun r=>[r.X0,r.X1]
def kZ (l:List aI):List Int:=l.flatMap fun r=>[r.Y0,r.Y1]
theorem n0 {l:List aI} {c:Int}:c∈po l↔∃r∈l,c=r.X0\/c=r.X1:=by unfold po;simp [List.mem_flatMap]
theorem jl {l:List aI} {c:Int}:c∈kZ l↔∃r∈l,c=r.Y0\/c=r.Y1:=by unfold kZ;simp [List.mem_flatMap]
theorem k6 (l:List aI): (po l).length=2*l.length:=by
 induction l with
 | nil=>rfl
 | cons r l ih=>unfold po at *;simp [List.flatMap_cons,ih];omega
theorem jm (l:List aI): (kZ l).length=2*l.length:=by
 induction l with
 | nil=>rfl
 | cons r l ih=>unfold kZ at *;simp [List.flatMap_cons,ih];omega
def tc (X Y:List Int) (s:List Bd):Prop:=∀b∈s,b.y0∈Y/\b.y1∈Y/\∀c∈b.xs,c∈X
theorem tc.push {X Y:List Int} {s:List Bd} {b:Bd} (h:tc X Y s) (h0:b.y0∈Y) (h1:b.y1∈Y) (h2: ∀c∈b.xs,c∈X):tc X Y (lB s b):=by
 intro c hc
 unfold lB at hc
 split at hc
 ·exact h c hc
 ·split at hc
  ·rename_i d hd
   have hdm:d∈s:=List.mem_of_getLast? hd
   split at hc
   ·rcases cQ.1 hc with hc | hc
    ·exact h c (List.dropLast_subset _ hc)
    ·simp at hc;subst hc;exact⟨(h d hdm).1,h1,(h d hdm).2.2⟩
   ·rcases cQ.1 hc with hc | hc
    ·exact h c hc
    ·simp at hc;subst hc;exact⟨h0,h1,h2⟩
  ·simp at hc;subst hc;exact⟨h0,h1,h2⟩
theorem kR.nodup {l:List Int} (h:kR l):l.Nodup:=List.Pairwise.imp (fun h=>by omega) h
theorem tc.row {X Y:List Int} {s:List Bd} (h:tc X Y s) (hc:dU s) {b:Bd} (hb:b∈s):b.xs.length<=X.length:=dQ (hc.each b hb).2.2.1.nodup (h b hb).2.2
theorem tc.len {X Y:List Int} {s:List Bd} (h:tc X Y s) (hc:dU s):s.length<=Y.length:=by
 have hn: (s.map Bd.y0).Nodup:=by
  unfold List.Nodup
  rw [List.pairwise_map]
  refine List.Pairwise.imp_of_mem (fun{a b} ha hb hab=>?_) hc.ord
  have:=(hc.each a ha).1
  have:=hab.1
  omega
 have:=dQ hn (m:=Y) (fun x hx=>by
  obtain⟨b,hb,rfl⟩:=cI.1 hx
  exact(h b hb).1)
 rwa [dC] at this
theorem tc.mono {X Y X' Y':List Int} {s:List Bd} (h:tc X Y s) (hx: ∀c∈X,c∈X') (hy: ∀c∈Y,c∈Y'):tc X' Y' s:=fun b hb=>⟨hy _ (h b hb).1,hy _ (h b hb).2.1,fun c hc=>hx c ((h b hb).2.2 c hc)⟩
theorem kR.lt {l:List Int} (h:kR l) {i j:Nat} {x y:Int} (hij:i<j) (hx:l[i]? =some x) (hy:l[j]? =some y):x<y:=by
 have:=lK.1 h i j (aY.1 hx).1 (aY.1 hy).1 hij
 rw [(aY.1 hx).2,(aY.1 hy).2] at this;exact this
theorem kR.next {l:List Int} (h:kR l) {k:Nat} {x y c:Int} (hx:l[k]? =some x) (hy:l[k+1]? =some y) (hc:c∈l) (hxc:x<c):y<=c:=by
 obtain⟨j,hj⟩:=eO hc
 rcases Nat.lt_trichotomy j (k+1) with h1 | h1 | h1
 ·exfalso
  by_cases e:j=k
  ·subst e;rw [hx] at hj;injection hj with hj;omega
  ·have:=h.lt (show j<k by omega) hj hx;omega
 ·subst h1;rw [hy] at hj;injection hj with hj;omega
 ·have:=h.lt h1 hy hj;omega
theorem sU {l:List aI} {φ:aI->Option Bool} (p:aI->Bool) (hφ: ∀x∈l,φ x=some (p x)) (hl:l.length<=4611686018427387000) (hN:l.length<N):gh N l φ=some (l.filter (fun x=> !p x)):=
 Ex (z:=(⟨0,0,0,0⟩:aI)) p hφ hl hN
theorem xE {l:List aI} (hl:l.length<=268435456):gS N l=some l:=by
 unfold gS;rw [g9 (by simp;omega),aB,List.nil_append]
structure Ix (l m:List aI) (ys:List Int) (k:Nat) (out:List aA) (now:List aI) (nx:Nat):Prop where
 can:dU (out.map bN)
 top: ∀c∈out,∀y,ys[k]? =some y->c.Y1<=y
 cover: ∀x y,tX (out.map bN) x y= (xD l x y&&decide (∀a,ys[k]? =some a->y<a))
 lim:tc (po l) (kZ l) (out.map bN)
 KF: ∀r∈now,r∈m.take nx
 KG: ∀r∈m.take nx,∀y,ys[k]? =some y->y<r.Y1->r∈now
 len:now.length<=nx
 Kj:nx<=m.length
 rest: ∀(j:Nat) r y,nx<=j->m[j]? =some r->ys[k]? =some y->y<=r.Y0
 low: ∀r∈now,∀y,ys[k]? =some y->r.Y0<=y
structure pq (l:List aI) (s:List aA):Prop where
 can:dU (s.map bN)
 cover: ∀x y,tX (s.map bN) x y=xD l x y
 lim:tc (po l) (kZ l) (s.map bN)
theorem pU {l:List aI} (hl:l.length<=134217728) (hok: ∀r∈l,AR r) (hN:4294967296<=N):Ok (fQ N l) (pq l):=by
 unfold fQ
 refine Ok.eq (xE (by omega)) ?_
 obtain⟨m,h1,h2,h3⟩:=wD (φ:=iu N) (l:=l) (fun a b=>a.Y0 - b.Y0) (fun a ha b hb=>by
  unfold iu;rw [wrap_small (hok a ha).s3 (hok b hb).s3]) (fun a _=>by omega) (fun a _ b _ c _ h1 h2=>by omega) (fun a _ b _ c _ h1 h2=>by omega) (by omega)
 refine Ok.eq h1 ?_
 have hml:m.length=l.length:=h2.length_eq
 have hmem: ∀r,r∈m↔r∈l:=fun r=>h2.mem_iff
 refine Ok.bind (Ok.jq (fun k s=>s=kZ (m.take k)) (by omega) rfl (fun k s hk e=>?_)) ?_
 ·subst e
  refine Ok.idx hk (Ok.app ?_ (Ok.ret ?_))
  ·rw [jm];simp;omega
  ·rw [fH hk]
   unfold kZ;rw [List.flatMap_append];rfl
 rintro s rfl
 rw [fC]
 have hgs:qy (kZ m)=some ((kZ m).mergeSort (fun x y=>decide (x<=y))):=by unfold qy;rw [aD (by rw [jm];omega)]
 refine Ok.eq hgs ?_
 have hsp: ((kZ m).mergeSort (fun x y=>decide (x<=y))).Pairwise (fun x y=>x<=y):=by
  have:=List.pairwise_mergeSort (le:=fun(x y:Int)=>decide (x<=y)) (fun a b c h1 h2=>by simp at *;omega) (fun a b=>by simp;omega) (kZ m)
  exact List.Pairwise.imp (fun h=>by simpa using h) this
 have hsm: ∀c,c∈(kZ m).mergeSort (fun x y=>decide (x<=y))↔c∈kZ m:=fun c=>List.mem_mergeSort
 have hsl: ((kZ m).mergeSort (fun x y=>decide (x<=y))).length=2*m.length:=by rw [List.length_mergeSort,jm]
 generalize (kZ m).mergeSort (fun x y=>decide (x<=y))=sy at hsp hsm hsl
 refine Ok.bind (yZ (N:=N) hsp (by omega) (by omega)) ?_
 rintro ys ⟨hy,hym⟩
 have hyl:ys.length<=2*m.length:=by
  have:=dQ hy.nodup (m:=sy) (fun c hc=>(hym c).1 hc)
  omega
 have y0m: ∀r∈m,r.Y0∈ys:=fun r hr=>(hym _).2 ((hsm _).2 (jl.2 ⟨r,hr, .inl rfl⟩))
 have y1m: ∀r∈m,r.Y1∈ys:=fun r hr=>(hym _).2 ((hsm _).2 (jl.2 ⟨r,hr, .inr rfl⟩))
 have yml: ∀c∈ys,c∈kZ l:=fun c hc=>by
  obtain⟨r,hr,h⟩:=jl.1 ((hsm _).1 ((hym _).1 hc))
  exact jl.2 ⟨r,(hmem r).1 hr,h⟩
 refine Ok.bind (Ok.mm (Go:=fun s=>pq l s.1) (Rt:=fun _=>True) (fun s=>∃k nx:Nat,s.2.2.2= ((k:Nat):Int)/\s.2.2.1= ((nx:Nat):Int)/\(k<ys.length\/k=0)/\Ix l m ys k s.1 s.2.1 nx) (fun s=>ys.length - s.2.2.2.toNat) ?_ ?_ (by simp;omega)) ?_
 ·rintro⟨out,now,a,b⟩ ⟨k,nx,e1,e2,hk,I⟩
  dsimp only at e1 e2 I ⊢
  subst e1;subst e2
  rw [gQ (by omega)]
  refine Ok.bif (fun h=>?_) (fun h=>Ok.br ?_)
  ·have hk1:k+1<ys.length:=by have:=of_decide_eq_true h;omega
   have hyk:ys[k]? =some ys[k]:=aK _
   have hyk1:ys[k+1]? =some ys[k+1]:=aK hk1
   have hlt:=hy.lt (Nat.lt_succ_self k) hyk hyk1
   have hcov:=I.cover
   simp only [hyk,Option.some.injEq,forall_eq'] at hcov
   refine Ok.eq (sU (fun r=>decide (r.Y1<=ys[k])) (fun r _=>by unfold lQ;rw [i9 ys k (by omega),aB]) (by have:=I.len;have:=I.Kj;omega) (by have:=I.len;have:=I.Kj;omega)) ?_
   have hfl:=j4 (fun r:aI=> !decide (r.Y1<=ys[k])) now
   have hIl:=I.len
   have hIn:=I.Kj
   refine Ok.bind (Ok.mm (Go:=fun s=>∃nx':Nat,s.2= ((nx':Nat):Int)/\nx'<=m.length/\s.1.length<=nx'/\(∀r∈s.1,r∈m.take nx')/\(∀r∈m.take nx',ys[k]<r.Y1->r∈s.1)/\(∀r∈s.1,r.Y0<=ys[k]/\ys[k]<r.Y1)/\(∀(j:Nat) r,nx'<=j->m[j]? =some r->ys[k]<r.Y0)) (Rt:=fun _=>True)
    (fun s=>∃nx':Nat,s.2= ((nx':Nat):Int)/\nx<=nx'/\nx'<=m.length/\s.1.length<=nx'/\(∀r∈s.1,r∈m.take nx')/\(∀r∈m.take nx',ys[k]<r.Y1->r∈s.1)/\(∀r∈s.1,r.Y0<=ys[k]/\ys[k]<r.Y1)) (fun s=>m.length - s.2.toNat) ?_ ?_ (by simp;omega)) ?_
   ·rintro⟨nw,b⟩ ⟨nx',e1,g0,g1,g2,g3,g4,g5⟩
    dsimp only at e1 g2 g3 g4 g5 ⊢
    subst e1
    refine Ok.bind (P:=fun b=>b=true↔∃h:nx'<m.length,m[nx'].Y0<=ys[k]) ?_ ?_
    ·refine Ok.bif (fun h=>?_) (fun h=>Ok.ret ?_)
     ·have hlt:nx'<m.length:=by have:=of_decide_eq_true h;omega
      refine Ok.idx hlt (Ok.idx (by omega) (Ok.ret ?_))
      rw [bT];exact⟨fun h=>⟨hlt,h⟩,fun⟨_,h⟩=>h⟩
     ·have:=of_decide_eq_false h
      constructor
      ·intro h;cases h
      ·rintro⟨h,_⟩;omega
    ·intro bb hbb
     refine Ok.bif (fun h=>?_) (fun h=>Ok.br ?_)
     ·obtain⟨hlt,h0⟩:=hbb.1 h
      have hts:m.take (nx'+1)=m.take nx'++[m[nx']]:=fH hlt
      refine Ok.idx hlt (Ok.app (by simp;omega) (Ok.nx ⟨⟨nx'+1,by rw [gQ (by omega)],by omega,by omega,by simp;omega,fun r hr=>?_,fun r hr hr2=>?_,fun r hr=>?_⟩,by rw [gQ (by omega)];simp only [bO];omega⟩))
      ·rw [hts]
       rcases cQ.1 hr with h | h
       ·exact List.mem_append_left _ (g3 r h)
       ·exact List.mem_append_right _ h
      ·rw [hts] at hr
       rcases cQ.1 hr with h | h
       ·exact List.mem_append_left _ (g4 r h hr2)
       ·exact List.mem_append_right _ h
      ·rcases cQ.1 hr with h | h
       ·exact g5 r h
       ·simp at h;subst h
        refine⟨h0,?_⟩
        have:=(hok m[nx'] ((hmem _).1 (cM hlt))).y
        have:=I.rest nx' _ ys[k] g0 (aK hlt) hyk
        omega
     ·refine⟨nx',rfl,g1,g2,g3,g4,g5,fun j r hj hr=>?_⟩
      have hjl:=(aY.1 hr).1
      have hlt:nx'<m.length:=by omega
      have h0: ¬m[nx'].Y0<=ys[k]:=fun h0=>by rw [hbb.2 ⟨hlt,h0⟩] at h;cases h
      by_cases e:nx'=j
      ·subst e;rw [aK hlt] at hr;injection hr with hr;subst hr;omega
      ·have:=lK.1 h3 nx' j hlt hjl (by omega)
       have hr':=(aY.1 hr).2
       rw [hr'] at this;omega
   ·refine⟨nx,rfl,bI _,hIn,by dsimp only;omega,fun r hr=>I.KF r (hU.1 hr).1,fun r hr h=>hU.2 ⟨I.KG r hr ys[k] hyk h,by simpa using h⟩,fun r hr=>?_⟩
    have hr:=hU.1 hr
    have hr2:ys[k]<r.Y1:=by simpa using hr.2
    exact⟨I.low r hr.1 ys[k] hyk,hr2⟩
   ·rintro o ho
    refine Ok.cs ho ?_ (fun r=>r.elim)
    rintro⟨nw,b⟩ ⟨nx',e1,g1,g2,g3,g4,g5,g6⟩
    dsimp only at e1 g2 g3 g4 g5 ⊢
    subst e1
    refine Ok.idx (by omega) (Ok.idx hk1 ?_)
    have hnm: ∀r∈nw,r∈l:=fun r hr=>(hmem r).1 (List.take_subset _ _ (g3 r hr))
    obtain⟨row,nw',s1,s2,s3,s4,s5,s6,s7⟩:=yY (N:=N) (l:=nw) (by omega) (fun r hr=>hok r (hnm r hr))
    refine Ok.eq s1 ?_
    have hlimx: ∀c∈row,c∈po l:=fun c hc=>by
     obtain⟨r,hr,h⟩:=s7 c hc
     exact n0.2 ⟨r,hnm r hr,h⟩
    have hol:out.length<=2*l.length:=by have:=I.lim.len I.can;rw [jm,dC] at this;exact this
    have hox: ∀c∈out,c.Xs.length<=2*l.length:=fun c hc=>by
     have:=I.lim.row I.can (b:=bN c) (cI.2 ⟨c,hc,rfl⟩)
     rw [k6] at this;exact this
    obtain⟨out',p1,p2⟩:=Co (N:=N) (s:=out) (b:=⟨ys[k],ys[k+1],row⟩) (by omega) (fun c hc=>by have:=hox c hc;omega)
    refine Ok.eq p1 ?_
    have htop: ∀c∈out.map bN,c.y1<=(bN ⟨ys[k],ys[k+1],row⟩).y0:=fun c hc=>by
     obtain⟨d,hd,rfl⟩:=cI.1 hc
     exact I.top d hd ys[k] hyk
    have hcan:=u5 I.can htop s3 s4
    refine Ok.nx ⟨⟨k+1,nx',rfl,rfl, .inl hk1,⟨by dsimp only;rw [p2];exact hcan,fun c hc y hy1=>?_,fun x y=>?_,?_,fun r hr=>g3 r (s2.subset hr),fun r hr y hy1 h=>?_,by rw [s2.length_eq];exact g2,g1,fun j r y hj hr hy1=>?_,fun r hr y hy1=>?_⟩⟩,by simp only [bO];omega⟩
    ·rw [hyk1] at hy1;injection hy1 with hy1;subst hy1
     have hm':bN c∈lB (out.map bN) (bN ⟨ys[k],ys[k+1],row⟩):=by rw [<-p2];exact cI.2 ⟨c,hc,rfl⟩
     exact u6 htop (by show ys[k]<=ys[k+1];omega) _ hm'
    ·simp only [hyk1,Option.some.injEq,forall_eq']
     unfold tX
     rw [p2,u4 htop (fun c hc=>(I.can.each c hc).1) (fun h=>absurd h (by show ¬ys[k+1]<=ys[k];omega))]
     by_cases hyy:ys[k]<=y/\y<ys[k+1]
     ·rw [aD (show (bN ⟨ys[k],ys[k+1],row⟩).y0<=y/\y< (bN ⟨ys[k],ys[k+1],row⟩).y1 from hyy),cE hyy.2,Bool.and_true]
      show mj row x=_
      rw [s5,fD,wK,jF]
      constructor
      ·rintro⟨r,hr,h⟩
       have hrm:=List.take_subset _ _ (g3 r hr)
       have h5:=g5 r hr
       have:=hy.next hyk hyk1 (y1m r hrm) h5.2
       exact⟨r,hnm r hr,h,by omega,by omega⟩
      ·rintro⟨r,hr,h,h7,h8⟩
       have hrm:=(hmem r).2 hr
       have h9:r.Y0<=ys[k]:=by
        by_cases h10:r.Y0<=ys[k]
        ·exact h10
        ·have:=hy.next hyk hyk1 (y0m r hrm) (by omega);omega
       have h11:r∈m.take nx':=by
        obtain⟨j,hj⟩:=eO hrm
        by_cases h12:j<nx'
        ·exact fz (i:=j) (by rw [List.getElem?_take_of_lt h12];exact hj)
        ·have:=g6 j r (by omega) hj;omega
       exact⟨r,g4 r h11 (by omega),h⟩
     ·rw [aC (show ¬((bN ⟨ys[k],ys[k+1],row⟩).y0<=y/\y< (bN ⟨ys[k],ys[k+1],row⟩).y1) from hyy)]
      show tX (out.map bN) x y=_
      rw [hcov]
      by_cases h1:y<ys[k]
      ·rw [cE h1,cE (show y<ys[k+1] by omega)]
      ·rw [bG h1,bG (show ¬y<ys[k+1] by omega)]
    ·show tc (po l) (kZ l) (out'.map bN)
     rw [p2]
     exact I.lim.push (yml _ (cM _)) (yml _ (cM _)) hlimx
    ·rw [hyk1] at hy1;injection hy1 with hy1;subst hy1
     exact s2.symm.subset (g4 r hr (by omega))
    ·rw [hyk1] at hy1;injection hy1 with hy1;subst hy1
     exact hy.next hyk hyk1 (y0m r (fz hr)) (g6 j r hj hr)
    ·rw [hyk1] at hy1;injection hy1 with hy1;subst hy1
     have:=(g5 r (s2.subset hr)).1;omega
  ·have hge: ¬k+1<ys.length:=by have:=of_decide_eq_false h;omega
   refine⟨I.can,fun x y=>?_,I.lim⟩
   rw [I.cover]
   by_cases hyn:ys= []
   ·have:xD l x y=false:=by
     rw [<-nj,jF]
     rintro⟨r,hr,_⟩
     have:=y0m r ((hmem r).2 hr)
     rw [hyn] at this;cases this
    rw [this];rfl
   ·have hkl:k<ys.length:=by
     rcases hk with h | h
     ·exact h
     ·subst h;exact List.length_pos_iff.2 hyn
    rw [aK hkl]
    simp only [Option.some.injEq,forall_eq']
    cases hc:xD l x y with
    | false=>rfl
    | true=>
     obtain⟨r,hr,_,h7,h8⟩:=jF.1 hc
     have:=y1m r ((hmem r).2 hr)
     obtain⟨j,hj⟩:=eO this
     have hjl:=(aY.1 hj).1
     have:r.Y1<=ys[k]:=by
      by_cases e:j=k
      ·subst e;rw [aK hkl] at hj;injection hj with hj;omega
      ·have:=hy.lt (show j<k by omega) hj (aK hkl);omega
     rw [cE (show y<ys[k] by omega)];rfl
 ·refine⟨0,0,rfl,rfl, .inr rfl,?_⟩
  show Ix l m ys 0 [] [] 0
  refine⟨dU.nil,fun c hc=>(by cases hc),fun x y=>?_,fun b hb=>(by cases hb),fun r hr=>(by cases hr),fun r hr=>(by rw [List.take_zero] at hr;cases hr),bI _,nk _,fun j r y _ hr hy0=>?_,fun r hr=>(by cases hr)⟩
  ·show false=_
   symm
   rw [Bool.and_eq_false_iff]
   cases hc:xD l x y with
   | false=>exact .inl rfl
   | true=>
    right
    obtain⟨r,hr,_,h7,h8⟩:=jF.1 hc
    have hr0:=y0m r ((hmem r).2 hr)
    have hpos:0<ys.length:=List.length_pos_of_mem hr0
    rw [decide_eq_false_iff_not]
    intro h
    have h:=h ys[0] (aK hpos)
    obtain⟨j,hj⟩:=eO hr0
    by_cases e:j=0
    ·subst e;rw [aK hpos] at hj;injection hj with hj;omega
    ·have:=hy.lt (show 0<j by omega) (aK hpos) hj;omega
  ·obtain⟨j',hj'⟩:=eO (y0m r (fz hr))
   by_cases e:j'=0
   ·subst e;rw [hy0] at hj';injection hj' with hj';omega
   ·have:=hy.lt (show 0<j' by omega) hy0 hj';omega
 ·rintro o ho
  refine Ok.cs ho (fun s h=>Ok.ret h) (fun r=>r.elim)
end
end Go.Gk
namespace Go.Gk
open Go
section
variable {N:Nat}
def wN:List Int->List (Int×Int)
 | a::b::l=>(a,b)::wN l
 | _=>[]
theorem vS: ∀(xs:List Int),(wN xs).length=xs.length / 2
 | []=>rfl
 | [a]=>by simp [wN]
 | a::b::l=>by unfold wN;rw [f0,vS l];simp only [f0];omega
theorem tZ: ∀(xs:List Int) (j:Nat) (h:2*j+1<xs.length),(wN xs)[j]? =some (xs[2*j],xs[2*j+1])
 | [],j,h=>by simp at h
 | [a],j,h=>by simp at h
 | a::b::l,0,h=>rfl
 | a::b::l,j+1,h=>by
  have:=tZ l j (by simp at h;omega)
  unfold wN
  rw [List.getElem?_cons_succ,this]
  have e1: (a::b::l)[2* (j+1)]=l[2*j]'(by simp at h;omega):=by simp [show 2* (j+1)=2*j+1+1 by omega]
  have e2: (a::b::l)[2* (j+1)+1]=l[2*j+1]'(by simp at h;omega):=by simp [show 2* (j+1)+1=2*j+1+1+1 by omega]
  rw [e1,e2]
theorem t7: ∀{xs:List Int},xs.length % 2=0->oG (wN xs)=xs
 | [],_=>rfl
 | [a],h=>by simp at h
 | a::b::l,h=>by unfold wN;rw [my,t7 (by simp at h;omega)]
theorem FR {xs:List Int} (h:kR xs) (he:xs.length % 2=0) (x:Int):mj xs x=De (wN xs) x:=by
 have:=tY (l:=wN xs) (by rw [t7 he];exact h) x
 rwa [t7 he] at this
theorem y4 {xs:List Int}: ∀p∈wN xs,p.1∈xs/\p.2∈xs:=by
 intro p hp
 obtain⟨j,hj⟩:=eO hp
 have hjl:=(aY.1 hj).1
 rw [vS] at hjl
 rw [tZ xs j (by omega)] at hj
 injection hj with hj;subst hj
 exact⟨cM _,cM _⟩
theorem Bw {xs:List Int} (h:kR xs): ∀p∈wN xs,p.1<p.2:=by
 intro p hp
 obtain⟨j,hj⟩:=eO hp
 have hjl:=(aY.1 hj).1
 rw [vS] at hjl
 rw [tZ xs j (by omega)] at hj
 injection hj with hj;subst hj
 exact h.lt (show 2*j<2*j+1 by omega) (aK _) (aK _)
def k7 (b:aA):List aI:=(wN b.Xs).map fun p=>⟨p.1,b.Y0,p.2,b.Y1⟩
def aP (s:List aA):List aI:=s.flatMap k7
theorem lC (b:aA) (s:List aA):aP (b::s)=k7 b++aP s:=rfl
theorem kO (b:aA): (k7 b).length=b.Xs.length / 2:=by unfold k7;rw [dC,vS]
theorem k8 (s t:List aA):aP (s++t)=aP s++aP t:=List.flatMap_append
theorem u9 (s:List aA) (k:Nat): (aP (s.take k)).length<=(aP s).length:=by
 conv=>rhs;rw [<-List.take_append_drop k s,k8,dR]
 omega
theorem wO {s:List aA} {A B:Nat} (h1:s.length<=A) (h2: ∀b∈s,b.Xs.length<=B): (aP s).length<=A*B:=by
 induction s generalizing A with
 | nil=>simp [aP]
 | cons b s ih=>
  rw [lC,dR,kO]
  simp at h1
  obtain⟨A',rfl⟩: ∃A',A=A'+1:=⟨A - 1,by omega⟩
  have:=ih (A:=A') (by omega) (fun c hc=>h2 c (jt _ hc))
  have:=h2 b (by simp)
  rw [Nat.add_mul];omega
theorem wP {s:List aA} (he: ∀b∈s,b.Xs.length % 2=0) (h1:s.length<=1099511627776) (h2: ∀b∈s,b.Xs.length<=1099511627776/\b.Xs.length<N) (h3: (aP s).length<=1099511627776):gZ N s=some (aP s):=by
 refine Ok.get ?_
 unfold gZ
 refine Ok.bind (Ok.jq (fun k t=>t=aP (s.take k)) (by omega) rfl (fun k t hk e=>?_)) (fun t e=>Ok.ret (by rw [e,fC]))
 subst e
 refine Ok.idx hk ?_
 have hm:=cM hk
 generalize hb:s[k]=b at hm ⊢
 have heb:=he b hm
 have hbl:=h2 b hm
 have hts:aP (s.take (k+1))=aP (s.take k)++k7 b:=by
  rw [fH hk,k8,hb];simp [aP]
 have hle:=u9 s (k+1)
 rw [hts,dR,kO] at hle
 refine Ok.bind (Ok.mm (Go:=fun s'=>s'.1=aP (s.take (k+1))) (Rt:=fun _=>True) (fun s'=>∃j:Nat,s'.2= ((2*j:Nat):Int)/\2*j<=b.Xs.length/\s'.1=aP (s.take k)++(k7 b).take j) (fun s'=>b.Xs.length - s'.2.toNat) ?_ ⟨0,rfl,by omega,by simp⟩ (by simp;omega)) ?_
 ·rintro⟨acc,i⟩ ⟨j,e1,hj,e2⟩
  dsimp only at e1 e2 ⊢
  subst e1;subst e2
  refine Ok.bif (fun h=>?_) (fun h=>Ok.br ?_)
  ·have hlt:2*j+1<b.Xs.length:=by have:=of_decide_eq_true h;omega
   refine Ok.idx (by omega) ?_
   rw [gQ (by omega)]
   refine Ok.idx hlt (Ok.app ?_ (Ok.nx ⟨⟨j+1,?_,by omega,?_⟩,?_⟩))
   ·simp;rw [kO];omega
   ·rw [yc (by omega)];congr 1
   ·rw [jZ]
    congr 1
    have hg: (k7 b)[j]? =some ⟨b.Xs[2*j],b.Y0,b.Xs[2*j+1],b.Y1⟩:=by
     unfold k7;rw [eJ,tZ _ _ hlt];rfl
    have hjl:=(aY.1 hg).1
    rw [fH hjl,(aY.1 hg).2]
   ·rw [yc (by omega)];simp only [bO];omega
  ·have hge:2*j=b.Xs.length:=by have:=of_decide_eq_false h;omega
   show aP (s.take k)++(k7 b).take j=_
   rw [hts,oy (l:=k7 b) (by rw [kO];omega)]
 ·rintro o ho
  exact Ok.cs ho (fun s' h=>Ok.ret h) (fun r=>r.elim)
theorem FT {s:List aA} (h1:s.length<=1099511627776) (h2: ∀b∈s,b.Xs.length<=1099511627776) (h3: (aP s).length<=1099511627776):kh N s=some (((aP s).length:Nat):Int):=by
 refine Ok.get ?_
 unfold kh
 refine Ok.bind (Ok.jq (fun k t=>t= (((aP (s.take k)).length:Nat):Int)) (by omega) rfl (fun k t hk e=>?_)) (fun t e=>Ok.ret (by rw [e,fC]))
 subst e
 refine Ok.idx hk (Ok.ret ?_)
 have hm:=cM hk
 have hbl:=h2 _ hm
 have hts:aP (s.take (k+1))=aP (s.take k)++k7 s[k]:=by
  rw [fH hk,k8];simp [aP]
 have hle:=u9 s (k+1)
 rw [hts,dR,kO] at hle
 have e:Int.tdiv ((s[k].Xs.length:Nat):Int) 2= ((s[k].Xs.length / 2:Nat):Int):=by
  rw [show (2:Int)= ((2:Nat):Int) by rfl,<-Int.ofNat_tdiv]
 rw [e,Am (by omega),wrap_add (by omega),hts,dR,kO]
theorem Bx (l m:List aI) (x y:Int):xD (l++m) x y= (xD l x y||xD m x y):=List.any_append
theorem Ez {b:aA} (h:kR b.Xs) (he:b.Xs.length % 2=0) (x y:Int):xD (k7 b) x y= (mj b.Xs x&&(decide (b.Y0<=y)&&decide (y<b.Y1))):=by
 rw [FR h he,fD,jF,bV,wL,bV,bT,bT]
 unfold k7
 constructor
 ·rintro⟨r,hr,h1,h2⟩
  obtain⟨p,hp,rfl⟩:=cI.1 hr
  exact⟨⟨p,hp,h1⟩,h2⟩
 ·rintro⟨⟨p,hp,h1⟩,h2⟩
  exact⟨_,cI.2 ⟨p,hp,rfl⟩,h1,h2⟩
theorem pr: ∀{s:List aA},dU (s.map bN)->∀x y,xD (aP s) x y=tX (s.map bN) x y
 | [],_,x,y=>rfl
 | b::s,h,x,y=>by
  rw [lC,Bx,pr h.tail x y]
  have hb:=h.each (bN b) (by simp)
  rw [Ez hb.2.2.1 hb.2.2.2]
  unfold tX
  rw [dG,kp]
  by_cases hy:b.Y0<=y/\y<b.Y1
  ·rw [aD (show (bN b).y0<=y/\y< (bN b).y1 from hy),jE (fun c hc=> .inl (by have:=h.wH c hc;have e: (bN b).y1=b.Y1:=rfl;omega)),cE hy.1,cE hy.2]
   show (mj b.Xs x&&true||false)=mj b.Xs x
   simp
  ·rw [aC (show ¬((bN b).y0<=y/\y< (bN b).y1) from hy)]
   have: (decide (b.Y0<=y)&&decide (y<b.Y1))=false:=by rw [Bool.and_eq_false_iff,decide_eq_false_iff_not,decide_eq_false_iff_not];omega
   rw [this];simp
theorem nJ {s:List aA} {r:aI} (h:r∈aP s): ∃b∈s,∃p∈wN b.Xs,r= ⟨p.1,b.Y0,p.2,b.Y1⟩:=by
 unfold aP k7 at h
 obtain⟨b,hb,h⟩:=List.mem_flatMap.1 h
 obtain⟨p,hp,rfl⟩:=cI.1 h
 exact⟨b,hb,p,hp,rfl⟩
theorem wQ {s:List aA} {X Y:List Int} (h:dU (s.map bN)) (hl:tc X Y (s.map bN)) (hx: ∀c∈X,small c) (hy: ∀c∈Y,small c): ∀r∈aP s,AR r/\(r.X0∈X/\r.X1∈X)/\r.Y0∈Y/\r.Y1∈Y:=by
 intro r hr
 obtain⟨b,hb,p,hp,rfl⟩:=nJ hr
 have hm:bN b∈s.map bN:=cI.2 ⟨b,hb,rfl⟩
 have hc:=h.each _ hm
 have hll:=hl _ hm
 have h1:=y4 p hp
 have h2:=hll.2.2 p.1 h1.1
 have h3:=hll.2.2 p.2 h1.2
 exact⟨⟨Bw hc.2.2.1 p hp,hc.1,hx _ h2,hx _ h3,hy _ hll.1,hy _ hll.2.1⟩,⟨h2,h3⟩,hll.1,hll.2.1⟩
theorem sV {l:List Int} {x:Int} (h: ∀c∈l,c<=x):mj l x= (l.length % 2==1):=by unfold mj;rw [Cm h]
theorem va {l:List Int} {a x:Int} (h:x<a):mj (l++[a]) x=mj l x:=by unfold mj;rw [wE,mQ,aC (by omega),Cl];rfl
def Di (l:List Int):Bool:=l.length % 2==1
theorem wR (l:List Int) (a:Int):Di (l++[a]) = !Di l:=by
 unfold Di
 rw [dR,fD,Bool.not_eq_true',beq_iff_eq,beq_eq_false_iff_ne]
 simp;omega
structure An (jC:Bool->Bool->Bool) (a b a' b' out:List Int) (inA inB is:Bool) (pa pb:List Int):Prop where
 ea:a=pa++a'
 eb:b=pb++b'
 oa:inA=Di pa
 ob:inB=Di pb
 oo:is=Di out
 ok:is=jC inA inB
 low: ∀c,(c∈pa\/c∈pb\/c∈out)->∀d,(d∈a'\/d∈b')->c<d
 inc:kR out
 Iy: ∀x,(∀d,(d∈a'\/d∈b')->x<d)->mj out x=jC (mj pa x) (mj pb x)
 mem: ∀c∈out,c∈pa\/c∈pb
 len:out.length<=pa.length+pb.length
theorem An.step {jC:Bool->Bool->Bool} {a b a' b' out:List Int} {inA inB is:Bool} {pa pb:List Int} (I:An jC a b a' b' out inA inB is pa pb) (ha:kR a) (hb:kR b) (x:Int) (ta tb:List Int) (wa wb:Bool)
  (h1:a'= (if wa then x::ta else ta)) (h2:b'= (if wb then x::tb else tb)) (hw:wa=true\/wb=true) (hx: ∀d,(d∈ta\/d∈tb)->x<d):
  An jC a b ta tb (if jC (inA ^^ wa) (inB ^^ wb)=is then out else out++[x]) (inA ^^ wa) (inB ^^ wb) (jC (inA ^^ wa) (inB ^^ wb)) (if wa then pa++[x] else pa) (if wb then pb++[x] else pb):=by
 have hxm:x∈a'\/x∈b':=by
  rcases hw with h | h
  ·left;rw [h1,aD h];simp
  ·right;rw [h2,aD h];simp
 have hsub: ∀d,(d∈ta\/d∈tb)->d∈a'\/d∈b':=fun d hd=>by
  rcases hd with h | h
  ·left;rw [h1];split
   ·exact jt _ h
   ·exact h
  ·right;rw [h2];split
   ·exact jt _ h
   ·exact h
 have hlow: ∀c,(c∈pa\/c∈pb\/c∈out)->c<x:=fun c hc=>I.low c hc x hxm
 have hpa: ∀c∈(if wa then pa++[x] else pa),c∈pa\/(wa=true/\c=x):=fun c hc=>by
  split at hc
  ·rename_i h
   rcases cQ.1 hc with h' | h'
   ·exact .inl h'
   ·simp at h';exact .inr ⟨h,h'⟩
  ·exact .inl hc
 have hpb: ∀c∈(if wb then pb++[x] else pb),c∈pb\/(wb=true/\c=x):=fun c hc=>by
  split at hc
  ·rename_i h
   rcases cQ.1 hc with h' | h'
   ·exact .inl h'
   ·simp at h';exact .inr ⟨h,h'⟩
  ·exact .inl hc
 have hout: ∀c∈(if jC (inA ^^ wa) (inB ^^ wb)=is then out else out++[x]),c∈out\/c=x:=fun c hc=>by
  split at hc
  ·exact .inl hc
  ·rcases cQ.1 hc with h' | h'
   ·exact .inl h'
   ·simp at h';exact .inr h'
 have ooA: (inA ^^ wa)=Di (if wa then pa++[x] else pa):=by
  rw [I.oa];cases wa <;> simp [wR]
 have ooB: (inB ^^ wb)=Di (if wb then pb++[x] else pb):=by
  rw [I.ob];cases wb <;> simp [wR]
 have ooO:jC (inA ^^ wa) (inB ^^ wb)=Di (if jC (inA ^^ wa) (inB ^^ wb)=is then out else out++[x]):=by
  split
  ·rename_i h;rw [h];exact I.oo
  ·rename_i h
   rw [wR,<-I.oo]
   cases hk:jC (inA ^^ wa) (inB ^^ wb) <;> cases his:is <;> simp_all
 refine⟨?_,?_,ooA,ooB,ooO,rfl,?_,?_,?_,?_,?_⟩
 ·rw [I.ea,h1];split <;> simp
 ·rw [I.eb,h2];split <;> simp
 ·intro c hc d hd
  have hd':=hx d hd
  have hdd:=hsub d hd
  rcases hc with h | h | h
  ·rcases hpa c h with h' | ⟨_,rfl⟩
   ·exact I.low c (.inl h') d hdd
   ·exact hd'
  ·rcases hpb c h with h' | ⟨_,rfl⟩
   ·exact I.low c (.inr (.inl h')) d hdd
   ·exact hd'
  ·rcases hout c h with h' | rfl
   ·exact I.low c (.inr (.inr h')) d hdd
   ·exact hd'
 ·split
  ·exact I.inc
  ·exact I.inc.Ey fun c hc=>hlow c (.inr (.inr hc))
 ·intro y hy
  by_cases hxy:y<x
  ·have e1:mj (if wa then pa++[x] else pa) y=mj pa y:=by split;exact va hxy;rfl
   have e2:mj (if wb then pb++[x] else pb) y=mj pb y:=by split;exact va hxy;rfl
   have e3:mj (if jC (inA ^^ wa) (inB ^^ wb)=is then out else out++[x]) y=mj out y:=by split;rfl;exact va hxy
   rw [e1,e2,e3]
   refine I.Iy y fun d hd=>?_
   have:x<=d:=by
    rcases hd with h | h
    ·rw [h1] at h
     split at h
     ·rcases eZ.1 h with rfl | h
      ·exact Int.le_refl _
      ·have:=hx d (.inl h);omega
     ·have:=hx d (.inl h);omega
    ·rw [h2] at h
     split at h
     ·rcases eZ.1 h with rfl | h
      ·exact Int.le_refl _
      ·have:=hx d (.inr h);omega
     ·have:=hx d (.inr h);omega
   omega
  ·rw [sV (l:=if wa then pa++[x] else pa),sV (l:=if wb then pb++[x] else pb),sV]
   ·have e1:=ooA;have e2:=ooB;have e3:=ooO
    unfold Di at e1 e2 e3
    rw [<-e1,<-e2,<-e3]
   ·intro c hc
    rcases hout c hc with h | rfl
    ·have:=hlow c (.inr (.inr h));omega
    ·omega
   ·intro c hc
    rcases hpb c hc with h | ⟨_,rfl⟩
    ·have:=hlow c (.inr (.inl h));omega
    ·omega
   ·intro c hc
    rcases hpa c hc with h | ⟨_,rfl⟩
    ·have:=hlow c (.inl h);omega
    ·omega
 ·intro c hc
  have m1: ∀c,c∈pa->c∈(if wa then pa++[x] else pa):=fun c h=>by split;exact List.mem_append_left _ h;exact h
  have m2: ∀c,c∈pb->c∈(if wb then pb++[x] else pb):=fun c h=>by split;exact List.mem_append_left _ h;exact h
  rcases hout c hc with h | rfl
  ·rcases I.mem c h with h | h
   ·exact .inl (m1 c h)
   ·exact .inr (m2 c h)
  ·rcases hw with h | h
   ·left;rw [aD h];simp
   ·right;rw [aD h];simp
 ·have:=I.len
  have h3: (if wa then pa++[x] else pa).length+ (if wb then pb++[x] else pb).length>=pa.length+pb.length+1:=by
   rcases hw with h | h
   ·subst h;cases wb <;> simp <;> omega
   ·subst h;cases wa <;> simp <;> omega
  split
  ·omega
  ·simp at h3 ⊢;omega
end
end Go.Gk
namespace Go.Gk
open Go
section
variable {N:Nat}
theorem hQ (x:Int) (l:List Int):idx (x::l) 0=some x:=rfl
theorem pw {α:Type} (x:α) (l:List α):qt (x::l) 1 (((x::l).length:Nat):Int)=some l:=qI (x::l) 1 (by simp)
theorem iU {α:Type} (x:α) (l:List α):decide ((((x::l).length:Nat):Int)>0)=true:=cE (by simp)
theorem rE {α:Type} (x:α) (l:List α): ((((x::l).length:Nat):Int)==0)=false:=by rw [beq_eq_false_iff_ne];simp;omega
theorem Bz {a b:List Int} (ha:kR a) (hb:kR b) (h:a≠[]\/b≠[]): ∃x ta tb wa wb,a= (if wa then x::ta else ta)/\b= (if wb then x::tb else tb)/\(wa=true\/wb=true)/\(∀d,(d∈ta\/d∈tb)->x<d):=by
 match a,b,ha,hb,h with
 | [],[],_,_,h=>rcases h with h | h <;> exact absurd rfl h
 | x::ta,[],ha,_,_=>exact⟨x,ta,[],true,false,rfl,rfl, .inl rfl,fun d hd=>by rcases hd with h | h;exact ha.head d h;cases h⟩
 | [],y::tb,_,hb,_=>exact⟨y,[],tb,false,true,rfl,rfl, .inr rfl,fun d hd=>by rcases hd with h | h;cases h;exact hb.head d h⟩
 | x::ta,y::tb,ha,hb,_=>
  rcases Int.lt_trichotomy x y with h | h | h
  ·refine⟨x,ta,y::tb,true,false,rfl,rfl, .inl rfl,fun d hd=>?_⟩
   rcases hd with h1 | h1
   ·exact ha.head d h1
   ·rcases eZ.1 h1 with rfl | h1
    ·exact h
    ·have:=hb.head d h1;omega
  ·subst h
   exact⟨x,ta,tb,true,true,rfl,rfl, .inl rfl,fun d hd=>by rcases hd with h | h;exact ha.head d h;exact hb.head d h⟩
  ·refine⟨y,x::ta,tb,false,true,rfl,rfl, .inr rfl,fun d hd=>?_⟩
   rcases hd with h1 | h1
   ·rcases eZ.1 h1 with rfl | h1
    ·exact h
    ·have:=ha.head d h1;omega
   ·exact hb.head d h1
theorem Dj {φ:Bool->Bool->Option Bool} {jC:Bool->Bool->Bool} (hφ: ∀p q,φ p q=some (jC p q)) (hk:jC false false=false) {a b:List Int} (ha:kR a) (hb:kR b) (hae:a.length % 2=0) (hbe:b.length % 2=0)
  (gR:a.length<=1099511627776) (hbl:b.length<=1099511627776) (hN:a.length+b.length<N):
  Ok (nN N a b φ) (fun m=>kR m/\m.length % 2=0/\(∀x,mj m x=jC (mj a x) (mj b x))/\∀c∈m,c∈a\/c∈b):=by
 unfold nN
 refine Ok.bind (Ok.mm (Go:=fun s=>kR s.2.2.1/\s.2.2.1.length % 2=0/\(∀x,mj s.2.2.1 x=jC (mj a x) (mj b x))/\∀c∈s.2.2.1,c∈a\/c∈b) (Rt:=fun _=>True)
  (fun s=>∃pa pb,An jC a b s.1 s.2.1 s.2.2.1 s.2.2.2.1 s.2.2.2.2.1 s.2.2.2.2.2 pa pb) (fun s=>s.1.length+s.2.1.length) ?_ ?_ hN) ?_
 ·rintro⟨a',b',out,inA,inB,is⟩ ⟨pa,pb,I⟩
  dsimp only at I ⊢
  have ha':kR a':=by have:=ha;rw [I.ea] at this;exact(List.pairwise_append.1 this).2.1
  have hb':kR b':=by have:=hb;rw [I.eb] at this;exact(List.pairwise_append.1 this).2.1
  have hle:pa.length+a'.length=a.length:=by rw [I.ea];simp
  have hlb:pb.length+b'.length=b.length:=by rw [I.eb];simp
  have hlo:=I.len
  by_cases hne:a'≠[]\/b'≠[]
  ·obtain⟨x,ta,tb,wa,wb,h1,h2,hw,hx⟩:=Bz ha' hb' hne
   have J:=I.step ha hb x ta tb wa wb h1 h2 hw hx
   have fin: ∀(sa sb:List Int×Bool),sa= (ta,inA ^^ wa)->sb= (tb,inB ^^ wb)->
     Ok ((φ sa.2 sb.2).bind fun x220=>(bif (x220 != is) then ((app 8 out ([x]: (List Int))).bind fun x227=>some (x227,x220)) else (some (out,is))).bind fun s224=>some (Fl.nx (sa.1,sb.1,s224.1,sa.2,sb.2,s224.2)))
      (Gm (fun s':List Int×List Int×List Int×Bool×Bool×Bool=>(∃pa pb,An jC a b s'.1 s'.2.1 s'.2.2.1 s'.2.2.2.1 s'.2.2.2.2.1 s'.2.2.2.2.2 pa pb)/\s'.1.length+s'.2.1.length<a'.length+b'.length) (fun s=>kR s.2.2.1/\s.2.2.1.length % 2=0/\(∀x,mj s.2.2.1 x=jC (mj a x) (mj b x))/\∀c∈s.2.2.1,c∈a\/c∈b) (fun _:Empty=>True)):=by
    rintro _ _ rfl rfl
    refine Ok.eq (hφ _ _) ?_
    have hlt:ta.length+tb.length<a'.length+b'.length:=by
     rw [h1,h2]
     rcases hw with h | h
     ·subst h;cases wb <;> simp <;> omega
     ·subst h;cases wa <;> simp <;> omega
    by_cases he:jC (inA ^^ wa) (inB ^^ wb)=is
    ·rw [aD he] at J
     refine Ok.eq (x:=(out,is)) (by rw [he,show (is != is)=false by simp,aV]) ?_
     rw [he] at J
     exact Ok.nx ⟨⟨_,_,J⟩,hlt⟩
    ·rw [aC he] at J
     refine Ok.eq (x:=(out++[x],jC (inA ^^ wa) (inB ^^ wb))) (by rw [show (jC (inA ^^ wa) (inB ^^ wb) != is)=true by simp [he],aS,g9 (by simp;omega),aB]) (Ok.nx ⟨⟨_,_,J⟩,hlt⟩)
   rcases hw with rfl | rfl
   ·rw [aD rfl] at h1
    subst h1
    refine Ok.eq (x:=true) (by rw [iU,aS]) ?_
    rw [aS]
    have hle2: (bif (((b'.length:Nat):Int)==0) then (some true) else (bif (decide ((((x::ta).length:Nat):Int)>0)) then ((idx (x::ta) 0).bind fun x181=>(idx b' 0).bind fun x183=>some (decide (x181<=x183))) else (some false)))=some true:=by
     cases b' with
     | nil=>rfl
     | cons y b''=>
      rw [rE,aV,iU,aS,hQ,aB,hQ,aB]
      have:x<=y:=by
       cases wb with
       | true=>simp at h2;omega
       | false=>have:=hx y (.inr (by simp at h2;rw [<-h2];simp));omega
      rw [cE this]
    refine Ok.eq hle2 ?_
    rw [aS]
    refine Ok.eq (x:=x) (by rw [hQ,aB]) ?_
    refine Ok.eq (x:=true) (by rw [iU,aS,hQ,aB];simp) ?_
    refine Ok.eq (x:=(ta,!inA)) (by rw [aS,pw,aB]) ?_
    cases wb with
    | true=>
     rw [aD rfl] at h2
     subst h2
     refine Ok.eq (x:=true) (by rw [iU,aS,hQ,aB];simp) ?_
     refine Ok.eq (x:=(tb,!inB)) (by rw [aS,pw,aB]) ?_
     exact fin _ _ (by simp) (by simp)
    | false=>
     have h2:b'=tb:=h2
     subst h2
     refine Ok.eq (x:=false) ?_ ?_
     ·cases b' with
      | nil=>rfl
      | cons y b''=>
       have:=hx y (.inr (by simp))
       rw [iU,aS,hQ,aB,show (y==x)=false by rw [beq_eq_false_iff_ne];omega]
     ·refine Ok.eq (x:=(b',inB)) (by rw [aV]) ?_
      exact fin _ _ (by simp) (by simp)
   ·cases wa with
    | true=>
     rw [aD rfl] at h1 h2
     subst h1;subst h2
     refine Ok.eq (x:=true) (by rw [iU,aS]) ?_
     rw [aS]
     refine Ok.eq (x:=true) (by rw [rE,aV,iU,aS,hQ,aB,hQ,aB];simp) ?_
     rw [aS]
     refine Ok.eq (x:=x) (by rw [hQ,aB]) ?_
     refine Ok.eq (x:=true) (by rw [iU,aS,hQ,aB];simp) ?_
     refine Ok.eq (x:=(ta,!inA)) (by rw [aS,pw,aB]) ?_
     refine Ok.eq (x:=true) (by rw [iU,aS,hQ,aB];simp) ?_
     refine Ok.eq (x:=(tb,!inB)) (by rw [aS,pw,aB]) ?_
     exact fin _ _ (by simp) (by simp)
    | false=>
     have h1:a'=ta:=h1
     rw [aD rfl] at h2
     subst h1;subst h2
     refine Ok.eq (x:=true) (by rw [iU,FM];simp) ?_
     rw [aS]
     refine Ok.eq (x:=false) ?_ ?_
     ·rw [rE,aV]
      cases a' with
      | nil=>rfl
      | cons y a''=>
       have:=hx y (.inl (by simp))
       rw [iU,aS,hQ,aB,hQ,aB,bG (by omega)]
     ·rw [aV]
      refine Ok.eq (x:=x) (by rw [hQ,aB]) ?_
      refine Ok.eq (x:=false) ?_ ?_
      ·cases a' with
       | nil=>rfl
       | cons y a''=>
        have:=hx y (.inl (by simp))
        rw [iU,aS,hQ,aB,show (y==x)=false by rw [beq_eq_false_iff_ne];omega]
      ·refine Ok.eq (x:=(a',inA)) (by rw [aV]) ?_
       refine Ok.eq (x:=true) (by rw [iU,aS,hQ,aB];simp) ?_
       refine Ok.eq (x:=(tb,!inB)) (by rw [aS,pw,aB]) ?_
       exact fin _ _ (by simp) (by simp)
  ·have ea:a'= []:=Classical.byContradiction fun h=>hne (.inl h)
   have eb:b'= []:=Classical.byContradiction fun h=>hne (.inr h)
   subst ea;subst eb
   refine Ok.eq (x:=false) rfl ?_
   refine Ok.br ⟨I.inc,?_,fun x=>?_,fun c hc=>?_⟩
   ·have h1:=I.ea;have h2:=I.eb
    rw [lj] at h1 h2
    have h3:Di out=false:=by
     rw [<-I.oo,I.ok,I.oa,I.ob,<-h1,<-h2]
     unfold Di;rw [hae,hbe];exact hk
    unfold Di at h3
    rw [beq_eq_false_iff_ne] at h3
    dsimp only;omega
   ·have:=I.Iy x (fun d hd=>by rcases hd with h | h <;> cases h)
    have h1:=I.ea;have h2:=I.eb
    rw [lj] at h1 h2
    rw [h1,h2];exact this
   ·have h1:=I.ea;have h2:=I.eb
    rw [lj] at h1 h2
    rw [h1,h2];exact I.mem c hc
 ·exact⟨[],[],rfl,rfl,rfl,rfl,rfl,hk.symm,fun c hc=>(by rcases hc with h | h | h <;> cases h),lh,fun x _=>hk.symm,fun c hc=>(by cases hc),bI _⟩
 ·rintro o ho
  exact Ok.cs ho (fun s h=>Ok.ret h) (fun r=>r.elim)
theorem dU.app {s t:List Bd} (h:dU (s++t)):dU t:=⟨fun b hb=>h.each b (List.mem_append_right _ hb),(List.pairwise_append.1 h.ord).2.1⟩
theorem dU.low {b:Bd} {s:List Bd} (h:dU (b::s)): ∀c∈b::s,b.y0<=c.y0:=fun c hc=>by
 rcases eZ.1 hc with rfl | hc
 ·exact Int.le_refl _
 ·have:=h.wH c hc;have:=(h.each b (by simp)).1;omega
theorem dU.high {s:List Bd} {b:Bd} (h:dU (s++[b])): ∀c∈s++[b],c.y1<=b.y1:=fun c hc=>by
 rcases cQ.1 hc with hc | hc
 ·have:=((List.pairwise_append.1 h.ord).2.2 c hc b (by simp)).1
  have:=(h.each b (by simp)).1;omega
 ·simp at hc;subst hc;exact Int.le_refl _
def AU (s:List aA) (y e:Int):List Int×Int:=match s with
 | []=>([],e)
 | b::_=>if y<b.Y0 then ([],if b.Y0<e then b.Y0 else e) else (b.Xs,if b.Y1<e then b.Y1 else e)
theorem EA {α:Type} (x:α) (l:List α):idx (x::l) 0=some x:=rfl
theorem Gn (s:List aA) (y e:Int):kF N s y e=some (AU s y e):=by
 unfold kF AU
 cases s with
 | nil=>rfl
 | cons b s=>
  dsimp only
  rw [rE,aV,EA,aB,aB,aB,aB]
  by_cases h:y<b.Y0
  ·rw [cE h,aS,aD h]
  ·rw [bG h,aV,aC h]
theorem Cp {s:List aA} {y e:Int} {X Y:List Int} (hc:dU (s.map bN)) (hl:tc X Y (s.map bN)) (hh: ∀b t,s=b::t->y<b.Y1) (hy:y<e):
  y< (AU s y e).2/\(AU s y e).2<=e/\(∀y',y<=y'->y'< (AU s y e).2->rowAt (s.map bN) y'= (AU s y e).1)/\kR (AU s y e).1/\(AU s y e).1.length % 2=0/\((AU s y e).2=e\/(AU s y e).2∈Y)/\∀c∈(AU s y e).1,c∈X:=by
 cases s with
 | nil=>exact⟨hy,Int.le_refl _,fun y' _ _=>rfl,lh,rfl, .inl rfl,fun c hc=>(by cases hc)⟩
 | cons b t=>
  have hb:=hc.each (bN b) (by simp)
  have hlb:=hl (bN b) (by simp)
  have h1:=hh b t rfl
  unfold AU
  dsimp only
  by_cases h:y<b.Y0
  ·rw [aD h]
   dsimp only
   refine⟨by split <;> omega,by split <;> omega,fun y' h2 h3=>?_,lh,rfl,?_,fun c hc=>(by cases hc)⟩
   ·exact hc.rD (by show y'<b.Y0;split at h3 <;> omega)
   ·split
    ·exact .inr hlb.1
    ·exact .inl rfl
  ·rw [aC h]
   dsimp only
   refine⟨by split <;> omega,by split <;> omega,fun y' h2 h3=>?_,hb.2.2.1,hb.2.2.2,?_,hlb.2.2⟩
   ·exact dU.kq (b:=bN b) (by show b.Y0<=y';omega) (by show y'<b.Y1;split at h3 <;> omega)
   ·split
    ·exact .inr hlb.2.1
    ·exact .inl rfl
theorem yd {y:Int} {a:List aA} (hN:a.length<N) {body:List aA->Option (Fl (List aA) Empty)}
  (hb:body=fun(s373: (List aA))=>((bif (decide ((s373.length:Int)>0)) then ((idx s373 0).bind fun x407=>some (decide (x407.Y1<=y))) else (some false)).bind fun s405=>bif s405 then ((qt s373 1 (s373.length:Int)).bind fun x410=>some (.nx x410)) else (some (.br s373)):Option (Fl ((List aA)) Empty))):
  Ok (mm body N a) (Iv (fun a'=>∃p,a=p++a'/\(∀c∈p,c.Y1<=y)/\∀b t,a'=b::t->y<b.Y1) (fun _=>True)):=by
 subst hb
 refine Ok.mm (fun a'=>∃p,a=p++a'/\∀c∈p,c.Y1<=y) List.length ?_ ⟨[],rfl,fun c hc=>(by cases hc)⟩ hN
 rintro a' ⟨p,e,hp⟩
 cases a' with
 | nil=>exact Ok.eq (x:=false) rfl (Ok.br ⟨p,e,hp,fun b t h=>(by cases h)⟩)
 | cons b t=>
  refine Ok.eq (x:=decide (b.Y1<=y)) (by rw [iU,aS,EA,aB]) ?_
  refine Ok.bif (fun h=>?_) (fun h=>Ok.br ⟨p,e,hp,fun b' t' h'=>?_⟩)
  ·have h:=of_decide_eq_true h
   refine Ok.eq (pw b t) (Ok.nx ⟨⟨p++[b],by rw [e];simp,fun c hc=>?_⟩,by simp⟩)
   rcases cQ.1 hc with hc | hc
   ·exact hp c hc
   ·simp at hc;subst hc;exact h
  ·have h:=of_decide_eq_false h
   injection h' with h1 h2;subst h1;omega
theorem Ao {p a':List Bd} {y y':Int} (hp: ∀c∈p,c.y1<=y) (h:y<=y'):rowAt (p++a') y'=rowAt a' y':=by
 rw [nB,aC]
 rintro⟨b,hb,h1⟩
 have:=hp b hb;omega
structure y5 (jC:Bool->Bool->Bool) (X Y:List Int) (a b s:List aA):Prop where
 can:dU (s.map bN)
 cover: ∀x y,tX (s.map bN) x y=jC (tX (a.map bN) x y) (tX (b.map bN) x y)
 lim:tc X Y (s.map bN)
theorem wS {s:List aA} (hs:s≠[]) (hl:s.length<=1099511627776) (hc:dU (s.map bN)): ∃f l,idx s 0=some f/\idx s (IntKind.wrap .i64 (((s.length:Nat):Int) - 1))=some l/\f∈s/\l∈s/\∀c∈s,f.Y0<=c.Y0/\c.Y1<=l.Y1:=by
 cases s with
 | nil=>exact absurd rfl hs
 | cons f t=>
  rw [lA (by simp) (by omega)]
  have hlt: (f::t).length - 1< (f::t).length:=by simp
  refine⟨f,(f::t)[(f::t).length - 1],rfl,i9 _ _ hlt,by simp,cM _,fun c hcm=>⟨?_,?_⟩⟩
  ·exact hc.low (bN c) (cI.2 ⟨c,hcm,rfl⟩)
  ·have e: (f::t)= (f::t).dropLast++[(f::t)[(f::t).length - 1]]:=by
    have:=List.dropLast_concat_getLast (show f::t≠[] by simp)
    rw [<-List.getLast_eq_getElem (h:=by simp)];exact this.symm
   generalize (f::t)[(f::t).length - 1]=l at e
   have hc2:=hc
   rw [e,dV] at hc2
   have hm:bN c∈(List.map bN (f::t).dropLast++[bN l]):=by
    have:bN c∈(f::t).map bN:=cI.2 ⟨c,hcm,rfl⟩
    rw [e,dV] at this;exact this
   exact dU.high hc2 (bN c) hm
theorem BA {φ:Bool->Bool->Option Bool} {jC:Bool->Bool->Bool} (hφ: ∀p q,φ p q=some (jC p q)) (hk:jC false false=false) {a b:List aA} {X Y:List Int} (ca:dU (a.map bN)) (cb:dU (b.map bN))
  (la:tc X Y (a.map bN)) (lb:tc X Y (b.map bN)) (hX:X.length<=1048576000) (hY:Y.length<=1048576000) (hs: ∀c∈Y,small c) (hN:4398046511104<=N):Ok (mJ N a b φ) (y5 jC X Y a b):=by
 have gR:a.length<=Y.length:=by have:=la.len ca;rwa [dC] at this
 have hbl:b.length<=Y.length:=by have:=lb.len cb;rwa [dC] at this
 unfold mJ
 rw [wrap_add (by omega)]
 refine Ok.bif (fun h=>Ok.ret ?_) (fun h=>?_)
 ·have h:a.length+b.length=0:=by have:=beq_iff_eq.1 h;omega
  have e1:a= []:=List.eq_nil_of_length_eq_zero (by omega)
  have e2:b= []:=List.eq_nil_of_length_eq_zero (by omega)
  subst e1;subst e2
  exact⟨dU.nil,fun x y=>hk.symm,fun c hc=>(by cases hc)⟩
 have h0:a≠[]\/b≠[]:=by
  rw [beq_eq_false_iff_ne] at h
  by_cases e:a= []
  ·right;intro e2;subst e;subst e2;exact h rfl
  ·exact .inl e
 refine Ok.bind (Ok.jq (fun k s=>match k with | 0=>True | 1=>a= []\/((∀c∈a,s.1<=c.Y0/\c.Y1<=s.2)/\s.1∈Y/\s.2∈Y) | _=>((∀c∈a,s.1<=c.Y0/\c.Y1<=s.2)/\(∀c∈b,s.1<=c.Y0/\c.Y1<=s.2)/\s.1∈Y/\s.2∈Y)) (by simp) trivial (fun k s hk hI=>?_)) ?_
 ·obtain⟨y,e⟩:=s
  have hk:k=0\/k=1:=by simp at hk;omega
  rcases hk with rfl | rfl
  ·refine Ok.ix (x:=a) rfl ?_
   by_cases ea:a= []
   ·subst ea
    exact Ok.eq (x:=(y,e)) rfl (Ok.ret (.inl rfl))
   ·obtain⟨f,l,f1,f2,f3,f4,f5⟩:=wS ea (by omega) ca
    have hpos:decide (((a.length:Nat):Int)>0)=true:=cE (by have:=List.length_pos_iff.2 ea;omega)
    refine Ok.eq (x:=(f.Y0,l.Y1)) ?_ (Ok.ret (.inr ⟨f5,(la _ (cI.2 ⟨f,f3,rfl⟩)).1,(la _ (cI.2 ⟨l,f4,rfl⟩)).2.1⟩))
    rw [hpos,aS]
    show ((some true).bind _)=_
    rw [aB,aS,f1,aB,f2,aB,aB,aB,aB]
    simp
  ·refine Ok.ix (x:=b) rfl ?_
   have hI:a= []\/((∀c∈a,y<=c.Y0/\c.Y1<=e)/\y∈Y/\e∈Y):=hI
   by_cases eb:b= []
   ·subst eb
    refine Ok.eq (x:=(y,e)) rfl (Ok.ret ?_)
    rcases hI with h | ⟨h1,h2,h3⟩
    ·rcases h0 with h' | h'
     ·exact absurd h h'
     ·exact absurd rfl h'
    ·exact⟨h1,fun c hc=>(by cases hc),h2,h3⟩
   ·obtain⟨f,l,f1,f2,f3,f4,f5⟩:=wS eb (by omega) cb
    have hpos:decide (((b.length:Nat):Int)>0)=true:=cE (by have:=List.length_pos_iff.2 eb;omega)
    have g1:f.Y0∈Y:=(lb _ (cI.2 ⟨f,f3,rfl⟩)).1
    have g2:l.Y1∈Y:=(lb _ (cI.2 ⟨l,f4,rfl⟩)).2.1
    by_cases ea:a= []
    ·subst ea
     refine Ok.eq (x:=(f.Y0,l.Y1)) ?_ (Ok.ret ⟨fun c hc=>(by cases hc),f5,g1,g2⟩)
     rw [hpos,aS]
     show ((some true).bind _)=_
     rw [aB,aS,f1,aB,f2,aB,aB,aB,aB]
     simp
    ·obtain⟨h1,h2,h3⟩:=hI.resolve_left ea
     refine Ok.eq (x:=(if f.Y0<y then f.Y0 else y,if e<l.Y1 then l.Y1 else e)) ?_ (Ok.ret ⟨fun c hc=>?_,fun c hc=>?_,?_,?_⟩)
     ·rw [hpos,aS]
      have ez: (((a.length:Nat):Int)==0)=false:=by rw [beq_eq_false_iff_ne];have:=List.length_pos_iff.2 ea;omega
      rw [ez]
      show ((some false).bind _)=_
      rw [aB,aV,aB,f1,aB,f2,aB]
     ·have:=h1 c hc;dsimp only;split <;> split <;> omega
     ·have:=f5 c hc;dsimp only;split <;> split <;> omega
     ·dsimp only;split
      ·exact g1
      ·exact h2
     ·dsimp only;split
      ·exact g2
      ·exact h3
 ·rintro⟨y0,e0⟩ hI
  have hI: (∀c∈a,y0<=c.Y0/\c.Y1<=e0)/\(∀c∈b,y0<=c.Y0/\c.Y1<=e0)/\y0∈Y/\e0∈Y:=hI
  obtain⟨ia,ib,iy,ie⟩:=hI
  have sy:=hs _ iy
  have se:=hs _ ie
  unfold small at sy se
  dsimp only
  refine Ok.bind (Ok.mm (Go:=fun s=>y5 jC X Y a b s.2.2.1) (Rt:=fun _=>True)
   (fun s=>∃pa pb,a=pa++s.1/\b=pb++s.2.1/\(∀c∈pa,c.Y1<=s.2.2.2)/\(∀c∈pb,c.Y1<=s.2.2.2)/\y0<=s.2.2.2/\s.2.2.2<=max y0 e0/\s.2.2.2∈Y/\dU (s.2.2.1.map bN)/\tc X Y (s.2.2.1.map bN)/\(∀c∈s.2.2.1,c.Y1<=s.2.2.2)/\
    ∀x y,tX (s.2.2.1.map bN) x y= (jC (tX (a.map bN) x y) (tX (b.map bN) x y)&&decide (y<s.2.2.2)))
   (fun s=>(e0 - s.2.2.2).toNat) ?_ ?_ (by dsimp only;omega)) ?_
  ·rintro⟨a',b',out,y⟩ ⟨pa,pb,ea,eb,hpa,hpb,hy0,hye,hyY,hcan,hlim,htop,hcov⟩
   dsimp only at ea eb hpa hpb hy0 hye hyY hcan hlim htop hcov ⊢
   refine Ok.bif (fun h=>?_) (fun h=>Ok.br ?_)
   ·have hlt:y<e0:=of_decide_eq_true h
    have hsl: ∀(p s t:List aA),t=p++s->s.length<=t.length:=fun p s t e=>by rw [e];simp
    have hal':=hsl _ _ _ ea
    have hbl':=hsl _ _ _ eb
    refine Ok.bind (yd (y:=y) (a:=a') (by omega) rfl) (fun o ho=>Ok.cs ho ?_ (fun r=>r.elim))
    rintro a2 ⟨qa,ea2,hqa,hha⟩
    refine Ok.bind (yd (y:=y) (a:=b') (by omega) rfl) (fun o ho=>Ok.cs ho ?_ (fun r=>r.elim))
    rintro b2 ⟨qb,eb2,hqb,hhb⟩
    have ea3:a= (pa++qa)++a2:=by rw [ea,ea2];simp
    have eb3:b= (pb++qb)++b2:=by rw [eb,eb2];simp
    have hPa: ∀c∈pa++qa,c.Y1<=y:=fun c hc=>by rcases cQ.1 hc with h | h;exact hpa c h;exact hqa c h
    have hPb: ∀c∈pb++qb,c.Y1<=y:=fun c hc=>by rcases cQ.1 hc with h | h;exact hpb c h;exact hqb c h
    have ca2:dU (a2.map bN):=by have:=ca;rw [ea3,dV] at this;exact this.app
    have cb2:dU (b2.map bN):=by have:=cb;rw [eb3,dV] at this;exact this.app
    have la2:tc X Y (a2.map bN):=fun c hc=>la c (by rw [ea3,dV];exact List.mem_append_right _ hc)
    have lb2:tc X Y (b2.map bN):=fun c hc=>lb c (by rw [eb3,dV];exact List.mem_append_right _ hc)
    refine Ok.eq (Gn a2 y e0) (Ok.eq (Gn b2 y e0) ?_)
    obtain⟨a1,a3,a4,a5,a6,a7,a8⟩:=Cp ca2 la2 hha hlt
    obtain⟨b1,b3,b4,b5,b6,b7,b8⟩:=Cp cb2 lb2 hhb hlt
    have hal2: (AU a2 y e0).1.length<=X.length:=dQ a5.nodup a8
    have hbl2: (AU b2 y e0).1.length<=X.length:=dQ b5.nodup b8
    generalize AU a2 y e0=pa2 at *
    generalize AU b2 y e0=pb2 at *
    obtain⟨xa,n⟩:=pa2
    obtain⟨xb,m⟩:=pb2
    dsimp only at *
    refine Ok.bind (Dj hφ hk a5 b5 a6 b6 (by omega) (by omega) (by omega)) ?_
    rintro row ⟨r1,r2,r3,r4⟩
    have hnx: ∃nx,nx= (if m<n then m else n)/\y<nx/\nx<=e0/\nx<=n/\nx<=m/\nx∈Y:=by
     refine⟨_,rfl,by split <;> omega,by split <;> omega,by split <;> omega,by split <;> omega,?_⟩
     split
     ·rcases b7 with h | h
      ·rw [h];exact ie
      ·exact h
     ·rcases a7 with h | h
      ·rw [h];exact ie
      ·exact h
    obtain⟨nx,hnx,n1,n2,n3,n4,n5⟩:=hnx
    rw [<-hnx]
    have hol:out.length<=Y.length:=by have:=hlim.len hcan;rwa [dC] at this
    obtain⟨out',p1,p2⟩:=Co (N:=N) (s:=out) (b:=⟨y,nx,row⟩) (by omega) (fun c hc=>by
     have:=hlim.row hcan (b:=bN c) (cI.2 ⟨c,hc,rfl⟩)
     have e: (bN c).xs=c.Xs:=rfl
     rw [e] at this;omega)
    refine Ok.eq p1 ?_
    have htop': ∀c∈out.map bN,c.y1<=(bN ⟨y,nx,row⟩).y0:=fun c hc=>by
     obtain⟨d,hd,rfl⟩:=cI.1 hc
     exact htop d hd
    refine Ok.nx ⟨⟨pa++qa,pb++qb,ea3,eb3,fun c hc=>by have:=hPa c hc;dsimp only;omega,fun c hc=>by have:=hPb c hc;dsimp only;omega,by dsimp only;omega,by dsimp only;omega,n5,by dsimp only;rw [p2];exact u5 hcan htop' r1 r2,?_,fun c hc=>?_,fun x y'=>?_⟩,by dsimp only;omega⟩
    ·dsimp only;rw [p2]
     refine hlim.push hyY n5 (fun c hc=>?_)
     rcases r4 c hc with h | h
     ·exact a8 c h
     ·exact b8 c h
    ·have hm':bN c∈lB (out.map bN) (bN ⟨y,nx,row⟩):=by rw [<-p2];exact cI.2 ⟨c,hc,rfl⟩
     exact u6 htop' (by show y<=nx;omega) _ hm'
    ·show mj (rowAt (out'.map bN) y') x=_
     rw [p2,u4 htop' (fun c hc=>(hcan.each c hc).1) (fun h=>absurd h (by show ¬nx<=y;omega))]
     by_cases hyy:y<=y'/\y'<nx
     ·rw [aD (show (bN ⟨y,nx,row⟩).y0<=y'/\y'< (bN ⟨y,nx,row⟩).y1 from hyy),cE hyy.2,Bool.and_true]
      show mj row x=_
      have mp: ∀p q:List aA,(∀c∈p++q,c.Y1<=y)->∀c∈(p++q).map bN,c.y1<=y:=fun p q h c hc=>by
       obtain⟨d,hd,rfl⟩:=cI.1 hc
       exact h d hd
      have q1:tX (a.map bN) x y'=mj xa x:=by
       unfold tX
       rw [ea3,dV,Ao (mp _ _ hPa) hyy.1,a4 y' hyy.1 (by omega)]
      have q2:tX (b.map bN) x y'=mj xb x:=by
       unfold tX
       rw [eb3,dV,Ao (mp _ _ hPb) hyy.1,b4 y' hyy.1 (by omega)]
      rw [r3,q1,q2]
     ·rw [aC (show ¬((bN ⟨y,nx,row⟩).y0<=y'/\y'< (bN ⟨y,nx,row⟩).y1) from hyy)]
      show tX (out.map bN) x y'=_
      rw [hcov]
      by_cases h1:y'<y
      ·rw [cE h1,cE (show y'<nx by omega)]
      ·rw [bG h1,bG (show ¬y'<nx by omega)]
   ·have hge:e0<=y:=by have:=of_decide_eq_false h;omega
    refine⟨hcan,fun x y'=>?_,hlim⟩
    dsimp only
    rw [hcov]
    by_cases h1:y'<y
    ·rw [cE h1,Bool.and_true]
    ·have z: ∀s:List aA,(∀c∈s,y0<=c.Y0/\c.Y1<=e0)->tX (s.map bN) x y'=false:=fun s h=>by
      unfold tX
      rw [jE fun c hc=>?_]
      ·rfl
      ·obtain⟨d,hd,rfl⟩:=cI.1 hc
       exact .inr (by have:=(h d hd).2;show d.Y1<=y';omega)
     rw [z a ia,z b ib,hk];rfl
  ·refine⟨[],[],rfl,rfl,fun c hc=>(by cases hc),fun c hc=>(by cases hc),Int.le_refl _,by dsimp only;omega,iy,dU.nil,fun c hc=>(by cases hc),fun c hc=>(by cases hc),fun x y=>?_⟩
   dsimp only
   show false=_
   by_cases h1:y<y0
   ·have z: ∀s:List aA,(∀c∈s,y0<=c.Y0/\c.Y1<=e0)->tX (s.map bN) x y=false:=fun s h=>by
     unfold tX
     rw [jE fun c hc=>?_]
     ·rfl
     ·obtain⟨d,hd,rfl⟩:=cI.1 hc
      exact .inl (by have:=(h d hd).1;show y<d.Y0;omega)
    rw [z a ia,z b ib,hk];rfl
   ·rw [bG h1,Bool.and_false]
  ·rintro o ho
   exact Ok.cs ho (fun s h=>Ok.ret h) (fun r=>r.elim)
theorem Dk {a b:List aA} {X Y:List Int} (ca:dU (a.map bN)) (cb:dU (b.map bN)) (la:tc X Y (a.map bN)) (lb:tc X Y (b.map bN)) (hX:X.length<=1048576000) (hY:Y.length<=1048576000) (hs: ∀c∈Y,small c) (hN:4398046511104<=N):
  Ok (jf N a b) (y5 (fun p q=>p&& !q) X Y a b):=by
 unfold jf
 exact Ok.bind (BA (jC:=fun p q=>p&& !q) (fun p q=>rfl) rfl ca cb la lb hX hY hs hN) (fun s h=>Ok.ret h)
end
end Go.Gk
namespace Go.Gk
open Go
section
variable {N:Nat}
structure UF (n:Nat) (up:List Int) (r:Nat->Nat):Prop where
 len:up.length=n
 rt: ∀i,i<n->∃u:Nat,up[i]? =some ((u:Nat):Int)/\u<=i/\r u=r i/\(u=i↔r i=i)
theorem UF.le {n:Nat} {up:List Int} {r:Nat->Nat} (h:UF n up r): ∀i,i<n->r i<=i:=by
 intro i
 induction i using Nat.strongRecOn with
 | ind i ih=>
  intro hi
  obtain⟨u,_,h2,h3,h4⟩:=h.rt i hi
  by_cases e:u=i
  ·rw [h4.1 e];exact bI _
  ·rw [<-h3];have:=ih u (by omega) (by omega);omega
theorem UF.rr {n:Nat} {up:List Int} {r:Nat->Nat} (h:UF n up r): ∀i,i<n->r (r i)=r i:=by
 intro i
 induction i using Nat.strongRecOn with
 | ind i ih=>
  intro hi
  obtain⟨u,_,h2,h3,h4⟩:=h.rt i hi
  by_cases e:u=i
  ·rw [h4.1 e,h4.1 e]
  ·rw [<-h3];exact ih u (by omega) (by omega)
theorem lr {l:List Int} {j:Nat} {v:Int} {i:Nat} (hj:j<l.length): (l.set j v)[i]? =if i=j then some v else l[i]? :=by
 rw [eF]
 by_cases e:j=i
 ·rw [aD e,aD e.symm,aD hj]
 ·rw [aC e,aC (fun h=>e h.symm)]
theorem UF.init (n:Nat) (up:List Int) (h1:up.length=n) (h2: ∀i,i<n->up[i]? =some ((i:Nat):Int)):UF n up (fun i=>i):=
 ⟨h1,fun i hi=>⟨i,h2 i hi,bI _,rfl,by simp⟩⟩
theorem vx {n:Nat} (hn:n<=1048576000): ∃up,ij N ((n:Nat):Int)=some up/\UF n up (fun i=>i):=by
 unfold ij
 rw [rB 0 (by omega),aB]
 have h0: (List.replicate n (0:Int)).length=n:=by simp
 obtain⟨s',h1,h2⟩:=vR (m:=(List.replicate n (0:Int)).length) (s:=List.replicate n (0:Int)) (body:=fun(k34:Nat) (s35: (List Int))=>((idx s35 (k34:Int)).bind fun x38=>some (s35.set (Int.toNat (k34:Int)) (k34:Int)):Option ((List Int))))
  (fun k s=>s.length=n/\∀i,i<k->s[i]? =some ((i:Nat):Int)) (by omega) ⟨h0,fun i hi=>by omega⟩ (fun k s hk ⟨hs,hi⟩=>by
   refine⟨s.set k ((k:Nat):Int),?_,by simp [hs],fun i hi'=>?_⟩
   ·rw [i9 _ _ (by omega),aB,bO]
   ·rw [lr (by omega)]
    split
    ·rename_i e;rw [e]
    ·exact hi i (by omega))
 rw [h1,aB]
 exact⟨s',rfl,UF.init n s' h2.1 (fun i hi=>h2.2 i (by omega))⟩
theorem qY {n:Nat} {up:List Int} {r:Nat->Nat} (h:UF n up r) {i:Nat} (hi:i<n) (hn:n<N): ∃up',dI N up ((i:Nat):Int)=some (((r i:Nat):Int),up')/\UF n up' r:=by
 unfold dI
 obtain⟨o,h1,h2⟩:=tG (R:=Empty) (body:=fun(s32: (List Int)×Int)=>((idx s32.1 s32.2).bind fun x43=>bif (x43 != s32.2) then ((idx s32.1 s32.2).bind fun x44=>(idx s32.1 x44).bind fun x45=>(idx s32.1 s32.2).bind fun x46=>(idx (s32.1.set (Int.toNat s32.2) x45) s32.2).bind fun x47=>some (.nx ((s32.1.set (Int.toNat s32.2) x45),x47))) else (some (.br (s32.1,s32.2))):Option (Fl ((List Int)×Int) Empty)))
  (fun s=>UF n s.1 r/\∃j:Nat,s.2= ((j:Nat):Int)/\j<n/\r j=r i) (fun s=>s.2.toNat) (fun s=>s.2= ((r i:Nat):Int)/\UF n s.1 r) (fun _=>True) (fun s ⟨hu,j,hj,hjn,hr⟩=>by
   obtain⟨l,y⟩:=s
   dsimp only at hu hj ⊢
   subst hj
   obtain⟨u,a1,a2,a3,a4⟩:=hu.rt j hjn
   rw [eU a1,aB]
   by_cases e:u=j
   ·subst e
    refine⟨.br (l,((u:Nat):Int)),by rw [show (((u:Nat):Int) != ((u:Nat):Int))=false by simp,aV],?_,hu⟩
    show ((u:Nat):Int)=_
    rw [<-hr,a4.1 rfl]
   ·obtain⟨v,b1,b2,b3,b4⟩:=hu.rt u (by omega)
    have hl:=hu.len
    refine⟨.nx (l.set j ((v:Nat):Int),((v:Nat):Int)),by
     rw [show (((u:Nat):Int) != ((j:Nat):Int))=true by simp;omega,aS,aB,eU b1,aB,aB,bO,
      eU (x:=((v:Nat):Int)) (by rw [lr (by omega),aD rfl]),aB],⟨⟨by simp [hl],fun k hk=>?_⟩,v,rfl,by omega,?_⟩,?_⟩
    ·rw [lr (by omega)]
     by_cases e2:k=j
     ·subst e2
      rw [aD rfl]
      refine⟨v,rfl,by omega,by rw [b3,a3],?_⟩
      constructor
      ·intro h;omega
      ·intro h;exact absurd (a4.2 h) e
     ·rw [aC e2];exact hu.rt k hk
    ·rw [b3,a3,hr]
    ·simp only [bO];omega)
  N (up,((i:Nat):Int)) ⟨h,i,rfl,hi,rfl⟩ (by simp only [bO];omega)
 rw [h1,aB]
 cases o with
 | go s'=>exact⟨s'.1,by rw [<-h2.1];rfl,h2.2⟩
 | rt r=>exact r.elim
def mg (r:Nat->Nat) (a b:Nat):Nat->Nat:=fun x=>if r x=max a b then min a b else r x
theorem EB (a b:Nat): (if ((a:Nat):Int)< ((b:Nat):Int) then ((b:Nat):Int) else ((a:Nat):Int))= ((max a b:Nat):Int):=by
 rw [Nat.max_def];split <;> split <;> omega
theorem EC (a b:Nat): (if ((b:Nat):Int)< ((a:Nat):Int) then ((b:Nat):Int) else ((a:Nat):Int))= ((min a b:Nat):Int):=by
 rw [Nat.min_def];split <;> split <;> omega
theorem Cq {n:Nat} {up:List Int} {r:Nat->Nat} (h:UF n up r) {i k:Nat} (hi:i<n) (hk:k<n) (hn:n<N):
  ∃up',eR N up ((i:Nat):Int) ((k:Nat):Int)=some up'/\UF n up' (mg r (r i) (r k)):=by
 obtain⟨u1,a1,a2⟩:=qY h hi hn
 obtain⟨u2,b1,b2⟩:=qY a2 hk hn
 have hri:=h.le i hi
 have hrk:=h.le k hk
 have rri:=h.rr i hi
 have rrk:=h.rr k hk
 unfold eR
 rw [a1,aB,b1,aB]
 dsimp only
 rw [EB,EC]
 have hm:max (r i) (r k)<n:=by omega
 have hl:=b2.len
 rw [i9 _ _ (by omega),aB,bO]
 refine⟨_,rfl,by simp [hl],fun x hx=>?_⟩
 have rmax:r (max (r i) (r k))=max (r i) (r k):=by rcases Nat.le_total (r i) (r k) with e | e <;> simp [Nat.max_def] <;> split <;> omega
 have rmin:r (min (r i) (r k))=min (r i) (r k):=by rcases Nat.le_total (r i) (r k) with e | e <;> simp [Nat.min_def] <;> split <;> omega
 rw [lr (by omega)]
 by_cases e:x=max (r i) (r k)
 ·subst e
  rw [aD rfl]
  refine⟨min (r i) (r k),rfl,by omega,?_,?_⟩
  ·unfold mg;rw [rmin,rmax,aD rfl];split <;> rfl
  ·unfold mg;rw [rmax,aD rfl]
 ·rw [aC e]
  obtain⟨u,c1,c2,c3,c4⟩:=b2.rt x hx
  refine⟨u,c1,c2,?_,?_⟩
  ·unfold mg;rw [c3]
  ·unfold mg
   split
   ·rename_i e2
    constructor
    ·intro hu;have:=c4.1 hu;omega
    ·intro hu
     have h1:=b2.le x hx
     have:min (r i) (r k)=max (r i) (r k)\/x<max (r i) (r k):=by omega
     have h3:x=max (r i) (r k):=by omega
     exact absurd h3 e
   ·exact c4
def mA (r:Nat->Nat) (E:List (Nat×Nat)):Prop:=∀p∈E,r p.1=r p.2
def vc (n:Nat) (r:Nat->Nat) (E:List (Nat×Nat)):Prop:=∀S:Nat->Prop,(∀p∈E,S p.1↔S p.2)->∀i j,i<n->j<n->r i=r j->S i->S j
theorem mA.join {r:Nat->Nat} {E:List (Nat×Nat)} (h:mA r E) (i k:Nat) (_h2:r (r i)=r i):mA (mg r (r i) (r k)) (E++[(i,k)]):=fun p hp=>by
 rcases cQ.1 hp with hp | hp
 ·unfold mg;rw [h p hp]
 ·simp at hp;subst hp
  unfold mg
  dsimp only
  split <;> split <;> omega
theorem vc.join {n:Nat} {r:Nat->Nat} {E:List (Nat×Nat)} (h:vc n r E) {i k:Nat} (hi:i<n) (hk:k<n):vc n (mg r (r i) (r k)) (E++[(i,k)]):=fun S hS x y hx hy hr hSx=>by
 have hE: ∀p∈E,S p.1↔S p.2:=fun p hp=>hS p (List.mem_append_left _ hp)
 have hik:S i↔S k:=hS (i,k) (by simp)
 have key:=h S hE
 unfold mg at hr
 by_cases h1:r x=r y
 ·exact key x y hx hy h1 hSx
 ·have: (r x=r i/\r y=r k)\/(r x=r k/\r y=r i):=by
   split at hr <;> split at hr <;> omega
  rcases this with ⟨e1,e2⟩ | ⟨e1,e2⟩
  ·exact key k y hk hy e2.symm (hik.1 (key x i hx hi e1 hSx))
  ·exact key i y hi hy e2.symm (hik.2 (key x k hx hk e1 hSx))
theorem vc.id (n:Nat):vc n (fun i=>i) []:=fun S _ i j _ _ h hs=>by
 have h:i=j:=h
 subst h;exact hs
theorem mA.id:mA (fun i=>i) []:=fun p hp=>by simp at hp
def bZ (n:Nat) (r:Nat->Nat):List Nat:=(List.range n).filter (fun k=>decide (r k=k))
def cls (n:Nat) (r:Nat->Nat) (k:Nat):List Nat:=(List.range n).filter (fun i=>decide (r i=k))
theorem i5 (n:Nat) (r:Nat->Nat):bZ (n+1) r=if r n=n then bZ n r++[n] else bZ n r:=by
 unfold bZ
 rw [List.range_succ,iF]
 by_cases h:r n=n
 ·rw [aD h];simp [h]
 ·rw [aC h];simp [h]
theorem qZ (n:Nat) (r:Nat->Nat) (k:Nat):cls (n+1) r k=if r n=k then cls n r k++[n] else cls n r k:=by
 unfold cls
 rw [List.range_succ,iF]
 by_cases h:r n=k
 ·rw [aD h];simp [h]
 ·rw [aC h];simp [h]
theorem nK (n:Nat) (r:Nat->Nat): (bZ n r).length<=n:=by
 have:=j4 (fun k=>decide (r k=k)) (List.range n)
 rw [List.length_range] at this;exact this
theorem y6 (n:Nat) (r:Nat->Nat) (k:Nat): (cls n r k).length<=n:=by
 have:=j4 (fun i=>decide (r i=k)) (List.range n)
 rw [List.length_range] at this;exact this
theorem iN {n k:Nat} {r:Nat->Nat}:k∈bZ n r↔k<n/\r k=k:=by unfold bZ;simp
theorem lD (n:Nat) (r:Nat->Nat): (bZ n r).Nodup:=List.Nodup.sublist List.filter_sublist List.nodup_range
def n7 (n:Nat) (r:Nat->Nat):List (List Int):=(bZ n r).map (fun k=>(cls n r k).map (fun i=>((i:Nat):Int)))
theorem Cr {n k:Nat} {r:Nat->Nat} (h: ∀i,i<n->r i<=i) (hk:n<=k):cls n r k= []:=by
 unfold cls
 rw [List.filter_eq_nil_iff]
 intro i hi
 have h1:=lI.1 hi
 have:=h i h1
 simp;omega
theorem q8 {α β:Type} (f g:α->β) (l:List α) (j:Nat) (a:α) (hn:l.Nodup) (hj:l[j]? =some a) (hf: ∀b,b∈l->b≠a->f b=g b): (l.map f).set j (g a)=l.map g:=by
 apply List.ext_getElem?
 intro i
 have hjl:=(aY.1 hj).1
 rw [eF,dC,eJ,eJ]
 by_cases e:j=i
 ·subst e;rw [aD rfl,aD hjl,hj];rfl
 ·rw [aC e]
  cases hb:l[i]? with
  | none=>rfl
  | some b=>
   have hne:b≠a:=fun he=>by
    subst he
    have hil:=(aY.1 hb).1
    exact e ((List.getElem_inj hn).1 (by rw [(aY.1 hb).2,(aY.1 hj).2]) |>.symm)
   show some (f b)=some (g b)
   rw [hf b (fz hb) hne]
def Iz (n:Nat) (r:Nat->Nat) (m:List (Int×Int)):Prop:=∀(j k:Nat),(bZ n r)[j]? =some k->cL m ((k:Nat):Int) 0= ((j:Nat):Int)
theorem FU {n:Nat} {up:List Int} {r:Nat->Nat} (h:UF n up r) (hn:n<N) (hn2:n<=1048576000): ∃up',iz N up=some (n7 n r,up')/\UF n up' r:=by
 unfold iz
 have hlen:=h.len
 have hle:=h.le
 have hrr:=h.rr
 obtain⟨s',h1,h2⟩:=vR (m:=up.length) (s:=(up,([]: (List (List Int))),([]: (List (Int×Int)))))
  (body:=fun(k32:Nat) (s33: (List Int)×(List (List Int))×(List (Int×Int)))=>((dI N s33.1 (k32:Int)).bind fun x117=>(bif (x117.1==(k32:Int)) then ((app 24 s33.2.1 [([]: (List Int))]).bind fun x126=>some (x126,(j9 s33.2.2 (k32:Int) (s33.2.1.length:Int)))) else (some (s33.2.1,s33.2.2))).bind fun s122=>(idx s122.1 (cL s122.2 x117.1 (0:Int))).bind fun x128=>(app 8 x128 ([(k32:Int)]: (List Int))).bind fun uD=>(idx s122.1 (cL s122.2 x117.1 (0:Int))).bind fun x136=>some (x117.2,(s122.1.set (Int.toNat (cL s122.2 x117.1 (0:Int))) uD),s122.2):Option ((List Int)×(List (List Int))×(List (Int×Int)))))
  (fun k s=>UF n s.1 r/\s.2.1=n7 k r/\Iz k r s.2.2) (by omega) ⟨h,rfl,fun j k hj=>by simp [bZ] at hj⟩ (fun k s hk ⟨hu,hs,hm⟩=>by
   obtain⟨l,ss,m⟩:=s
   dsimp only at hu hs hm ⊢
   subst hs
   rw [hlen] at hk
   obtain⟨u',a1,a2⟩:=qY hu hk hn
   rw [a1,aB]
   dsimp only
   have hhl:=nK k r
   have hsl: (n7 k r).length= (bZ k r).length:=by unfold n7;simp
   have hrk:=hle k hk
   by_cases e:r k=k
   ·
    rw [show (((r k:Nat):Int)==((k:Nat):Int))=true by rw [e];simp,aS,g9 (by rw [hsl];simp;omega),aB,aB]
    dsimp only
    rw [e,jS,aD rfl,hsl]
    have hi: (n7 k r++[([]:List Int)])[(bZ k r).length]? =some []:=by rw [<-hsl,eY (bI _),Nat.sub_self];rfl
    rw [eU hi,aB,g9 (by simp),aB,aB,bO]
    refine⟨_,rfl,a2,?_,fun j q hj=>?_⟩
    ·dsimp only
     rw [<-hsl,List.set_append_right _ _ (bI _),Nat.sub_self]
     unfold n7
     rw [i5,aD e,dV]
     congr 1
     ·apply List.map_congr_left
      intro a ha
      have:=(iN.1 ha).1
      rw [qZ,aC (by omega)]
     ·simp only [List.set_cons_zero,dG,List.map_nil,List.nil_append]
      rw [qZ,aD e,Cr (fun i hi=>hle i (by omega)) (bI _)];rfl
    ·dsimp only
     rw [i5,aD e] at hj
     rw [jS]
     by_cases e2:j< (bZ k r).length
     ·rw [eX e2] at hj
      have:=(iN.1 (fz hj)).1
      rw [aC (by omega)];exact hm j q hj
     ·rw [eY (by omega)] at hj
      have hj0:j - (bZ k r).length=0:=by
       have:=(aY.1 hj).1;simp at this;omega
      rw [hj0] at hj;simp at hj;subst hj
      rw [aD rfl];congr 1;omega
   ·rw [show (((r k:Nat):Int)==((k:Nat):Int))=false by simp;omega,aV,aB]
    dsimp only
    have hh:r k∈bZ k r:=iN.2 ⟨by omega,hrr k hk⟩
    obtain⟨j,hj⟩:=eO hh
    rw [hm j (r k) hj]
    have hcl:=y6 k r (r k)
    have hi: (n7 k r)[j]? =some ((cls k r (r k)).map (fun i=>((i:Nat):Int))):=by unfold n7;rw [eJ,hj];rfl
    rw [eU hi,aB,g9 (by simp;omega),aB,aB,bO]
    refine⟨_,rfl,a2,?_,fun j' q hj'=>?_⟩
    ·unfold n7
     rw [i5,aC e]
     have:=q8 (fun a=>(cls k r a).map (fun i=>((i:Nat):Int))) (fun a=>(cls (k+1) r a).map (fun i=>((i:Nat):Int))) (bZ k r) j (r k) (lD k r) hj (fun b hb hne=>by
      rw [qZ,aC (fun h=>hne h.symm)])
     rw [qZ,aD rfl,dV] at this
     exact this
    ·rw [i5,aC e] at hj';exact hm j' q hj')
 rw [h1,aB]
 obtain⟨l,ss,m⟩:=s'
 dsimp only at h2
 rw [hlen] at h2
 refine⟨l,?_,h2.1⟩
 rw [<-h2.2.1]
end
end Go.Gk
namespace Go.Gk
open Go
section
variable {N:Nat}
theorem y7 {n:Nat} {up:List Int} {r:Nat->Nat} (h:UF n up r) {i:Nat} (hi:i<n) (hn:n<N): ∃up',eB N ((i:Nat):Int) up=some (((r i:Nat):Int),up')/\UF n up' r:=by
 unfold eB
 have:=Ok.bind (β:=Int×List Int) (Q:=fun x=>x.1= ((r i:Nat):Int)/\UF n x.2 r) (Ok.mm (body:=fun(s32:Int×(List Int))=>((idx s32.2 s32.1).bind fun x43=>bif (x43 != s32.1) then ((idx s32.2 s32.1).bind fun x44=>(idx s32.2 x44).bind fun x45=>(idx s32.2 s32.1).bind fun x46=>(idx (s32.2.set (Int.toNat s32.1) x45) s32.1).bind fun x47=>some (.nx (x47,(s32.2.set (Int.toNat s32.1) x45)))) else (some (.br (s32.1,s32.2))):Option (Fl (Int×(List Int)) Empty)))
  (N:=N) (s:=(((i:Nat):Int),up)) (Go:=fun s=>s.1= ((r i:Nat):Int)/\UF n s.2 r) (Rt:=fun _=>True) (fun s=>UF n s.2 r/\∃j:Nat,s.1= ((j:Nat):Int)/\j<n/\r j=r i) (fun s=>s.1.toNat) (by
   rintro⟨y,l⟩ ⟨hu,j,hj,hjn,hr⟩
   dsimp only at hu hj ⊢
   subst hj
   obtain⟨u,a1,a2,a3,a4⟩:=hu.rt j hjn
   refine Ok.ix a1 ?_
   by_cases e:u=j
   ·subst e
    rw [show (((u:Nat):Int) != ((u:Nat):Int))=false by simp,aV]
    refine Ok.br ⟨?_,hu⟩
    show ((u:Nat):Int)=_
    rw [<-hr,a4.1 rfl]
   ·obtain⟨v,b1,b2,b3,b4⟩:=hu.rt u (by omega)
    have hl:=hu.len
    rw [show (((u:Nat):Int) != ((j:Nat):Int))=true by simp;omega,aS]
    refine Ok.ix a1 (Ok.ix b1 (Ok.ix a1 (Ok.ix (x:=((v:Nat):Int)) (by rw [bO,lr (by omega),aD rfl]) (Ok.nx ⟨⟨⟨by simp [hl],fun k hk=>?_⟩,v,rfl,by omega,?_⟩,?_⟩))))
    ·rw [bO,lr (by omega)]
     by_cases e2:k=j
     ·subst e2
      rw [aD rfl]
      refine⟨v,rfl,by omega,by rw [b3,a3],?_⟩
      constructor
      ·intro h;omega
      ·intro h;exact absurd (a4.2 h) e
     ·rw [aC e2];exact hu.rt k hk
    ·rw [b3,a3,hr]
    ·simp only [bO];omega)
  ⟨h,i,rfl,hi,rfl⟩ (by simp only [bO];omega))
  (fun o ho=>Ok.cs (f:=fun(s32:Int×(List Int))=>some (s32.1,s32.2)) (g:=fun r:Empty=>r.elim) ho (fun s h=>Ok.ret h) (fun r=>r.elim))
 obtain⟨⟨x,up'⟩,h1,h2,h3⟩:=this
 exact⟨up',by rw [<-h2];exact h1,h3⟩
theorem ED {n:Nat} {up:List Int} {r:Nat->Nat} (h:UF n up r) {i k:Nat} (hi:i<n) (hk:k<n) {f:List Int->Option (List Int)} (hn:n<N):
  ∃up',((eB N ((i:Nat):Int) up).bind fun x840=>(eB N ((k:Nat):Int) x840.2).bind fun x842=>(idx x842.2 (if x840.1<x842.1 then x842.1 else x840.1)).bind fun x844=>some (x842.2.set (Int.toNat (if x840.1<x842.1 then x842.1 else x840.1)) (if x842.1<x840.1 then x842.1 else x840.1)))=some up'/\UF n up' (mg r (r i) (r k)):=by
 obtain⟨u1,a1,a2⟩:=y7 h hi hn
 obtain⟨u2,b1,b2⟩:=y7 a2 hk hn
 obtain⟨v1,c1,c2⟩:=qY h hi hn
 have hri:=h.le i hi
 have hrk:=h.le k hk
 have rri:=h.rr i hi
 have rrk:=h.rr k hk
 rw [a1,aB,b1,aB]
 dsimp only
 rw [EB,EC]
 have hm:max (r i) (r k)<n:=by omega
 have hl:=b2.len
 rw [i9 _ _ (by omega),aB,bO]
 refine⟨_,rfl,by simp [hl],fun x hx=>?_⟩
 have rmax:r (max (r i) (r k))=max (r i) (r k):=by rcases Nat.le_total (r i) (r k) with e | e <;> simp [Nat.max_def] <;> split <;> omega
 have rmin:r (min (r i) (r k))=min (r i) (r k):=by rcases Nat.le_total (r i) (r k) with e | e <;> simp [Nat.min_def] <;> split <;> omega
 rw [lr (by omega)]
 by_cases e:x=max (r i) (r k)
 ·subst e
  rw [aD rfl]
  refine⟨min (r i) (r k),rfl,by omega,?_,?_⟩
  ·unfold mg;rw [rmin,rmax,aD rfl];split <;> rfl
  ·unfold mg;rw [rmax,aD rfl]
 ·rw [aC e]
  obtain⟨u,c1,c2,c3,c4⟩:=b2.rt x hx
  refine⟨u,c1,c2,?_,?_⟩
  ·unfold mg;rw [c3]
  ·unfold mg
   split
   ·rename_i e2
    constructor
    ·intro hu;have:=c4.1 hu;omega
    ·intro hu
     have h1:=b2.le x hx
     have h3:x=max (r i) (r k):=by omega
     exact absurd h3 e
   ·exact c4
def gC (s:List aA) (k:Nat):Nat:=(aP (s.take k)).length
theorem vd {s:List aA} {k:Nat} (h:k<s.length):gC s (k+1)=gC s k+s[k].Xs.length / 2:=by
 unfold gC
 rw [fH h,k8,dR]
 show _+ (aP [s[k]]).length=_
 rw [show aP [s[k]]=k7 s[k] by simp [aP],kO]
theorem ve {s:List aA} {k m:Nat} (h:k<=m):gC s k<=gC s m:=by
 unfold gC
 have:=u9 (s.take m) k
 rwa [List.take_take,Nat.min_eq_left h] at this
theorem Ap (s:List aA):gC s s.length= (aP s).length:=by unfold gC;rw [fC]
theorem FV {s:List aA} {k t:Nat} (h:k<s.length) (ht:2*t+1<s[k].Xs.length): (aP s)[gC s k+t]? =some ⟨s[k].Xs[2*t],s[k].Y0,s[k].Xs[2*t+1],s[k].Y1⟩:=by
 have e:aP s=aP (s.take k)++(k7 s[k]++aP (s.drop (k+1))):=by
  conv=>lhs;rw [<-List.take_append_drop k s,pD h]
  rw [k8,lC]
 rw [e]
 unfold gC
 rw [eY (by omega),Nat.add_sub_cancel_left,eX (by rw [kO];omega)]
 unfold k7
 rw [eJ,tZ _ _ ht];rfl
theorem Cs {s:List aA} {i:Nat} (h:i< (aP s).length): ∃k,k<s.length/\gC s k<=i/\i<gC s (k+1):=by
 have key: ∀m,m<=s.length->i<gC s m->∃k,k<m/\gC s k<=i/\i<gC s (k+1):=by
  intro m
  induction m with
  | zero=>intro _ h;unfold gC at h;simp [aP] at h
  | succ m ih=>
   intro hm hi
   by_cases h1:i<gC s m
   ·obtain⟨k,hk,h2⟩:=ih (by omega) h1
    exact⟨k,by omega,h2⟩
   ·exact⟨m,by omega,by omega,hi⟩
 exact key s.length (bI _) (by rw [Ap];exact h)
def G1 (a c:aI):Prop:=a.Y1=c.Y0/\a.X0<c.X1/\c.X0<a.X1
def Dl (all:List aI) (i j:Nat):Prop:=∃a c,all[i]? =some a/\all[j]? =some c/\G1 a c
theorem rF {s:List aA} (he: ∀b∈s,b.Xs.length % 2=0) {k i:Nat} (hk:k<s.length) (h1:gC s k<=i) (h2:i<gC s (k+1)): ∃t,i=gC s k+t/\∃h:2*t+1<s[k].Xs.length,(aP s)[i]? =some ⟨s[k].Xs[2*t],s[k].Y0,s[k].Xs[2*t+1],s[k].Y1⟩:=by
 rw [vd hk] at h2
 have:=he _ (cM hk)
 refine⟨i - gC s k,by omega,by omega,?_⟩
 have h3:=FV (t:=i - gC s k) hk (by omega)
 rwa [show gC s k+ (i - gC s k)=i by omega] at h3
theorem wT {s:List aA} (hc:dU (s.map bN)) {p q:Nat} (hp:p<s.length) (hq:q<s.length) (h:p<q):s[p].Y1<=s[q].Y0:=by
 have:=lK.1 hc.ord p q (by simp;omega) (by simp;omega) h
 simp only [List.getElem_map] at this
 exact this.1
theorem wU {s:List aA} (hc:dU (s.map bN)) {p:Nat} (hp:p<s.length):s[p].Y0<s[p].Y1:=(hc.each (bN s[p]) (cI.2 ⟨_,cM hp,rfl⟩)).1
theorem px {s:List aA} (hc:dU (s.map bN)): ∀b∈s,b.Xs.length % 2=0:=fun b hb=>(hc.each (bN b) (cI.2 ⟨b,hb,rfl⟩)).2.2.2
theorem Ct {s:List aA} (hc:dU (s.map bN)): ∀b∈s,kR b.Xs:=fun b hb=>(hc.each (bN b) (cI.2 ⟨b,hb,rfl⟩)).2.2.1
theorem Aq {s:List aA} (hc:dU (s.map bN)) {i j q:Nat} (hq:q<s.length) (h1:gC s q<=j) (h2:j<gC s (q+1)) (ht:Dl (aP s) i j): ∃hq0:0<q,s[q - 1].Y1=s[q].Y0/\gC s (q - 1)<=i/\i<gC s q:=by
 obtain⟨a,c,ha,hb,e1,e2,e3⟩:=ht
 obtain⟨t,e4,ht,hj⟩:=rF (px hc) hq h1 h2
 rw [hj] at hb;injection hb with hb;subst hb
 have hil:=(aY.1 ha).1
 obtain⟨p,hp,p1,p2⟩:=Cs hil
 obtain⟨u,e5,hu,hi⟩:=rF (px hc) hp p1 p2
 rw [hi] at ha;injection ha with ha;subst ha
 have e1:s[p].Y1=s[q].Y0:=e1
 have hpp:=wU hc hp
 have hqq:=wU hc hq
 have hpq:p+1=q:=by
  rcases Nat.lt_trichotomy p q with h | h | h
  ·by_cases h':p+1=q
   ·exact h'
   ·have h3:=wT hc hp (show p+1<s.length by omega) (by omega)
    have h4:=wT hc (show p+1<s.length by omega) hq (by omega)
    have h5:=wU hc (show p+1<s.length by omega)
    omega
  ·subst h;omega
  ·have:=wT hc hq hp h;omega
 subst hpq
 exact⟨by omega,e1,p1,p2⟩
structure PJ (all:List aI) (n:Nat) (up:List Int) (r:Nat->Nat) (E:List (Nat×Nat)):Prop where
 uf:UF n up r
 co:mA r E
 fi:vc n r E
 so: ∀p∈E,Dl all p.1 p.2
theorem PJ.join {all:List aI} {n:Nat} {up up':List Int} {r:Nat->Nat} {E:List (Nat×Nat)} (h:PJ all n up r E) {i j:Nat} (hi:i<n) (hj:j<n) (hu:UF n up' (mg r (r i) (r j))) (ht:Dl all i j):PJ all n up' (mg r (r i) (r j)) (E++[(i,j)]):=
 ⟨hu,h.co.join i j (h.uf.rr i hi),h.fi.join hi hj,fun p hp=>by
  rcases cQ.1 hp with hp | hp
  ·exact h.so p hp
  ·simp at hp;subst hp;exact ht⟩
structure Joined (all:List aI) (r:Nat->Nat):Prop where
 le: ∀i,i<all.length->r i<=i
 rr: ∀i,i<all.length->r (r i)=r i
 co: ∀i j,Dl all i j->r i=r j
 fi: ∀S:Nat->Prop,(∀i j,Dl all i j->(S i↔S j))->∀i j,i<all.length->j<all.length->r i=r j->S i->S j
def l7 (all:List aI) (n:Nat) (r:Nat->Nat) (h:Nat):List aI:=(cls n r h).filterMap (fun i=>all[i]?)
theorem wV (all:List aI) (n:Nat) (r:Nat->Nat) (h:Nat): (l7 all n r h).length<=n:=by
 have h1:=List.length_filterMap_le (fun i=>all[i]?) (cls n r h)
 have h2:=y6 n r h
 unfold l7;omega
theorem rG {all:List aI} {n:Nat} {r:Nat->Nat} (h:Nat) {x:aI} (hx:all[n]? =some x):l7 all (n+1) r h=if r n=h then l7 all n r h++[x] else l7 all n r h:=by
 unfold l7
 rw [qZ]
 split
 ·rw [List.filterMap_append];simp [hx]
 ·rfl
theorem mR {all:List aI} {n:Nat} {r:Nat->Nat} {h:Nat} {x:aI}:x∈l7 all n r h↔∃i,i<n/\r i=h/\all[i]? =some x:=by
 unfold l7 cls
 rw [List.mem_filterMap]
 constructor
 ·rintro⟨i,hi,h⟩
  have:=hU.1 hi
  exact⟨i,lI.1 this.1,by simpa using this.2,h⟩
 ·rintro⟨i,h1,h2,h3⟩
  exact⟨i,hU.2 ⟨lI.2 h1,by simpa using h2⟩,h3⟩
structure pV (s:List aA) (r:Nat->Nat) (ps:List (List aA)):Prop where
 join:Joined (aP s) r
 len:ps.length= (bZ (aP s).length r).length
 each: ∀(j h:Nat) (p:List aA),(bZ (aP s).length r)[j]? =some h->ps[j]? =some p->pq (l7 (aP s) (aP s).length r h) p
def Kk (n:Nat) (r:Nat->Nat) (m:List (Int×Int)):Prop:=(∀(j k:Nat),(bZ n r)[j]? =some k->cL m ((k:Nat):Int) 0= ((j:Nat):Int))/\∀k:Nat,dM m ((k:Nat):Int)=decide (k∈bZ n r)
theorem BB {s:List aA} {X Y:List Int} (hc:dU (s.map bN)) (hl:tc X Y (s.map bN)) (hX: ∀c∈X,small c) (hY: ∀c∈Y,small c) (h1:s.length<=1073741824) (h2: ∀b∈s,b.Xs.length<=1073741824) (h3: (aP s).length<=134217728) (hN:4398046511104<=N):
  Ok (jJ N s) (fun ps=>∃r,pV s r ps):=by
 unfold jJ
 have hev:=px hc
 have hinc:=Ct hc
 refine Ok.eq (wP hev (by omega) (fun b hb=>by have:=h2 b hb;omega) (by omega)) ?_
 have hok:=wQ hc hl hX hY
 have hall:gC s s.length= (aP s).length:=Ap s
 generalize hn: (aP s).length=n at *
 refine Ok.eq (rB 0 (by omega)) ?_
 rw [show ((List.replicate n (0:Int)).length)=n by simp]
 refine Ok.bind (Ok.jq (fun k up=>up.length=n/\∀i,i<k->up[i]? =some ((i:Nat):Int)) (by omega) ⟨by simp,fun i hi=>by omega⟩ (fun k up hk hI=>?_)) ?_
 ·obtain⟨hs,hi⟩:=hI
  refine Ok.idx (by omega) (Ok.ret ⟨by simp [hs],fun i hi'=>?_⟩)
  rw [bO,lr (by omega)]
  split
  ·rename_i e;rw [e]
  ·exact hi i (by omega)
 rintro up0 ⟨hu1,hu2⟩
 refine Ok.bind (Ok.jq (fun k st=>st.2.1= ((gC s k:Nat):Int)/\(0<k->st.2.2= ((gC s (k - 1):Nat):Int))/\∃r E,PJ (aP s) n st.1 r E/\∀q,q<k->∀i j,gC s q<=j->j<gC s (q+1)->Dl (aP s) i j->(i,j)∈E) (by omega)
  ⟨rfl,fun h=>by omega,_,_,⟨UF.init n up0 hu1 hu2,mA.id,vc.id n,fun p hp=>(by cases hp)⟩,fun q hq=>by omega⟩ (fun k st hk hI=>?_)) ?_
 ·obtain⟨up,a,b⟩:=st
  obtain⟨e1,e2,r,E,hP,hE⟩:=hI
  dsimp only at e1 e2 hP ⊢
  subst e1
  refine Ok.idx hk ?_
  have hoff:=vd hk
  have hoffle:gC s (k+1)<=n:=by rw [<-hall];exact ve hk
  have hkm:=cM hk
  have hlen:IntKind.wrap .i64 (Int.tdiv ((s[k].Xs.length:Nat):Int) 2)= ((s[k].Xs.length / 2:Nat):Int):=by
   have:=h2 _ hkm
   rw [show (2:Int)= ((2:Nat):Int) by rfl,<-Int.ofNat_tdiv,Am (by omega)]
  rw [hlen,wrap_add (by omega),<-hoff]
  refine Ok.bind (P:=fun c=>c=true↔∃h0:0<k,s[k - 1].Y1=s[k].Y0) ?_ (fun c hcc=>?_)
  ·refine Ok.bif (fun h=>?_) (fun h=>Ok.ret ?_)
   ·have hpos:0<k:=by have:=of_decide_eq_true h;omega
    rw [lA hpos (by omega)]
    refine Ok.idx (by omega) (Ok.ret ?_)
    rw [beq_iff_eq]
    exact⟨fun h=>⟨hpos,h⟩,fun⟨_,h⟩=>h⟩
   ·have:=of_decide_eq_false h
    constructor
    ·intro h;cases h
    ·rintro⟨h0,_⟩;omega
  refine Ok.bind (P:=fun up'=>∃r E,PJ (aP s) n up' r E/\∀q,q<k+1->∀i j,gC s q<=j->j<gC s (q+1)->Dl (aP s) i j->(i,j)∈E) ?_ (fun up' hI=>Ok.ret ⟨rfl,fun _=>rfl,hI⟩)
  refine Ok.bif (fun h=>?_) (fun h=>Ok.ret ⟨r,E,hP,fun q hq i j q1 q2 ht=>?_⟩)
  ·obtain⟨hpos,hyy⟩:=hcc.1 h
   rw [e2 hpos]
   have hoffp:=vd (show k - 1<s.length by omega)
   rw [show k - 1+1=k by omega] at hoffp
   refine Ok.bind (Ok.mm (Go:=fun st=>∃r E,PJ (aP s) n st.1 r E/\∀q,q<k+1->∀i j,gC s q<=j->j<gC s (q+1)->Dl (aP s) i j->(i,j)∈E) (Rt:=fun _=>True)
    (fun st=>∃i j:Nat,st.2.1= ((i:Nat):Int)/\st.2.2= ((j:Nat):Int)/\gC s (k - 1)<=i/\i<=gC s k/\gC s k<=j/\j<=gC s (k+1)/\∃r E,PJ (aP s) n st.1 r E/\(∀q,q<k->∀i j,gC s q<=j->j<gC s (q+1)->Dl (aP s) i j->(i,j)∈E)/\
     ∀i' j',gC s (k - 1)<=i'->i'<gC s k->gC s k<=j'->j'<gC s (k+1)->(i'<i\/j'<j)->Dl (aP s) i' j'->(i',j')∈E)
    (fun st=>(n - st.2.1.toNat)+ (n - st.2.2.toNat)) ?_ ?_ (by simp only [bO];omega)) (fun o ho=>Ok.cs ho (fun st h=>Ok.ret h) (fun r=>r.elim))
   ·rintro⟨up,a,b⟩ ⟨i,j,e3,e4,i1,i2,j1,j2,r,E,hP,hE,hE2⟩
    dsimp only at e3 e4 hP ⊢
    subst e3;subst e4
    refine Ok.bif (fun h=>?_) (fun h=>Ok.br ?_)
    ·rw [bV,bT,bT] at h
     have hi:i<gC s k:=by omega
     have hj:j<gC s (k+1):=by omega
     obtain⟨t,et,_,hri⟩:=rF hev (show k - 1<s.length by omega) i1 (by rw [show k - 1+1=k by omega];exact hi)
     obtain⟨u,eu,_,hrj⟩:=rF hev hk j1 hj
     have xi:=hinc _ (cM (show k - 1<s.length by omega))
     have xj:=hinc _ hkm
     have farI: ∀i' a,i<i'->i'<gC s k->(aP s)[i']? =some a->s[k - 1].Xs[2*t+1]<a.X0:=fun i' a h4 h5 h6=>by
      obtain⟨t',et',ht',hr'⟩:=rF hev (show k - 1<s.length by omega) (show gC s (k - 1)<=i' by omega) (by rw [show k - 1+1=k by omega];exact h5)
      rw [hr'] at h6;injection h6 with h6;subst h6
      exact xi.lt (show 2*t+1<2*t' by omega) (aK _) (aK _)
     have farJ: ∀j' a,j<j'->j'<gC s (k+1)->(aP s)[j']? =some a->s[k].Xs[2*u+1]<a.X0:=fun j' a h4 h5 h6=>by
      obtain⟨u',eu',hu',hr'⟩:=rF hev hk (show gC s k<=j' by omega) h5
      rw [hr'] at h6;injection h6 with h6;subst h6
      exact xj.lt (show 2*u+1<2*u' by omega) (aK _) (aK _)
     refine Ok.bind (P:=fun c=>c=true↔Dl (aP s) i j) ?_ (fun c hct=>?_)
     ·refine Ok.ix hri (Ok.ix hrj (Ok.bif (fun h=>Ok.ix hrj (Ok.ix hri (Ok.ret ?_))) (fun h=>Ok.ret ?_)))
      ·rw [bT] at h ⊢
       constructor
       ·intro h';exact⟨_,_,hri,hrj,hyy,h,h'⟩
       ·rintro⟨a,c,ha,hc',_,_,h'⟩
        rw [hri] at ha;injection ha with ha;subst ha
        rw [hrj] at hc';injection hc' with hc';subst hc'
        exact h'
      ·constructor
       ·intro h;cases h
       ·rintro⟨a,c,ha,hc',_,h',_⟩
        rw [hri] at ha;injection ha with ha;subst ha
        rw [hrj] at hc';injection hc' with hc';subst hc'
        rw [decide_eq_false_iff_not] at h;exact absurd h' h
     refine Ok.bind (P:=fun up'=>∃r E',PJ (aP s) n up' r E'/\(∀p∈E,p∈E')/\(Dl (aP s) i j->(i,j)∈E')) ?_ ?_
     ·refine Ok.bif (fun h=>?_) (fun h=>Ok.ret ⟨r,E,hP,fun p hp=>hp,fun ht=>by rw [hct.2 ht] at h;cases h⟩)
      obtain⟨up',u1,u2⟩:=ED (N:=N) (f:=fun x=>some x) hP.uf (i:=i) (k:=j) (by omega) (by omega) (by omega)
      refine⟨up',u1,_,_,hP.join (by omega) (by omega) u2 (hct.1 h),fun p hp=>List.mem_append_left _ hp,fun _=>by simp⟩
     ·rintro up' ⟨r',E',hP',hsub,hij⟩
      refine Ok.ix hri (Ok.ix hrj ?_)
      dsimp only
      by_cases hx:s[k - 1].Xs[2*t+1]<s[k].Xs[2*u+1]
      ·rw [cE hx,aS]
       refine Ok.eq (x:=(((i+1:Nat):Int),((j:Nat):Int))) (by rw [gQ (by omega)]) (Ok.nx ⟨⟨i+1,j,rfl,rfl,by omega,by omega,j1,j2,r',E',hP',fun q hq i j q1 q2 ht=>hsub _ (hE q hq i j q1 q2 ht),fun i' j' g1 g2 g3 g4 g5 ht=>?_⟩,by simp only [bO];omega⟩)
       by_cases h5:i'<i\/j'<j
       ·exact hsub _ (hE2 i' j' g1 g2 g3 g4 h5 ht)
       ·have:i'=i:=by omega
        subst this
        by_cases h6:j'=j
        ·subst h6;exact hij ht
        ·exfalso
         obtain⟨a,c,ha,hc',_,_,h'⟩:=ht
         rw [hri] at ha;injection ha with ha;subst ha
         have:=farJ j' c (by omega) g4 hc'
         dsimp only at h';omega
      ·rw [bG hx,aV]
       refine Ok.eq (x:=(((i:Nat):Int),((j+1:Nat):Int))) (by rw [gQ (by omega)]) (Ok.nx ⟨⟨i,j+1,rfl,rfl,i1,i2,by omega,by omega,r',E',hP',fun q hq i j q1 q2 ht=>hsub _ (hE q hq i j q1 q2 ht),fun i' j' g1 g2 g3 g4 g5 ht=>?_⟩,by simp only [bO];omega⟩)
       by_cases h5:i'<i\/j'<j
       ·exact hsub _ (hE2 i' j' g1 g2 g3 g4 h5 ht)
       ·have:j'=j:=by omega
        subst this
        by_cases h6:i'=i
        ·subst h6;exact hij ht
        ·exfalso
         obtain⟨a,c,ha,hc',_,h',_⟩:=ht
         rw [hrj] at hc';injection hc' with hc';subst hc'
         have:=farI i' a (by omega) g2 ha
         dsimp only at h';omega
    ·refine⟨r,E,hP,fun q hq i' j' q1 q2 ht=>?_⟩
     by_cases hqk:q<k
     ·exact hE q hqk i' j' q1 q2 ht
     ·have:q=k:=by omega
      subst this
      obtain⟨_,_,g1,g2⟩:=Aq hc hk q1 q2 ht
      refine hE2 i' j' g1 g2 q1 q2 ?_ ht
      rw [Bool.and_eq_false_iff,decide_eq_false_iff_not,decide_eq_false_iff_not] at h
      omega
   ·exact⟨gC s (k - 1),gC s k,rfl,rfl,bI _,ve (by omega),bI _,ve (by omega),r,E,hP,hE,fun i' j' g1 g2 g3 g4 g5=>by omega⟩
  ·by_cases hqk:q<k
   ·exact hE q hqk i j q1 q2 ht
   ·have:q=k:=by omega
    subst this
    obtain⟨g0,g1,_⟩:=Aq hc hk q1 q2 ht
    rw [hcc.2 ⟨g0,g1⟩] at h;cases h
 ·rintro⟨up,a,b⟩ ⟨_,_,r,E,hP,hE⟩
  dsimp only at hP ⊢
  have hEq: ∀i j,Dl (aP s) i j->(i,j)∈E:=fun i j ht=>by
   have hjl:j< (aP s).length:=by obtain⟨a,c,_,hb,_⟩:=ht;exact(aY.1 hb).1
   obtain⟨q,hq,q1,q2⟩:=Cs hjl
   exact hE q hq i j q1 q2 ht
  have hJ:Joined (aP s) r:=⟨by rw [hn];exact hP.uf.le,by rw [hn];exact hP.uf.rr,fun i j ht=>hP.co (i,j) (hEq i j ht),fun S hS i j hi hj=>by
   rw [hn] at hi hj
   exact hP.fi S (fun p hp=>hS p.1 p.2 (hP.so p hp)) i j hi hj⟩
  refine Ok.bind (Ok.jq (fun k st=>UF n st.1 r/\Kk k r st.2.1/\st.2.2= (bZ k r).map (l7 (aP s) k r)) (by omega) ⟨hP.uf,⟨fun j k hj=>by simp [bZ] at hj,fun k=>rfl⟩,rfl⟩ (fun k st hk hI=>?_)) ?_
  ·obtain⟨l,m,ls⟩:=st
   obtain⟨hu,⟨hm1,hm2⟩,hs⟩:=hI
   dsimp only at hu hm1 hm2 hs ⊢
   subst hs
   have hkx: (aP s)[k]? =some ((aP s)[k]'(by omega)):=aK (by omega)
   refine Ok.ix hkx ?_
   obtain⟨u',a1,a2⟩:=y7 (N:=N) hu hk (by omega)
   refine Ok.eq a1 ?_
   dsimp only
   have hhl:=nK k r
   have hrk:=hP.uf.le k hk
   have hrr:=hP.uf.rr k hk
   have hcl:=wV (aP s) k r (r k)
   have hmap: ((bZ k r).map (l7 (aP s) k r)).length= (bZ k r).length:=by simp
   rw [hm2]
   by_cases e:r k=k
   ·have hnot:r k∉bZ k r:=fun h=>by have:=(iN.1 h).1;omega
    refine Ok.eq (x:=(j9 m ((r k:Nat):Int) (((bZ k r).length:Nat):Int),(bZ k r).map (l7 (aP s) k r)++[([]:List aI)],(((bZ k r).length:Nat):Int))) ?_ ?_
    ·rw [bG hnot,lk,aS,g9 (by simp;omega),aB,hmap]
    ·dsimp only
     have hi: ((bZ k r).map (l7 (aP s) k r)++[([]:List aI)])[(bZ k r).length]? =some []:=by rw [<-hmap,eY (bI _),Nat.sub_self];rfl
     refine Ok.ix hi (Ok.app (by simp) (Ok.ix hi (Ok.ret ⟨a2,⟨fun j q hj=>?_,fun q=>?_⟩,?_⟩)))
     ·dsimp only
      rw [i5,aD e] at hj
      rw [jS]
      by_cases e2:j< (bZ k r).length
      ·rw [eX e2] at hj
       have:=(iN.1 (fz hj)).1
       rw [aC (by omega)];exact hm1 j q hj
      ·rw [eY (by omega)] at hj
       have hj0:j - (bZ k r).length=0:=by
        have:=(aY.1 hj).1;simp at this;omega
       rw [hj0] at hj;simp at hj;subst hj
       rw [aD (by rw [e])];congr 1;omega
     ·dsimp only
      rw [mz,hm2,i5,aD e,fD]
      rw [dP,bT,bT,bT,cQ,lJ,e]
      constructor
      ·rintro(h | h)
       ·exact .inr (by omega)
       ·exact .inl h
      ·rintro(h | h)
       ·exact .inr h
       ·exact .inl (by omega)
     ·dsimp only
      rw [bO,<-hmap,List.set_append_right _ _ (bI _),Nat.sub_self,i5,aD e,dV]
      congr 1
      ·apply List.map_congr_left
       intro a ha
       have:=(iN.1 ha).1
       rw [rG a hkx,aC (by omega)]
      ·simp only [List.set_cons_zero,dG,List.map_nil,List.nil_append]
       rw [rG k hkx,aD e]
       have:l7 (aP s) k r k= []:=by unfold l7;rw [Cr (fun i hi=>hP.uf.le i (by omega)) (bI _)];rfl
       rw [this];rfl
   ·have hh:r k∈bZ k r:=iN.2 ⟨by omega,hrr⟩
    obtain⟨j,hj⟩:=eO hh
    refine Ok.eq (x:=(m,(bZ k r).map (l7 (aP s) k r),((j:Nat):Int))) ?_ ?_
    ·rw [cE hh,j5,aV,hm1 j (r k) hj]
    ·dsimp only
     have hi: ((bZ k r).map (l7 (aP s) k r))[j]? =some (l7 (aP s) k r (r k)):=by rw [eJ,hj];rfl
     refine Ok.ix hi (Ok.app (by simp;omega) (Ok.ix hi (Ok.ret ⟨a2,⟨fun j' q hj'=>?_,fun q=>?_⟩,?_⟩)))
     ·rw [i5,aC e] at hj';exact hm1 j' q hj'
     ·rw [i5,aC e];exact hm2 q
     ·dsimp only
      rw [bO,i5,aC e]
      have:=q8 (l7 (aP s) k r) (l7 (aP s) (k+1) r) (bZ k r) j (r k) (lD k r) hj (fun b hb hne=>by
       rw [rG b hkx,aC (fun h=>hne h.symm)])
      rw [rG (r k) hkx,aD rfl] at this
      exact this
  ·rintro⟨l,m,ls⟩ ⟨_,_,hs⟩
   dsimp only at hs ⊢
   subst hs
   have hhl:=nK n r
   refine Ok.bind (Ok.jq (fun k ps=>ps.length=k/\∀(j h:Nat) (p:List aA),j<k->(bZ n r)[j]? =some h->ps[j]? =some p->pq (l7 (aP s) n r h) p) (by simp;omega) ⟨rfl,fun j h p hj=>by omega⟩ (fun k ps hk hI=>?_)) ?_
   ·obtain⟨hp1,hp2⟩:=hI
    have hk':k< (bZ n r).length:=by simpa using hk
    refine Ok.ix (x:=l7 (aP s) n r (bZ n r)[k]) (by rw [eJ,aK hk'];rfl) ?_
    have hcl:=wV (aP s) n r (bZ n r)[k]
    refine Ok.bind (pU (N:=N) (by omega) (fun x hx=>?_) (by omega)) ?_
    ·obtain⟨i,_,_,h⟩:=mR.1 hx
     exact(hok x (fz h)).1
    ·intro p hp
     refine Ok.app (by rw [hp1];simp;omega) (Ok.ret ⟨by simp [hp1],fun j h q hj hh hq=>?_⟩)
     by_cases hjk:j<k
     ·rw [eX (by omega)] at hq
      exact hp2 j h q hjk hh hq
     ·have:j=k:=by omega
      subst this
      rw [eY (by omega),hp1,Nat.sub_self] at hq
      simp at hq;subst hq
      rw [aK hk'] at hh;injection hh with hh;subst hh
      exact hp
   ·rintro ps ⟨hp1,hp2⟩
    refine Ok.ret ⟨r,hJ,?_,fun j h p hh hp=>?_⟩
    ·rw [hp1,hn];simp
    ·rw [hn] at hh ⊢
     exact hp2 j h p (by have:=(aY.1 hp).1;omega) hh hp
end
end Go.Gk
namespace Go.Gk
open Go
section
variable {N:Nat}
theorem t8 {n:Int} (h: -9223372036854775808<=n/\n<=9223372036854775807):IntKind.wrap .i64 n=n:=by rw [IntKind.wrap_i64];omega
def gV (n lo hi:Int):Bool:=decide (n>=lo)&&decide (n<=hi)
def n8 (n:Int):Bool:=gV n (-1000000) 1000000
def sm (p:j6):Bool:=n8 p.X&&n8 p.Y
def eM (r:aI):Bool:=n8 r.X0&&(n8 r.Y0&&(n8 r.X1&&n8 r.Y1))
theorem wW (n:Int):jz N n=some (n8 n):=rfl
theorem vz (p:j6):ig N p=some (sm p):=by
 unfold ig sm
 rw [wW,aB,wW]
 cases n8 p.X <;> rfl
theorem wX (r:aI):kB N r=some (eM r):=by
 unfold kB eM
 simp only [wW,aB]
 cases n8 r.X0 <;> cases n8 r.Y0 <;> cases n8 r.X1 <;> rfl
theorem Ar {a b:Int} (h:a≠b):fN (N+4) [a,b]=some [a,b]:=by
 have e: (b==a)=false:=by rw [beq_eq_false_iff_ne];exact fun e=>h e.symm
 have w1:IntKind.wrap .i64 ((1:Int) - 1)=0:=by decide
 have w2:IntKind.wrap .i64 ((1:Int)+1)=2:=by decide
 unfold fN
 have e1:idx [a,b] 1=some b:=rfl
 have e2:idx [a,b] 0=some a:=rfl
 have l2: (([a,b]:List Int).length:Int)=2:=rfl
 rw [l2,show decide ((2:Int)<2)=false by decide,aV]
 rw [mm.eq_def]
 dsimp only
 rw [show decide ((1:Int)<2)=true by decide,aS,e1,aB,w1,e2,aB,e,aV,aB,w2]
 dsimp only
 rw [mm.eq_def]
 dsimp only
 rw [show decide ((2:Int)<2)=false by decide,aV,aB]
 rfl
theorem Gp (x:Int):IntKind.wrap .i64 (x - x)=0:=by rw [Int.sub_self];decide
theorem Dm {r:aI} (hx:r.X0<r.X1) (hy:r.Y0<r.Y1):fQ (N+16) [r]=some [⟨r.Y0,r.Y1,[r.X0,r.X1]⟩]:=by
 have s1:tl (iu (N+16)) [r]=some [r]:=ya (by unfold iu;rw [Gp])
 have s2:tl (fO (N+16)) [r]=some [r]:=ya (by unfold fO;rw [Gp])
 have s3:qy [r.Y0,r.Y1]=some [r.Y0,r.Y1]:=xC (by simp;omega) (by simp)
 have c1:gS (N+16) [r]=some [r]:=rfl
 have f1: ∀φ,gh (N+16) [] φ=some []:=fun φ=>rfl
 have st:gY (N+16) [r]=some ([r.X0,r.X1],[r]):=by
  unfold gY
  rw [s2,aB]
  rfl
 have pu: ∀b:aA,b.Xs= [r.X0,r.X1]->b.Y0<b.Y1->gM (N+16) [] b=some [b]:=fun b h1 h2=>by
  unfold gM
  rw [h1,bG (show ¬b.Y1<=b.Y0 by omega)]
  rfl
 unfold fQ
 rw [c1,aB,s1,aB]
 have ys: (jq ([r]:List aI).length (fun(k35:Nat) (s36: (List Int))=>((idx [r] (k35:Int)).bind fun x54=>(app 8 s36 ([x54.Y0,x54.Y1]: (List Int))).bind fun x58=>some x58:Option ((List Int)))) ([]: (List Int)))=some [r.Y0,r.Y1]:=rfl
 rw [ys,aB,s3,aB,Ar (N:=N+12) (by omega),aB]
 have l2: (([r.Y0,r.Y1]:List Int).length:Int)=2:=rfl
 have l1: (([r]:List aI).length:Int)=1:=rfl
 have w1:IntKind.wrap .i64 ((0:Int)+1)=1:=by decide
 have w2:IntKind.wrap .i64 ((1:Int)+1)=2:=by decide
 have i0:idx [r.Y0,r.Y1] 0=some r.Y0:=rfl
 have i1:idx [r.Y0,r.Y1] 1=some r.Y1:=rfl
 have j0:idx [r] 0=some r:=rfl
 have a1:app 32 ([]:List aI) [r]=some [r]:=rfl
 rw [l2,l1]
 rw [mm.eq_def]
 dsimp only
 rw [w1,show decide ((1:Int)<2)=true by decide,aS,f1,aB]
 rw [mm.eq_def]
 dsimp only
 rw [show decide ((0:Int)<1)=true by decide,aS,j0,aB,i0,aB,aB,show decide (r.Y0<=r.Y0)=true by simp,aS,aB,a1,aB,w1,aB]
 dsimp only
 rw [mm.eq_def]
 dsimp only
 rw [show decide ((1:Int)<1)=false by decide,aV,aB,aV,aB,aB]
 unfold Fo.cs
 dsimp only
 rw [aB,i1,aB,st,aB,pu _ rfl hy,aB,aB]
 dsimp only
 rw [mm.eq_def]
 dsimp only
 rw [w2,show decide ((2:Int)<2)=false by decide,aV,aB]
 rfl
theorem EE {r:aI} (hx:r.X0<r.X1):kf N [⟨r.Y0,r.Y1,[r.X0,r.X1]⟩]=some (eM r):=by
 have ar:kD N [⟨r.Y0,r.Y1,[r.X0,r.X1]⟩]=some r:=by
  have e1: (if r.X0<r.X0 then r.X0 else r.X0)=r.X0:=by split <;> rfl
  have e2: (if r.X1<r.X1 then r.X1 else r.X1)=r.X1:=by split <;> rfl
  show some ({X0:=(if r.X0<r.X0 then r.X0 else r.X0),Y0:=r.Y0,X1:=(if r.X1<r.X1 then r.X1 else r.X1),Y1:=r.Y1}:aI)=some r
  rw [e1,e2]
 unfold kf
 rw [ar,aB,wX]
 rfl
def vT (b:bW):aI:=⟨b.At.X - b.eW / 2,b.At.Y - b.eW / 2,b.At.X - b.eW / 2+b.eW,b.At.Y - b.eW / 2+b.eW⟩
def q9 (b:bW):Bool:=gV b.eW 1 10000&&sm b.At
def mE (b:bW):aI×Int:=if q9 b&&eM (vT b) then (vT b,0) else (⟨0,0,0,0⟩,1)
theorem ra {b:bW} (h:q9 b=true): (1<=b.eW/\b.eW<=10000)/\(-1000000<=b.At.X/\b.At.X<=1000000)/\(-1000000<=b.At.Y/\b.At.Y<=1000000):=by
 simp only [q9,gV,sm,n8,bV,decide_eq_true_iff] at h
 omega
theorem lE {b:bW} (h:q9 b=true):eV N b=some (vT b):=by
 obtain⟨h1,h2,h3⟩:=ra h
 have t:Int.tdiv b.eW 2=b.eW / 2:=Int.tdiv_eq_ediv_of_nonneg (by omega)
 unfold eV vT
 rw [t,t8 (n:=b.eW / 2) (by omega),t8 (n:=b.At.X - b.eW / 2) (by omega),t8 (n:=b.At.Y - b.eW / 2) (by omega),t8 (by omega),t8 (by omega)]
theorem vf {b:bW}:jO (N+16) b=some (mE b):=by
 have e0:fY (N+16) b.eW 1 10000=some (gV b.eW 1 10000):=rfl
 have e1: (bif (!(gV b.eW 1 10000)) then (some true) else (some (!(sm b.At))))=some (!q9 b):=by unfold q9;cases gV b.eW 1 10000 <;> rfl
 unfold jO mE
 rw [e0,aB,vz,aB,e1,aB]
 cases hf:q9 b with
 | false=>rfl
 | true=>
  obtain⟨h1,h2,h3⟩:=ra hf
  have hx: (vT b).X0< (vT b).X1:=by simp only [vT];omega
  have hy: (vT b).Y0< (vT b).Y1:=by simp only [vT];omega
  rw [j5,aV,lE hf,aB,Dm hx hy,aB,EE hx,aB]
  cases eM (vT b) <;> rfl
end
end Go.Gk
namespace Go.Gk
open Go
section
variable {N:Nat}
def G2 (c:UInt8):Bool:=
 ((((decide (((c.toNat:Nat):Int)<65))||(decide (((c.toNat:Nat):Int)>90)))&&((decide (((c.toNat:Nat):Int)<97))||(decide (((c.toNat:Nat):Int)>122))))&&((decide (((c.toNat:Nat):Int)<48))||(decide (((c.toNat:Nat):Int)>57))))&&decide (Lib.indexByte [95,43,45,35] c<0)
def isWord (s:dK):Bool:= !s.cN.any G2&&(decide (1<=s.cN.length)&&decide (s.cN.length<=40))
theorem t9 (s:dK) (c:UInt8):gT N s ((c.toNat:Nat):Int)=some (Lib.indexByte s.cN c):=by
 show some (Lib.indexByte s.cN (Int.toNat ((c.toNat:Nat):Int)).toUInt8)=_
 rw [bO];simp
theorem BC {R:Type} (b1:Bool) (c:UInt8) (r:R):
  ((bif b1 then ((gT N (⟨[95,43,45,35]⟩) ((c.toNat:Nat):Int)).bind fun x14=>some (decide (x14<0))) else (some false)).bind fun s12=>bif s12 then (some (.rt r)) else (some (.nx ())):Option (Fl Unit R))=some (if (b1&&decide (Lib.indexByte [95,43,45,35] c<0))=true then .rt r else .nx ()):=by
 rw [t9,aB]
 cases b1
 ·rfl
 ·rw [aS,aB,Bool.true_and]
  cases decide (Lib.indexByte [95,43,45,35] c<0) <;> rfl
theorem oH {s:dK} (h:s.cN.length<=1048576):gN N s=some (isWord s):=by
 unfold gN
 rw [FL G2 false (by omega) (fun k x hx=>by
  have hk:=(aY.1 hx).1
  have e:CJ s ((k:Nat):Int)=some x:=by rw [Ei s k hk,<-aK hk,hx]
  rw [e,aB]
  exact BC (R:=Bool) _ x false),aB]
 unfold isWord
 cases s.cN.any G2
 ·simp only [Fo.cs,lk,Bool.true_and,Bool.false_eq_true,if_false,Option.some.injEq]
  rw [fD,bV,bV]
  simp only [bT]
  omega
 ·simp [Fo.cs]
def cutAt (c:UInt8):List UInt8->List (List UInt8)
 | []=>[[]]
 | b::l=>if b==c then []::cutAt c l else match cutAt c l with | h::t=>(b::h)::t | []=>[[b]]
theorem wY {c:UInt8}: ∀{l:List UInt8},c∉l->cutAt c l= [l]
 | [],_=>rfl
 | b::l,h=>by
  unfold cutAt
  have hb: (b==c)=false:=by rw [beq_eq_false_iff_ne];rintro rfl;exact h (by simp)
  rw [hb,wY (fun h'=>h (by simp [h']))];rfl
theorem As {c:UInt8}: ∀{a b:List UInt8},c∉a->cutAt c (a++c::b)=a::cutAt c b
 | [],b,_=>by rw [List.nil_append];show (if (c==c)=true then _ else _)=_;simp
 | x::a,b,h=>by
  have hb: (x==c)=false:=by rw [beq_eq_false_iff_ne];rintro rfl;exact h (by simp)
  have ih:=As (c:=c) (a:=a) (b:=b) (fun h'=>h (by simp [h']))
  show (if (x==c)=true then []::cutAt c (a++c::b) else match cutAt c (a++c::b) with | h::t=>(x::h)::t | []=>[[x]])=_
  rw [hb,ih];rfl
theorem re: ∀(l:List UInt8) (c:UInt8),(Lib.indexByte l c = -1/\c∉l)\/∃a b,l=a++c::b/\c∉a/\Lib.indexByte l c= ((a.length:Nat):Int)
 | [],c=> .inl ⟨rfl,by simp⟩
 | x::l,c=>by
  unfold Lib.indexByte
  by_cases hx:x=c
  ·subst hx;exact .inr ⟨[],l,rfl,by simp,by simp⟩
  ·have hb: (x==c)=false:=by rw [beq_eq_false_iff_ne];exact hx
   rcases re l c with ⟨h1,h2⟩ | ⟨a,b,h1,h2,h3⟩
   ·left;rw [hb,h1];refine⟨by simp,?_⟩;simp [h2];exact fun h=>hx h.symm
   ·right
    refine⟨x::a,b,by rw [h1];rfl,by simp [h2];exact fun h=>hx h.symm,?_⟩
    rw [hb,h3]
    have: (((a.length:Nat):Int)== -1)=false:=by rw [beq_eq_false_iff_ne];omega
    rw [this];simp
theorem EF (s:dK) (c:UInt8):jP N s ⟨[c]⟩=some (Lib.indexByte s.cN c):=by
 show (iR N s ⟨[c]⟩).bind _=_
 unfold iR
 by_cases h:dK.AY ⟨[c]⟩ s=true
 ·have:s= ⟨[c]⟩:=(FK.1 h).symm
  subst this
  rw [h];simp [Lib.indexByte]
 ·rw [nj] at h
  rw [h]
  show ((gz N s ((c.toNat:Nat):Int)).bind _).bind _=_
  have:=t9 (N:=N) s c
  simp only [gT] at this
  rw [this];rfl
theorem EG (s:dK) (c:UInt8):kS N s ⟨[c]⟩=some ((s.cN.count c:Nat):Int):=by
 unfold kS
 show (some _:Option Int)=_
 simp [Lib.countByte]
theorem Dn {s:dK} {k:Nat} (h:k<=s.cN.length):sC s 0 ((k:Nat):Int)=some ⟨s.cN.take k⟩:=by
 unfold sC;rw [aD ⟨by omega,by omega,by omega⟩]
 simp only [Int.toNat_zero,List.drop_zero,Int.sub_zero,bO]
theorem Dp {s:dK} {k:Nat} (h:k<=s.cN.length):sC s ((k:Nat):Int) ((s.cN.length:Nat):Int)=some ⟨s.cN.drop k⟩:=by
 unfold sC;rw [aD ⟨by omega,by omega,by omega⟩]
 simp only [bO]
 rw [oy];rw [fB];omega
def pW (s:dK) (c:UInt8):List dK:=(cutAt c s.cN).map dK.mk
theorem EH {s:dK} (c:UInt8) (h:s.cN.length<=1048576) (hN:4194304<=N):kT N s ⟨[c]⟩=some (pW s c):=by
 have hc:s.cN.count c<=s.cN.length:=List.count_le_length
 unfold kT kE
 rw [show ((-1:Int)==0)=false by decide,aV,show dK.AY ⟨[c]⟩ ⟨[]⟩=false by simp [dK.AY],aV,EG,aB]
 rw [eP (x:=((s.cN.count c:Nat):Int)+1) (by omega) (by omega),show decide ((-1:Int)<0)=true by decide,aS,aB]
 rw [eP (x:=((s.cN.length:Nat):Int)+1) (by omega) (by omega)]
 have e1: (if ((s.cN.length:Nat):Int)+1< ((s.cN.count c:Nat):Int)+1 then ((s.cN.length:Nat):Int)+1 else ((s.cN.count c:Nat):Int)+1)= ((s.cN.count c+1:Nat):Int):=by
  rw [aC (by omega)];omega
 rw [e1,rB _ (by omega),aB]
 rw [eP (x:=((s.cN.count c+1:Nat):Int) - 1) (by omega) (by omega)]
 have key:=tG (S:=dK×List dK×Int) (R:=Empty) (body:=(fun(s7:dK×(List dK)×Int)=>(bif (decide (s7.2.2< ((s.cN.count c+1:Nat):Int) - 1)) then ((jP N s7.1 ⟨[c]⟩).bind fun x23=>bif (decide (x23<0)) then (some (.br (s7.1,s7.2.1,s7.2.2))) else ((sC s7.1 0 (IntKind.wrap .i64 (x23+0))).bind fun x24=>(idx s7.2.1 s7.2.2).bind fun x25=>(sC s7.1 (IntKind.wrap .i64 (x23+ (((⟨[c]⟩:dK).cN.length:Nat):Int))) ((s7.1.cN.length:Nat):Int)).bind fun x27=>some (.nx (x27,(s7.2.1.set (Int.toNat s7.2.2) x24),(IntKind.wrap .i64 (s7.2.2+1)))))) else (some (.br (s7.1,s7.2.1,s7.2.2))):Option (Fl (dK×(List dK)×Int) Empty))))
  (fun st=>∃ws:List (List UInt8),st.2.2= ((ws.length:Nat):Int)/\cutAt c s.cN=ws++cutAt c st.1.cN/\ws.length+st.1.cN.count c=s.cN.count c/\st.1.cN.length<=s.cN.length/\st.2.1=ws.map dK.mk++List.replicate (s.cN.count c+1 - ws.length) ⟨[]⟩)
  (fun st=>s.cN.count c+1 - st.2.2.toNat)
  (fun st=>∃ws:List (List UInt8),st.2.2= ((ws.length:Nat):Int)/\cutAt c s.cN=ws++[st.1.cN]/\ws.length=s.cN.count c/\st.2.1=ws.map dK.mk++[⟨[]⟩])
  (fun _=>True) (by
   rintro⟨r,arr,i⟩ ⟨ws,h1,h2,h3,h4,h5⟩
   simp only at h1 h2 h3 h4 h5
   subst h1 h5
   by_cases hlt:ws.length<s.cN.count c
   ·have hd:decide (((ws.length:Nat):Int)< ((s.cN.count c+1:Nat):Int) - 1)=true:=by rw [bT];omega
    simp only [hd,aS,EF,aB]
    rcases re r.cN c with ⟨_,hn⟩ | ⟨a,b,hr,ha,hi⟩
    ·rw [List.count_eq_zero_of_not_mem hn] at h3;omega
    ·have hrl:r.cN.length=a.length+ (b.length+1):=by rw [hr];simp
     rw [hi,bG (by omega),aV]
     rw [show ((a.length:Nat):Int)+0= ((a.length:Nat):Int) by omega,eP (x:=((a.length:Nat):Int)) (by omega) (by omega),Dn (by omega),aB]
     rw [i9 _ _ (by simp;omega),aB]
     rw [show ((a.length:Nat):Int)+ (((⟨[c]⟩:dK).cN.length:Nat):Int)= ((a.length+1:Nat):Int) by simp,eP (x:=((a.length+1:Nat):Int)) (by omega) (by omega),Dp (by omega),aB]
     refine⟨_,rfl,⟨ws++[a],?_,?_,?_,?_,?_⟩,?_⟩
     ·simp only;rw [eP (by omega) (by omega)];simp
     ·simp only
      rw [h2,hr,As ha];simp
     ·simp only
      rw [hr] at h3 ⊢
      simp [List.count_eq_zero_of_not_mem ha] at h3 ⊢;omega
     ·simp;omega
     ·simp only [bO]
      rw [List.set_append_right _ _ (by simp)]
      simp only [dC,Nat.sub_self]
      obtain⟨d,hd'⟩: ∃d,s.cN.count c+1 - ws.length=d+1:=⟨s.cN.count c - ws.length,by omega⟩
      rw [hd',List.replicate_succ,List.set_cons_zero,show s.cN.count c+1 - (ws++[a]).length=d by simp;omega]
      simp [hr]
     ·simp only;rw [eP (by omega) (by omega)];omega
   ·have hd:decide (((ws.length:Nat):Int)< ((s.cN.count c+1:Nat):Int) - 1)=false:=by rw [decide_eq_false_iff_not];omega
    simp only [hd,aV]
    refine⟨_,rfl,ws,rfl,?_,by omega,?_⟩
    ·have h0:r.cN.count c=0:=by omega
     rw [h2,wY (List.count_eq_zero.1 h0)]
    ·rw [show s.cN.count c+1 - ws.length=1 by omega];rfl)
  N (s,List.replicate (s.cN.count c+1) ⟨[]⟩,0) ⟨[],rfl,rfl,by simp,bI _,by simp⟩ (by simp only;omega)
 obtain⟨o,ho,hgo⟩:=key
 rw [ho,aB]
 cases o with
 | rt r=>exact r.elim
 | go st=>
  obtain⟨r,arr,i⟩:=st
  obtain⟨ws,h1,h2,h3,h4⟩:=hgo
  simp only at h1 h2 h3 h4
  subst h1 h4
  simp only [Fo.cs]
  rw [i9 _ _ (by simp),aB,eP (by omega) (by omega)]
  rw [show ((ws.length:Nat):Int)+1= ((ws.length+1:Nat):Int) by omega,tH _ _ (by simp),aB,aB]
  unfold pW
  rw [h2]
  rw [bO,List.set_append_right _ _ (by simp),oy (by simp)]
  simp
def oS (s:dK):Bool:=decide (s.cN.length<=200)&&(pW s 47).all isWord
theorem rH {c:UInt8}: ∀{l x:List UInt8},x∈cutAt c l->x.length<=l.length
 | [],x,h=>by simp [cutAt] at h;subst h;simp
 | b::l,x,h=>by
  unfold cutAt at h
  split at h
  ·rcases eZ.1 h with h | h
   ·subst h;simp
   ·have:=rH h;simp;omega
  ·split at h
   ·rename_i t e
    rcases eZ.1 h with h | h
    ·subst h;have:=rH (c:=c) (l:=l) (by rw [e];exact List.mem_cons_self);simp;omega
    ·have:=rH (c:=c) (l:=l) (by rw [e];exact jt _ h);simp;omega
   ·simp at h;subst h;simp
theorem ye (c:UInt8): ∀(l:List UInt8),(cutAt c l).length<=l.length+1
 | []=>by simp [cutAt]
 | b::l=>by
  have:=ye c l
  unfold cutAt
  split
  ·simp;omega
  ·split
   ·rename_i e;rw [e] at this;simp at this ⊢;omega
   ·simp
theorem Dq {s x:dK} {c:UInt8} (h:x∈pW s c):x.cN.length<=s.cN.length:=by
 obtain⟨y,hy,rfl⟩:=cI.1 h
 exact rH hy
theorem Dr (s:dK) (c:UInt8): (pW s c).length<=s.cN.length+1:=by unfold pW;rw [dC];exact ye c _
theorem uc {s:dK} (h:s.cN.length<=1048576) (hN:4194304<=N):kg N s=some (oS s):=by
 unfold kg oS
 by_cases hl:s.cN.length<=200
 ·rw [cE (by omega),aS,EH 47 h hN,aB]
  have e:=o6 (l:=pW s 47) (φ:=gl N) (fun x=> !isWord x) (by have:=Dr s 47;omega) (fun x hx=>by
   unfold gl
   rw [oH (by have:=Dq hx;omega)];rfl)
  have e2:gk N (pW s 47) (gl N)=oM (pW s 47) (gl N):=rfl
  rw [e2,e,aB,aB,cE hl,Bool.true_and]
  congr 1
  rw [fD]
  simp
 ·rw [bG (by omega),aV,aB,bG hl,Bool.false_and]
end
end Go.Gk
namespace Go.Gk
open Go Classical
section
variable {N:Nat}
theorem EI {a b:aA} (h:bN a=bN b):a=b:=by cases a;cases b;unfold bN at h;simp at h;obtain⟨h1,h2,h3⟩:=h;subst h1;subst h2;subst h3;rfl
theorem ud: ∀{s t:List aA},s.map bN=t.map bN->s=t
 | [],[],_=>rfl
 | [],_::_,h=>by cases h
 | _::_,[],h=>by cases h
 | a::s,b::t,h=>by
  rw [dG,dG] at h
  injection h with h1 h2
  rw [EI h1,ud h2]
theorem EJ {s t:List aA} (hs:dU (s.map bN)) (ht:dU (t.map bN)) (h: ∀x y,tX (s.map bN) x y=tX (t.map bN) x y):s=t:=ud (wJ hs ht h)
theorem pq.unique {l:List aI} {s t:List aA} (hs:pq l s) (ht:pq l t):s=t:=EJ hs.can ht.can fun x y=>by rw [hs.cover,ht.cover]
theorem pq.EK {l:List aI} {s:List aA} (h:pq l s):s.length<=2*l.length/\(∀b∈s,b.Xs.length<=2*l.length)/\(aP s).length<=2*l.length* (2*l.length):=by
 have h1:s.length<=2*l.length:=by have:=h.lim.len h.can;rwa [dC,jm] at this
 have h2: ∀b∈s,b.Xs.length<=2*l.length:=fun b hb=>by
  have:=h.lim.row h.can (b:=bN b) (cI.2 ⟨b,hb,rfl⟩)
  rwa [k6] at this
 exact⟨h1,h2,wO h1 h2⟩
theorem rI {n:Int} (h:n8 n=true): -1000000<=n/\n<=1000000:=by
 unfold n8 gV at h
 rw [bV,bT,bT] at h;omega
theorem kr {r:aI} (h:eM r=true): (-1000000<=r.X0/\r.X0<=1000000)/\(-1000000<=r.Y0/\r.Y0<=1000000)/\(-1000000<=r.X1/\r.X1<=1000000)/\(-1000000<=r.Y1/\r.Y1<=1000000):=by
 unfold eM at h
 simp only [bV] at h
 exact⟨rI h.1,rI h.2.1,rI h.2.2.1,rI h.2.2.2⟩
theorem wZ {r:aI} (h: (-1000000<=r.X0/\r.X0<=1000000)/\(-1000000<=r.Y0/\r.Y0<=1000000)/\(-1000000<=r.X1/\r.X1<=1000000)/\(-1000000<=r.Y1/\r.Y1<=1000000)):eM r=true:=by
 unfold eM n8 gV
 simp only [bV,bT]
 omega
theorem EL {r:aI} (h:eM r=true) (hx:r.X0<r.X1) (hy:r.Y0<r.Y1):AR r:=by
 have:=kr h
 refine⟨hx,hy,?_,?_,?_,?_⟩ <;> unfold small <;> omega
def nC (r:aI):Option Int:=if eM r=true then (if r.X1<=r.X0\/r.Y1<=r.Y0 then some 13 else none) else some 1
def k9 (l:List aI):Int:=if 2000<l.length then 2 else (l.findSome? nC).getD 0
theorem xF {l:List aI} (hl:l.length<=4611686018427387904):jc N l=some (k9 l):=by
 unfold jc k9
 by_cases h:2000<l.length
 ·rw [cE (by omega),aS,aD h]
 ·rw [bG (by omega),aV,aC h,wz nC hl (fun k x hx=>by
   rw [eU hx,aB,wX,aB]
   unfold nC
   cases hr:eM x with
   | false=>rfl
   | true=>
    rw [j5,aV,aD rfl]
    by_cases h2:x.X1<=x.X0\/x.Y1<=x.Y0
    ·rw [aD h2,show (decide (x.X1<=x.X0)||decide (x.Y1<=x.Y0))=true by rw [dP,bT,bT];exact h2];rfl
    ·rw [aC h2,show (decide (x.X1<=x.X0)||decide (x.Y1<=x.Y0))=false by rw [<-nj,dP,bT,bT];exact h2];rfl),aB]
  cases l.findSome? nC <;> rfl
theorem ue {r:aI}:nC r=none↔eM r=true/\r.X0<r.X1/\r.Y0<r.Y1:=by
 unfold nC
 by_cases h:eM r=true
 ·rw [aD h]
  by_cases h2:r.X1<=r.X0\/r.Y1<=r.Y0
  ·rw [aD h2]
   constructor
   ·intro h;cases h
   ·rintro⟨_,h3,h4⟩;omega
  ·rw [aC h2]
   exact⟨fun _=>⟨h,by omega,by omega⟩,fun _=>rfl⟩
 ·rw [aC h]
  constructor
  ·intro h;cases h
  ·rintro⟨h3,_⟩;exact absurd h3 h
theorem Au {r:aI} {e:Int} (h:nC r=some e):e≠0:=by
 unfold nC at h
 split at h
 ·split at h
  ·injection h with h;omega
  ·cases h
 ·injection h with h;omega
theorem oT {l:List aI}:k9 l=0↔l.length<=2000/\∀r∈l,eM r=true/\r.X0<r.X1/\r.Y0<r.Y1:=by
 unfold k9
 by_cases h:2000<l.length
 ·rw [aD h];constructor
  ·intro h;omega
  ·intro h;omega
 ·rw [aC h]
  cases hf:l.findSome? nC with
  | none=>
   rw [List.findSome?_eq_none_iff] at hf
   exact⟨fun _=>⟨by omega,fun r hr=>ue.1 (hf r hr)⟩,fun _=>rfl⟩
  | some e=>
   obtain⟨r,hr,he⟩:=List.exists_of_findSome?_eq_some hf
   constructor
   ·intro h0;exact absurd h0 (Au he)
   ·rintro⟨_,h2⟩
    rw [ue.2 (h2 r hr)] at he;cases he
def Hi (l:List aI):Prop:=∀(k:Nat) a b,l[k]? =some a->l[k+1]? =some b->¬(b.Y0<a.Y0\/(b.Y0=a.Y0/\b.X0<=a.X0))
def y8 (l:List aI):Prop:=∃s,pq l s/\aP s=l
noncomputable def i6 (l:List aI):Int:=if k9 l≠0 then k9 l else if Hi l then (if y8 l then 0 else 3) else 8
theorem BD {l:List aI} (h:k9 l=0):l.length<=2000/\∀r∈l,AR r:=⟨(oT.1 h).1,fun r hr=>by have:=(oT.1 h).2 r hr;exact EL this.1 this.2.1 this.2.2⟩
theorem BE {l m:List aI} (hl:l.length<=4611686018427387904):iP N l m=some (decide (l=m)):=by
 have:=x6 (l:=l) (m:=m) hl
 unfold Bp at this
 unfold iP
 rw [show (decide (l=m)) = @decide (l=m) (instDecidableEqList l m) from decide_eq_decide.2 Iff.rfl]
 exact this
theorem n9 {l:List aI} (hl:l.length<=1073741824) (hN:4398046511104<=N):gj N l=some (i6 l):=by
 refine Ok.get ?_
 unfold gj
 refine Ok.eq (xF (by omega)) ?_
 unfold i6
 refine Ok.bif (fun h=>Ok.ret ?_) (fun h=>?_)
 ·rw [aD (by simpa using h)]
 ·have h0:k9 l=0:=by simpa using h
  rw [aC (by simpa using h0)]
  obtain⟨hlen,hok⟩:=BD h0
  refine Ok.bind (Ok.mm (Go:=fun _=>Hi l) (Rt:=fun r=>r=8/\¬Hi l) (fun s=>∃k:Nat,s= ((k:Nat):Int)/\1<=k/\∀(j:Nat) a b,j+1<k->l[j]? =some a->l[j+1]? =some b->¬(b.Y0<a.Y0\/(b.Y0=a.Y0/\b.X0<=a.X0))) (fun s=>l.length - s.toNat) ?_ ⟨1,rfl,bI _,fun j a b hj=>by omega⟩ (by simp;omega)) ?_
  ·rintro s ⟨k,rfl,hk,hI⟩
   refine Ok.bif (fun h=>?_) (fun h=>Ok.br fun j a b ha hb=>hI j a b ?_ ha hb)
   ·have hk2:k<l.length:=by have:=of_decide_eq_true h;omega
    rw [lA hk (by omega)]
    refine Ok.idx (by omega) (Ok.idx hk2 (Ok.bif (fun hb=>Ok.rt ⟨rfl,fun hu=>?_⟩) (fun hb=>Ok.nx ⟨⟨k+1,by rw [gQ (by omega)],by omega,fun j a b hj ha hb'=>?_⟩,by rw [gQ (by omega)];simp only [bO];omega⟩)))
    ·refine hu (k - 1) l[k - 1] l[k] (aK _) (by rw [show k - 1+1=k by omega];exact aK _) ?_
     rw [dP,bV,bT,bT,beq_iff_eq] at hb;exact hb
    ·by_cases e:j+1<k
     ·exact hI j a b e ha hb'
     ·have:j+1=k:=by omega
      subst this
      rw [aK (by omega)] at ha hb'
      injection ha with ha;injection hb' with hb'
      subst ha;subst hb'
      rw [<-nj,dP,bV,bT,bT,beq_iff_eq] at hb;exact hb
   ·have:=of_decide_eq_false h
    have:=(aY.1 hb).1;omega
  ·rintro o ho
   refine Ok.cs ho (fun s hu=>?_) (fun r hr=>Ok.ret (by rw [hr.1,aC hr.2]))
   rw [aD hu]
   refine Ok.bind (pU (N:=N) (by omega) hok (by omega)) ?_
   intro s hs
   obtain⟨z1,z2,z3⟩:=hs.EK
   have z4:2*l.length* (2*l.length)<=4000*4000:=Nat.mul_le_mul (by omega) (by omega)
   refine Ok.eq (wP (px hs.can) (by omega) (fun b hb=>by have:=z2 b hb;omega) (by omega)) (Ok.eq (BE (by omega)) ?_)
   have hiff:y8 l↔aP s=l:=⟨fun⟨t,h1,h2⟩=>by rw [hs.unique h1];exact h2,fun h=>⟨s,hs,h⟩⟩
   refine Ok.bif (fun h=>Ok.ret ?_) (fun h=>Ok.ret ?_)
   ·have h: ¬aP s=l:=by simpa using h
    rw [aC (fun h'=>h (hiff.1 h'))]
   ·have h:aP s=l:=by simpa using h
    rw [aD (hiff.2 h)]
theorem rf {l:List aI}:i6 l=0↔k9 l=0/\Hi l/\y8 l:=by
 unfold i6
 by_cases h:k9 l=0
 ·rw [aC (by simpa using h)]
  by_cases h2:Hi l
  ·rw [aD h2]
   by_cases h3:y8 l
   ·rw [aD h3];exact⟨fun _=>⟨h,h2,h3⟩,fun _=>rfl⟩
   ·rw [aC h3];constructor
    ·intro h;omega
    ·rintro⟨_,_,h4⟩;exact absurd h4 h3
  ·rw [aC h2];constructor
   ·intro h;omega
   ·rintro⟨_,h4,_⟩;exact absurd h4 h2
 ·rw [aD h]
  constructor
  ·intro h2;exact absurd h2 h
  ·rintro⟨h2,_⟩;exact absurd h2 h
theorem sW (n lo hi:Int):fY N n lo hi=some (gV n lo hi):=rfl
theorem Ds {b:bW} (hN:16<=N):jO N b=some (mE b):=by
 have:=vf (N:=N - 16) (b:=b)
 rwa [show N - 16+16=N by omega] at this
def oI (n:Nat) (b:bW):Option Int:=if (mE b).2≠0 then some (mE b).2 else if gV b.cZ 0 (((n:Nat):Int) - 1)=true/\gV b.To b.cZ (((n:Nat):Int) - 1)=true then none else some 1
def l8 (a:iW):Int:=if 500<a.aL.length then 2 else (a.aL.findSome? (oI a.aN.length)).getD 0
theorem xG {a:iW} (h1:a.aN.length<=4611686018427387904) (h2:a.aL.length<=4611686018427387904) (hN:16<=N):iQ N a=some (l8 a):=by
 unfold iQ l8
 by_cases h:500<a.aL.length
 ·rw [cE (by omega),aS,aD h]
 ·have hw:IntKind.wrap .i64 (((a.aN.length:Nat):Int) - 1)= ((a.aN.length:Nat):Int) - 1:=eP (by omega) (by omega)
  rw [bG (by omega),aV,aC h,wz (oI a.aN.length) h2 (fun k x hx=>by
   rw [eU hx,aB,Ds hN,aB]
   unfold oI
   by_cases h0: (mE x).2=0
   ·rw [aC (by simpa using h0),h0,show ((0:Int) != 0)=false by rfl,aV,hw,sW,aB,sW,aB]
    cases h3:gV x.cZ 0 (((a.aN.length:Nat):Int) - 1) <;> cases h4:gV x.To x.cZ (((a.aN.length:Nat):Int) - 1) <;> rfl
   ·rw [aD h0,show ((mE x).2 != 0)=true by simpa using h0];rfl),aB]
  cases a.aL.findSome? (oI a.aN.length) <;> rfl
theorem Av {b:bW} (h: (mE b).2=0):q9 b=true/\eM (vT b)=true:=by
 unfold mE at h
 split at h
 ·rename_i h';rwa [bV] at h'
 ·cases h
theorem oU {a:iW} (h:l8 a=0):a.aL.length<=500/\∀b∈a.aL,q9 b=true/\eM (vT b)=true/\0<=b.cZ/\b.cZ<=b.To/\b.To< ((a.aN.length:Nat):Int):=by
 unfold l8 at h
 split at h
 ·omega
 ·refine⟨by omega,fun b hb=>?_⟩
  have hn:oI a.aN.length b=none:=by
   cases hf:a.aL.findSome? (oI a.aN.length) with
   | none=>exact List.findSome?_eq_none_iff.1 hf b hb
   | some e=>
    rw [hf] at h
    obtain⟨c,hc,he⟩:=List.exists_of_findSome?_eq_some hf
    have h:e=0:=h
    subst h
    unfold oI at he
    split at he
    ·rename_i h';injection he with he;exact absurd he h'
    ·split at he
     ·cases he
     ·injection he with he;omega
  unfold oI at hn
  split at hn
  ·cases hn
  ·rename_i h0
   split at hn
   ·rename_i h1
    have h0: (mE b).2=0:=by simpa using h0
    have:=Av h0
    unfold gV at h1
    simp only [bV,bT] at h1
    exact⟨this.1,this.2,by omega,by omega,by omega⟩
   ·cases hn
theorem IA {b:bW} (h1:q9 b=true) (h2:eM (vT b)=true):AR (vT b):=by
 have hf:=ra h1
 refine EL h2 ?_ ?_
 ·show b.At.X - b.eW / 2<b.At.X - b.eW / 2+b.eW;omega
 ·show b.At.Y - b.eW / 2<b.At.Y - b.eW / 2+b.eW;omega
def iV (p q:fX):Int:=if Lib.compareBytes p.Part.cN q.Part.cN≠0 then Lib.compareBytes p.Part.cN q.Part.cN else Lib.compareBytes p.fX.cN q.fX.cN
theorem qe (p q:fX):gp N p q=some (iV p q):=by
 unfold gp iV
 show (bif (Lib.compareBytes p.Part.cN q.Part.cN != 0) then _ else _)=_
 by_cases h:Lib.compareBytes p.Part.cN q.Part.cN=0
 ·rw [h,aC (by simp)];rfl
 ·rw [aD h,show (Lib.compareBytes p.Part.cN q.Part.cN != 0)=true by simpa using h];rfl
def kP (l:dL):fX:=⟨l.Part,l.fX⟩
theorem vg (l:dL):jA N l=some (kP l):=rfl
def l9 (a:iW) (k:Nat):Option Int:=(a.bD[k]?).bind fun x=>
 if (oS x.Part&&isWord x.fX)=true then
  if (gV x.eQ 0 (((a.aN.length:Nat):Int) - 1)&&sm x.At)=true then
   if 0<k/\(∃y,a.bD[k - 1]? =some y/\iV (kP x) (kP y)<=0) then some 8 else none
  else some 1
 else some 5
noncomputable def ma (a:iW):Int:=if 1000<a.bD.length then 2 else (qH a.bD.length (l9 a)).getD 0
end
end Go.Gk
namespace Go.Gk
open Go Classical
section
variable {N:Nat}
def w4 (a:iW):Prop:=∀x∈a.bD,x.Part.cN.length<=1048576/\x.fX.cN.length<=1048576
theorem xH {a:iW} (h1:a.aN.length<=1073741824) (h2:a.bD.length<=1073741824) (h3:w4 a) (hN:4194304<=N):iS N a=some (ma a):=by
 unfold iS ma
 by_cases h:1000<a.bD.length
 ·rw [cE (by omega),aS,aD h]
 ·have hw:IntKind.wrap .i64 (((a.aN.length:Nat):Int) - 1)= ((a.aN.length:Nat):Int) - 1:=eP (by omega) (by omega)
  rw [bG (by omega),aV,aC h,nR (l9 a) (by omega) (fun k hk _=>by
   have hx:a.bD[k]? =some a.bD[k]:=aK hk
   have hs:=h3 _ (cM hk)
   rw [eU hx,aB,uc hs.1 hN,aB]
   have hle:l9 a k= (if (oS a.bD[k].Part&&isWord a.bD[k].fX)=true then
     if (gV a.bD[k].eQ 0 (((a.aN.length:Nat):Int) - 1)&&sm a.bD[k].At)=true then
      if 0<k/\(∃y,a.bD[k - 1]? =some y/\iV (kP a.bD[k]) (kP y)<=0) then some 8 else none
     else some 1
    else some 5):=by unfold l9;rw [hx];rfl
   rw [hle]
   have e1: ((bif (!oS a.bD[k].Part) then (some true) else ((gN N a.bD[k].fX).bind fun x225=>some (!x225))):Option Bool)=some (!(oS a.bD[k].Part&&isWord a.bD[k].fX)):=by
    rw [oH hs.2,aB]
    cases oS a.bD[k].Part <;> rfl
   have e2: ((fY N a.bD[k].eQ 0 (IntKind.wrap .i64 (((a.aN.length:Nat):Int) - 1))).bind fun x318=>bif (!x318) then (some true) else ((ig N a.bD[k].At).bind fun x321=>some (!x321)))=some (!(gV a.bD[k].eQ 0 (((a.aN.length:Nat):Int) - 1)&&sm a.bD[k].At)):=by
    rw [hw,sW,aB,vz,aB]
    cases gV a.bD[k].eQ 0 (((a.aN.length:Nat):Int) - 1) <;> rfl
   show ((bif (!oS a.bD[k].Part) then (some true) else ((gN N a.bD[k].fX).bind fun x225=>some (!x225))):Option Bool).bind _=_
   rw [e1,aB]
   cases h4: (oS a.bD[k].Part&&isWord a.bD[k].fX) with
   | false=>rfl
   | true=>
    rw [j5,aV,aD rfl]
    show (((fY N a.bD[k].eQ 0 (IntKind.wrap .i64 (((a.aN.length:Nat):Int) - 1))).bind fun x318=>bif (!x318) then (some true) else ((ig N a.bD[k].At).bind fun x321=>some (!x321)))).bind _=_
    rw [e2,aB]
    cases h5: (gV a.bD[k].eQ 0 (((a.aN.length:Nat):Int) - 1)&&sm a.bD[k].At) with
    | false=>rfl
    | true=>
     rw [j5,aV,aD rfl]
     by_cases h0:0<k
     ·rw [cE (by omega),aS,lA h0 (by omega),i9 _ _ (by omega:k - 1<a.bD.length)]
      simp only [vg,aB,qe]
      by_cases h6:iV (kP a.bD[k]) (kP a.bD[k - 1])<=0
      ·rw [cE h6,aD ⟨h0,_,aK (by omega:k - 1<a.bD.length),h6⟩];rfl
      ·rw [bG h6,aC (by
        rintro⟨_,y,hy,h7⟩
        rw [aK (by omega:k - 1<a.bD.length)] at hy;injection hy with hy
        rw [<-hy] at h7;exact h6 h7)];rfl
     ·rw [bG (by omega),aC (fun h=>h0 h.1)];rfl),aB]
  cases qH a.bD.length (l9 a) <;> rfl
def ld (b:bW) (k:Int):Bool:=decide (b.cZ<=k)&&decide (k<=b.To)
theorem w5 (b:bW) (k:Int):je N b k=some (ld b k):=rfl
def oc (bs:List bW) (k:Int):List aI:=(bs.filter (fun b=>ld b k)).map vT
structure mB (bs:List bW):Prop where
 len:bs.length<=500
 ok: ∀b∈bs,q9 b=true/\eM (vT b)=true
structure rJ (r hs:List aI) (s:List aA):Prop where
 can:dU (s.map bN)
 cover: ∀x y,tX (s.map bN) x y= (xD r x y&& !xD hs x y)
 lim:tc (po r++po hs) (kZ r++kZ hs) (s.map bN)
theorem yf {bs:List bW} (h:mB bs) (k:Int): (oc bs k).length<=500:=by
 unfold oc
 rw [dC]
 have:=j4 (fun b=>ld b k) bs
 have:=h.len;omega
theorem Aw {bs:List bW} (h:mB bs) (k:Int): ∀r∈oc bs k,AR r/\eM r=true:=by
 intro r hr
 unfold oc at hr
 obtain⟨b,hb,rfl⟩:=cI.1 hr
 have:=h.ok b (hU.1 hb).1
 exact⟨IA this.1 this.2,this.2⟩
theorem rJ.small {r hs:List aI} {s:List aA} (h:rJ r hs s) (h1: ∀x∈r,AR x) (h2: ∀x∈hs,AR x): (∀c∈po r++po hs,small c)/\∀c∈kZ r++kZ hs,small c:=by
 constructor
 ·intro c hc
  rcases cQ.1 hc with h | h
  ·obtain⟨x,hx,rfl | rfl⟩:=n0.1 h
   ·exact(h1 x hx).s1
   ·exact(h1 x hx).s2
  ·obtain⟨x,hx,rfl | rfl⟩:=n0.1 h
   ·exact(h2 x hx).s1
   ·exact(h2 x hx).s2
 ·intro c hc
  rcases cQ.1 hc with h | h
  ·obtain⟨x,hx,rfl | rfl⟩:=jl.1 h
   ·exact(h1 x hx).s3
   ·exact(h1 x hx).s4
  ·obtain⟨x,hx,rfl | rfl⟩:=jl.1 h
   ·exact(h2 x hx).s3
   ·exact(h2 x hx).s4
theorem vh {s:List aA} {X Y:List Int} {A:Nat} (hc:dU (s.map bN)) (h:tc X Y (s.map bN)) (hX:X.length<=A) (hY:Y.length<=A):s.length<=A/\(∀b∈s,b.Xs.length<=A)/\(aP s).length<=A*A:=by
 have h1:s.length<=A:=by have:=h.len hc;rw [dC] at this;omega
 have h2: ∀b∈s,b.Xs.length<=A:=fun b hb=>by
  have:=h.row hc (b:=bN b) (cI.2 ⟨b,hb,rfl⟩)
  have e: (bN b).xs=b.Xs:=rfl
  rw [e] at this;omega
 exact⟨h1,h2,wO h1 h2⟩
theorem xI {r hs:List aI} (h1:r.length<=2000) (h2: ∀x∈r,AR x) (h3:hs.length<=500) (h4: ∀x∈hs,AR x) (hN:4398046511104<=N) {β:Type} {f:List aA->Option β} {Q:β->Prop} (k: ∀s,rJ r hs s->Ok (f s) Q):
  Ok ((fQ N r).bind fun x378=>(fQ N hs).bind fun x380=>(jf N x378 x380).bind f) Q:=by
 refine Ok.bind (pU (N:=N) (by omega) h2 (by omega)) (fun s hs1=>?_)
 refine Ok.bind (pU (N:=N) (by omega) h4 (by omega)) (fun t ht=>?_)
 have hz: ∀c∈kZ r++kZ hs,small c:=by
  intro c hc
  rcases cQ.1 hc with h | h
  ·obtain⟨x,hx,rfl | rfl⟩:=jl.1 h
   ·exact(h2 x hx).s3
   ·exact(h2 x hx).s4
  ·obtain⟨x,hx,rfl | rfl⟩:=jl.1 h
   ·exact(h4 x hx).s3
   ·exact(h4 x hx).s4
 refine Ok.bind (Dk (X:=po r++po hs) (Y:=kZ r++kZ hs) hs1.can ht.can (hs1.lim.mono (fun c h=>List.mem_append_left _ h) (fun c h=>List.mem_append_left _ h)) (ht.lim.mono (fun c h=>List.mem_append_right _ h) (fun c h=>List.mem_append_right _ h))
  (by rw [dR,k6,k6];omega) (by rw [dR,jm,jm];omega) hz hN) (fun u hu=>?_)
 exact k u ⟨hu.can,fun x y=>by rw [hu.cover,hs1.cover,ht.cover],hu.lim⟩
def aJ:Nat->List (List (List aA))->List aH
 | _,[]=>[]
 | k,ps::r=>ps.map (fun p=>⟨((k:Nat):Int),p,aP p⟩)++aJ (k+1) r
theorem sX (ps:List (List aA)): ∀(r:List (List (List aA))) (k:Nat),aJ k (r++[ps])=aJ k r++ps.map (fun p=>⟨((k+r.length:Nat):Int),p,aP p⟩)
 | [],k=>by unfold aJ;simp [aJ]
 | q::r,k=>by
  show _++aJ (k+1) (r++[ps])= (_++aJ (k+1) r)++_
  rw [sX ps r (k+1),jZ]
  congr 3
  simp only [f0]
  rw [show k+ (r.length+1)=k+1+r.length by omega]
theorem w6 {s p:List aA} {ps:List (List aA)} {r:Nat->Nat} {X Y:List Int} (h:pV s r ps) (hc:dU (s.map bN)) (hl:tc X Y (s.map bN)) (hX: ∀c∈X,small c) (hY: ∀c∈Y,small c) (hp:p∈ps):
  ∃j k:Nat,ps[j]? =some p/\(bZ (aP s).length r)[j]? =some k/\pq (l7 (aP s) (aP s).length r k) p/\tc X Y (p.map bN):=by
 obtain⟨j,hj⟩:=eO hp
 have hjl:=(aY.1 hj).1
 rw [h.len] at hjl
 have hh: (bZ (aP s).length r)[j]? =some (bZ (aP s).length r)[j]:=aK hjl
 have hs:=h.each j _ p hh hj
 refine⟨j,_,hj,hh,hs,hs.lim.mono (fun c hcx=>?_) (fun c hcx=>?_)⟩
 ·obtain⟨x,hx,hxc⟩:=n0.1 hcx
  obtain⟨i,_,_,hi⟩:=mR.1 hx
  have:=wQ hc hl hX hY x (fz hi)
  rcases hxc with rfl | rfl
  ·exact this.2.1.1
  ·exact this.2.1.2
 ·obtain⟨x,hx,hxc⟩:=jl.1 hcx
  obtain⟨i,_,_,hi⟩:=mR.1 hx
  have:=wQ hc hl hX hY x (fz hi)
  rcases hxc with rfl | rfl
  ·exact this.2.2.1
  ·exact this.2.2.2
structure vj (cs:List (List aI)) (bs:List bW) (k:Nat) (kb:List (List aA)) (bP:List (List (List aA))):Prop where
 len:kb.length=k
 Dt:bP.length=k
 dr: ∀(i:Nat) r s,i<k->cs[i]? =some r->kb[i]? =some s->rJ r (oc bs ((i:Nat):Int)) s
 pt: ∀(i:Nat) s ps,i<k->kb[i]? =some s->bP[i]? =some ps->∃u,pV s u ps
 xJ: (aJ 0 bP).length<=k*25000000
theorem pV.xJ {s:List aA} {u:Nat->Nat} {ps:List (List aA)} (h:pV s u ps):ps.length<=(aP s).length:=by
 rw [h.len];exact nK _ _
theorem BF {cs:List (List aI)} {bs:List bW} (hcs:cs.length<=16) (hc: ∀r∈cs,r.length<=2000/\∀x∈r,AR x) (hb:mB bs) (hN:4398046511104<=N):
  Ok (iv N cs bs [] []) (fun x=>∃bP,vj cs bs cs.length x.2.1 bP/\x.2.2=aJ 0 bP/\(x.1=true↔(∀s∈x.2.1,(aP s).length<=2000)/\x.2.2.length<=2000)):=by
 unfold iv
 refine Ok.bind (P:=fun(st:List (List aA)×List aH×Bool)=>∃bP,vj cs bs cs.length st.1 bP/\st.2.1=aJ 0 bP/\(st.2.2=true↔∀s∈st.1,(aP s).length<=2000)) (Ok.jq (fun(k:Nat) (st:List (List aA)×List aH×Bool)=>∃bP,vj cs bs k st.1 bP/\st.2.1=aJ 0 bP/\(st.2.2=true↔∀s∈st.1,(aP s).length<=2000)) (by omega)
  ⟨[],⟨rfl,rfl,fun i r s hi=>by omega,fun i s ps hi=>by omega,by simp [aJ]⟩,rfl,by simp⟩ (fun k st hk hI=>?_)) ?_
 ·obtain⟨kb,pcs,okk⟩:=st
  obtain⟨bP,D,e1,e2⟩:=hI
  dsimp only at D e1 e2 ⊢
  subst e1
  have hkx:cs[k]? =some cs[k]:=aK hk
  obtain⟨hr1,hr2⟩:=hc _ (cM hk)
  refine Ok.ix hkx ?_
  refine Ok.bind (P:=fun t=>t=oc bs ((k:Nat):Int)) (Ok.mono (Ok.jq (fun j t=>t=oc (bs.take j) ((k:Nat):Int)) (by have:=hb.len;omega) rfl (fun j t hj e=>?_)) (fun t e=>by rw [e,fC])) (fun t e=>?_)
  ·subst e
   refine Ok.idx hj (Ok.eq (w5 _ _) ?_)
   have hts:bs.take (j+1)=bs.take j++[bs[j]]:=fH hj
   have hgb:=hb.ok _ (cM hj)
   have hl: (oc (bs.take j) ((k:Nat):Int)).length<=500:=by
    unfold oc
    rw [dC]
    have:=j4 (fun b=>ld b ((k:Nat):Int)) (bs.take j)
    rw [dA] at this
    have:=hb.len;omega
   cases ht:ld bs[j] ((k:Nat):Int) with
   | false=>
    rw [aV]
    refine Ok.eq rfl (Ok.ret ?_)
    unfold oc
    rw [hts,iF];simp [ht]
   | true=>
    rw [aS]
    refine Ok.eq (x:=oc (bs.take j) ((k:Nat):Int)++[vT bs[j]]) (by rw [lE hgb.1,aB,g9 (by simp;omega),aB]) (Ok.ret ?_)
    unfold oc
    rw [hts,iF,dV];simp [ht]
  ·subst e
   have hho:=Aw hb ((k:Nat):Int)
   have hhl:=yf hb ((k:Nat):Int)
   refine xI hr1 hr2 hhl (fun x hx=>(hho x hx).1) hN (fun s hs=>?_)
   obtain⟨sx,sy⟩:=hs.small hr2 (fun x hx=>(hho x hx).1)
   obtain⟨z1,z2,z3⟩:=vh (A:=5000) hs.can hs.lim (by rw [dR,k6,k6];omega) (by rw [dR,jm,jm];omega)
   have hmany:=FT (N:=N) (s:=s) (by omega) (fun b hb=>by have:=z2 b hb;omega) (by omega)
   refine Ok.eq (x:=(okk&&decide ((aP s).length<=2000),s)) ?_ ?_
   ·cases okk with
    | false=>rfl
    | true=>
     rw [aS,hmany,aB,Bool.true_and]
     rw [show decide ((((aP s).length:Nat):Int)<=2000)=decide ((aP s).length<=2000) from decide_eq_decide.2 (by omega)]
   dsimp only
   refine Ok.app (by rw [D.len];simp;omega) ?_
   refine Ok.bind (BB (N:=N) hs.can hs.lim sx sy (by omega) (fun b hb=>by have:=z2 b hb;omega) (by omega) hN) ?_
   rintro ps ⟨u,hu⟩
   have hfew:=hu.xJ
   have hk16:k*25000000<=16*25000000:=Nat.mul_le_mul_right _ (by omega)
   have hDf:=D.xJ
   refine Ok.bind (P:=fun t=>t=aJ 0 bP++ps.map (fun p=>(⟨((k:Nat):Int),p,aP p⟩:aH))) (Ok.mono (Ok.jq (fun j t=>t=aJ 0 bP++(ps.take j).map (fun p=>(⟨((k:Nat):Int),p,aP p⟩:aH))) (by omega) (by simp) (fun j t hj e=>?_)) (fun t e=>by rw [e,fC])) (fun t e=>Ok.ret ?_)
   ·subst e
    have hjx:ps[j]? =some ps[j]:=aK hj
    refine Ok.ix hjx ?_
    obtain⟨_,_,_,_,lu,hpl⟩:=w6 hu hs.can hs.lim sx sy (cM hj)
    obtain⟨y1,y2,y3⟩:=vh (A:=5000) lu.can hpl (by rw [dR,k6,k6];omega) (by rw [dR,jm,jm];omega)
    refine Ok.eq (wP (px lu.can) (by omega) (fun b hb=>by have:=y2 b hb;omega) (by omega)) (Ok.app ?_ (Ok.ret ?_))
    ·simp only [dR,dC,dA,List.length_singleton];omega
    ·rw [fH hj,dV,jZ];rfl
   ·subst e
    refine⟨bP++[ps],⟨by simp [D.len],by simp [D.Dt],fun i r s' hi hr hs'=>?_,fun i s' ps' hi hs' hps'=>?_,?_⟩,?_,?_⟩
    ·dsimp only at hs'
     by_cases hik:i<k
     ·rw [eX (by rw [D.len];exact hik)] at hs'
      exact D.dr i r s' hik hr hs'
     ·have:i=k:=by omega
      subst this
      rw [eY (by rw [D.len];omega),D.len,Nat.sub_self] at hs'
      simp at hs';subst hs'
      rw [hkx] at hr;injection hr with hr;subst hr
      exact hs
    ·dsimp only at hs'
     by_cases hik:i<k
     ·rw [eX (by rw [D.len];exact hik)] at hs'
      rw [eX (by rw [D.Dt];exact hik)] at hps'
      exact D.pt i s' ps' hik hs' hps'
     ·have:i=k:=by omega
      subst this
      rw [eY (by rw [D.len];omega),D.len,Nat.sub_self] at hs'
      rw [eY (by rw [D.Dt];omega),D.Dt,Nat.sub_self] at hps'
      simp at hs' hps';subst hs';subst hps'
      exact⟨u,hu⟩
    ·rw [sX,dR,dC];omega
    ·dsimp only
     rw [sX,D.Dt,ga]
    ·dsimp only
     rw [bV,e2,bT]
     constructor
     ·rintro⟨h1,h2⟩ s' hs'
      rcases cQ.1 hs' with h | h
      ·exact h1 s' h
      ·simp at h;subst h;exact h2
     ·intro h
      exact⟨fun s' hs'=>h s' (List.mem_append_left _ hs'),h s (by simp)⟩
 ·rintro⟨kb,pcs,okk⟩ ⟨bP,D,e1,e2⟩
  dsimp only at D e1 e2 ⊢
  subst e1
  refine Ok.bind (P:=fun b=>b=true↔(∀s∈kb,(aP s).length<=2000)/\(aJ 0 bP).length<=2000) (Ok.bif (fun h=>Ok.ret ?_) (fun h=>Ok.ret ?_)) (fun b hb=>Ok.ret ⟨bP,D,rfl,hb⟩)
  ·rw [bT]
   constructor
   ·intro h';exact⟨e2.1 h,by omega⟩
   ·rintro⟨_,h'⟩;omega
  ·constructor
   ·intro h';cases h'
   ·rintro⟨h',_⟩;rw [e2.2 h'] at h;cases h
end
end Go.Gk
namespace Go.Gk
open Go Classical
section
variable {N:Nat}
section
variable {α:Type}
def py (P:α->Bool) (l:List α) (n:Nat):List Nat:=(List.range n).filter (fun k=>(l[k]?).any P)
theorem BG {P:α->Bool} {l:List α} {n:Nat} {x:α} (h:l[n]? =some x):py P l (n+1)=if P x=true then py P l n++[n] else py P l n:=by
 unfold py
 rw [List.range_succ,iF]
 by_cases hp:P x=true
 ·rw [aD hp];simp [h,hp]
 ·rw [aC hp];simp [h,hp]
theorem vk (P:α->Bool) (l:List α) (n:Nat): (py P l n).length<=n:=by
 have:=j4 (fun k=>(l[k]?).any P) (List.range n)
 rw [List.length_range] at this;exact this
theorem Du {P:α->Bool} {l:List α} {n k:Nat}:k∈py P l n↔k<n/\(l[k]?).any P=true:=by unfold py;simp
theorem ug {β:Type} {l:List α} (P:α->Bool) (g:Nat->β):qH l.length (fun k=>(l[k]?).bind fun x=>if P x=true then some (g k) else none)= (l.findIdx? P).map g:=by
 cases h:l.findIdx? P with
 | none=>
  rw [List.findIdx?_eq_none_iff] at h
  refine kJ.2 fun k hk=>?_
  rw [aK hk]
  have:=h _ (cM hk)
  simp [this]
 | some j=>
  obtain⟨hj,hp,hn⟩:=List.findIdx?_eq_some_iff_getElem.1 h
  refine mx.2 ⟨j,hj,by rw [aK hj];simp [hp],fun i hi=>?_⟩
  rw [aK (by omega)]
  have:=hn i hi
  simp [this]
end
def ints (l:List Nat):List Int:=l.map fun i=>((i:Nat):Int)
theorem rh (l m:List Nat):ints (l++m)=ints l++ints m:=dV
theorem lf (l:List Nat): (ints l).length=l.length:=dC _
theorem w7 {l:List Nat} {x:Int}:x∈ints l↔∃i∈l,x= ((i:Nat):Int):=by
 unfold ints;rw [cI]
 constructor
 ·rintro⟨i,h1,h2⟩;exact⟨i,h1,h2.symm⟩
 ·rintro⟨i,h1,h2⟩;exact⟨i,h1,h2.symm⟩
def Cu (p0 p1:aI):Bool:=((((decide (p0.X0<p1.X1))&&(decide (p1.X0<p0.X1)))&&((p0.Y1==p1.Y0)||(p1.Y1==p0.Y0)))||(((decide (p0.Y0<p1.Y1))&&(decide (p1.Y0<p0.Y1)))&&((p0.X1==p1.X0)||(p1.X1==p0.X0))))
def jL (b:bW) (p:aH):Bool:=b.gD&&(ld b p.eQ&&p.m6.any (fun r=>Cu r (vT b)))
def cK (bs:List bW) (pcs:List aH):List (List Int):=bs.map fun b=>ints (py (jL b) pcs pcs.length)
theorem oJ {l:List aI} {φ:aI->Option Bool} (p:aI->Bool) (hl:l.length<=4611686018427387904) (h: ∀x∈l,φ x=some (p x)):fJ N l φ=some (l.any p):=
 o6 p hl h
theorem EM {bs:List bW} {pcs:List aH} (hb:mB bs) (hp:pcs.length<=1073741824) (hr: ∀p∈pcs,p.m6.length<=1073741824):iw N bs pcs []=some (cK bs pcs):=by
 refine Ok.get ?_
 have hbl:=hb.len
 unfold iw
 refine Ok.bind (Ok.jq (fun k st=>st=cK (bs.take k) pcs) (by omega) rfl (fun k st hk e=>?_)) (fun st e=>Ok.ret (by rw [e,fC]))
 subst e
 have hg:=hb.ok _ (cM hk)
 refine Ok.idx hk ?_
 refine Ok.bind (P:=fun t=>t=ints (py (jL bs[k]) pcs pcs.length)) (Ok.jq (fun j t=>t=ints (py (jL bs[k]) pcs j)) (by omega) rfl (fun j t hj e=>?_)) (fun t e=>?_)
 ·subst e
  have hjx:pcs[j]? =some pcs[j]:=aK hj
  have hl:=vk (jL bs[k]) pcs j
  refine Ok.ix hjx ?_
  refine Ok.eq (x:=jL bs[k] pcs[j]) ?_ ?_
  ·unfold jL
   cases bs[k].gD with
   | false=>rfl
   | true=>
    rw [aS,w5,aB,Bool.true_and]
    cases ld bs[k] pcs[j].eQ with
    | false=>rfl
    | true=>
     rw [aS,oJ (fun r=>Cu r (vT bs[k])) (by have:=hr _ (cM hj);omega) (fun r _=>by
      unfold iG;rw [lE hg.1];rfl),aB,Bool.true_and]
  ·rw [BG hjx]
   cases ht:jL bs[k] pcs[j] with
   | false=>rw [aV,aC (by simp)];exact Ok.eq rfl (Ok.ret rfl)
   | true=>
    rw [aS,aD rfl]
    refine Ok.eq (x:=ints (py (jL bs[k]) pcs j)++[((j:Nat):Int)]) (by rw [g9 (by rw [lf];simp;omega),aB]) (Ok.ret ?_)
    rw [rh];rfl
 ·subst e
  refine Ok.app ?_ (Ok.ret ?_)
  ·unfold cK;simp;omega
  ·unfold cK
   rw [fH hk,dV];rfl
def Ax (r:List aI) (p:j6):Bool:=r.any (fun x=>decide (p.X>=x.X0)&&(decide (p.X<x.X1)&&(decide (p.Y>=x.Y0)&&decide (p.Y<x.Y1))))
theorem uh {r:List aI} {p:j6} (hl:r.length<=4611686018427387904):iL N r p=some (Ax r p):=by
 unfold iL
 rw [oJ (fun x=>decide (p.X>=x.X0)&&(decide (p.X<x.X1)&&(decide (p.Y>=x.Y0)&&decide (p.Y<x.Y1)))) hl (fun x _=>by
  unfold jB
  cases decide (p.X>=x.X0) <;> cases decide (p.X<x.X1) <;> cases decide (p.Y>=x.Y0) <;> rfl)];rfl
def sY (l:dL) (b:bW):Bool:=b.gD&&(ld b l.eQ&&Ax [vT b] l.At)
def ui (l:dL) (p:aH):Bool:=(p.eQ==l.eQ)&&Ax p.m6 l.At
def ku (bs:List bW) (pcs:List aH) (l:dL):Option bE:=match bs.findIdx? (sY l) with
 | some k=>some ⟨true,((k:Nat):Int)⟩
 | none=>(pcs.findIdx? (ui l)).map fun k=>⟨false,((k:Nat):Int)⟩
theorem EN {bs:List bW} {pcs:List aH} (hb:mB bs) (hp:pcs.length<=1073741824) (hr: ∀p∈pcs,p.m6.length<=1073741824) (l:dL):
  iA N bs pcs l=some ((ku bs pcs l).getD ⟨false,0⟩,(ku bs pcs l).isSome):=by
 have hbl:=hb.len
 unfold iA
 rw [nR (fun k=>(bs[k]?).bind fun x=>if sY l x=true then some ((⟨true,((k:Nat):Int)⟩:bE),true) else none) (by omega) (fun k hk _=>by
  have hkx:bs[k]? =some bs[k]:=aK hk
  have hg:=hb.ok _ (cM hk)
  rw [eU hkx,aB,hkx,lE hg.1,aB,aB,uh (by simp)]
  unfold sY
  cases bs[k].gD with
  | false=>rfl
  | true=>
   show (((bif ld bs[k] l.eQ then _ else _:Option Bool)).bind _)=_
   cases ld bs[k] l.eQ with
   | false=>rfl
   | true=>
    cases Ax [vT bs[k]] l.At <;> rfl),aB,ug (sY l) (fun k=>((⟨true,((k:Nat):Int)⟩:bE),true))]
 unfold ku
 cases bs.findIdx? (sY l) with
 | some k=>rfl
 | none=>
  show ((oW pcs.length _ ()).bind _)=_
  rw [nR (fun k=>(pcs[k]?).bind fun x=>if ui l x=true then some ((⟨false,((k:Nat):Int)⟩:bE),true) else none) (by omega) (fun k hk _=>by
   have hkx:pcs[k]? =some pcs[k]:=aK hk
   rw [eU hkx,aB,hkx,aB,uh (by have:=hr _ (cM hk);omega)]
   unfold ui
   cases pcs[k].eQ==l.eQ with
   | false=>rfl
   | true=>cases Ax pcs[k].m6 l.At <;> rfl),aB,ug (ui l) (fun k=>((⟨false,((k:Nat):Int)⟩:bE),true))]
  cases pcs.findIdx? (ui l) <;> rfl
def Lk (n:Nat) (tch:List (List Int)) (i j:Nat):Prop:=∃(k:Nat) (l:List Int),tch[k]? =some l/\((i:Nat):Int)∈l/\j=n+k
structure BH (n m:Nat) (tch:List (List Int)) (r:Nat->Nat):Prop where
 le: ∀i,i<n+m->r i<=i
 rr: ∀i,i<n+m->r (r i)=r i
 co: ∀i j,Lk n tch i j->r i=r j
 fi: ∀S:Nat->Prop,(∀i j,Lk n tch i j->(S i↔S j))->∀i j,i<n+m->j<n+m->r i=r j->S i->S j
theorem Dv {n m:Nat} {tch:List (List Int)} (hm:tch.length=m) (ht: ∀l∈tch,l.length<=1073741824/\∀x∈l,∃i:Nat,i<n/\x= ((i:Nat):Int)) (hn:n<=1073741824) (hm2:m<=1073741824) {up:List Int} (hu:UF (n+m) up (fun i=>i)) (hN:4398046511104<=N):
  Ok (jq tch.length (fun(k34:Nat) (s35: (List Int))=>((idx tch (k34:Int)).bind fun x89=>(jq x89.length (fun(k92:Nat) (s93: (List Int))=>((idx x89 (k92:Int)).bind fun x107=>(eR N s93 x107 (IntKind.wrap .i64 ((n:Int)+ (k34:Int)))).bind fun x109=>some x109:Option ((List Int)))) s35).bind fun s93=>some s93:Option ((List Int)))) up)
   (fun up'=>∃r,UF (n+m) up' r/\BH n m tch r):=by
 have base:Ok (jq tch.length (fun(k34:Nat) (s35: (List Int))=>((idx tch (k34:Int)).bind fun x89=>(jq x89.length (fun(k92:Nat) (s93: (List Int))=>((idx x89 (k92:Int)).bind fun x107=>(eR N s93 x107 (IntKind.wrap .i64 ((n:Int)+ (k34:Int)))).bind fun x109=>some x109:Option ((List Int)))) s35).bind fun s93=>some s93:Option ((List Int)))) up)
   (fun up'=>∃r E,UF (n+m) up' r/\mA r E/\vc (n+m) r E/\(∀p∈E,Lk n tch p.1 p.2)/\∀(k:Nat) l (i:Nat),k<tch.length->tch[k]? =some l->((i:Nat):Int)∈l->(i,n+k)∈E):=by
  refine Ok.jq (fun q up'=>∃r E,UF (n+m) up' r/\mA r E/\vc (n+m) r E/\(∀p∈E,Lk n tch p.1 p.2)/\∀(k:Nat) l (i:Nat),k<q->tch[k]? =some l->((i:Nat):Int)∈l->(i,n+k)∈E) (by omega)
   ⟨_,_,hu,mA.id,vc.id _,fun p hp=>(by cases hp),fun k l i hk=>by omega⟩ (fun q up' hq hI=>?_)
  obtain⟨r,E,h1,h2,h3,h4,h5⟩:=hI
  have hqx:tch[q]? =some tch[q]:=aK hq
  obtain⟨hl1,hl2⟩:=ht _ (cM hq)
  refine Ok.ix hqx ?_
  rw [wrap_add (by omega)]
  refine Ok.bind (Ok.jq (fun t up'=>∃r E,UF (n+m) up' r/\mA r E/\vc (n+m) r E/\(∀p∈E,Lk n tch p.1 p.2)/\(∀(k:Nat) l (i:Nat),k<q->tch[k]? =some l->((i:Nat):Int)∈l->(i,n+k)∈E)/\∀i:Nat,((i:Nat):Int)∈tch[q].take t->(i,n+q)∈E) (by omega)
   ⟨r,E,h1,h2,h3,h4,h5,fun i hi=>by simp at hi⟩ (fun t up' htl hI=>?_)) (fun up' hI=>Ok.ret ?_)
  ·obtain⟨r,E,h1,h2,h3,h4,h5,h6⟩:=hI
   refine Ok.idx htl ?_
   obtain⟨i,hi,e⟩:=hl2 _ (cM htl)
   rw [e]
   obtain⟨u2,a1,a2⟩:=Cq (N:=N) h1 (i:=i) (k:=n+q) (by omega) (by omega) (by omega)
   refine Ok.eq a1 (Ok.ret ⟨_,_,a2,h2.join i (n+q) (h1.rr i (by omega)),h3.join (by omega) (by omega),fun p hp=>?_,fun k l j hk hl hj=>List.mem_append_left _ (h5 k l j hk hl hj),fun j hj=>?_⟩)
   ·rcases cQ.1 hp with hp | hp
    ·exact h4 p hp
    ·simp at hp;subst hp
     exact⟨q,tch[q],hqx,by rw [<-e];exact cM htl,rfl⟩
   ·rw [fH htl,cQ] at hj
    rcases hj with hj | hj
    ·exact List.mem_append_left _ (h6 j hj)
    ·rw [lJ,e] at hj
     have:j=i:=by omega
     subst this;simp
  ·obtain⟨r,E,h1,h2,h3,h4,h5,h6⟩:=hI
   refine⟨r,E,h1,h2,h3,h4,fun k l i hk hl hi=>?_⟩
   by_cases hkq:k<q
   ·exact h5 k l i hkq hl hi
   ·have:k=q:=by omega
    subst this
    rw [hqx] at hl;injection hl with hl;subst hl
    exact h6 i (by rw [fC];exact hi)
 obtain⟨up',e,r,E,h1,h2,h3,h4,h5⟩:=base
 have hE: ∀i j,Lk n tch i j->(i,j)∈E:=fun i j ⟨k,l,hl,hi,hj⟩=>by
  rw [hj];exact h5 k l i (aY.1 hl).1 hl hi
 exact⟨up',e,r,h1,h1.le,h1.rr,fun i j h=>h2 (i,j) (hE i j h),fun S hS i j hi hj=>h3 S (fun p hp=>hS p.1 p.2 (h4 p hp)) i j hi hj⟩
def sZ (bs:List bW) (j:Nat):Bool:=(bs[j]?).any (fun b=>b.gD)
def gP (n:Nat) (c:List Nat):List Nat:=c.filter (fun i=>decide (i<n))
def gB (bs:List bW) (n:Nat) (c:List Nat):List Nat:=(c.filter (fun i=> !decide (i<n)&&sZ bs (i - n))).map (fun i=>i - n)
def EO (bs:List bW) (n:Nat) (c:List Nat):Bool:=decide (0< (gP n c).length+ (gB bs n c).length)
def Ks (bs:List bW) (n:Nat) (c:List Nat):cU:=⟨ints (gP n c),ints (gB bs n c),[]⟩
theorem Cv (n:Nat) (c:List Nat) (i:Nat):gP n (c++[i])=if i<n then gP n c++[i] else gP n c:=by
 unfold gP;rw [iF];split <;> rename_i h <;> simp [h]
theorem Cw (bs:List bW) (n:Nat) (c:List Nat) (i:Nat):gB bs n (c++[i])=if i<n then gB bs n c else if sZ bs (i - n)=true then gB bs n c++[i - n] else gB bs n c:=by
 unfold gB;rw [iF,dV]
 split
 ·rename_i h;simp [h]
 ·rename_i h
  split <;> rename_i h2 <;> simp [h,h2]
theorem EP (n:Nat) (c:List Nat): (gP n c).length<=c.length:=j4 _ _
theorem ER (bs:List bW) (n:Nat) (c:List Nat): (gB bs n c).length<=c.length:=by unfold gB;rw [dC];exact j4 _ _
def live (bs:List bW) (n t:Nat) (r:Nat->Nat) (hs:List Nat):List Nat:=hs.filter (fun h=>EO bs n (cls t r h))
def pX (bs:List bW) (n t:Nat) (r:Nat->Nat) (hs:List Nat):List cU:=(live bs n t r hs).map (fun h=>Ks bs n (cls t r h))
theorem Dw (bs:List bW) (n t:Nat) (r:Nat->Nat) (hs:List Nat) (h:Nat):live bs n t r (hs++[h])=if EO bs n (cls t r h)=true then live bs n t r hs++[h] else live bs n t r hs:=by
 unfold live;rw [iF];split <;> rename_i h2 <;> simp [h2]
theorem uj (bs:List bW) (n t:Nat) (r:Nat->Nat) (hs:List Nat): (pX bs n t r hs).length= (live bs n t r hs).length:=by unfold pX;rw [dC]
def gi (bs:List bW) (n t:Nat) (r:Nat->Nat) (h:Nat):Nat:=(live bs n t r ((bZ t r).takeWhile (fun x=>decide (x≠h)))).length
theorem sq {l:List Nat} (hn:l.Nodup) {k h:Nat} (hk:l[k]? =some h):l.takeWhile (fun x=>decide (x≠h))=l.take k:=by
 induction l generalizing k with
 | nil=>simp at hk
 | cons a l ih=>
  cases k with
  | zero=>simp at hk;subst hk;simp
  | succ k=>
   have hk:l[k]? =some h:=by simpa using hk
   have hne:a≠h:=fun e=>(List.nodup_cons.1 hn).1 (by rw [e];exact fz hk)
   rw [List.takeWhile_cons,aD (by simpa using hne),List.take_succ_cons,ih (List.nodup_cons.1 hn).2 hk]
theorem uk (bs:List bW) (n t:Nat) (r:Nat->Nat) (hs:List Nat): (live bs n t r hs).length<=hs.length:=j4 _ _
theorem IB {bs:List bW} {n t:Nat} {r:Nat->Nat} {h:Nat} (hh:h∈bZ t r) (hne:EO bs n (cls t r h)=true):gi bs n t r h< (live bs n t r (bZ t r)).length/\(live bs n t r (bZ t r))[gi bs n t r h]? =some h:=by
 obtain⟨k,hk⟩:=eO hh
 have hkl:=(aY.1 hk).1
 unfold gi
 rw [sq (lD t r) hk]
 have e:bZ t r= (bZ t r).take k++h::(bZ t r).drop (k+1):=by
  have h1:=(List.take_append_drop k (bZ t r)).symm
  rw [pD hkl,(aY.1 hk).2] at h1;exact h1
 have e2:live bs n t r (bZ t r)=live bs n t r ((bZ t r).take k)++h::live bs n t r ((bZ t r).drop (k+1)):=by
  conv=>lhs;rw [e]
  unfold live
  rw [iF,List.filter_cons,aD hne]
 constructor
 ·rw [e2];simp
 ·rw [e2]
  simp
end
end Go.Gk
namespace Go.Gk
open Go Classical
section
variable {N:Nat}
theorem yg {l:List Nat} (h:l.Nodup) {i j a:Nat} (hi:l[i]? =some a) (hj:l[j]? =some a):i=j:=
 (List.getElem_inj (h₀:=(aY.1 hi).1) (h₁:=(aY.1 hj).1) h).1 (by rw [(aY.1 hi).2,(aY.1 hj).2])
theorem rK {n i k:Nat} {r:Nat->Nat}:i∈cls n r k↔i<n/\r i=k:=by unfold cls;simp
theorem Dx (n:Nat) (r:Nat->Nat) (k:Nat): (cls n r k).Nodup:=List.Nodup.sublist List.filter_sublist List.nodup_range
structure IC (bs:List bW) (n m:Nat) (r:Nat->Nat) (hs:List Nat) (ofP ofB:List Int):Prop where
 lp:ofP.length=n
 lb:ofB.length=m
 pc: ∀i,i<n->r i∈hs->ofP[i]? =some ((gi bs n (n+m) r (r i):Nat):Int)
 bo: ∀j,j<m->r (n+j)∈hs->ofB[j]? =some (if sZ bs j=true then ((gi bs n (n+m) r (r (n+j)):Nat):Int) else -1)
theorem Ay {bs:List bW} {n m:Nat} {r:Nat->Nat} (hm:bs.length=m) (hn:n<=1073741824) (hm2:m<=1073741824) {op ob:List Int} (hop:op.length=n) (hob:ob.length=m)
  {body:Nat->List cU×List Int×List Int->Option (List cU×List Int×List Int)}
  (hbody:body= (fun(k123:Nat) (s124: (List cU)×(List Int)×(List Int))=>((idx (n7 (n+m) r) (k123:Int)).bind fun x455=>(jq x455.length (fun(k458:Nat) (s459: (List Int)×(List Int)×(List Int)×(List Int))=>((idx x455 (k458:Int)).bind fun x556=>(bif (decide (x556< (n:Int))) then ((idx s459.1 x556).bind fun x580=>(app 8 s459.2.2.1 ([x556]: (List Int))).bind fun x582=>some ((s459.1.set (Int.toNat x556) (s124.1.length:Int)),s459.2.1,x582,s459.2.2.2)) else ((idx bs (IntKind.wrap .i64 (x556 - (n:Int)))).bind fun x584=>(bif x584.gD then ((idx s459.2.1 (IntKind.wrap .i64 (x556 - (n:Int)))).bind fun x594=>(app 8 s459.2.2.2 ([(IntKind.wrap .i64 (x556 - (n:Int)))]: (List Int))).bind fun x596=>some ((s459.2.1.set (Int.toNat (IntKind.wrap .i64 (x556 - (n:Int)))) (s124.1.length:Int)),x596)) else ((idx s459.2.1 (IntKind.wrap .i64 (x556 - (n:Int)))).bind fun x598=>some ((s459.2.1.set (Int.toNat (IntKind.wrap .i64 (x556 - (n:Int)))) (-1)),s459.2.2.2))).bind fun s592=>some (s459.1,s592.1,s459.2.2.1,s592.2))).bind fun s577=>some (s577.1,s577.2.1,s577.2.2.1,s577.2.2.2):Option ((List Int)×(List Int)×(List Int)×(List Int)))) (s124.2.1,s124.2.2,([]: (List Int)),([]: (List Int)))).bind fun s459=>(bif (decide ((IntKind.wrap .i64 ((s459.2.2.1.length:Int)+ (s459.2.2.2.length:Int)))>0)) then ((app 72 s124.1 [(⟨s459.2.2.1,s459.2.2.2,([]: (List fX))⟩:cU)]).bind fun x610=>some x610) else (some s124.1)).bind fun s606=>some (s606,s459.1,s459.2.1):Option ((List cU)×(List Int)×(List Int))))):
  Ok (jq (n7 (n+m) r).length body ([],op,ob)) (fun st=>st.1=pX bs n (n+m) r (bZ (n+m) r)/\IC bs n m r (bZ (n+m) r) st.2.1 st.2.2):=by
 subst hbody
 have hsl: (n7 (n+m) r).length= (bZ (n+m) r).length:=by unfold n7;simp
 have hhl:=nK (n+m) r
 refine Ok.mono (Ok.jq (fun(k:Nat) (st:List cU×List Int×List Int)=>st.1=pX bs n (n+m) r ((bZ (n+m) r).take k)/\IC bs n m r ((bZ (n+m) r).take k) st.2.1 st.2.2) (by omega) ⟨rfl,hop,hob,fun i hi h=>by simp at h,fun j hj h=>by simp at h⟩ (fun k st hk hI=>?_)) (fun st h=>by rw [hsl,fC] at h;exact h)
 obtain⟨gs,ofP,ofB⟩:=st
 obtain⟨e1,I⟩:=hI
 dsimp only at e1 I ⊢
 subst e1
 rw [hsl] at hk
 have hkx: (bZ (n+m) r)[k]? =some (bZ (n+m) r)[k]:=aK hk
 have hts: (bZ (n+m) r).take (k+1)= (bZ (n+m) r).take k++[(bZ (n+m) r)[k]]:=fH hk
 have hgk:gi bs n (n+m) r (bZ (n+m) r)[k]= (pX bs n (n+m) r ((bZ (n+m) r).take k)).length:=by
  unfold gi;rw [sq (lD _ _) hkx,uj]
 generalize hh: (bZ (n+m) r)[k]=h at *
 have hsx: (n7 (n+m) r)[k]? =some (ints (cls (n+m) r h)):=by unfold n7;rw [eJ,hkx];rfl
 refine Ok.ix hsx ?_
 have hcl:=y6 (n+m) r h
 rw [lf]
 have hgl: (pX bs n (n+m) r ((bZ (n+m) r).take k)).length<=n+m:=by
  rw [uj]
  have:=uk bs n (n+m) r ((bZ (n+m) r).take k)
  rw [dA] at this;omega
 have hold: ∀i∈cls (n+m) r h,∀i',r i'∈(bZ (n+m) r).take k->i≠i':=fun i hi i' hi' e=>by
  subst e
  rw [(rK.1 hi).2] at hi'
  obtain⟨j,hj⟩:=eO hi'
  have hjk:j<k:=by have:=(aY.1 hj).1;rw [dA] at this;omega
  rw [List.getElem?_take_of_lt hjk] at hj
  have:=yg (lD (n+m) r) hj hkx
  omega
 refine Ok.bind (P:=fun s'=>IC bs n m r ((bZ (n+m) r).take (k+1)) s'.1 s'.2.1/\s'.2.2.1=ints (gP n (cls (n+m) r h))/\s'.2.2.2=ints (gB bs n (cls (n+m) r h))) (Ok.mono (Ok.jq
  (fun(t:Nat) (s':List Int×List Int×List Int×List Int)=>IC bs n m r ((bZ (n+m) r).take k) s'.1 s'.2.1/\s'.2.2.1=ints (gP n ((cls (n+m) r h).take t))/\s'.2.2.2=ints (gB bs n ((cls (n+m) r h).take t))/\
   (∀i∈(cls (n+m) r h).take t,i<n->s'.1[i]? =some ((gi bs n (n+m) r h:Nat):Int))/\∀i∈(cls (n+m) r h).take t,¬i<n->s'.2.1[i - n]? =some (if sZ bs (i - n)=true then ((gi bs n (n+m) r h:Nat):Int) else -1)) (by omega)
   ⟨I,rfl,rfl,fun i hi=>by simp at hi,fun i hi=>by simp at hi⟩ (fun t s' ht hI'=>?_)) ?_) ?_
 ·obtain⟨oP,oB,pp,bb⟩:=s'
  obtain⟨J,e2,e3,J1,J2⟩:=hI'
  dsimp only at J e2 e3 J1 J2 ⊢
  subst e2;subst e3
  have htx: (ints (cls (n+m) r h))[t]? =some (((cls (n+m) r h)[t]:Nat):Int):=by unfold ints;rw [eJ,aK ht];rfl
  refine Ok.ix htx ?_
  have htt: (cls (n+m) r h).take (t+1)= (cls (n+m) r h).take t++[(cls (n+m) r h)[t]]:=fH ht
  have hcm:=cM ht
  have hdist: ∀i∈(cls (n+m) r h).take t,i≠(cls (n+m) r h)[t]:=fun i hi e=>by
   obtain⟨j,hj⟩:=eO hi
   have hjt:j<t:=by have:=(aY.1 hj).1;rw [dA] at this;omega
   rw [List.getElem?_take_of_lt hjt] at hj
   have:=yg (Dx (n+m) r h) hj (by rw [e];exact aK ht)
   omega
  generalize (cls (n+m) r h)[t]=c at *
  obtain⟨hc1,hc2⟩:=rK.1 hcm
  have hgp:=EP n ((cls (n+m) r h).take t)
  have hgb:=ER bs n ((cls (n+m) r h).take t)
  rw [dA] at hgp hgb
  by_cases hcn:c<n
  ·rw [cE (by omega: ((c:Nat):Int)< ((n:Nat):Int)),aS]
   refine Ok.bind (P:=fun x=>x= (oP.set c ((gi bs n (n+m) r h:Nat):Int),oB,ints (gP n ((cls (n+m) r h).take t))++[((c:Nat):Int)],ints (gB bs n ((cls (n+m) r h).take t)))) ?_ ?_
   ·refine Ok.idx (by rw [J.lp];exact hcn) (Ok.app (by rw [lf];simp;omega) (Ok.ret ?_))
    rw [bO,hgk]
   ·rintro _ rfl
    refine Ok.ret ⟨⟨by simp [J.lp],J.lb,fun i hi hr=>?_,J.bo⟩,?_,?_,fun i hi hin=>?_,fun i hi hin=>?_⟩
    ·dsimp only
     rw [lr (by rw [J.lp];exact hcn),aC (fun e=>hold c hcm i hr e.symm)];exact J.pc i hi hr
    ·dsimp only;rw [htt,Cv,aD hcn,rh];rfl
    ·dsimp only;rw [htt,Cw,aD hcn]
    ·dsimp only
     rw [lr (by rw [J.lp];exact hcn)]
     split
     ·rfl
     ·rename_i hne
      rw [htt] at hi
      rcases cQ.1 hi with hi | hi
      ·exact J1 i hi hin
      ·exact absurd (by simpa using hi) hne
    ·rw [htt] at hi
     rcases cQ.1 hi with hi | hi
     ·exact J2 i hi hin
     ·have:i=c:=by simpa using hi
      subst this;exact absurd hcn hin
  ·rw [bG (by omega: ¬((c:Nat):Int)< ((n:Nat):Int)),aV]
   have hw:IntKind.wrap .i64 (((c:Nat):Int) - ((n:Nat):Int))= ((c - n:Nat):Int):=by rw [eP (by omega) (by omega)];omega
   have hcm2:c - n<bs.length:=by omega
   have hpl:sZ bs (c - n)=bs[c - n].gD:=by unfold sZ;rw [aK hcm2];rfl
   rw [hw]
   refine Ok.bind (P:=fun x=>x= (oP,oB.set (c - n) (if sZ bs (c - n)=true then ((gi bs n (n+m) r h:Nat):Int) else -1),ints (gP n ((cls (n+m) r h).take t)),ints (gB bs n ((cls (n+m) r h).take t++[c])))) ?_ ?_
   ·refine Ok.idx hcm2 ?_
    rw [Cw,aC hcn,hpl]
    cases hp:bs[c - n].gD with
    | true=>
     rw [aS,aD rfl,aD rfl]
     refine Ok.eq (x:=(oB.set (c - n) ((gi bs n (n+m) r h:Nat):Int),ints (gB bs n ((cls (n+m) r h).take t)++[c - n]))) ?_ (Ok.ret rfl)
     rw [i9 _ _ (by rw [J.lb];omega),aB,g9 (by rw [lf];simp;omega),aB,bO,hgk,rh];rfl
    | false=>
     rw [aV,aC (by simp),aC (by simp)]
     refine Ok.eq (x:=(oB.set (c - n) (-1),ints (gB bs n ((cls (n+m) r h).take t)))) ?_ (Ok.ret rfl)
     rw [i9 _ _ (by rw [J.lb];omega),aB,bO]
   ·rintro _ rfl
    refine Ok.ret ⟨⟨J.lp,by simp [J.lb],J.pc,fun j hj hr=>?_⟩,?_,?_,fun i hi hin=>?_,fun i hi hin=>?_⟩
    ·dsimp only
     rw [lr (by rw [J.lb];omega),aC (fun e=>hold c hcm (n+j) hr (by omega))];exact J.bo j hj hr
    ·dsimp only;rw [htt,Cv,aC hcn]
    ·dsimp only;rw [htt]
    ·rw [htt] at hi
     rcases cQ.1 hi with hi | hi
     ·exact J1 i hi hin
     ·have:i=c:=by simpa using hi
      subst this;exact absurd hin hcn
    ·dsimp only
     rw [lr (by rw [J.lb];omega)]
     split
     ·rename_i e;rw [e]
     ·rename_i hne
      rw [htt] at hi
      rcases cQ.1 hi with hi | hi
      ·exact J2 i hi hin
      ·exact absurd (by have:i=c:=(by simpa using hi);rw [this]) hne
 ·rintro⟨oP,oB,pp,bb⟩ ⟨J,e2,e3,J1,J2⟩
  dsimp only at J e2 e3 J1 J2 ⊢
  rw [fC] at e2 e3 J1 J2
  refine⟨⟨J.lp,J.lb,fun i hi hr=>?_,fun j hj hr=>?_⟩,e2,e3⟩
  ·rw [hts] at hr
   rcases cQ.1 hr with hr | hr
   ·exact J.pc i hi hr
   ·have hr:r i=h:=by simpa using hr
    rw [hr];exact J1 i (rK.2 ⟨by omega,hr⟩) hi
  ·rw [hts] at hr
   rcases cQ.1 hr with hr | hr
   ·exact J.bo j hj hr
   ·have hr:r (n+j)=h:=by simpa using hr
    rw [hr]
    have:=J2 (n+j) (rK.2 ⟨by omega,hr⟩) (by omega)
    rwa [Nat.add_sub_cancel_left] at this
 ·rintro⟨oP,oB,pp,bb⟩ ⟨J,e2,e3⟩
  dsimp only at J e2 e3 ⊢
  subst e2;subst e3
  have hgp:=EP n (cls (n+m) r h)
  have hgb:=ER bs n (cls (n+m) r h)
  rw [lf,lf,wrap_add (by omega)]
  have hgs:pX bs n (n+m) r ((bZ (n+m) r).take (k+1))=if EO bs n (cls (n+m) r h)=true then pX bs n (n+m) r ((bZ (n+m) r).take k)++[Ks bs n (cls (n+m) r h)] else pX bs n (n+m) r ((bZ (n+m) r).take k):=by
   unfold pX
   rw [hts,Dw]
   split
   ·rw [dV];rfl
   ·rfl
  refine Ok.bind (P:=fun x=>x=pX bs n (n+m) r ((bZ (n+m) r).take (k+1))) (Ok.bif (fun hb=>?_) (fun hb=>Ok.ret ?_)) (fun x e=>Ok.ret ⟨e,J⟩)
  ·have hne:EO bs n (cls (n+m) r h)=true:=cE (by have:=of_decide_eq_true hb;omega)
   refine Ok.app (by simp;omega) (Ok.ret ?_)
   rw [hgs,aD hne];rfl
  ·have hne: ¬EO bs n (cls (n+m) r h)=true:=fun h'=>by
    have h1:=of_decide_eq_true h'
    have h2:=of_decide_eq_false hb
    omega
   rw [hgs,aC hne]
end
end Go.Gk
namespace Go.Gk
open Go Classical
section
variable {N:Nat}
def cJ (n:Nat) (h:bE):Nat:=if h.bW=true then n+h.Number.toNat else h.Number.toNat
structure Az (bs:List bW) (n m:Nat) (h:bE):Prop where
 num: ∃k:Nat,h.Number= ((k:Nat):Int)/\(h.bW=true->k<m/\sZ bs k=true)/\(h.bW=false->k<n)
theorem pY {bs:List bW} {pcs:List aH} {l:dL} {h:bE} (hh:ku bs pcs l=some h):Az bs pcs.length bs.length h:=by
 unfold ku at hh
 cases hf:bs.findIdx? (sY l) with
 | some k=>
  rw [hf] at hh
  injection hh with hh;subst hh
  obtain⟨hk,hp,_⟩:=List.findIdx?_eq_some_iff_getElem.1 hf
  refine⟨k,rfl,fun _=>⟨hk,?_⟩,fun h=>by cases h⟩
  unfold sY at hp
  unfold sZ
  rw [aK hk]
  rw [bV] at hp
  exact hp.1
 | none=>
  rw [hf] at hh
  dsimp only at hh
  rw [Option.map_eq_some_iff] at hh
  obtain⟨k,hk,rfl⟩:=hh
  obtain⟨hk,_⟩:=List.findIdx?_eq_some_iff_getElem.1 hk
  exact⟨k,rfl,fun h=>(by cases h),fun _=>hk⟩
def BJ (bs:List bW) (pcs:List aH) (r:Nat->Nat) (l:dL):Option Nat:=(ku bs pcs l).map fun h=>gi bs pcs.length (pcs.length+bs.length) r (r (cJ pcs.length h))
def AV (bs:List bW) (pcs:List aH) (r:Nat->Nat) (l:dL):Int:=match BJ bs pcs r l with | some g=>((g:Nat):Int) | none=> -1
def iE (gs:List cU) (lg:dL->Option Nat) (ls:List dL):List cU:=gs.mapIdx (fun g x=>{x with iI:=(ls.filter (fun l=>decide (lg l=some g))).map kP})
theorem jG {gs:List cU} {lg:dL->Option Nat} {ls:List dL} {g:Nat}: (iE gs lg ls)[g]? = (gs[g]?).map fun x=>{x with iI:=(ls.filter (fun l=>decide (lg l=some g))).map kP}:=by
 unfold iE;rw [List.getElem?_mapIdx]
theorem y9 (gs:List cU) (lg:dL->Option Nat) (ls:List dL): (iE gs lg ls).length=gs.length:=by unfold iE;rw [List.length_mapIdx]
theorem xK {gs:List cU} {lg:dL->Option Nat} {ls:List dL} {l:dL} (h:lg l=none):iE gs lg (ls++[l])=iE gs lg ls:=by
 apply List.ext_getElem?
 intro g
 rw [jG,jG]
 congr 2
 funext x
 rw [iF]
 simp [h]
theorem za {gs:List cU} {lg:dL->Option Nat} {ls:List dL} {l:dL} {k:Nat} {x:cU} (h:lg l=some k) (hx: (iE gs lg ls)[k]? =some x):
  (iE gs lg ls).set k {x with iI:=x.iI++[kP l]}=iE gs lg (ls++[l]):=by
 apply List.ext_getElem?
 intro g
 have hk:=(aY.1 hx).1
 rw [eF]
 by_cases e:k=g
 ·subst e
  rw [aD rfl,aD hk,jG]
  rw [jG,Option.map_eq_some_iff] at hx
  obtain⟨y,hy,rfl⟩:=hx
  rw [hy,iF]
  simp [h]
 ·rw [aC e,jG,jG]
  congr 2
  funext x
  rw [iF]
  have: ¬(lg l=some g):=by rw [h];intro h';injection h' with h';exact e h'
  simp [this]
theorem ID {bs:List bW} {n t:Nat} {r:Nat->Nat} {i:Nat} (hi:i<n) (ht:i<t):EO bs n (cls t r (r i))=true:=by
 unfold EO
 rw [bT]
 have:i∈gP n (cls t r (r i)):=hU.2 ⟨rK.2 ⟨ht,rfl⟩,by simpa using hi⟩
 have:=List.length_pos_of_mem this
 omega
theorem IE {bs:List bW} {n t:Nat} {r:Nat->Nat} {j:Nat} (hp:sZ bs j=true) (ht:n+j<t):EO bs n (cls t r (r (n+j)))=true:=by
 unfold EO
 rw [bT]
 have:j∈gB bs n (cls t r (r (n+j))):=cI.2 ⟨n+j,hU.2 ⟨rK.2 ⟨ht,rfl⟩,by simp [hp]⟩,by omega⟩
 have:=List.length_pos_of_mem this
 omega
structure BK (bs:List bW) (ls:List dL) (pcs:List aH) (r:Nat->Nat) (gs:List cU) (ofP ofB jI:List Int) (jH:List bE):Prop where
 conn:BH pcs.length bs.length (cK bs pcs) r
 gs:gs=iE (pX bs pcs.length (pcs.length+bs.length) r (bZ (pcs.length+bs.length) r)) (BJ bs pcs r) ls
 of:IC bs pcs.length bs.length r (bZ (pcs.length+bs.length) r) ofP ofB
 jI:jI=ls.map (AV bs pcs r)
 jH:jH=ls.map (fun l=>(ku bs pcs l).getD ⟨false,0⟩)
theorem w8 {bs:List bW} {pcs:List aH} (hp:pcs.length<=1073741824): ∀l∈cK bs pcs,l.length<=1073741824/\∀x∈l,∃i:Nat,i<pcs.length/\x= ((i:Nat):Int):=by
 intro l hl
 unfold cK at hl
 obtain⟨b,_,rfl⟩:=cI.1 hl
 have:=vk (jL b) pcs pcs.length
 refine⟨by rw [lf];omega,fun x hx=>?_⟩
 obtain⟨i,hi,rfl⟩:=w7.1 hx
 exact⟨i,(Du.1 hi).1,rfl⟩
theorem zb {bs:List bW} {ls:List dL} {pcs:List aH} (hb:mB bs) (hp:pcs.length<=1000000000) (hr: ∀p∈pcs,p.m6.length<=1073741824) (hl:ls.length<=1073741824) (hN:4398046511104<=N):
  Ok (eT N bs ls pcs (cK bs pcs) [] [] [] []) (fun x=>∃r,BK bs ls pcs r x.1 x.2.1 x.2.2.1 x.2.2.2.1 x.2.2.2.2):=by
 have hbl:=hb.len
 unfold eT
 rw [wrap_add (by omega)]
 obtain⟨up0,u1,u2⟩:=vx (N:=N) (n:=pcs.length+bs.length) (by omega)
 refine Ok.eq u1 ?_
 refine Ok.bind (Dv (n:=pcs.length) (m:=bs.length) (by unfold cK;simp) (w8 (by omega)) (by omega) (by omega) u2 hN) ?_
 rintro up1 ⟨r,v1,v2⟩
 refine Ok.eq (rB 0 (by omega)) (Ok.eq (rB 0 (by omega)) ?_)
 obtain⟨up2,w1,_⟩:=FU (N:=N) v1 (by omega) (by omega)
 refine Ok.eq w1 ?_
 refine Ok.bind (Ay (bs:=bs) (n:=pcs.length) (m:=bs.length) (r:=r) rfl (by omega) (by omega) (op:=List.replicate pcs.length 0) (ob:=List.replicate bs.length 0) (by simp) (by simp) rfl) ?_
 rintro⟨gs,ofP,ofB⟩ ⟨e1,I⟩
 dsimp only at e1 I ⊢
 subst e1
 have hgl: (pX bs pcs.length (pcs.length+bs.length) r (bZ (pcs.length+bs.length) r)).length<=pcs.length+bs.length:=by
  rw [uj]
  have:=uk bs pcs.length (pcs.length+bs.length) r (bZ (pcs.length+bs.length) r)
  have:=nK (pcs.length+bs.length) r
  omega
 refine Ok.bind (Ok.jq (fun(k:Nat) (st:List cU×List Int×List Int×List Int×List bE)=>st= (iE (pX bs pcs.length (pcs.length+bs.length) r (bZ (pcs.length+bs.length) r)) (BJ bs pcs r) (ls.take k),ofP,ofB,(ls.take k).map (AV bs pcs r),(ls.take k).map (fun l=>(ku bs pcs l).getD ⟨false,0⟩))) (by omega) ?_ (fun k st hk e=>?_)) ?_
 ·congr 1
  unfold iE
  apply List.ext_getElem?
  intro g
  rw [List.getElem?_mapIdx]
  unfold pX
  rw [eJ]
  cases (live bs pcs.length (pcs.length+bs.length) r (bZ (pcs.length+bs.length) r))[g]? <;> rfl
 ·subst e
  dsimp only
  have hts:ls.take (k+1)=ls.take k++[ls[k]]:=fH hk
  refine Ok.idx hk (Ok.eq (EN hb (by omega) hr _) ?_)
  dsimp only
  refine Ok.bind (P:=fun x=>x= (iE (pX bs pcs.length (pcs.length+bs.length) r (bZ (pcs.length+bs.length) r)) (BJ bs pcs r) (ls.take k++[ls[k]]),AV bs pcs r ls[k])) ?_ ?_
  ·cases hh:ku bs pcs ls[k] with
   | none=>
    refine Ok.ret ?_
    have h1:BJ bs pcs r ls[k]=none:=by unfold BJ;rw [hh];rfl
    rw [xK h1]
    unfold AV;rw [h1]
   | some h=>
    have h1:BJ bs pcs r ls[k]=some (gi bs pcs.length (pcs.length+bs.length) r (r (cJ pcs.length h))):=by unfold BJ;rw [hh];rfl
    have h2:AV bs pcs r ls[k]= ((gi bs pcs.length (pcs.length+bs.length) r (r (cJ pcs.length h)):Nat):Int):=by unfold AV;rw [h1]
    obtain⟨q,q1,q2,q3⟩:=(pY hh).num
    have hix:cJ pcs.length h<pcs.length+bs.length/\EO bs pcs.length (cls (pcs.length+bs.length) r (r (cJ pcs.length h)))=true/\fR N ofP ofB h=some ((gi bs pcs.length (pcs.length+bs.length) r (r (cJ pcs.length h)):Nat):Int):=by
     unfold fR cJ
     rw [q1,bO]
     cases hbo:h.bW with
     | true=>
      obtain⟨q4,q5⟩:=q2 hbo
      rw [aS,aD rfl]
      refine⟨by omega,IE q5 (by omega),?_⟩
      have:=I.bo q q4 (iN.2 ⟨by have:=v2.le (pcs.length+q) (by omega);omega,v2.rr _ (by omega)⟩)
      rw [aD q5] at this
      rw [eU this,aB]
     | false=>
      have q4:=q3 hbo
      rw [aV,aC (by simp)]
      refine⟨by omega,ID q4 (by omega),?_⟩
      have:=I.pc q q4 (iN.2 ⟨by have:=v2.le q (by omega);omega,v2.rr _ (by omega)⟩)
      rw [eU this,aB]
    obtain⟨i1,i2,i3⟩:=hix
    have hgi:=IB (r:=r) (t:=pcs.length+bs.length) (bs:=bs) (n:=pcs.length) (h:=r (cJ pcs.length h)) (iN.2 ⟨by have:=v2.le _ i1;omega,v2.rr _ i1⟩) i2
    have hgx:gi bs pcs.length (pcs.length+bs.length) r (r (cJ pcs.length h))< (iE (pX bs pcs.length (pcs.length+bs.length) r (bZ (pcs.length+bs.length) r)) (BJ bs pcs r) (ls.take k)).length:=by
     rw [y9,uj];exact hgi.1
    rw [h2]
    dsimp only [Option.getD,Option.isSome]
    rw [aS]
    refine Ok.eq i3 ?_
    generalize gi bs pcs.length (pcs.length+bs.length) r (r (cJ pcs.length h))=g at *
    refine Ok.idx hgx (Ok.eq (vg _) ?_)
    have hpl: ((iE (pX bs pcs.length (pcs.length+bs.length) r (bZ (pcs.length+bs.length) r)) (BJ bs pcs r) (ls.take k))[g]).iI.length<=ls.length:=by
     have:=jG (gs:=pX bs pcs.length (pcs.length+bs.length) r (bZ (pcs.length+bs.length) r)) (lg:=BJ bs pcs r) (ls:=ls.take k) (g:=g)
     rw [aK hgx] at this
     have:=this.symm
     rw [Option.map_eq_some_iff] at this
     obtain⟨y,_,hy⟩:=this
     rw [<-hy,dC]
     have:=j4 (fun l=>decide (BJ bs pcs r l=some g)) (ls.take k)
     rw [dA] at this;omega
    refine Ok.app (by simp;omega) (Ok.idx hgx (Ok.ret ?_))
    rw [bO]
    congr 1
    exact za h1 (aK hgx)
  ·rintro _ rfl
   dsimp only
   refine Ok.app (by simp;omega) (Ok.app (by simp;omega) (Ok.ret ?_))
   rw [hts,dV,dV];rfl
 ·rintro st rfl
  dsimp only
  rw [fC]
  exact Ok.ret ⟨r,v2,rfl,I,rfl,rfl⟩
end
end Go.Gk
