/-
  Helping texts: plain functions and plain laws. No statement of the seed is proved here.
-/
import Derived.Test.YtlffnmkhgkppkaaGreatDoorA1
import Derived.ChangeShapes
import Derived.ChangeSame
import Derived.Carry
import Derived.RowKit
import Derived.Test.YtlffnmkhgkppkaaGreatDoorA2
set_option linter.unusedVariables false
set_option linter.unusedSimpArgs false
set_option linter.unusedSectionVars false
namespace Go.Gk
open Go
noncomputable section
structure aH where
 X0:Int
 Y0:Int
 X1:Int
 Y1:Int
 deriving DecidableEq,Inhabited
structure jE where
 X:Int
 Y:Int
 deriving DecidableEq,Inhabited
structure cH where
 At:jE
 eI:Int
 cY:Int
 To:Int
 jV:Bool
 deriving DecidableEq,Inhabited
structure eW where
 Part:dO
 fL:dO
 eT:Int
 At:jE
 deriving DecidableEq,Inhabited
structure iM where
 aI: (List (List aH))
 cL: (List aH)
 aJ: (List cH)
 bG: (List eW)
 deriving DecidableEq,Inhabited
structure fL where
 Part:dO
 fL:dO
 deriving DecidableEq,Inhabited
structure Test where
 A:fL
 B:fL
 Joined:Bool
 deriving DecidableEq,Inhabited
structure aA where
 Y0:Int
 Y1:Int
 Xs: (List Int)
 deriving DecidableEq,Inhabited
structure aN where
 eT:Int
 Set: (List aA)
 oq: (List aH)
 deriving DecidableEq,Inhabited
structure dI where
 n7: (List Int)
 aJ: (List Int)
 jq: (List fL)
 deriving DecidableEq,Inhabited
structure bX where
 cH:Bool
 Number:Int
 deriving DecidableEq,Inhabited
structure aK where
 from_:Int
 to:Int
 deriving DecidableEq,Inhabited
structure bA where
 from_:Int
 to:Int
 kb: (List aK)
 deriving DecidableEq,Inhabited
def qY (N:Nat) (p0 p1 p2:Int):Option (Bool):=
 some ((decide (p0>=p1))&&(decide (p0<=p2)))
def kE (N:Nat) (p0:Int):Option (Bool):=
 (qY N p0 (-1000000) 1000000).bind fun j=>some j
def lW (N:Nat) (p0:aH):Option (Bool):=
 ((kE N p0.X0).bind fun j=>bif j then ((kE N p0.Y0).bind fun o=>bif o then ((kE N p0.X1).bind fun aa=>bif aa then ((kE N p0.Y1).bind fun ab=>some ab) else (some false)) else (some false)) else (some false)).bind fun ad=>some ad
def kc (N:Nat) (p0: (List aH)):Option (Int):=
 bif (decide ((p0.length:Int)>2000)) then (some 2) else ((rH p0.length (fun(o:Nat) (aa:Unit)=>((idx p0 (o:Int)).bind fun j=>(lW N j).bind fun ab=>bif (!ab) then (some (.rt 1)) else (bif ((decide (j.X1<=j.X0))||(decide (j.Y1<=j.Y0))) then (some (.rt 13)) else (some (.nx ()))):Option (Fl (Unit) Int))) ()).bind fun ad=>ad.cs (fun(aa:Unit)=>some 0) (fun r=>some r))
def iz (N:Nat) (p0: (List aH)):Option ((List aH)):=
 (app 32 ([]: (List aH)) p0).bind fun j=>some j
def iZ (N:Nat) (p0 p1:aH):Option (Int):=
 some (IntKind.wrap .i64 (p0.Y0 - p1.Y0))
def gh (N:Nat) (p0: (List Int)):Option ((List Int)):=
 bif (decide ((p0.length:Int)<2)) then (some p0) else ((iY (fun(o:Int)=>(bif (decide (o< (p0.length:Int))) then ((idx p0 o).bind fun ab=>(idx p0 (IntKind.wrap .i64 (o - 1))).bind fun ad=>bif (ab==ad) then ((p9 p0 o (p0.length:Int)).bind fun aj=>(iY (fun(j: (List Int)×Int×Int)=>(bif (decide (j.2.2< (((j.1.length - Int.toNat o):Nat):Int))) then ((C7 j.1 o j.2.2).bind fun ae=>(C7 j.1 o (IntKind.wrap .i64 (j.2.2 - 1))).bind fun af=>(bif (ae != af) then ((C7 j.1 o j.2.2).bind fun ag=>(idx j.1 j.2.1).bind fun ak=>some ((j.1.set (Int.toNat j.2.1) ag),(IntKind.wrap .i64 (j.2.1+1)))) else (some (j.1,j.2.1))).bind fun aa=>some (.nx (aa.1,aa.2,(IntKind.wrap .i64 (j.2.2+1))))) else (some (.br (j.1,j.2.1,j.2.2))):Option (Fl ((List Int)×Int×Int) Empty))) N (p0,o,1)).bind fun ah=>ah.cs (fun(j: (List Int)×Int×Int)=>(p9 j.1 j.2.1 (j.1.length:Int)).bind fun al=>(p9 (j.1.take (Int.toNat j.2.1)++List.replicate (j.1.length - Int.toNat j.2.1) (0:Int)) 0 j.2.1).bind fun Hv=>some (.rt Hv)) (fun r=>r.elim)) else (some (.nx (IntKind.wrap .i64 (o+1))))) else (some (.br o)):Option (Fl (Int) (List Int)))) N 1).bind fun ai=>ai.cs (fun(o:Int)=>some p0) (fun r=>some r))
def mU (N:Nat) (p0:aH) (p1: (List Int)) (p2:Int):Option (Bool):=
 (idx p1 p2).bind fun j=>some (decide (p0.Y1<=j))
def k8 (N:Nat) (p0: (List aH)) (p1:aH->Option Bool):Option (Int):=
 (rH p0.length (fun(j:Nat) (o:Unit)=>((idx p0 (j:Int)).bind fun aa=>(p1 aa).bind fun ab=>bif ab then (some (.rt (j:Int))) else (some (.nx ())):Option (Fl (Unit) Int))) ()).bind fun ad=>ad.cs (fun(o:Unit)=>some (-1)) (fun r=>some r)
def jW (N:Nat) (p0: (List aH)) (p1:aH->Option Bool):Option (Int):=
 (rH p0.length (fun(j:Nat) (o:Unit)=>((idx p0 (j:Int)).bind fun aa=>(p1 aa).bind fun ab=>bif ab then (some (.rt (j:Int))) else (some (.nx ())):Option (Fl (Unit) Int))) ()).bind fun ad=>ad.cs (fun(o:Unit)=>some (-1)) (fun r=>some r)
def gC (N:Nat) (p0: (List aH)) (p1:aH->Option Bool):Option ((List aH)):=
 (jW N p0 p1).bind fun o=>bif (o==(-1)) then (some p0) else ((iY (fun(j: (List aH)×Int×Int)=>(bif (decide (j.2.2< (j.1.length:Int))) then ((idx j.1 j.2.2).bind fun aa=>(p1 aa).bind fun ad=>(bif (!ad) then ((idx j.1 j.2.1).bind fun ag=>some ((j.1.set (Int.toNat j.2.1) aa),(IntKind.wrap .i64 (j.2.1+1)))) else (some (j.1,j.2.1))).bind fun ab=>some (.nx (ab.1,ab.2,(IntKind.wrap .i64 (j.2.2+1))))) else (some (.br (j.1,j.2.1,j.2.2))):Option (Fl ((List aH)×Int×Int) Empty))) N (p0,o,(IntKind.wrap .i64 (o+1)))).bind fun ae=>ae.cs (fun(j: (List aH)×Int×Int)=>(p9 j.1 j.2.1 (j.1.length:Int)).bind fun ah=>(p9 (j.1.take (Int.toNat j.2.1)++List.replicate (j.1.length - Int.toNat j.2.1) (⟨0,0,0,0⟩:aH)) 0 j.2.1).bind fun af=>some af) (fun r=>r.elim))
def gj (N:Nat) (p0 p1:aH):Option (Int):=
 some (IntKind.wrap .i64 (p0.X0 - p1.X0))
def iH (N:Nat) (p0: (List aH)):Option ((List Int)×(List aH)):=
 (uX (gj N) p0).bind fun aa=>(lV aa.length (fun(ad:Nat) (j: (List Int))=>((idx aa (ad:Int)).bind fun o=>(bif (decide ((IntKind.wrap .i64 ((j.length:Int) - 1))>=0)) then ((idx j (IntKind.wrap .i64 ((j.length:Int) - 1))).bind fun ae=>some (decide (o.X0<=ae))) else (some false)).bind fun af=>(bif af then ((idx j (IntKind.wrap .i64 ((j.length:Int) - 1))).bind fun ab=>(idx j (IntKind.wrap .i64 ((j.length:Int) - 1))).bind fun ai=>some (j.set (Int.toNat (IntKind.wrap .i64 ((j.length:Int) - 1))) (if ab<o.X1 then o.X1 else ab))) else ((app 8 j ([o.X0,o.X1]: (List Int))).bind fun ag=>some ag)).bind fun ah=>some ah:Option ((List Int)))) ([]: (List Int))).bind fun j=>some (j,aa)
def lX (N:Nat) (p0: (List Int)) (p1: (List Int)):Option (Bool):=
 bif ((p0.length:Int) != (p1.length:Int)) then (some false) else ((rH p0.length (fun(j:Nat) (o:Unit)=>((idx p0 (j:Int)).bind fun aa=>(idx p1 (j:Int)).bind fun ab=>bif (aa != ab) then (some (.rt false)) else (some (.nx ())):Option (Fl (Unit) Bool))) ()).bind fun ad=>ad.cs (fun(o:Unit)=>some true) (fun r=>some r))
def il (N:Nat) (p0: (List aA)) (p1:aA):Option ((List aA)):=
 bif (((p1.Xs.length:Int)==0)||(decide (p1.Y1<=p1.Y0))) then (some p0) else ((bif (decide ((IntKind.wrap .i64 ((p0.length:Int) - 1))>=0)) then ((idx p0 (IntKind.wrap .i64 ((p0.length:Int) - 1))).bind fun j=>bif (j.Y1==p1.Y0) then ((idx p0 (IntKind.wrap .i64 ((p0.length:Int) - 1))).bind fun o=>(lX N o.Xs p1.Xs).bind fun aa=>some aa) else (some false)) else (some false)).bind fun ab=>bif ab then ((idx p0 (IntKind.wrap .i64 ((p0.length:Int) - 1))).bind fun ad=>some (p0.set (Int.toNat (IntKind.wrap .i64 ((p0.length:Int) - 1))) ({ad with Y1:=p1.Y1}))) else ((app 40 p0 ([p1]: (List aA))).bind fun ae=>some ae))
def gm (N:Nat) (p0: (List aH)):Option ((List aA)):=
 (iz N p0).bind fun ag=>(uX (iZ N) ag).bind fun aa=>(lV aa.length (fun(ah:Nat) (ad: (List Int))=>((idx aa (ah:Int)).bind fun ae=>(app 8 ad ([ae.Y0,ae.Y1]: (List Int))).bind fun ai=>some ai:Option ((List Int)))) ([]: (List Int))).bind fun ad=>(sd ad).bind fun aj=>(gh N aj).bind fun ab=>(iY (fun(j: (List aA)×(List aH)×Int×Int)=>(bif (decide ((IntKind.wrap .i64 (j.2.2.2+1))< (ab.length:Int))) then ((gC N j.2.1 (fun y0=>mU N y0 ab j.2.2.2)).bind fun ak=>(iY (fun(o: (List aH)×Int)=>((bif (decide (o.2< (aa.length:Int))) then ((idx aa o.2).bind fun al=>(idx ab j.2.2.2).bind fun an=>some (decide (al.Y0<=an))) else (some false)).bind fun ao=>bif ao then ((idx aa o.2).bind fun aq=>(app 32 o.1 ([aq]: (List aH))).bind fun ar=>some (.nx (ar,(IntKind.wrap .i64 (o.2+1))))) else (some (.br (o.1,o.2))):Option (Fl ((List aH)×Int) Empty))) N (ak,j.2.2.1)).bind fun au=>au.cs (fun(o: (List aH)×Int)=>(idx ab j.2.2.2).bind fun av=>(idx ab (IntKind.wrap .i64 (j.2.2.2+1))).bind fun aw=>(iH N o.1).bind fun af=>(il N j.1 (⟨av,aw,af.1⟩:aA)).bind fun ax=>some (.nx (ax,af.2,o.2,(IntKind.wrap .i64 (j.2.2.2+1))))) (fun r=>r.elim)) else (some (.br (j.1,j.2.1,j.2.2.1,j.2.2.2))):Option (Fl ((List aA)×(List aH)×Int×Int) Empty))) N (([]: (List aA)),([]: (List aH)),0,0)).bind fun ay=>ay.cs (fun(j: (List aA)×(List aH)×Int×Int)=>some j.1) (fun r=>r.elim)
def iI (N:Nat) (p0: (List aA)):Option ((List aH)):=
 (lV p0.length (fun(ab:Nat) (aa: (List aH))=>((idx p0 (ab:Int)).bind fun o=>(iY (fun(j: (List aH)×Int)=>(bif (decide (j.2< (o.Xs.length:Int))) then ((idx o.Xs j.2).bind fun ad=>(idx o.Xs (IntKind.wrap .i64 (j.2+1))).bind fun ae=>(app 32 j.1 ([(⟨ad,o.Y0,ae,o.Y1⟩:aH)]: (List aH))).bind fun af=>some (.nx (af,(IntKind.wrap .i64 (j.2+2))))) else (some (.br (j.1,j.2))):Option (Fl ((List aH)×Int) Empty))) N (aa,0)).bind fun ag=>ag.cs (fun(j: (List aH)×Int)=>some j.1) (fun r=>r.elim):Option ((List aH)))) ([]: (List aH))).bind fun aa=>some aa
def jF (N:Nat) (p0: (List aH)) (p1: (List aH)):Option (Bool):=
 bif ((p0.length:Int) != (p1.length:Int)) then (some false) else ((rH p0.length (fun(j:Nat) (o:Unit)=>((idx p0 (j:Int)).bind fun aa=>(idx p1 (j:Int)).bind fun ab=>bif (!(decide (aa=ab))) then (some (.rt false)) else (some (.nx ())):Option (Fl (Unit) Bool))) ()).bind fun ad=>ad.cs (fun(o:Unit)=>some true) (fun r=>some r))
def iA (N:Nat) (p0: (List aH)):Option (Int):=
 (kc N p0).bind fun ab=>bif (ab != 0) then (some ab) else ((iY (fun(j:Int)=>(bif (decide (j< (p0.length:Int))) then ((idx p0 (IntKind.wrap .i64 (j - 1))).bind fun o=>(idx p0 j).bind fun aa=>bif ((decide (aa.Y0<o.Y0))||((aa.Y0==o.Y0)&&(decide (aa.X0<=o.X0)))) then (some (.rt 8)) else (some (.nx (IntKind.wrap .i64 (j+1))))) else (some (.br j)):Option (Fl (Int) Int))) N 1).bind fun ad=>ad.cs (fun(j:Int)=>(gm N p0).bind fun ae=>(iI N ae).bind fun af=>(jF N af p0).bind fun ag=>bif (!ag) then (some 3) else (some 0)) (fun r=>some r))
def fu (N:Nat) (p0 p1 p2:Int):Option (Bool):=
 some ((decide (p0>=p1))&&(decide (p0<=p2)))
def iU (N:Nat) (p0:jE):Option (Bool):=
 ((kE N p0.X).bind fun j=>bif j then ((kE N p0.Y).bind fun o=>some o) else (some false)).bind fun aa=>some aa
def fG (N:Nat) (p0:cH):Option (aH):=
 some (⟨(IntKind.wrap .i64 (p0.At.X - (IntKind.wrap .i64 (Int.tdiv p0.eI 2)))),(IntKind.wrap .i64 (p0.At.Y - (IntKind.wrap .i64 (Int.tdiv p0.eI 2)))),(IntKind.wrap .i64 ((IntKind.wrap .i64 (p0.At.X - (IntKind.wrap .i64 (Int.tdiv p0.eI 2))))+p0.eI)),(IntKind.wrap .i64 ((IntKind.wrap .i64 (p0.At.Y - (IntKind.wrap .i64 (Int.tdiv p0.eI 2))))+p0.eI))⟩:aH)
def lY (N:Nat) (p0: (List aA)):Option (aH):=
 (idx p0 0).bind fun ad=>(idx ad.Xs 0).bind fun ae=>(idx p0 0).bind fun af=>(idx p0 0).bind fun ag=>(idx ag.Xs 1).bind fun ah=>(idx p0 (IntKind.wrap .i64 ((p0.length:Int) - 1))).bind fun ai=>(lV p0.length (fun(aj:Nat) (j:aH)=>((idx p0 (aj:Int)).bind fun o=>(idx o.Xs 0).bind fun aa=>(idx o.Xs (IntKind.wrap .i64 ((o.Xs.length:Int) - 1))).bind fun ab=>some ({{j with X0:=(if aa<j.X0 then aa else j.X0)} with X1:=(if j.X1<ab then ab else j.X1)}):Option (aH))) (⟨ae,af.Y0,ah,ai.Y1⟩:aH)).bind fun j=>some j
def lz (N:Nat) (p0: (List aA)):Option (Bool):=
 (bif ((p0.length:Int)==0) then (some true) else ((lY N p0).bind fun j=>(lW N j).bind fun o=>some o)).bind fun aa=>some aa
def jX (N:Nat) (p0:cH):Option (aH×Int):=
 ((fu N p0.eI 1 10000).bind fun o=>bif (!o) then (some true) else ((iU N p0.At).bind fun aa=>some (!aa))).bind fun ab=>bif ab then (some ((⟨0,0,0,0⟩:aH),1)) else ((fG N p0).bind fun j=>(gm N ([j]: (List aH))).bind fun ad=>(lz N ad).bind fun ae=>bif (!ae) then (some ((⟨0,0,0,0⟩:aH),1)) else (some (j,0)))
def jG (N:Nat) (p0:iM):Option (Int):=
 bif (decide ((p0.aJ.length:Int)>500)) then (some 2) else ((rH p0.aJ.length (fun(aa:Nat) (ab:Unit)=>((idx p0.aJ (aa:Int)).bind fun j=>(jX N j).bind fun o=>bif (o.2 != 0) then (some (.rt o.2)) else (((fu N j.cY 0 (IntKind.wrap .i64 ((p0.aI.length:Int) - 1))).bind fun ad=>bif (!ad) then (some true) else ((fu N j.To j.cY (IntKind.wrap .i64 ((p0.aI.length:Int) - 1))).bind fun ae=>some (!ae))).bind fun af=>bif af then (some (.rt 1)) else (some (.nx ()))):Option (Fl (Unit) Int))) ()).bind fun ag=>ag.cs (fun(ab:Unit)=>some 0) (fun r=>some r))
def gQ (N:Nat) (p0:dO) (p1:Int):Option (Int):=
 some (Lib.indexByte p0.cR (Int.toNat p1).toUInt8)
def jH (N:Nat) (p0 p1:dO):Option (Int):=
 bif (((p1.cR.length:Int)==0)||(p1.Af p0)) then (some 0) else (bif ((p1.cR.length:Int)==1) then ((C2 p1 0).bind fun j=>(gQ N p0 (j.toNat:Int)).bind fun o=>some o) else (bif (decide ((p1.cR.length:Int)>=(p0.cR.length:Int))) then (some (-1)) else (none)))
def kW (N:Nat) (p0 p1:dO):Option (Int):=
 (jH N p0 p1).bind fun j=>some j
def mj (N:Nat) (p0 p1:dO):Option (Int):=
 bif ((p1.cR.length:Int)==0) then (none) else (bif ((p1.cR.length:Int)==1) then ((C2 p1 0).bind fun aa=>some ((Lib.countByte p0.cR (Int.toNat (aa.toNat:Int)).toUInt8:Nat):Int)) else ((iY (fun(j:dO×Int)=>((kW N j.1 p1).bind fun o=>bif (o==(-1)) then (some (.rt j.2)) else ((um j.1 (IntKind.wrap .i64 (o+ (p1.cR.length:Int))) (j.1.cR.length:Int)).bind fun ab=>some (.nx (ab,(IntKind.wrap .i64 (j.2+1))))):Option (Fl (dO×Int) Int))) N (p0,0)).bind fun ad=>ad.cs (fun(j:dO×Int)=>some 0) (fun r=>some r)))
def lZ (N:Nat) (p0 p1:dO) (p2 p3:Int):Option ((List dO)):=
 bif (p3==0) then (some ([]: (List dO))) else (bif (p1.Af (⟨[]⟩)) then (none) else ((bif (decide (p3<0)) then ((mj N p0 p1).bind fun ab=>some (IntKind.wrap .i64 (ab+1))) else (some p3)).bind fun o=>(mk 16 (⟨[]⟩:dO) (if (IntKind.wrap .i64 ((p0.cR.length:Int)+1))<o then (IntKind.wrap .i64 ((p0.cR.length:Int)+1)) else o)).bind fun ad=>(iY (fun(j:dO×(List dO)×Int)=>(bif (decide (j.2.2< (IntKind.wrap .i64 ((if (IntKind.wrap .i64 ((p0.cR.length:Int)+1))<o then (IntKind.wrap .i64 ((p0.cR.length:Int)+1)) else o) - 1)))) then ((kW N j.1 p1).bind fun aa=>bif (decide (aa<0)) then (some (.br (j.1,j.2.1,j.2.2))) else ((um j.1 0 (IntKind.wrap .i64 (aa+p2))).bind fun ae=>(idx j.2.1 j.2.2).bind fun ai=>(um j.1 (IntKind.wrap .i64 (aa+ (p1.cR.length:Int))) (j.1.cR.length:Int)).bind fun af=>some (.nx (af,(j.2.1.set (Int.toNat j.2.2) ae),(IntKind.wrap .i64 (j.2.2+1)))))) else (some (.br (j.1,j.2.1,j.2.2))):Option (Fl (dO×(List dO)×Int) Empty))) N (p0,ad,0)).bind fun ag=>ag.cs (fun(j:dO×(List dO)×Int)=>(idx j.2.1 j.2.2).bind fun aj=>(p9 (j.2.1.set (Int.toNat j.2.2) j.1) 0 (IntKind.wrap .i64 (j.2.2+1))).bind fun ah=>some ah) (fun r=>r.elim)))
def kX (N:Nat) (p0 p1:dO):Option ((List dO)):=
 (lZ N p0 p1 0 (-1)).bind fun j=>some j
def kd (N:Nat) (p0: (List dO)) (p1:dO->Option Bool):Option (Int):=
 (rH p0.length (fun(j:Nat) (o:Unit)=>((idx p0 (j:Int)).bind fun aa=>(p1 aa).bind fun ab=>bif ab then (some (.rt (j:Int))) else (some (.nx ())):Option (Fl (Unit) Int))) ()).bind fun ad=>ad.cs (fun(o:Unit)=>some (-1)) (fun r=>some r)
def gD (N:Nat) (p0: (List dO)) (p1:dO->Option Bool):Option (Bool):=
 (kd N p0 p1).bind fun j=>some (decide (j>=0))
def fO (N:Nat) (p0:dO) (p1:Int):Option (Int):=
 (gQ N p0 p1).bind fun j=>some j
def iq (N:Nat) (p0:dO):Option (Bool):=
 (rH p0.cR.length (fun(o:Nat) (aa:Unit)=>((C2 p0 (o:Int)).bind fun j=>(bif ((((decide ((j.toNat:Int)<65))||(decide ((j.toNat:Int)>90)))&&((decide ((j.toNat:Int)<97))||(decide ((j.toNat:Int)>122))))&&((decide ((j.toNat:Int)<48))||(decide ((j.toNat:Int)>57)))) then ((fO N (⟨[95,43,45,35]⟩) (j.toNat:Int)).bind fun ab=>some (decide (ab<0))) else (some false)).bind fun ad=>bif ad then (some (.rt false)) else (some (.nx ())):Option (Fl (Unit) Bool))) ()).bind fun ae=>ae.cs (fun(aa:Unit)=>some ((decide ((p0.cR.length:Int)>=1))&&(decide ((p0.cR.length:Int)<=40)))) (fun r=>some r)
def gE (N:Nat) (p0:dO):Option (Bool):=
 (iq N p0).bind fun j=>some (!j)
def lA (N:Nat) (p0:dO):Option (Bool):=
 (bif (decide ((p0.cR.length:Int)<=200)) then ((kX N p0 (⟨[47]⟩)).bind fun j=>(gD N j (gE N)).bind fun o=>some (!o)) else (some false)).bind fun aa=>some aa
def kF (N:Nat) (p0:eW):Option (fL):=
 some (⟨p0.Part,p0.fL⟩:fL)
def k9 (N:Nat) (p0 p1:dO):Option (Int):=
 some (Lib.compareBytes p0.cR p1.cR)
def mA (N:Nat) (p0 p1:dO):Option (Int):=
 (k9 N p0 p1).bind fun j=>some j
def gJ (N:Nat) (p0 p1:fL):Option (Int):=
 (mA N p0.Part p1.Part).bind fun j=>bif (j != 0) then (some j) else ((mA N p0.fL p1.fL).bind fun o=>some o)
def jI (N:Nat) (p0:iM):Option (Int):=
 bif (decide ((p0.bG.length:Int)>1000)) then (some 2) else ((rH p0.bG.length (fun(o:Nat) (aa:Unit)=>((idx p0.bG (o:Int)).bind fun j=>((lA N j.Part).bind fun ab=>bif (!ab) then (some true) else ((iq N j.fL).bind fun ad=>some (!ad))).bind fun ae=>bif ae then (some (.rt 5)) else (((fu N j.eT 0 (IntKind.wrap .i64 ((p0.aI.length:Int) - 1))).bind fun af=>bif (!af) then (some true) else ((iU N j.At).bind fun ag=>some (!ag))).bind fun ah=>bif ah then (some (.rt 1)) else ((bif (decide ((o:Int)>0)) then ((idx p0.bG (IntKind.wrap .i64 ((o:Int) - 1))).bind fun ai=>(kF N j).bind fun aj=>(kF N ai).bind fun ak=>(gJ N aj ak).bind fun al=>some (decide (al<=0))) else (some false)).bind fun an=>bif an then (some (.rt 8)) else (some (.nx ())))):Option (Fl (Unit) Int))) ()).bind fun ao=>ao.cs (fun(aa:Unit)=>some 0) (fun r=>some r))
def kY (N:Nat) (p0 p1:Int) (p2 p3:Int):Option (Int):=
 some (if (if 0< (IntKind.wrap .i64 ((IntKind.wrap .i64 (p2 - p1))+1)) then (IntKind.wrap .i64 ((IntKind.wrap .i64 (p2 - p1))+1)) else 0)< (IntKind.wrap .i64 ((IntKind.wrap .i64 (p0 - p3))+1)) then (IntKind.wrap .i64 ((IntKind.wrap .i64 (p0 - p3))+1)) else (if 0< (IntKind.wrap .i64 ((IntKind.wrap .i64 (p2 - p1))+1)) then (IntKind.wrap .i64 ((IntKind.wrap .i64 (p2 - p1))+1)) else 0))
def qd (N:Nat) (p0 p1:aH):Option (Int):=
 (kY N p0.X0 p0.X1 p1.X0 p1.X1).bind fun j=>(kY N p0.Y0 p0.Y1 p1.Y0 p1.Y1).bind fun o=>some (if j<o then o else j)
def ke (N:Nat) (p0:cH) (p1:Int):Option (Bool):=
 some ((decide (p0.cY<=p1))&&(decide (p1<=p0.To)))
def l3 (N:Nat) (p0: (List aA)) (p1 p2:Int):Option ((List Int)×Int):=
 bif ((p0.length:Int)==0) then (some (([]: (List Int)),p2)) else ((idx p0 0).bind fun aa=>bif (decide (p1<aa.Y0)) then ((idx p0 0).bind fun j=>some (([]: (List Int)),(if j.Y0<p2 then j.Y0 else p2))) else ((idx p0 0).bind fun ab=>(idx p0 0).bind fun o=>some (ab.Xs,(if o.Y1<p2 then o.Y1 else p2))))
def oQ (N:Nat) (p0: (List Int)) (p1: (List Int)) (p2:Bool->Bool->Option Bool):Option ((List Int)):=
 (iY (fun(j: (List Int)×(List Int)×(List Int)×Bool×Bool×Bool)=>((bif (decide ((j.1.length:Int)>0)) then (some true) else (some (decide ((j.2.1.length:Int)>0)))).bind fun af=>bif af then ((bif ((j.2.1.length:Int)==0) then (some true) else (bif (decide ((j.1.length:Int)>0)) then ((idx j.1 0).bind fun ag=>(idx j.2.1 0).bind fun ah=>some (decide (ag<=ah))) else (some false))).bind fun ai=>(bif ai then ((idx j.1 0).bind fun aj=>some aj) else ((idx j.2.1 0).bind fun ak=>some ak)).bind fun o=>(bif (decide ((j.1.length:Int)>0)) then ((idx j.1 0).bind fun al=>some (al==o)) else (some false)).bind fun an=>(bif an then ((p9 j.1 1 (j.1.length:Int)).bind fun ao=>some (ao,(!j.2.2.2.1))) else (some (j.1,j.2.2.2.1))).bind fun aa=>(bif (decide ((j.2.1.length:Int)>0)) then ((idx j.2.1 0).bind fun aq=>some (aq==o)) else (some false)).bind fun ar=>(bif ar then ((p9 j.2.1 1 (j.2.1.length:Int)).bind fun au=>some (au,(!j.2.2.2.2.1))) else (some (j.2.1,j.2.2.2.2.1))).bind fun ab=>(p2 aa.2 ab.2).bind fun ad=>(bif (ad != j.2.2.2.2.2) then ((app 8 j.2.2.1 ([o]: (List Int))).bind fun av=>some (av,ad)) else (some (j.2.2.1,j.2.2.2.2.2))).bind fun ae=>some (.nx (aa.1,ab.1,ae.1,aa.2,ab.2,ae.2))) else (some (.br (j.1,j.2.1,j.2.2.1,j.2.2.2.1,j.2.2.2.2.1,j.2.2.2.2.2))):Option (Fl ((List Int)×(List Int)×(List Int)×Bool×Bool×Bool) Empty))) N (p0,p1,([]: (List Int)),false,false,false)).bind fun aw=>aw.cs (fun(j: (List Int)×(List Int)×(List Int)×Bool×Bool×Bool)=>some j.2.2.1) (fun r=>r.elim)
def nQ (N:Nat) (p0: (List aA)) (p1: (List aA)) (p2:Bool->Bool->Option Bool):Option ((List aA)):=
 bif ((IntKind.wrap .i64 ((p0.length:Int)+ (p1.length:Int)))==0) then (some ([]: (List aA))) else ((lV (([p0,p1]: (List (List aA))).length) (fun(ah:Nat) (o:Int×Int)=>((idx ([p0,p1]: (List (List aA))) (ah:Int)).bind fun ad=>(bif (decide ((ad.length:Int)>0)) then ((bif ((ah:Int)==0) then (some true) else (some ((p0.length:Int)==0))).bind fun al=>(bif al then ((idx ad 0).bind fun an=>(idx ad (IntKind.wrap .i64 ((ad.length:Int) - 1))).bind fun ao=>some (an.Y0,ao.Y1)) else (some (o.1,o.2))).bind fun ag=>(idx ad 0).bind fun ai=>(idx ad (IntKind.wrap .i64 ((ad.length:Int) - 1))).bind fun aj=>some ((if ai.Y0<ag.1 then ai.Y0 else ag.1),(if ag.2<aj.Y1 then aj.Y1 else ag.2))) else (some (o.1,o.2))).bind fun ak=>some (ak.1,ak.2):Option (Int×Int))) (0,0)).bind fun o=>(iY (fun(j: (List aA)×(List aA)×(List aA)×Int)=>(bif (decide (j.2.2.2<o.2)) then ((iY (fun(aa: (List aA))=>((bif (decide ((aa.length:Int)>0)) then ((idx aa 0).bind fun aq=>some (decide (aq.Y1<=j.2.2.2))) else (some false)).bind fun ar=>bif ar then ((p9 aa 1 (aa.length:Int)).bind fun au=>some (.nx au)) else (some (.br aa)):Option (Fl ((List aA)) Empty))) N j.1).bind fun av=>av.cs (fun(aa: (List aA))=>(iY (fun(ab: (List aA))=>((bif (decide ((ab.length:Int)>0)) then ((idx ab 0).bind fun aw=>some (decide (aw.Y1<=j.2.2.2))) else (some false)).bind fun ax=>bif ax then ((p9 ab 1 (ab.length:Int)).bind fun ay=>some (.nx ay)) else (some (.br ab)):Option (Fl ((List aA)) Empty))) N j.2.1).bind fun az=>az.cs (fun(ab: (List aA))=>(l3 N aa j.2.2.2 o.2).bind fun ae=>(l3 N ab j.2.2.2 o.2).bind fun af=>(oQ N ae.1 af.1 p2).bind fun a0=>(il N j.2.2.1 (⟨j.2.2.2,(if af.2<ae.2 then af.2 else ae.2),a0⟩:aA)).bind fun a1=>some (.nx (aa,ab,a1,(if af.2<ae.2 then af.2 else ae.2)))) (fun r=>r.elim)) (fun r=>r.elim)) else (some (.br (j.1,j.2.1,j.2.2.1,j.2.2.2))):Option (Fl ((List aA)×(List aA)×(List aA)×Int) Empty))) N (p0,p1,([]: (List aA)),o.1)).bind fun a2=>a2.cs (fun(j: (List aA)×(List aA)×(List aA)×Int)=>some j.2.2.1) (fun r=>r.elim))
def mV (N:Nat) (p0 p1:Bool):Option (Bool):=
 some (p0&&(!p1))
def kf (N:Nat) (p0: (List aA)) (p1: (List aA)):Option ((List aA)):=
 (nQ N p0 p1 (mV N)).bind fun j=>some j
def lB (N:Nat) (p0: (List aA)):Option (Int):=
 (lV p0.length (fun(o:Nat) (j:Int)=>((idx p0 (o:Int)).bind fun aa=>some (IntKind.wrap .i64 (j+ (IntKind.wrap .i64 (Int.tdiv (aa.Xs.length:Int) 2)))):Option (Int))) 0).bind fun j=>some j
def eO (N:Nat) (p0:Int) (p1_0: (List Int)):Option (Int×(List Int)):=
 (iY (fun(j:Int×(List Int))=>((idx j.2 j.1).bind fun aa=>bif (aa != j.1) then ((idx j.2 j.1).bind fun ab=>(idx j.2 ab).bind fun o=>(idx j.2 j.1).bind fun af=>(idx (j.2.set (Int.toNat j.1) o) j.1).bind fun ad=>some (.nx (ad,(j.2.set (Int.toNat j.1) o)))) else (some (.br (j.1,j.2))):Option (Fl (Int×(List Int)) Empty))) N (p0,p1_0)).bind fun ae=>ae.cs (fun(j:Int×(List Int))=>some (j.1,j.2)) (fun r=>r.elim)
def kQ (N:Nat) (p0: (List aA)):Option ((List (List aA))):=
 (iI N p0).bind fun ab=>(mk 8 (0:Int) (ab.length:Int)).bind fun an=>(lV an.length (fun(ai:Nat) (ag: (List Int))=>((idx ag (ai:Int)).bind fun bd=>some (ag.set (Int.toNat (ai:Int)) (ai:Int)):Option ((List Int)))) an).bind fun ag=>(lV p0.length (fun(aj:Nat) (aa: (List Int)×Int×Int)=>((idx p0 (aj:Int)).bind fun ak=>(bif (decide ((aj:Int)>0)) then ((idx p0 (IntKind.wrap .i64 ((aj:Int) - 1))).bind fun ar=>some (ar.Y1==ak.Y0)) else (some false)).bind fun au=>(bif au then ((iY (fun(j: (List Int)×Int×Int)=>(bif ((decide (j.2.1<aa.2.1))&&(decide (j.2.2< (IntKind.wrap .i64 (aa.2.1+ (IntKind.wrap .i64 (Int.tdiv (ak.Xs.length:Int) 2))))))) then (((idx ab j.2.1).bind fun av=>(idx ab j.2.2).bind fun aw=>bif (decide (av.X0<aw.X1)) then ((idx ab j.2.2).bind fun ax=>(idx ab j.2.1).bind fun ay=>some (decide (ax.X0<ay.X1))) else (some false)).bind fun az=>(bif az then ((eO N j.2.1 j.1).bind fun ae=>(eO N j.2.2 ae.2).bind fun ad=>(idx ad.2 (if ae.1<ad.1 then ad.1 else ae.1)).bind fun bf=>some (ad.2.set (Int.toNat (if ae.1<ad.1 then ad.1 else ae.1)) (if ad.1<ae.1 then ad.1 else ae.1))) else (some j.1)).bind fun a0=>(idx ab j.2.1).bind fun a1=>(idx ab j.2.2).bind fun a2=>(bif (decide (a1.X1<a2.X1)) then (some ((IntKind.wrap .i64 (j.2.1+1)),j.2.2)) else (some (j.2.1,(IntKind.wrap .i64 (j.2.2+1))))).bind fun ao=>some (.nx (a0,ao.1,ao.2))) else (some (.br (j.1,j.2.1,j.2.2))):Option (Fl ((List Int)×Int×Int) Empty))) N (aa.1,aa.2.2,aa.2.1)).bind fun a3=>a3.cs (fun(j: (List Int)×Int×Int)=>some j.1) (fun r=>r.elim)) else (some aa.1)).bind fun a4=>some (a4,(IntKind.wrap .i64 (aa.2.1+ (IntKind.wrap .i64 (Int.tdiv (ak.Xs.length:Int) 2)))),aa.2.1):Option ((List Int)×Int×Int))) (ag,0,0)).bind fun aa=>(lV ab.length (fun(aq:Nat) (o: (List Int)×(List (Int×Int))×(List (List aH)))=>((idx ab (aq:Int)).bind fun a5=>(eO N (aq:Int) o.1).bind fun ah=>(bif (!(fH o.2.1 ah.1)) then ((app 24 o.2.2 [([]: (List aH))]).bind fun a6=>some ((nP o.2.1 ah.1 (o.2.2.length:Int)),a6,(o.2.2.length:Int))) else (some (o.2.1,o.2.2,(dL o.2.1 ah.1 (0:Int))))).bind fun af=>(idx af.2.1 af.2.2).bind fun a7=>(app 32 a7 ([a5]: (List aH))).bind fun a8=>(idx af.2.1 af.2.2).bind fun bg=>some (ah.2,af.1,(af.2.1.set (Int.toNat af.2.2) a8)):Option ((List Int)×(List (Int×Int))×(List (List aH))))) (aa.1,([]: (List (Int×Int))),([]: (List (List aH))))).bind fun o=>(lV o.2.2.length (fun(a9:Nat) (al: (List (List aA)))=>((idx o.2.2 (a9:Int)).bind fun ba=>(gm N ba).bind fun bb=>(app 24 al ([bb]: (List (List aA)))).bind fun bc=>some bc:Option ((List (List aA))))) ([]: (List (List aA)))).bind fun al=>some al
def i5 (N:Nat) (p0_0: (List (List aH))) (p0_2: (List cH)) (p0_4: (List (List aA))) (p0_5: (List aN)):Option (Bool×(List (List aA))×(List aN)):=
 (lV p0_0.length (fun(aa:Nat) (j: (List (List aA))×(List aN)×Bool)=>((idx p0_0 (aa:Int)).bind fun ai=>(lV p0_2.length (fun(aj:Nat) (o: (List aH))=>((idx p0_2 (aj:Int)).bind fun af=>(ke N af (aa:Int)).bind fun ak=>(bif ak then ((fG N af).bind fun al=>(app 32 o ([al]: (List aH))).bind fun an=>some an) else (some o)).bind fun ao=>some ao:Option ((List aH)))) ([]: (List aH))).bind fun o=>(gm N ai).bind fun aq=>(gm N o).bind fun ar=>(kf N aq ar).bind fun ab=>(bif j.2.2 then ((lB N ab).bind fun au=>some ((decide (au<=2000)),ab)) else (some (false,ab))).bind fun ad=>(app 24 j.1 ([ad.2]: (List (List aA)))).bind fun av=>(kQ N ad.2).bind fun ag=>(lV ag.length (fun(aw:Nat) (ae: (List aN))=>((idx ag (aw:Int)).bind fun ah=>(iI N ah).bind fun ax=>(app 56 ae ([(⟨(aa:Int),ah,ax⟩:aN)]: (List aN))).bind fun ay=>some ay:Option ((List aN)))) j.2.1).bind fun ae=>some (av,ae,ad.1):Option ((List (List aA))×(List aN)×Bool))) (p0_4,p0_5,true)).bind fun j=>(bif j.2.2 then (some (decide ((j.2.1.length:Int)<=2000))) else (some false)).bind fun az=>some (az,j.1,j.2.1)
def pS (N:Nat) (p0 p1:aH):Option (Bool):=
 some ((((decide (p0.X0<p1.X1))&&(decide (p1.X0<p0.X1)))&&((p0.Y1==p1.Y0)||(p1.Y1==p0.Y0)))||(((decide (p0.Y0<p1.Y1))&&(decide (p1.Y0<p0.Y1)))&&((p0.X1==p1.X0)||(p1.X1==p0.X0))))
def ji (N:Nat) (p0:aH) (p1:cH):Option (Bool):=
 (fG N p1).bind fun j=>(pS N p0 j).bind fun o=>some o
def fY (N:Nat) (p0: (List aH)) (p1:aH->Option Bool):Option (Bool):=
 (k8 N p0 p1).bind fun j=>some (decide (j>=0))
def i6 (N:Nat) (p0_2: (List cH)) (p0_5: (List aN)) (p0_6: (List (List Int))):Option ((List (List Int))):=
 (lV p0_2.length (fun(ae:Nat) (o: (List (List Int)))=>((idx p0_2 (ae:Int)).bind fun aa=>(lV p0_5.length (fun(ab:Nat) (j: (List Int))=>((idx p0_5 (ab:Int)).bind fun ad=>(bif aa.jV then ((ke N aa ad.eT).bind fun af=>bif af then ((fY N ad.oq (fun y0=>ji N y0 aa)).bind fun ag=>some ag) else (some false)) else (some false)).bind fun ah=>(bif ah then ((app 8 j ([(ab:Int)]: (List Int))).bind fun ai=>some ai) else (some j)).bind fun aj=>some aj:Option ((List Int)))) ([]: (List Int))).bind fun j=>(app 24 o ([j]: (List (List Int)))).bind fun ak=>some ak:Option ((List (List Int))))) p0_6).bind fun o=>some o
def kg (N:Nat) (p0:Int):Option (((List Int))):=
 (mk 8 (0:Int) p0).bind fun aa=>(lV aa.length (fun(o:Nat) (j: (List Int))=>((idx j (o:Int)).bind fun ab=>some (j.set (Int.toNat (o:Int)) (o:Int)):Option ((List Int)))) aa).bind fun j=>some j
def fP (N:Nat) (p0_0: (List Int)) (p1:Int):Option (Int×(List Int)):=
 (iY (fun(j: (List Int)×Int)=>((idx j.1 j.2).bind fun aa=>bif (aa != j.2) then ((idx j.1 j.2).bind fun ab=>(idx j.1 ab).bind fun o=>(idx j.1 j.2).bind fun af=>(idx (j.1.set (Int.toNat j.2) o) j.2).bind fun ad=>some (.nx ((j.1.set (Int.toNat j.2) o),ad))) else (some (.br (j.1,j.2))):Option (Fl ((List Int)×Int) Empty))) N (p0_0,p1)).bind fun ae=>ae.cs (fun(j: (List Int)×Int)=>some (j.2,j.1)) (fun r=>r.elim)
def gk (N:Nat) (p0_0: (List Int)) (p1 p2:Int):Option ((List Int)):=
 (fP N p0_0 p1).bind fun o=>(fP N o.2 p2).bind fun j=>(idx j.2 (if o.1<j.1 then j.1 else o.1)).bind fun aa=>some (j.2.set (Int.toNat (if o.1<j.1 then j.1 else o.1)) (if j.1<o.1 then j.1 else o.1))
def i7 (N:Nat) (p0_0: (List Int)):Option ((List (List Int))×(List Int)):=
 (lV p0_0.length (fun(ab:Nat) (j: (List Int)×(List (List Int))×(List (Int×Int)))=>((fP N j.1 (ab:Int)).bind fun aa=>(bif (aa.1==(ab:Int)) then ((app 24 j.2.1 [([]: (List Int))]).bind fun ad=>some (ad,(nP j.2.2 (ab:Int) (j.2.1.length:Int)))) else (some (j.2.1,j.2.2))).bind fun o=>(idx o.1 (dL o.2 aa.1 (0:Int))).bind fun ae=>(app 8 ae ([(ab:Int)]: (List Int))).bind fun af=>(idx o.1 (dL o.2 aa.1 (0:Int))).bind fun ag=>some (aa.2,(o.1.set (Int.toNat (dL o.2 aa.1 (0:Int))) af),o.2):Option ((List Int)×(List (List Int))×(List (Int×Int))))) (p0_0,([]: (List (List Int))),([]: (List (Int×Int))))).bind fun j=>some (j.2.1,j.1)
def kG (N:Nat) (p0:aH) (p1:jE):Option (Bool):=
 (bif (decide (p1.X>=p0.X0)) then (bif (decide (p1.X<p0.X1)) then (bif (decide (p1.Y>=p0.Y0)) then (some (decide (p1.Y<p0.Y1))) else (some false)) else (some false)) else (some false)).bind fun j=>some j
def jz (N:Nat) (p0: (List aH)) (p1:jE):Option (Bool):=
 (fY N p0 (fun y0=>kG N y0 p1)).bind fun j=>some j
def i9 (N:Nat) (p0_2: (List cH)) (p0_5: (List aN)) (p1:eW):Option (bX×Bool):=
 (rH p0_2.length (fun(o:Nat) (ad:Unit)=>((idx p0_2 (o:Int)).bind fun j=>(bif j.jV then ((ke N j p1.eT).bind fun ae=>bif ae then ((fG N j).bind fun af=>(jz N ([af]: (List aH)) p1.At).bind fun ag=>some ag) else (some false)) else (some false)).bind fun ah=>bif ah then (some (.rt ((⟨true,(o:Int)⟩:bX),true))) else (some (.nx ())):Option (Fl (Unit) (bX×Bool)))) ()).bind fun ai=>ai.cs (fun(ad:Unit)=>(rH p0_5.length (fun(aa:Nat) (aj:Unit)=>((idx p0_5 (aa:Int)).bind fun ab=>(bif (ab.eT==p1.eT) then ((jz N ab.oq p1.At).bind fun ak=>some ak) else (some false)).bind fun al=>bif al then (some (.rt ((⟨false,(aa:Int)⟩:bX),true))) else (some (.nx ())):Option (Fl (Unit) (bX×Bool)))) ()).bind fun an=>an.cs (fun(aj:Unit)=>some ((⟨false,0⟩:bX),false)) (fun r=>some r)) (fun r=>some r)
def gq (N:Nat) (p0_8: (List Int)) (p0_9: (List Int)) (p1:bX):Option (Int):=
 bif p1.cH then ((idx p0_9 p1.Number).bind fun j=>some j) else ((idx p0_8 p1.Number).bind fun o=>some o)
def fE (N:Nat) (p0_2: (List cH)) (p0_3: (List eW)) (p0_5: (List aN)) (p0_6: (List (List Int))) (p0_8: (List Int)) (p0_9: (List Int)) (p0_10: (List Int)) (p0_11: (List bX)):Option ((List dI)×(List Int)×(List Int)×(List Int)×(List bX)):=
 (kg N (IntKind.wrap .i64 ((p0_5.length:Int)+ (p0_2.length:Int)))).bind fun ar=>(lV p0_6.length (fun(ai:Nat) (af: (List Int))=>((idx p0_6 (ai:Int)).bind fun aj=>(lV aj.length (fun(au:Nat) (ag: (List Int))=>((idx aj (au:Int)).bind fun av=>(gk N ag av (IntKind.wrap .i64 ((p0_5.length:Int)+ (ai:Int)))).bind fun aw=>some aw:Option ((List Int)))) af).bind fun ag=>some ag:Option ((List Int)))) ar).bind fun af=>(mk 8 (0:Int) (p0_5.length:Int)).bind fun ax=>(mk 8 (0:Int) (p0_2.length:Int)).bind fun ay=>(i7 N af).bind fun ak=>(lV ak.1.length (fun(az:Nat) (aa: (List dI)×(List Int)×(List Int))=>((idx ak.1 (az:Int)).bind fun al=>(lV al.length (fun(a0:Nat) (j: (List Int)×(List Int)×(List Int)×(List Int))=>((idx al (a0:Int)).bind fun ab=>(bif (decide (ab< (p0_5.length:Int))) then ((idx j.1 ab).bind fun bd=>(app 8 j.2.2.1 ([ab]: (List Int))).bind fun a1=>some ((j.1.set (Int.toNat ab) (aa.1.length:Int)),j.2.1,a1,j.2.2.2)) else ((idx p0_2 (IntKind.wrap .i64 (ab - (p0_5.length:Int)))).bind fun a2=>(bif a2.jV then ((idx j.2.1 (IntKind.wrap .i64 (ab - (p0_5.length:Int)))).bind fun bf=>(app 8 j.2.2.2 ([(IntKind.wrap .i64 (ab - (p0_5.length:Int)))]: (List Int))).bind fun a3=>some ((j.2.1.set (Int.toNat (IntKind.wrap .i64 (ab - (p0_5.length:Int)))) (aa.1.length:Int)),a3)) else ((idx j.2.1 (IntKind.wrap .i64 (ab - (p0_5.length:Int)))).bind fun bg=>some ((j.2.1.set (Int.toNat (IntKind.wrap .i64 (ab - (p0_5.length:Int)))) (-1)),j.2.2.2))).bind fun an=>some (j.1,an.1,j.2.2.1,an.2))).bind fun ad=>some (ad.1,ad.2.1,ad.2.2.1,ad.2.2.2):Option ((List Int)×(List Int)×(List Int)×(List Int)))) (aa.2.1,aa.2.2,([]: (List Int)),([]: (List Int)))).bind fun j=>(bif (decide ((IntKind.wrap .i64 ((j.2.2.1.length:Int)+ (j.2.2.2.length:Int)))>0)) then ((app 72 aa.1 [(⟨j.2.2.1,j.2.2.2,([]: (List fL))⟩:dI)]).bind fun a4=>some a4) else (some aa.1)).bind fun a5=>some (a5,j.1,j.2.1):Option ((List dI)×(List Int)×(List Int)))) (([]: (List dI)),ax,ay)).bind fun aa=>(lV p0_3.length (fun(a6:Nat) (o: (List dI)×(List Int)×(List Int)×(List Int)×(List bX))=>((idx p0_3 (a6:Int)).bind fun ao=>(i9 N p0_2 p0_5 ao).bind fun ah=>(bif ah.2 then ((gq N o.2.1 o.2.2.1 ah.1).bind fun ae=>(idx o.1 ae).bind fun a7=>(kF N ao).bind fun a8=>(app 32 a7.jq ([a8]: (List fL))).bind fun a9=>(idx o.1 ae).bind fun ba=>some ((o.1.set (Int.toNat ae) {ba with jq:=a9}),ae)) else (some (o.1,(-1)))).bind fun aq=>(app 8 o.2.2.2.1 ([aq.2]: (List Int))).bind fun bb=>(app 16 o.2.2.2.2 ([ah.1]: (List bX))).bind fun bc=>some (aq.1,o.2.1,o.2.2.1,bb,bc):Option ((List dI)×(List Int)×(List Int)×(List Int)×(List bX)))) (aa.1,aa.2.1,aa.2.2,p0_10,p0_11)).bind fun o=>some (o.1,o.2.1,o.2.2.1,o.2.2.2.1,o.2.2.2.2)
def eK (N:Nat) (p0:iM):Option (Option ((List (List aH))×(List aH)×(List cH)×(List eW)×(List (List aA))×(List aN)×(List (List Int))×(List dI)×(List Int)×(List Int)×(List Int)×(List bX))×Int):=
 bif ((p0.aI.length:Int)==0) then (some (none,9)) else (bif (decide ((p0.aI.length:Int)>16)) then (some (none,2)) else ((rH p0.aI.length (fun(an:Nat) (aa:Int)=>((idx p0.aI (an:Int)).bind fun ae=>(iA N ae).bind fun af=>bif (af != 0) then (some (.rt (none,af))) else (some (.nx (IntKind.wrap .i64 (aa+ (ae.length:Int))))):Option (Fl (Int) (Option ((List (List aH))×(List aH)×(List cH)×(List eW)×(List (List aA))×(List aN)×(List (List Int))×(List dI)×(List Int)×(List Int)×(List Int)×(List bX))×Int)))) (p0.cL.length:Int)).bind fun ao=>ao.cs (fun(aa:Int)=>(iA N p0.cL).bind fun ag=>bif (ag != 0) then (some (none,ag)) else (bif (decide (aa>2000)) then (some (none,2)) else ((jG N p0).bind fun ah=>bif (ah != 0) then (some (none,ah)) else ((jI N p0).bind fun ai=>bif (ai != 0) then (some (none,ai)) else ((rH p0.aJ.length (fun(aj:Nat) (aq:Unit)=>((idx p0.aJ (aj:Int)).bind fun ab=>(p9 p0.aJ 0 (aj:Int)).bind fun ak=>(rH ak.length (fun(ar:Nat) (au:Unit)=>((idx ak (ar:Int)).bind fun ad=>(bif ((decide (ab.cY<=ad.To))&&(decide (ad.cY<=ab.To))) then ((fG N ab).bind fun av=>(fG N ad).bind fun aw=>(qd N av aw).bind fun ax=>some (ax==0)) else (some false)).bind fun ay=>bif ay then (some (.rt (none,12))) else (some (.nx ())):Option (Fl (Unit) (Option ((List (List aH))×(List aH)×(List cH)×(List eW)×(List (List aA))×(List aN)×(List (List Int))×(List dI)×(List Int)×(List Int)×(List Int)×(List bX))×Int)))) ()).bind fun az=>az.cs (fun(au:Unit)=>some (.nx ())) (fun r=>some (.rt r)):Option (Fl (Unit) (Option ((List (List aH))×(List aH)×(List cH)×(List eW)×(List (List aA))×(List aN)×(List (List Int))×(List dI)×(List Int)×(List Int)×(List Int)×(List bX))×Int)))) ()).bind fun a0=>a0.cs (fun(aq:Unit)=>(i5 N p0.aI p0.aJ ([]: (List (List aA))) ([]: (List aN))).bind fun j=>bif (!j.1) then (some (none,2)) else ((i6 N p0.aJ j.2.2 ([]: (List (List Int)))).bind fun al=>(fE N p0.aJ p0.bG j.2.2 al ([]: (List Int)) ([]: (List Int)) ([]: (List Int)) ([]: (List bX))).bind fun o=>some (some (p0.aI,p0.cL,p0.aJ,p0.bG,j.2.1,j.2.2,al,o.1,o.2.1,o.2.2.1,o.2.2.2.1,o.2.2.2.2),0))) (fun r=>some r)))))) (fun r=>some r)))
def fA (N:Nat) (p0: (List eW)) (p1:fL) (p2:eW->fL->Option Int):Option (Int×Bool):=
 (iY (fun(j:Int×Int)=>(bif (decide (j.1<j.2)) then ((idx p0 (IntKind.wrap .i64 (Int.fdiv (IntKind.wrap .u64 (IntKind.wrap .i64 (j.1+j.2))) 2))).bind fun aa=>(p2 aa p1).bind fun ab=>(bif (decide (ab<0)) then (some ((IntKind.wrap .i64 ((IntKind.wrap .i64 (Int.fdiv (IntKind.wrap .u64 (IntKind.wrap .i64 (j.1+j.2))) 2))+1)),j.2)) else (some (j.1,(IntKind.wrap .i64 (Int.fdiv (IntKind.wrap .u64 (IntKind.wrap .i64 (j.1+j.2))) 2))))).bind fun o=>some (.nx (o.1,o.2))) else (some (.br (j.1,j.2))):Option (Fl (Int×Int) Empty))) N (0,(p0.length:Int))).bind fun ad=>ad.cs (fun(j:Int×Int)=>(bif (decide (j.1< (p0.length:Int))) then ((idx p0 j.1).bind fun ae=>(p2 ae p1).bind fun af=>some (af==0)) else (some false)).bind fun ag=>some (j.1,ag)) (fun r=>r.elim)
def gY (N:Nat) (p0:eW) (p1:fL):Option (Int):=
 (kF N p0).bind fun j=>(gJ N j p1).bind fun o=>some o
def ig (N:Nat) (p0:iM) (p1:fL):Option (Int):=
 (fA N p0.bG p1 (gY N)).bind fun j=>bif (!j.2) then (some (-1)) else (some j.1)
def fQ (N:Nat) (p0_0: (List (List aH))) (p0_1: (List aH)) (p0_2: (List cH)) (p0_3: (List eW)) (p0_10: (List Int)) (p0_11: (List bX)) (p1 p2:fL):Option (bX×bX×Bool×Int):=
 (ig N (⟨p0_0,p0_1,p0_2,p0_3⟩:iM) p1).bind fun j=>(ig N (⟨p0_0,p0_1,p0_2,p0_3⟩:iM) p2).bind fun o=>bif ((decide (j<0))||(decide (o<0))) then (some ((⟨false,0⟩:bX),(⟨false,0⟩:bX),false,9)) else (((idx p0_11 j).bind fun ab=>(idx p0_11 o).bind fun ad=>(idx p0_10 j).bind fun ae=>bif (decide (ae>=0)) then ((idx p0_10 o).bind fun af=>some (ab,ad,(decide (af>=0)))) else (some (ab,ad,false))).bind fun aa=>some (aa.1,aa.2.1,aa.2.2,0))
def ml (N:Nat) (p0:Int):Option (Bool):=
 some (p0 != p0)
def mW (N:Nat) (p0 p1:Int):Option (Bool):=
 ((ml N p0).bind fun j=>bif j then ((ml N p1).bind fun o=>some ((!o)||(decide (p0<p1)))) else (some (decide (p0<p1)))).bind fun aa=>some aa
def kh (N:Nat) (p0:Int):Option (Bool):=
 some (p0 != p0)
def gr (N:Nat) (p0: (List Int)) (p1:Int):Option (Int×Bool):=
 (iY (fun(j:Int×Int)=>(bif (decide (j.1<j.2)) then ((idx p0 (IntKind.wrap .i64 (Int.fdiv (IntKind.wrap .u64 (IntKind.wrap .i64 (j.1+j.2))) 2))).bind fun aa=>(mW N aa p1).bind fun ab=>(bif ab then (some ((IntKind.wrap .i64 ((IntKind.wrap .i64 (Int.fdiv (IntKind.wrap .u64 (IntKind.wrap .i64 (j.1+j.2))) 2))+1)),j.2)) else (some (j.1,(IntKind.wrap .i64 (Int.fdiv (IntKind.wrap .u64 (IntKind.wrap .i64 (j.1+j.2))) 2))))).bind fun o=>some (.nx (o.1,o.2))) else (some (.br (j.1,j.2))):Option (Fl (Int×Int) Empty))) N (0,(p0.length:Int))).bind fun ad=>ad.cs (fun(j:Int×Int)=>(bif (decide (j.1< (p0.length:Int))) then ((idx p0 j.1).bind fun ae=>bif (ae==p1) then (some true) else ((idx p0 j.1).bind fun af=>(kh N af).bind fun ag=>bif ag then ((kh N p1).bind fun ah=>some ah) else (some false))) else (some false)).bind fun ai=>some (j.1,ai)) (fun r=>r.elim)
def fR (N:Nat) (p0_6: (List (List Int))) (p1:bX):Option ((List bX)):=
 bif p1.cH then ((idx p0_6 p1.Number).bind fun aa=>(lV aa.length (fun(ad:Nat) (o: (List bX))=>((idx aa (ad:Int)).bind fun ae=>(app 16 o ([(⟨false,ae⟩:bX)]: (List bX))).bind fun af=>some af:Option ((List bX)))) ([]: (List bX))).bind fun o=>some o) else ((lV p0_6.length (fun(ab:Nat) (j: (List bX))=>((idx p0_6 (ab:Int)).bind fun ag=>(gr N ag p1.Number).bind fun ah=>(bif ah.2 then ((app 16 j ([(⟨true,(ab:Int)⟩:bX)]: (List bX))).bind fun ai=>some ai) else (some j)).bind fun aj=>some aj:Option ((List bX)))) ([]: (List bX))).bind fun j=>some j)
def jJ (N:Nat) (p0_6: (List (List Int))) (p1:bX):Option ((List (bX×Int))):=
 (iY (fun(o: (List (bX×Int))×(List bX))=>(bif (decide ((o.2.length:Int)>0)) then ((idx o.2 0).bind fun ae=>(fR N p0_6 ae).bind fun ab=>(lV ab.length (fun(af:Nat) (j: (List (bX×Int))×(List bX))=>((idx ab (af:Int)).bind fun aa=>(bif (!(fH j.1 aa)) then (some true) else (some false)).bind fun ag=>(bif ag then ((idx j.2 0).bind fun ah=>(app 16 j.2 ([aa]: (List bX))).bind fun ai=>some ((nP j.1 aa (IntKind.wrap .i64 ((dL j.1 ah (0:Int))+1))),ai)) else (some (j.1,j.2))).bind fun ad=>some (ad.1,ad.2):Option ((List (bX×Int))×(List bX)))) (o.1,o.2)).bind fun j=>(p9 j.2 1 (j.2.length:Int)).bind fun aj=>some (.nx (j.1,aj))) else (some (.br (o.1,o.2))):Option (Fl ((List (bX×Int))×(List bX)) Empty))) N ((nP ([]: (List (bX×Int))) p1 0),([p1]: (List bX)))).bind fun ak=>ak.cs (fun(o: (List (bX×Int))×(List bX))=>some o.1) (fun r=>r.elim)
def gZ (N:Nat) (p0_6: (List (List Int))) (p1 p2:bX):Option ((List bX)×Bool):=
 (jJ N p0_6 p2).bind fun aa=>bif (!(fH aa p1)) then (some (([]: (List bX)),false)) else ((iY (fun(j: (List bX)×bX)=>(bif (!(decide (j.2=p2))) then ((fR N p0_6 j.2).bind fun ad=>(rH ad.length (fun(ae:Nat) (o:bX)=>((idx ad (ae:Int)).bind fun ab=>(bif (fH aa ab) then (some ((dL aa ab (0:Int))==(IntKind.wrap .i64 ((dL aa o (0:Int)) - 1)))) else (some false)).bind fun af=>bif af then (some (.br ab)) else (some (.nx o)):Option (Fl (bX) Empty))) j.2).bind fun ag=>ag.cs (fun(o:bX)=>(app 16 j.1 ([o]: (List bX))).bind fun ah=>some (.nx (ah,o))) (fun r=>r.elim)) else (some (.br (j.1,j.2))):Option (Fl ((List bX)×bX) Empty))) N (([p1]: (List bX)),p1)).bind fun ai=>ai.cs (fun(j: (List bX)×bX)=>some (j.1,true)) (fun r=>r.elim))
def kH (N:Nat) (p0:iM) (p1 p2:fL):Option ((List bX)×Bool×Int):=
 (eK N p0).bind fun o=>CU o.1 (bif (o.2 != 0) then (some (([]: (List bX)),false,o.2)) else (none)) (fun(j: ((List (List aH))×(List aH)×(List cH)×(List eW)×(List (List aA))×(List aN)×(List (List Int))×(List dI)×(List Int)×(List Int)×(List Int)×(List bX)))=>bif (o.2 != 0) then (some (([]: (List bX)),false,o.2)) else ((fQ N j.1 j.2.1 j.2.2.1 j.2.2.2.1 j.2.2.2.2.2.2.2.2.2.2.1 j.2.2.2.2.2.2.2.2.2.2.2 p1 p2).bind fun aa=>bif ((aa.2.2.2 != 0)||(!aa.2.2.1)) then (some (([]: (List bX)),false,aa.2.2.2)) else ((gZ N j.2.2.2.2.2.2.1 aa.1 aa.2.1).bind fun ab=>some (ab.1,ab.2,0))))
def sf (N:Nat) (p0 p1 p2:Int):Option (Bool):=
 some ((decide (p0>=p1))&&(decide (p0<=p2)))
def cN (N:Nat) (p0:Int):Option (Bool):=
 (sf N p0 (-1000000) 1000000).bind fun j=>some j
def jY (N:Nat) (p0: (List aH)):Option (Int):=
 bif (decide ((p0.length:Int)>2000)) then (some 2) else ((iY (fun(o:Int)=>(bif (decide (o< (p0.length:Int))) then ((idx p0 o).bind fun j=>((cN N j.X0).bind fun aa=>bif (!aa) then (some true) else ((cN N j.Y0).bind fun ab=>bif (!ab) then (some true) else ((cN N j.X1).bind fun ad=>bif (!ad) then (some true) else ((cN N j.Y1).bind fun ae=>some (!ae))))).bind fun af=>bif af then (some (.rt 1)) else (bif ((decide (j.X1<=j.X0))||(decide (j.Y1<=j.Y0))) then (some (.rt 13)) else (some (.nx (IntKind.wrap .i64 (o+1)))))) else (some (.br o)):Option (Fl (Int) Int))) N 0).bind fun ag=>ag.cs (fun(o:Int)=>some 0) (fun r=>some r))
def jK (N:Nat) (p0 p1:aH):Option (Bool):=
 some ((decide (p0.Y0<p1.Y0))||((p0.Y0==p1.Y0)&&(decide (p0.X0<p1.X0))))
def fS (N:Nat) (p0: (List Int)) (p1:Int):Option ((List Int)):=
 (iY (fun(j:Int×Int)=>(bif (decide (j.1<j.2)) then ((idx p0 (IntKind.wrap .i64 (Int.tdiv (IntKind.wrap .i64 (j.1+j.2)) 2))).bind fun aa=>(bif (decide (aa<p1)) then (some ((IntKind.wrap .i64 ((IntKind.wrap .i64 (Int.tdiv (IntKind.wrap .i64 (j.1+j.2)) 2))+1)),j.2)) else (some (j.1,(IntKind.wrap .i64 (Int.tdiv (IntKind.wrap .i64 (j.1+j.2)) 2))))).bind fun o=>some (.nx (o.1,o.2))) else (some (.br (j.1,j.2))):Option (Fl (Int×Int) Empty))) N (0,(p0.length:Int))).bind fun ab=>ab.cs (fun(j:Int×Int)=>(bif (decide (j.1< (p0.length:Int))) then ((idx p0 j.1).bind fun ad=>some (ad==p1)) else (some false)).bind fun ae=>bif ae then (some p0) else ((p9 p0 0 j.1).bind fun af=>(app 8 ([]: (List Int)) af).bind fun ag=>(app 8 ag ([p1]: (List Int))).bind fun ah=>(p9 p0 j.1 (p0.length:Int)).bind fun ai=>(app 8 ah ai).bind fun aj=>some aj)) (fun r=>r.elim)
def jk (N:Nat) (p0: (List aH)):Option ((List Int)):=
 (iY (fun(j: (List Int)×Int)=>(bif (decide (j.2< (p0.length:Int))) then ((idx p0 j.2).bind fun o=>(idx p0 j.2).bind fun aa=>(fS N j.1 o.Y0).bind fun ab=>(fS N ab aa.Y1).bind fun ad=>some (.nx (ad,(IntKind.wrap .i64 (j.2+1))))) else (some (.br (j.1,j.2))):Option (Fl ((List Int)×Int) Empty))) N (([]: (List Int)),0)).bind fun ae=>ae.cs (fun(j: (List Int)×Int)=>some j.1) (fun r=>r.elim)
def jL (N:Nat) (p0: (List aK)) (p1:aK):Option ((List aK)):=
 (iY (fun(o: (List aK)×Int)=>((bif (decide (o.2< (p0.length:Int))) then ((idx p0 o.2).bind fun ad=>some (decide (ad.to<p1.from_))) else (some false)).bind fun ae=>bif ae then ((idx p0 o.2).bind fun af=>(app 16 o.1 ([af]: (List aK))).bind fun ag=>some (.nx (ag,(IntKind.wrap .i64 (o.2+1))))) else (some (.br (o.1,o.2))):Option (Fl ((List aK)×Int) Empty))) N (([]: (List aK)),0)).bind fun ah=>ah.cs (fun(o: (List aK)×Int)=>(iY (fun(j:aK×Int)=>((bif (decide (j.2< (p0.length:Int))) then ((idx p0 j.2).bind fun ai=>some (decide (ai.from_<=j.1.to))) else (some false)).bind fun aj=>bif aj then ((idx p0 j.2).bind fun aa=>(idx p0 j.2).bind fun ab=>some (.nx ({{j.1 with from_:=(if aa.from_<j.1.from_ then aa.from_ else j.1.from_)} with to:=(if j.1.to<ab.to then ab.to else j.1.to)},(IntKind.wrap .i64 (j.2+1))))) else (some (.br (j.1,j.2))):Option (Fl (aK×Int) Empty))) N (p1,o.2)).bind fun ak=>ak.cs (fun(j:aK×Int)=>(app 16 o.1 ([j.1]: (List aK))).bind fun al=>(p9 p0 j.2 (p0.length:Int)).bind fun an=>(app 16 al an).bind fun ao=>some ao) (fun r=>r.elim)) (fun r=>r.elim)
def jM (N:Nat) (p0: (List aH)) (p1:Int):Option ((List aK)):=
 (iY (fun(j: (List aK)×Int)=>(bif (decide (j.2< (p0.length:Int))) then (((idx p0 j.2).bind fun o=>bif (decide (o.Y0<=p1)) then ((idx p0 j.2).bind fun aa=>some (decide (p1<aa.Y1))) else (some false)).bind fun ab=>(bif ab then ((idx p0 j.2).bind fun ad=>(idx p0 j.2).bind fun ae=>(jL N j.1 (⟨ad.X0,ae.X1⟩:aK)).bind fun af=>some af) else (some j.1)).bind fun ag=>some (.nx (ag,(IntKind.wrap .i64 (j.2+1))))) else (some (.br (j.1,j.2))):Option (Fl ((List aK)×Int) Empty))) N (([]: (List aK)),0)).bind fun ah=>ah.cs (fun(j: (List aK)×Int)=>some j.1) (fun r=>r.elim)
def mI (N:Nat) (p0: (List aK)) (p1: (List aK)):Option (Bool):=
 bif ((p0.length:Int) != (p1.length:Int)) then (some false) else ((iY (fun(j:Int)=>(bif (decide (j< (p0.length:Int))) then ((idx p0 j).bind fun o=>(idx p1 j).bind fun aa=>bif (!(decide (o=aa))) then (some (.rt false)) else (some (.nx (IntKind.wrap .i64 (j+1))))) else (some (.br j)):Option (Fl (Int) Bool))) N 0).bind fun ab=>ab.cs (fun(j:Int)=>some true) (fun r=>some r))
def gR (N:Nat) (p0: (List bA)) (p1:bA):Option ((List bA)):=
 bif ((p1.kb.length:Int)==0) then (some p0) else ((bif (decide ((p0.length:Int)>0)) then ((idx p0 (IntKind.wrap .i64 ((p0.length:Int) - 1))).bind fun j=>bif (j.to==p1.from_) then ((idx p0 (IntKind.wrap .i64 ((p0.length:Int) - 1))).bind fun o=>(mI N o.kb p1.kb).bind fun aa=>some aa) else (some false)) else (some false)).bind fun ab=>bif ab then ((idx p0 (IntKind.wrap .i64 ((p0.length:Int) - 1))).bind fun ad=>some (p0.set (Int.toNat (IntKind.wrap .i64 ((p0.length:Int) - 1))) ({ad with to:=p1.to}))) else ((app 40 p0 ([p1]: (List bA))).bind fun ae=>some ae))
def kI (N:Nat) (p0: (List bA)):Option ((List aH)):=
 (iY (fun(j: (List aH)×Int)=>(bif (decide (j.2< (p0.length:Int))) then ((iY (fun(o: (List aH)×Int)=>((idx p0 j.2).bind fun aa=>bif (decide (o.2< (aa.kb.length:Int))) then ((idx p0 j.2).bind fun ab=>(idx ab.kb o.2).bind fun ad=>(idx p0 j.2).bind fun ae=>(idx p0 j.2).bind fun af=>(idx af.kb o.2).bind fun ag=>(idx p0 j.2).bind fun ah=>(app 32 o.1 ([(⟨ad.from_,ae.from_,ag.to,ah.to⟩:aH)]: (List aH))).bind fun ai=>some (.nx (ai,(IntKind.wrap .i64 (o.2+1))))) else (some (.br (o.1,o.2))):Option (Fl ((List aH)×Int) Empty))) N (j.1,0)).bind fun aj=>aj.cs (fun(o: (List aH)×Int)=>some (.nx (o.1,(IntKind.wrap .i64 (j.2+1))))) (fun r=>r.elim)) else (some (.br (j.1,j.2))):Option (Fl ((List aH)×Int) Empty))) N (([]: (List aH)),0)).bind fun ak=>ak.cs (fun(j: (List aH)×Int)=>some j.1) (fun r=>r.elim)
def gu (N:Nat) (p0: (List aH)):Option ((List aH)):=
 (jk N p0).bind fun o=>(iY (fun(j: (List bA)×Int)=>(bif (decide (j.2< (o.length:Int))) then ((idx o (IntKind.wrap .i64 (j.2 - 1))).bind fun aa=>(idx o j.2).bind fun ab=>(idx o (IntKind.wrap .i64 (j.2 - 1))).bind fun ad=>(jM N p0 ad).bind fun ae=>(gR N j.1 (⟨aa,ab,ae⟩:bA)).bind fun af=>some (.nx (af,(IntKind.wrap .i64 (j.2+1))))) else (some (.br (j.1,j.2))):Option (Fl ((List bA)×Int) Empty))) N (([]: (List bA)),1)).bind fun ag=>ag.cs (fun(j: (List bA)×Int)=>(kI N j.1).bind fun ah=>some ah) (fun r=>r.elim)
def mJ (N:Nat) (p0: (List aH)) (p1: (List aH)):Option (Bool):=
 bif ((p0.length:Int) != (p1.length:Int)) then (some false) else ((iY (fun(j:Int)=>(bif (decide (j< (p0.length:Int))) then ((idx p0 j).bind fun o=>(idx p1 j).bind fun aa=>bif (!(decide (o=aa))) then (some (.rt false)) else (some (.nx (IntKind.wrap .i64 (j+1))))) else (some (.br j)):Option (Fl (Int) Bool))) N 0).bind fun ab=>ab.cs (fun(j:Int)=>some true) (fun r=>some r))
def gN (N:Nat) (p0: (List aH)):Option (Int):=
 (jY N p0).bind fun o=>bif (o != 0) then (some o) else ((iY (fun(j:Int)=>(bif (decide (j< (p0.length:Int))) then ((idx p0 (IntKind.wrap .i64 (j - 1))).bind fun aa=>(idx p0 j).bind fun ab=>(jK N aa ab).bind fun ad=>bif (!ad) then (some (.rt 8)) else (some (.nx (IntKind.wrap .i64 (j+1))))) else (some (.br j)):Option (Fl (Int) Int))) N 1).bind fun ae=>ae.cs (fun(j:Int)=>(gu N p0).bind fun af=>(mJ N p0 af).bind fun ag=>bif (!ag) then (some 3) else (some 0)) (fun r=>some r))
def eL (N:Nat) (p0 p1 p2:Int):Option (Bool):=
 some ((decide (p0>=p1))&&(decide (p0<=p2)))
def gS (N:Nat) (p0:jE):Option (Bool):=
 ((cN N p0.X).bind fun j=>bif j then ((cN N p0.Y).bind fun o=>some o) else (some false)).bind fun aa=>some aa
def dJ (N:Nat) (p0:cH):Option (aH):=
 some (⟨(IntKind.wrap .i64 (p0.At.X - (IntKind.wrap .i64 (Int.tdiv p0.eI 2)))),(IntKind.wrap .i64 (p0.At.Y - (IntKind.wrap .i64 (Int.tdiv p0.eI 2)))),(IntKind.wrap .i64 ((IntKind.wrap .i64 (p0.At.X - (IntKind.wrap .i64 (Int.tdiv p0.eI 2))))+p0.eI)),(IntKind.wrap .i64 ((IntKind.wrap .i64 (p0.At.Y - (IntKind.wrap .i64 (Int.tdiv p0.eI 2))))+p0.eI))⟩:aH)
def jr (N:Nat) (p0:cH):Option (Int):=
 ((eL N p0.eI 1 10000).bind fun o=>bif (!o) then (some true) else ((gS N p0.At).bind fun aa=>some (!aa))).bind fun ab=>bif ab then (some 1) else ((dJ N p0).bind fun j=>((cN N j.X0).bind fun ad=>bif (!ad) then (some true) else ((cN N j.Y0).bind fun ae=>bif (!ae) then (some true) else ((cN N j.X1).bind fun af=>bif (!af) then (some true) else ((cN N j.Y1).bind fun ag=>some (!ag))))).bind fun ah=>bif ah then (some 1) else (some 0))
def ir (N:Nat) (p0:dO):Option (Bool):=
 (iY (fun(o:Int)=>(bif (decide (o< (p0.cR.length:Int))) then ((C2 p0 o).bind fun j=>(bif (!((((decide ((j.toNat:Int)>=97))&&(decide ((j.toNat:Int)<=122)))||((decide ((j.toNat:Int)>=65))&&(decide ((j.toNat:Int)<=90))))||((decide ((j.toNat:Int)>=48))&&(decide ((j.toNat:Int)<=57))))) then ((fO N (⟨[95,43,45,35]⟩) (j.toNat:Int)).bind fun aa=>some (decide (aa<0))) else (some false)).bind fun ab=>bif ab then (some (.rt false)) else (some (.nx (IntKind.wrap .i64 (o+1))))) else (some (.br o)):Option (Fl (Int) Bool))) N 0).bind fun ad=>ad.cs (fun(o:Int)=>(eL N (p0.cR.length:Int) 1 40).bind fun ae=>some ae) (fun r=>some r)
def lC (N:Nat) (p0:dO):Option (Bool):=
 (kX N p0 (⟨[47]⟩)).bind fun o=>(iY (fun(j:Int)=>(bif (decide (j< (o.length:Int))) then ((idx o j).bind fun aa=>(ir N aa).bind fun ab=>bif (!ab) then (some (.rt false)) else (some (.nx (IntKind.wrap .i64 (j+1))))) else (some (.br j)):Option (Fl (Int) Bool))) N 0).bind fun ad=>ad.cs (fun(j:Int)=>some (decide ((p0.cR.length:Int)<=200))) (fun r=>some r)
def ki (N:Nat) (p0:iM) (p1:Int):Option (Int):=
 (idx p0.bG p1).bind fun j=>((lC N j.Part).bind fun aa=>bif (!aa) then (some true) else ((ir N j.fL).bind fun ab=>some (!ab))).bind fun ad=>bif ad then (some 5) else (((eL N j.eT 0 (IntKind.wrap .i64 ((p0.aI.length:Int) - 1))).bind fun ae=>bif (!ae) then (some true) else ((gS N j.At).bind fun af=>some (!af))).bind fun ag=>bif ag then (some 1) else (bif (decide (p1>0)) then ((idx p0.bG (IntKind.wrap .i64 (p1 - 1))).bind fun o=>bif ((j.Part.FJ o.Part)||((j.Part.Af o.Part)&&(j.fL.FJ o.fL||j.fL.Af o.fL))) then (some 8) else (some 0)) else (some 0)))
def jZ (N:Nat) (p0:iM):Option (Int):=
 bif ((p0.aI.length:Int)==0) then (some 9) else (bif (decide ((p0.aI.length:Int)>16)) then (some 2) else ((iY (fun(j:Int×Int)=>(bif (decide (j.2< (p0.aI.length:Int))) then ((idx p0.aI j.2).bind fun ah=>(gN N ah).bind fun ad=>bif (ad != 0) then (some (.rt ad)) else ((idx p0.aI j.2).bind fun ai=>some (.nx ((IntKind.wrap .i64 (j.1+ (ai.length:Int))),(IntKind.wrap .i64 (j.2+1)))))) else (some (.br (j.1,j.2))):Option (Fl (Int×Int) Int))) N ((p0.cL.length:Int),0)).bind fun aj=>aj.cs (fun(j:Int×Int)=>(gN N p0.cL).bind fun ae=>bif (ae != 0) then (some ae) else ((bif (decide (j.1>2000)) then (some true) else (some (decide ((p0.aJ.length:Int)>500)))).bind fun ak=>bif ak then (some 2) else ((iY (fun(o:Int)=>(bif (decide (o< (p0.aJ.length:Int))) then ((idx p0.aJ o).bind fun ab=>(jr N ab).bind fun af=>bif (af != 0) then (some (.rt af)) else (((eL N ab.cY 0 (IntKind.wrap .i64 ((p0.aI.length:Int) - 1))).bind fun al=>bif (!al) then (some true) else ((eL N ab.To ab.cY (IntKind.wrap .i64 ((p0.aI.length:Int) - 1))).bind fun an=>some (!an))).bind fun ao=>bif ao then (some (.rt 1)) else (some (.nx (IntKind.wrap .i64 (o+1)))))) else (some (.br o)):Option (Fl (Int) Int))) N 0).bind fun aq=>aq.cs (fun(o:Int)=>bif (decide ((p0.bG.length:Int)>1000)) then (some 2) else ((iY (fun(aa:Int)=>(bif (decide (aa< (p0.bG.length:Int))) then ((ki N p0 aa).bind fun ag=>bif (ag != 0) then (some (.rt ag)) else (some (.nx (IntKind.wrap .i64 (aa+1))))) else (some (.br aa)):Option (Fl (Int) Int))) N 0).bind fun ar=>ar.cs (fun(aa:Int)=>some 0) (fun r=>some r))) (fun r=>some r)))) (fun r=>some r)))
def jN (N:Nat) (p0 p1:cH):Option (Bool):=
 some ((decide (p0.cY<=p1.To))&&(decide (p1.cY<=p0.To)))
def gT (N:Nat) (p0 p1:aH):Option (Bool):=
 (bif (decide ((if p1.X1<p0.X1 then p1.X1 else p0.X1)> (if p0.X0<p1.X0 then p1.X0 else p0.X0))) then (some (decide ((if p1.Y1<p0.Y1 then p1.Y1 else p0.Y1)> (if p0.Y0<p1.Y0 then p1.Y0 else p0.Y0)))) else (some false)).bind fun j=>some j
def ny (N:Nat) (p0:cH) (p1:Int):Option (Bool):=
 some ((decide (p0.cY<=p1))&&(decide (p1<=p0.To)))
def jO (N:Nat) (p0: (List aK)) (p1:Int):Option (Bool):=
 (iY (fun(j:Int)=>(bif (decide (j< (p0.length:Int))) then (((idx p0 j).bind fun o=>bif (decide (o.from_<=p1)) then ((idx p0 j).bind fun aa=>some (decide (p1<aa.to))) else (some false)).bind fun ab=>bif ab then (some (.rt true)) else (some (.nx (IntKind.wrap .i64 (j+1))))) else (some (.br j)):Option (Fl (Int) Bool))) N 0).bind fun ad=>ad.cs (fun(j:Int)=>some false) (fun r=>some r)
def mg (N:Nat) (p0: (List aK)) (p1: (List aK)) (p2:Int):Option ((List aK)):=
 (iY (fun(aa: (List Int)×Int)=>(bif (decide (aa.2< (p0.length:Int))) then ((idx p0 aa.2).bind fun ae=>(idx p0 aa.2).bind fun af=>(fS N aa.1 ae.from_).bind fun ag=>(fS N ag af.to).bind fun ah=>some (.nx (ah,(IntKind.wrap .i64 (aa.2+1))))) else (some (.br (aa.1,aa.2))):Option (Fl ((List Int)×Int) Empty))) N (([]: (List Int)),0)).bind fun ai=>ai.cs (fun(aa: (List Int)×Int)=>(iY (fun(j: (List Int)×Int)=>(bif (decide (j.2< (p1.length:Int))) then ((idx p1 j.2).bind fun aj=>(idx p1 j.2).bind fun ak=>(fS N j.1 aj.from_).bind fun al=>(fS N al ak.to).bind fun an=>some (.nx (an,(IntKind.wrap .i64 (j.2+1))))) else (some (.br (j.1,j.2))):Option (Fl ((List Int)×Int) Empty))) N (aa.1,0)).bind fun ao=>ao.cs (fun(j: (List Int)×Int)=>(iY (fun(o: (List aK)×Int)=>(bif (decide (o.2< (j.1.length:Int))) then ((idx j.1 (IntKind.wrap .i64 (o.2 - 1))).bind fun aq=>(idx j.1 (IntKind.wrap .i64 (o.2 - 1))).bind fun ar=>(jO N p0 aq).bind fun ab=>(jO N p1 ar).bind fun ad=>(bif ((((p2==1)&&(ab||ad))||(((p2==2)&&ab)&&ad))||(((p2==3)&&ab)&&(!ad))) then ((idx j.1 (IntKind.wrap .i64 (o.2 - 1))).bind fun au=>(idx j.1 o.2).bind fun av=>(jL N o.1 (⟨au,av⟩:aK)).bind fun aw=>some aw) else (some o.1)).bind fun ax=>some (.nx (ax,(IntKind.wrap .i64 (o.2+1))))) else (some (.br (o.1,o.2))):Option (Fl ((List aK)×Int) Empty))) N (([]: (List aK)),1)).bind fun ay=>ay.cs (fun(o: (List aK)×Int)=>some o.1) (fun r=>r.elim)) (fun r=>r.elim)) (fun r=>r.elim)
def iQ (N:Nat) (p0: (List aH)) (p1: (List aH)) (p2:Int):Option ((List aH)):=
 (app 32 ([]: (List aH)) p0).bind fun aa=>(app 32 aa p1).bind fun ab=>(jk N ab).bind fun o=>(iY (fun(j: (List bA)×Int)=>(bif (decide (j.2< (o.length:Int))) then ((idx o (IntKind.wrap .i64 (j.2 - 1))).bind fun ad=>(idx o j.2).bind fun ae=>(idx o (IntKind.wrap .i64 (j.2 - 1))).bind fun af=>(idx o (IntKind.wrap .i64 (j.2 - 1))).bind fun ag=>(jM N p0 af).bind fun ah=>(jM N p1 ag).bind fun ai=>(mg N ah ai p2).bind fun aj=>(gR N j.1 (⟨ad,ae,aj⟩:bA)).bind fun ak=>some (.nx (ak,(IntKind.wrap .i64 (j.2+1))))) else (some (.br (j.1,j.2))):Option (Fl ((List bA)×Int) Empty))) N (([]: (List bA)),1)).bind fun al=>al.cs (fun(j: (List bA)×Int)=>(kI N j.1).bind fun an=>some an) (fun r=>r.elim)
def nz (N:Nat) (p0: (List aH)) (p1: (List aH)):Option ((List aH)):=
 (iQ N p0 p1 3).bind fun j=>some j
def kj (N:Nat) (p0:iM) (p1:Int):Option ((List aH)):=
 (iY (fun(j: (List aH)×Int)=>(bif (decide (j.2< (p0.aJ.length:Int))) then ((idx p0.aJ j.2).bind fun o=>(ny N o p1).bind fun aa=>(bif aa then ((idx p0.aJ j.2).bind fun ab=>(dJ N ab).bind fun ad=>(app 32 j.1 ([ad]: (List aH))).bind fun ae=>some ae) else (some j.1)).bind fun af=>some (.nx (af,(IntKind.wrap .i64 (j.2+1))))) else (some (.br (j.1,j.2))):Option (Fl ((List aH)×Int) Empty))) N (([]: (List aH)),0)).bind fun ag=>ag.cs (fun(j: (List aH)×Int)=>(idx p0.aI p1).bind fun ah=>(gu N j.1).bind fun ai=>(nz N ah ai).bind fun aj=>some aj) (fun r=>r.elim)
def j6 (N:Nat) (p0 p1:aH):Option (Bool):=
 some (((decide ((IntKind.wrap .i64 ((if p1.X1<p0.X1 then p1.X1 else p0.X1) - (if p0.X0<p1.X0 then p1.X0 else p0.X0)))>0))&&(decide ((IntKind.wrap .i64 ((if p1.Y1<p0.Y1 then p1.Y1 else p0.Y1) - (if p0.Y0<p1.Y0 then p1.Y0 else p0.Y0)))>=0)))||((decide ((IntKind.wrap .i64 ((if p1.X1<p0.X1 then p1.X1 else p0.X1) - (if p0.X0<p1.X0 then p1.X0 else p0.X0)))>=0))&&(decide ((IntKind.wrap .i64 ((if p1.Y1<p0.Y1 then p1.Y1 else p0.Y1) - (if p0.Y0<p1.Y0 then p1.Y0 else p0.Y0)))>0))))
def lD (N:Nat) (p0: (List (List aH))) (p1: (List aH)):Option ((List (List aH))):=
 (iY (fun(j:Int)=>((bif (decide (j>0)) then ((idx p1 0).bind fun o=>(idx p0 (IntKind.wrap .i64 (j - 1))).bind fun aa=>(idx aa 0).bind fun ab=>(jK N o ab).bind fun ad=>some ad) else (some false)).bind fun ae=>bif ae then (some (.nx (IntKind.wrap .i64 (j - 1)))) else (some (.br j)):Option (Fl (Int) Empty))) N (p0.length:Int)).bind fun af=>af.cs (fun(j:Int)=>(p9 p0 0 j).bind fun ag=>(app 24 ([]: (List (List aH))) ag).bind fun ah=>(app 24 ah ([p1]: (List (List aH)))).bind fun ai=>(p9 p0 j (p0.length:Int)).bind fun aj=>(app 24 ai aj).bind fun ak=>some ak) (fun r=>r.elim)
def iR (N:Nat) (p0: (List aH)):Option ((List (List aH))):=
 (mk 1 (false:Bool) (p0.length:Int)).bind fun ad=>(iY (fun(o: (List Bool)×(List (List aH))×Int)=>(bif (decide (o.2.2< (p0.length:Int))) then ((idx o.1 o.2.2).bind fun ae=>bif ae then (some (.nx (o.1,o.2.1,(IntKind.wrap .i64 (o.2.2+1))))) else ((idx o.1 o.2.2).bind fun aw=>(idx p0 o.2.2).bind fun af=>(iY (fun(aa: (List Bool)×(List aH)×Int)=>(bif (decide (aa.2.2< (aa.2.1.length:Int))) then ((iY (fun(j: (List Bool)×(List aH)×Int)=>(bif (decide (j.2.2< (p0.length:Int))) then (((idx j.1 j.2.2).bind fun ag=>bif (!ag) then ((idx j.2.1 aa.2.2).bind fun ah=>(idx p0 j.2.2).bind fun ai=>(j6 N ah ai).bind fun aj=>some aj) else (some false)).bind fun ak=>(bif ak then ((idx j.1 j.2.2).bind fun ax=>(idx p0 j.2.2).bind fun al=>(app 32 j.2.1 ([al]: (List aH))).bind fun an=>some ((j.1.set (Int.toNat j.2.2) true),an)) else (some (j.1,j.2.1))).bind fun ab=>some (.nx (ab.1,ab.2,(IntKind.wrap .i64 (j.2.2+1))))) else (some (.br (j.1,j.2.1,j.2.2))):Option (Fl ((List Bool)×(List aH)×Int) Empty))) N (aa.1,aa.2.1,0)).bind fun ao=>ao.cs (fun(j: (List Bool)×(List aH)×Int)=>some (.nx (j.1,j.2.1,(IntKind.wrap .i64 (aa.2.2+1))))) (fun r=>r.elim)) else (some (.br (aa.1,aa.2.1,aa.2.2))):Option (Fl ((List Bool)×(List aH)×Int) Empty))) N ((o.1.set (Int.toNat o.2.2) true),([af]: (List aH)),0)).bind fun aq=>aq.cs (fun(aa: (List Bool)×(List aH)×Int)=>(gu N aa.2.1).bind fun ar=>(lD N o.2.1 ar).bind fun au=>some (.nx (aa.1,au,(IntKind.wrap .i64 (o.2.2+1))))) (fun r=>r.elim))) else (some (.br (o.1,o.2.1,o.2.2))):Option (Fl ((List Bool)×(List (List aH))×Int) Empty))) N (ad,([]: (List (List aH))),0)).bind fun av=>av.cs (fun(o: (List Bool)×(List (List aH))×Int)=>some o.2.1) (fun r=>r.elim)
def gF (N:Nat) (p0:iM):Option (Int):=
 (jZ N p0).bind fun ab=>bif (ab != 0) then (some ab) else ((iY (fun(o:Int)=>(bif (decide (o< (p0.aJ.length:Int))) then ((iY (fun(aa:Int)=>(bif (decide (aa<o)) then (((idx p0.aJ o).bind fun ae=>(idx p0.aJ aa).bind fun af=>(jN N ae af).bind fun ag=>bif ag then ((idx p0.aJ o).bind fun ah=>(idx p0.aJ aa).bind fun ai=>(dJ N ah).bind fun aj=>(dJ N ai).bind fun ak=>(gT N aj ak).bind fun al=>some al) else (some false)).bind fun an=>bif an then (some (.rt 12)) else (some (.nx (IntKind.wrap .i64 (aa+1))))) else (some (.br aa)):Option (Fl (Int) Int))) N 0).bind fun ao=>ao.cs (fun(aa:Int)=>some (.nx (IntKind.wrap .i64 (o+1)))) (fun r=>some (.rt r))) else (some (.br o)):Option (Fl (Int) Int))) N 0).bind fun aq=>aq.cs (fun(o:Int)=>(iY (fun(j:Int×Int)=>(bif (decide (j.2< (p0.aI.length:Int))) then ((kj N p0 j.2).bind fun ad=>bif (decide ((ad.length:Int)>2000)) then (some (.rt 2)) else ((iR N ad).bind fun ar=>some (.nx ((IntKind.wrap .i64 (j.1+ (ar.length:Int))),(IntKind.wrap .i64 (j.2+1)))))) else (some (.br (j.1,j.2))):Option (Fl (Int×Int) Int))) N (0,0)).bind fun au=>au.cs (fun(j:Int×Int)=>bif (decide (j.1>2000)) then (some 2) else (some 0)) (fun r=>some r)) (fun r=>some r))
def l4 (N:Nat) (p0_6: (List (List Int))) (p1 p2:bX):Option ((List (bX×Int))):=
 (iY (fun(o: (List (bX×Int))×(List bX))=>(bif (decide ((o.2.length:Int)>0)) then ((idx o.2 0).bind fun ae=>(fR N p0_6 ae).bind fun ab=>(lV ab.length (fun(af:Nat) (j: (List (bX×Int))×(List bX))=>((idx ab (af:Int)).bind fun aa=>(bif (!(fH j.1 aa)) then (some (!(decide (aa=p2)))) else (some false)).bind fun ag=>(bif ag then ((idx j.2 0).bind fun ah=>(app 16 j.2 ([aa]: (List bX))).bind fun ai=>some ((nP j.1 aa (IntKind.wrap .i64 ((dL j.1 ah (0:Int))+1))),ai)) else (some (j.1,j.2))).bind fun ad=>some (ad.1,ad.2):Option ((List (bX×Int))×(List bX)))) (o.1,o.2)).bind fun j=>(p9 j.2 1 (j.2.length:Int)).bind fun aj=>some (.nx (j.1,aj))) else (some (.br (o.1,o.2))):Option (Fl ((List (bX×Int))×(List bX)) Empty))) N ((nP ([]: (List (bX×Int))) p1 0),([p1]: (List bX)))).bind fun ak=>ak.cs (fun(o: (List (bX×Int))×(List bX))=>some o.1) (fun r=>r.elim)
def eX (N:Nat) (p0:iM) (p1 p2:fL):Option ((List bX)×Int):=
 (eK N p0).bind fun aa=>CU aa.1 (bif (aa.2 != 0) then (some (([]: (List bX)),aa.2)) else (none)) (fun(o: ((List (List aH))×(List aH)×(List cH)×(List eW)×(List (List aA))×(List aN)×(List (List Int))×(List dI)×(List Int)×(List Int)×(List Int)×(List bX)))=>bif (aa.2 != 0) then (some (([]: (List bX)),aa.2)) else ((fQ N o.1 o.2.1 o.2.2.1 o.2.2.2.1 o.2.2.2.2.2.2.2.2.2.2.1 o.2.2.2.2.2.2.2.2.2.2.2 p1 p2).bind fun j=>bif (j.2.2.2 != 0) then (some (([]: (List bX)),j.2.2.2)) else ((bif j.2.2.1 then ((gZ N o.2.2.2.2.2.2.1 j.1 j.2.1).bind fun af=>some (af.1,af.2)) else (some (([]: (List bX)),false))).bind fun ae=>bif (!ae.2) then (some (([]: (List bX)),9)) else ((lV ae.1.length (fun(ag:Nat) (ab: (List bX))=>((idx ae.1 (ag:Int)).bind fun ad=>(l4 N o.2.2.2.2.2.2.1 j.2.1 ad).bind fun ah=>(bif (decide (ad=j.1)) then (some true) else (some ((decide (ad=j.2.1))||(!(fH ah j.1))))).bind fun ai=>(bif ai then ((app 16 ab ([ad]: (List bX))).bind fun aj=>some aj) else (some ab)).bind fun ak=>some ak:Option ((List bX)))) ([]: (List bX))).bind fun ab=>some (ab,0)))))
def eB (N:Nat):Option (Bool):=
 (jX N (⟨⟨0,0⟩,2,0,0,false⟩:cH)).bind fun j=>(bif (j.2==0) then (some (decide (j.1= (⟨(-1),(-1),1,1⟩:aH)))) else (some false)).bind fun o=>some o
def kl (N:Nat) (p0:iM) (p1:fL):Option (Int×Bool×Int):=
 (eK N p0).bind fun j=>CU j.1 (bif (j.2 != 0) then (some (0,false,j.2)) else ((ig N p0 p1).bind fun ab=>bif (decide (ab<0)) then (some (0,false,9)) else (none))) (fun(aa: ((List (List aH))×(List aH)×(List cH)×(List eW)×(List (List aA))×(List aN)×(List (List Int))×(List dI)×(List Int)×(List Int)×(List Int)×(List bX)))=>bif (j.2 != 0) then (some (0,false,j.2)) else ((ig N p0 p1).bind fun o=>bif (decide (o<0)) then (some (0,false,9)) else ((idx aa.2.2.2.2.2.2.2.2.2.2.1 o).bind fun ad=>bif (decide (ad<0)) then (some (0,false,0)) else ((idx aa.2.2.2.2.2.2.2.2.2.2.1 o).bind fun ae=>some (ae,true,0)))))
def nD (N:Nat) (p0: (List bX)) (p1:bX):Option (Int):=
 (rH p0.length (fun(j:Nat) (o:Unit)=>((idx p0 (j:Int)).bind fun aa=>bif (decide (p1=aa)) then (some (.rt (j:Int))) else (some (.nx ())):Option (Fl (Unit) Int))) ()).bind fun ab=>ab.cs (fun(o:Unit)=>some (-1)) (fun r=>some r)
def gK (N:Nat) (p0: (List bX)) (p1:bX):Option (Bool):=
 (nD N p0 p1).bind fun j=>some (decide (j>=0))
def ja (N:Nat) (p0:iM) (p1:Int):Option ((List Int)×Int):=
 (eK N p0).bind fun j=>CU j.1 (bif (j.2 != 0) then (some (([]: (List Int)),j.2)) else (none)) (fun(o: ((List (List aH))×(List aH)×(List cH)×(List eW)×(List (List aA))×(List aN)×(List (List Int))×(List dI)×(List Int)×(List Int)×(List Int)×(List bX)))=>bif (j.2 != 0) then (some (([]: (List Int)),j.2)) else ((fu N p1 0 (IntKind.wrap .i64 ((o.2.2.1.length:Int) - 1))).bind fun aa=>bif (!aa) then (some (([]: (List Int)),9)) else ((idx o.2.2.2.2.2.2.1 p1).bind fun ab=>some (ab,0))))
def l5 (N:Nat) (p0: (List Int)) (p1:Int):Option (Int):=
 (rH p0.length (fun(j:Nat) (o:Unit)=>((idx p0 (j:Int)).bind fun aa=>bif (p1==aa) then (some (.rt (j:Int))) else (some (.nx ())):Option (Fl (Unit) Int))) ()).bind fun ab=>ab.cs (fun(o:Unit)=>some (-1)) (fun r=>some r)
def fw (N:Nat) (p0: (List Int)) (p1:Int):Option (Bool):=
 (l5 N p0 p1).bind fun j=>some (decide (j>=0))
def gU (N:Nat) (p0:iM) (p1 p2:bX):Option (Bool):=
 bif (p1.cH==p2.cH) then (some false) else ((bif p2.cH then (some (p2,p1)) else (some (p1,p2))).bind fun j=>(ja N p0 j.1.Number).bind fun o=>(bif (o.2==0) then ((fw N o.1 j.2.Number).bind fun aa=>some aa) else (some false)).bind fun ab=>some ab)
def gO (N:Nat) (p0:iM) (p1 p2:fL):Option (Bool):=
 (kH N p0 p1 p2).bind fun o=>bif (o.2.2 != 0) then ((bif (((o.1.length:Int)==0)&&(!o.2.1)) then ((eB N).bind fun af=>some af) else (some false)).bind fun ag=>some ag) else ((kl N p0 p1).bind fun ad=>(kl N p0 p2).bind fun ae=>(bif ((ad.2.2 != 0)||(ae.2.2 != 0)) then (some true) else (bif (o.2.1 != ((ad.2.1&&ae.2.1)&&(ad.1==ae.1))) then (some true) else (some (o.2.1 != (decide ((o.1.length:Int)>0)))))).bind fun ah=>bif ah then (some false) else ((iY (fun(j: (List bX)×Int)=>(bif (decide (j.2< (j.1.length:Int))) then (((p9 j.1 0 j.2).bind fun ai=>(idx j.1 j.2).bind fun aj=>(gK N ai aj).bind fun ak=>bif ak then (some true) else (bif (decide (j.2>0)) then ((idx j.1 (IntKind.wrap .i64 (j.2 - 1))).bind fun al=>(idx j.1 j.2).bind fun an=>(gU N p0 al an).bind fun ao=>some (!ao)) else (some false))).bind fun aq=>bif aq then (some (.rt false)) else (some (.nx (j.1,(IntKind.wrap .i64 (j.2+1)))))) else (some (.br (j.1,j.2))):Option (Fl ((List bX)×Int) Bool))) N (o.1,0)).bind fun ar=>ar.cs (fun(j: (List bX)×Int)=>(eX N p0 p1 p2).bind fun aa=>bif (!o.2.1) then ((bif (aa.2==9) then ((eB N).bind fun au=>some au) else (some false)).bind fun av=>some av) else ((iY (fun(ab:Int)=>(bif (decide (ab< (aa.1.length:Int))) then ((idx aa.1 ab).bind fun aw=>(gK N j.1 aw).bind fun ax=>bif (!ax) then (some (.rt false)) else (some (.nx (IntKind.wrap .i64 (ab+1))))) else (some (.br ab)):Option (Fl (Int) Bool))) N 0).bind fun ay=>ay.cs (fun(ab:Int)=>(bif (aa.2==0) then (bif (decide ((aa.1.length:Int)>0)) then ((idx aa.1 0).bind fun az=>(idx j.1 0).bind fun a0=>bif (decide (az=a0)) then ((idx aa.1 (IntKind.wrap .i64 ((aa.1.length:Int) - 1))).bind fun a1=>(idx j.1 (IntKind.wrap .i64 ((j.1.length:Int) - 1))).bind fun a2=>bif (decide (a1=a2)) then ((eB N).bind fun a3=>some a3) else (some false)) else (some false)) else (some false)) else (some false)).bind fun a4=>some a4) (fun r=>some r))) (fun r=>some r)))
end
end Go.Gk
namespace Go.Gk
open Go
def tN {R:Type} (m:Nat) (e:Nat->Option R):Option R:=(List.range m).findSome? e
theorem mL {R:Type} {m:Nat} {e:Nat->Option R}:tN m e=none↔∀k,k<m->e k=none:=by
 simp [tN]
theorem nF {R:Type} {m:Nat} {e:Nat->Option R} {r:R}:tN m e=some r↔∃k,k<m/\e k=some r/\∀j,j<k->e j=none:=by
 constructor
 ·intro h
  obtain⟨l1,a,l2,hl,ha,hn⟩:=List.findSome?_eq_some_iff.1 h
  have hlen:l1.length<m:=by have:=congrArg List.length hl;simp at this;omega
  have hget: ∀i,i<l1.length->l1[i]? =some i:=fun i hi=>by
   have:=congrArg (·[i]?) hl
   simp only [fz hi,List.getElem?_range (show i<m by omega)] at this
   exact this.symm
  have hat:a=l1.length:=by
   have:=congrArg (·[l1.length]?) hl
   simp [List.getElem?_range hlen] at this
   exact this.symm
  refine⟨a,by omega,ha,fun j hj=>hn j ?_⟩
  exact dU (hget j (by omega))
 ·rintro⟨k,hk,he,hn⟩
  refine List.findSome?_eq_some_iff.2 ⟨List.range k,k,(List.range (m - k - 1)).map (· + (k+1)),?_,he,fun x hx=>hn x (my.1 hx)⟩
  refine List.ext_getElem? fun i=>?_
  by_cases h1:i<k
  ·rw [fz (by simpa using h1),List.getElem?_range (by omega),List.getElem?_range h1]
  ·rw [fI (by simpa using h1),List.length_range]
   by_cases h2:i=k
   ·subst h2;simp [List.getElem?_range hk]
   ·obtain⟨d,rfl⟩: ∃d,i=k+1+d:=⟨i - (k+1),by omega⟩
    rw [show k+1+d - k=d+1 by omega,List.getElem?_cons_succ,dV]
    by_cases h3:k+1+d<m
    ·rw [List.getElem?_range h3,List.getElem?_range (by omega)];simp;omega
    ·rw [List.getElem?_eq_none (by simp;omega),List.getElem?_eq_none (by simp;omega)];rfl
section
variable {S R:Type}
def E1 (o:Option R) (s:S):Fl S R:=match o with | some r=> .rt r | none=> .nx s
def De (o:Option R) (s:S):Fo S R:=match o with | some r=> .rt r | none=> .go s
theorem Ca {body:Nat->S->Option (Fl S R)} (F:Nat->S) (e:Nat->Option R) (m:Nat): ∀(n k:Nat),k+n=m->
  (∀j,k<=j->j<m->(∀i,k<=i->i<j->e i=none)->body j (F j)=some (E1 (e j) (F (j+1))))->
  ∃o,Ah body n k (F k)=some o/\((∀j,k<=j->j<m->e j=none)/\o = .go (F m)\/∃j r,k<=j/\j<m/\e j=some r/\(∀i,k<=i->i<j->e i=none)/\o = .rt r)
 | 0,k,hk,_=>⟨_,rfl, .inl ⟨fun j h1 h2=>by omega,by rw [show k=m by omega]⟩⟩
 | n+1,k,hk,h=>by
  have hb:=h k (bD _) (by omega) (fun i h1 h2=>by omega)
  unfold Ah
  rw [hb]
  cases hx:e k with
  | some r=>exact⟨_,rfl, .inr ⟨k,r,bD _,by omega,hx,fun i h1 h2=>by omega,rfl⟩⟩
  | none=>
   obtain⟨o,ho,hc⟩:=Ca F e m n (k+1) (by omega) (fun j h1 h2 h3=>h j (by omega) h2 fun i h4 h5=>by
    by_cases h6:i=k
    ·subst h6;exact hx
    ·exact h3 i (by omega) h5)
   refine⟨o,ho,?_⟩
   rcases hc with ⟨h1,h2⟩ | ⟨j,r,h1,h2,h3,h4,h5⟩
   ·refine .inl ⟨fun j h3 h4=>?_,h2⟩
    by_cases h6:j=k
    ·subst h6;exact hx
    ·exact h1 j (by omega) h4
   ·refine .inr ⟨j,r,by omega,h2,h3,fun i h6 h7=>?_,h5⟩
    by_cases h8:i=k
    ·subst h8;exact hx
    ·exact h4 i (by omega) h7
theorem HD {body:Nat->S->Option (Fl S R)} {m:Nat} {s:S} (F:Nat->S) (e:Nat->Option R) (hm:m<=4611686018427387904) (hs:F 0=s)
  (h: ∀k,k<m->(∀i,i<k->e i=none)->body k (F k)=some (E1 (e k) (F (k+1)))):rH m body s=some (De (tN m e) (F m)):=by
 subst hs
 unfold rH
 rw [aC hm]
 obtain⟨o,ho,hc⟩:=Ca F e m m 0 (by omega) (fun j _ h2 h3=>h j h2 fun i hi=>h3 i (eN _) hi)
 rw [ho]
 rcases hc with ⟨h1,h2⟩ | ⟨j,r,_,h2,h3,h4,h5⟩
 ·rw [mL.2 fun k hk=>h1 k (eN _) hk,h2];rfl
 ·rw [nF.2 ⟨j,h2,h3,fun i hi=>h4 i (eN _) hi⟩,h5];rfl
theorem qq {body:Nat->Unit->Option (Fl Unit R)} {m:Nat} (e:Nat->Option R) (hm:m<=4611686018427387904)
  (h: ∀k,k<m->(∀i,i<k->e i=none)->body k ()=some (E1 (e k) ())):rH m body ()=some (De (tN m e) ()):=
 HD (fun _=>()) e hm rfl h
theorem Cb {body:Nat->S->Option S} (F:Nat->S): ∀(n k:Nat),(∀j,k<=j->j<k+n->body j (F j)=some (F (j+1)))->C0 body n k (F k)=some (F (k+n))
 | 0,_,_=>rfl
 | n+1,k,h=>by
  unfold C0
  rw [h k (bD _) (by omega)]
  have:=Cb F n (k+1) (fun j h1 h2=>h j (by omega) (by omega))
  rw [show k+ (n+1)=k+1+n by omega]
  exact this
theorem HE {body:Nat->S->Option S} {m:Nat} {s:S} (F:Nat->S) (hm:m<=4611686018427387904) (hs:F 0=s)
  (h: ∀k,k<m->body k (F k)=some (F (k+1))):lV m body s=some (F m):=by
 subst hs
 unfold lV
 rw [aC hm]
 have:=Cb F m 0 (fun j _ h2=>h j (by omega))
 rwa [gx] at this
theorem vl {body:S->Option (Fl S R)} (Inv:S->Prop) (μ:S->Nat) (Go:S->Prop) (Rt:R->Prop)
  (h: ∀s,Inv s->∃fl,body s=some fl/\match fl with | .nx s'=>Inv s'/\μ s'<μ s | .br s'=>Go s' | .rt r=>Rt r):
  ∀(N:Nat) (s:S),Inv s->μ s<N->∃o,iY body N s=some o/\match o with | .go s'=>Go s' | .rt r=>Rt r
 | 0,s,_,hn=>by omega
 | N+1,s,hi,hn=>by
  obtain⟨fl,hb,hf⟩:=h s hi
  unfold iY
  rw [hb]
  cases fl with
  | nx s'=>exact vl Inv μ Go Rt h N s' hf.1 (by have:=hf.2;omega)
  | br s'=>exact⟨_,rfl,hf⟩
  | rt r=>exact⟨_,rfl,hf⟩
theorem Cc {body:Nat->S->Option (Fl S R)} (Inv:Nat->S->Prop) (Go:S->Prop) (Rt:R->Prop) (m:Nat)
  (h: ∀k s,k<m->Inv k s->∃fl,body k s=some fl/\match fl with | .nx s'=>Inv (k+1) s' | .br s'=>Go s' | .rt r=>Rt r) (hg: ∀s,Inv m s->Go s):
  ∀(n k:Nat) (s:S),k+n=m->Inv k s->∃o,Ah body n k s=some o/\match o with | .go s'=>Go s' | .rt r=>Rt r
 | 0,k,s,hk,hi=>⟨_,rfl,hg s (by rw [<-hk];exact hi)⟩
 | n+1,k,s,hk,hi=>by
  obtain⟨fl,hb,hf⟩:=h k s (by omega) hi
  unfold Ah
  rw [hb]
  cases fl with
  | nx s'=>exact Cc Inv Go Rt m h hg n (k+1) s' (by omega) hf
  | br s'=>exact⟨_,rfl,hf⟩
  | rt r=>exact⟨_,rfl,hf⟩
theorem HF {body:Nat->S->Option (Fl S R)} {m:Nat} {s:S} (Inv:Nat->S->Prop) (Go:S->Prop) (Rt:R->Prop) (hm:m<=4611686018427387904) (h0:Inv 0 s)
  (h: ∀k s,k<m->Inv k s->∃fl,body k s=some fl/\match fl with | .nx s'=>Inv (k+1) s' | .br s'=>Go s' | .rt r=>Rt r) (hg: ∀s,Inv m s->Go s):
  ∃o,rH m body s=some o/\match o with | .go s'=>Go s' | .rt r=>Rt r:=by
 unfold rH
 rw [aC hm]
 exact Cc Inv Go Rt m h hg m 0 s (by omega) h0
theorem Cd {body:Nat->S->Option S} (Inv:Nat->S->Prop) (m:Nat) (h: ∀k s,k<m->Inv k s->∃s',body k s=some s'/\Inv (k+1) s'):
  ∀(n k:Nat) (s:S),k+n=m->Inv k s->∃s',C0 body n k s=some s'/\Inv m s'
 | 0,k,s,hk,hi=>⟨_,rfl,by rw [<-hk];exact hi⟩
 | n+1,k,s,hk,hi=>by
  obtain⟨s',hb,hf⟩:=h k s (by omega) hi
  unfold C0
  rw [hb]
  exact Cd Inv m h n (k+1) s' (by omega) hf
theorem xH {body:Nat->S->Option S} {m:Nat} {s:S} (Inv:Nat->S->Prop) (hm:m<=4611686018427387904) (h0:Inv 0 s)
  (h: ∀k s,k<m->Inv k s->∃s',body k s=some s'/\Inv (k+1) s'): ∃s',lV m body s=some s'/\Inv m s':=by
 unfold lV
 rw [aC hm]
 exact Cd Inv m h m 0 s (by omega) h0
end
section
variable {α β:Type}
theorem aB (x:α) (f:α->Option β): (some x).bind f=f x:=rfl
theorem j7 (l:List α) (k:Nat) (h:k<l.length):idx l ((k:Nat):Int)=some l[k]:=by
 unfold idx;rw [aC (by omega),cA,aL h]
theorem dG {l:List α} {k:Nat} {x:α} (h:l[k]? =some x):idx l ((k:Nat):Int)=some x:=by
 unfold idx;rw [aC (by omega),cA,h]
theorem Ce (s:dO) (k:Nat) (h:k<s.cR.length):C2 s ((k:Nat):Int)=some s.cR[k]:=by
 unfold C2;rw [aC (by omega),cA,aL h]
theorem fW {k:Nat} (h:0<k) (hk:k<=4611686018427387904):IntKind.wrap .i64 (((k:Nat):Int) - 1)= ((k - 1:Nat):Int):=by
 rw [eG (by omega) (by omega)];omega
theorem oW (l:List α) (k:Nat) (h:k<=l.length):p9 l 0 ((k:Nat):Int)=some (l.take k):=by
 unfold p9;rw [aC ⟨by omega,by omega,by omega⟩]
 simp only [Int.toNat_zero,List.drop_zero,Int.sub_zero,cA]
theorem nR (l:List α) (k:Nat) (h:k<=l.length):p9 l ((k:Nat):Int) ((l.length:Nat):Int)=some (l.drop k):=by
 unfold p9;rw [aC ⟨by omega,by omega,by omega⟩]
 simp only [cA,Option.some.injEq]
 rw [lj];rw [fC];omega
theorem iK {b:Nat} {l ys:List α} (h: (l.length+ys.length)*b<=140737488355328):app b l ys=some (l++ys):=by unfold app;rw [aC h]
theorem tv {b:Nat} (z:α) {n:Nat} (h:n*b<=140737488355328):mk b z ((n:Nat):Int)=some (List.replicate n z):=by
 unfold mk
 have e: ((n:Nat):Int)* ((b:Nat):Int)= ((n*b:Nat):Int):=(Int.natCast_mul n b).symm
 rw [e]
 generalize n*b=q at h ⊢
 rw [aC ⟨by omega,by omega⟩,cA]
end
theorem dO.ext' {a b:dO} (h:a.cR=b.cR):a=b:=by cases a;cases b;simp at h;rw [h]
theorem AK {a b:dO}:a.Af b=true↔a=b:=by
 unfold dO.Af;rw [beq_iff_eq];exact⟨dO.ext',fun h=>by rw [h]⟩
theorem wZ: ∀(a:List UInt8),Op.bytesLess a a=false
 | []=>rfl
 | a::l=>by
  unfold Op.bytesLess
  rw [wZ l];simp
theorem ya: ∀{a b c:List UInt8},Op.bytesLess a b=true->Op.bytesLess b c=true->Op.bytesLess a c=true
 | [],[],_,h,_=>by simp [Op.bytesLess] at h
 | [],_::_,[],_,h=>by simp [Op.bytesLess] at h
 | [],_::_,_::_,_,_=>rfl
 | _::_,[],_,h,_=>by simp [Op.bytesLess] at h
 | _::_,_::_,[],_,h=>by simp [Op.bytesLess] at h
 | a::l,b::m,c::n,h1,h2=>by
  unfold Op.bytesLess at h1 h2 ⊢
  simp only [dB,bL,bE,beq_iff_eq] at h1 h2 ⊢
  rcases h1 with h1 | ⟨rfl,h1⟩
  ·rcases h2 with h2 | ⟨rfl,h2⟩
   ·exact .inl (UInt8.lt_trans h1 h2)
   ·exact .inl h1
  ·rcases h2 with h2 | ⟨rfl,h2⟩
   ·exact .inl h2
   ·exact .inr ⟨rfl,ya h1 h2⟩
theorem yb: ∀(a b:List UInt8),Op.bytesLess a b=true\/a=b\/Op.bytesLess b a=true
 | [],[]=> .inr (.inl rfl)
 | [],_::_=> .inl rfl
 | _::_,[]=> .inr (.inr rfl)
 | a::l,b::m=>by
  unfold Op.bytesLess
  simp only [dB,bL,bE,beq_iff_eq]
  by_cases h1:a<b
  ·exact .inl (.inl h1)
  ·by_cases h2:b<a
   ·exact .inr (.inr (.inl h2))
   ·have e:a=b:=by
     simp only [UInt8.lt_iff_toNat_lt] at h1 h2
     exact UInt8.toNat_inj.1 (by omega)
    subst e
    rcases yb l m with h | h | h
    ·exact .inl (.inr ⟨rfl,h⟩)
    ·exact .inr (.inl (by rw [h]))
    ·exact .inr (.inr (.inr ⟨rfl,h⟩))
theorem uv: ∀(a b:List UInt8),Lib.compareBytes a b<0↔Op.bytesLess a b=true
 | [],[]=>by simp [Lib.compareBytes,Op.bytesLess]
 | [],_::_=>by simp [Lib.compareBytes,Op.bytesLess]
 | _::_,[]=>by simp [Lib.compareBytes,Op.bytesLess]
 | a::l,b::m=>by
  unfold Lib.compareBytes Op.bytesLess
  simp only [dB,bL,bE,beq_iff_eq]
  split
  ·simp_all
  ·rename_i h1
   split
   ·rename_i h2
    have h3:a≠b:=fun e=>by subst e;exact h1 h2
    simp [h1,h3]
   ·rename_i h2
    have e:a=b:=by
     simp only [UInt8.lt_iff_toNat_lt] at h1 h2
     exact UInt8.toNat_inj.1 (by omega)
    subst e
    rw [uv l m];simp [h1]
theorem uw: ∀(a b:List UInt8),Lib.compareBytes a b=0↔a=b
 | [],[]=>by simp [Lib.compareBytes]
 | [],_::_=>by simp [Lib.compareBytes]
 | _::_,[]=>by simp [Lib.compareBytes]
 | a::l,b::m=>by
  unfold Lib.compareBytes
  split
  ·rename_i h1
   have h3:a≠b:=fun e=>by subst e;exact absurd h1 (by simp)
   simp [h3]
  ·rename_i h1
   split
   ·rename_i h2
    have h3:a≠b:=fun e=>by subst e;exact h1 h2
    simp [h3]
   ·rename_i h2
    have e:a=b:=by
     simp only [UInt8.lt_iff_toNat_lt] at h1 h2
     exact UInt8.toNat_inj.1 (by omega)
    subst e
    rw [uw l m];simp
def dO.lt (a b:dO):Prop:=a.FJ b=true
theorem dO.lt_irrefl (a:dO): ¬dO.lt a a:=by unfold dO.lt dO.FJ;rw [wZ];decide
theorem dO.lt_trans {a b c:dO} (h1:dO.lt a b) (h2:dO.lt b c):dO.lt a c:=ya h1 h2
theorem dO.Cf (a b:dO):dO.lt a b\/a=b\/dO.lt b a:=by
 rcases yb a.cR b.cR with h | h | h
 ·exact .inl h
 ·exact .inr (.inl (dO.ext' h))
 ·exact .inr (.inr h)
theorem dO.Iv {a b:dO} (h:dO.lt a b):a≠b:=fun e=>by subst e;exact dO.lt_irrefl a h
end Go.Gk
namespace Go.Gk
open Go
class Bk (α:Type) where
 bk:α->Nat
 pos: ∀x,1<=bk x
def bk {α:Type} [Bk α] (x:α):Nat:=Bk.bk x
theorem Gl {α:Type} [Bk α] (x:α):1<=bk x:=Bk.pos x
instance:Bk dO:=⟨fun s=>s.cR.length+1,fun _=>by omega⟩
instance:Bk Int:=⟨fun _=>1,fun _=>by omega⟩
instance:Bk Bool:=⟨fun _=>1,fun _=>by omega⟩
instance {α:Type} [Bk α]:Bk (List α):=⟨fun l=>(l.map bk).sum+1,fun _=>by omega⟩
theorem Gm {α:Type} [Bk α]:bk ([]:List α)=1:=rfl
theorem AL {α:Type} [Bk α] (x:α) (l:List α):bk (x::l)=bk x+bk l:=by
 show (List.map bk (x::l)).sum+1=bk x+ ((List.map bk l).sum+1)
 simp;omega
theorem Df {α:Type} [Bk α]: ∀{l:List α} {x:α},x∈l->bk x+1<=bk l
 | y::l,x,h=>by
  rw [AL]
  rcases cW.1 h with h | h
  ·subst h;have:=Gl l;omega
  ·have:=Df h;omega
theorem wA {α:Type} [Bk α]: ∀(l:List α),l.length+1<=bk l
 | []=>by rw [Gm];simp
 | x::l=>by rw [AL,dE];have:=wA l;have:=Gl x;omega
theorem Gn (s:dO):bk s=s.cR.length+1:=rfl
section
variable {α R:Type}
theorem E2 {l:List α} {e:Nat->Option R} (f:α->Option R) (h: ∀k x,l[k]? =some x->e k=f x):tN l.length e=l.findSome? f:=by
 cases hx:tN l.length e with
 | none=>
  refine(List.findSome?_eq_none_iff.2 fun x hm=>?_).symm
  obtain⟨k,hk⟩:=dF hm
  rw [<-h k x hk];exact mL.1 hx k (aU.1 hk).1
 | some r=>
  obtain⟨k,hk,he,hn⟩:=nF.1 hx
  refine(List.findSome?_eq_some_iff.2 ⟨l.take k,l[k],l.drop (k+1),?_,?_,fun y hy=>?_⟩).symm
  ·rw [<-pB hk,List.take_append_drop]
  ·rw [<-h k l[k] (aL hk)];exact he
  ·obtain⟨j,hj⟩:=dF hy
   have hjk:j<k:=by have:=(aU.1 hj).1;rw [cF] at this;omega
   rw [List.getElem?_take_of_lt hjk] at hj
   rw [<-h j y hj];exact hn j hjk
theorem AM (l:List α) (p:α->Bool) (r:R):l.findSome? (fun x=>if p x=true then some r else none)=if l.any p=true then some r else none:=by
 induction l with
 | nil=>simp
 | cons x l ih=>
  rw [List.findSome?_cons,List.any_cons]
  cases h:p x <;> simp [ih]
theorem yc {l:List α} {body:Nat->Unit->Option (Fl Unit R)} (f:α->Option R) (hl:l.length<=4611686018427387904)
  (h: ∀k x,l[k]? =some x->body k ()=some (E1 (f x) ())):rH l.length body ()=some (De (l.findSome? f) ()):=by
 have h2:=qq (body:=body) (m:=l.length) (fun k=>(l[k]?).bind f) hl (fun k hk _=>by
  rw [h k l[k] (aL hk),aL hk];rfl)
 rw [h2,E2 f (fun k x hx=>by rw [hx];rfl)]
theorem HG {l:List α} {body:Nat->Unit->Option (Fl Unit R)} (p:α->Bool) (r:R) (hl:l.length<=4611686018427387904)
  (h: ∀k x,l[k]? =some x->body k ()=some (if p x=true then .rt r else .nx ())):rH l.length body ()=some (if l.any p=true then .rt r else .go ()):=by
 rw [yc (fun x=>if p x=true then some r else none) hl (fun k x hx=>by rw [h k x hx];cases p x <;> rfl),AM]
 cases l.any p <;> rfl
end
theorem HH {β:Type} (b:Bool) (x y:β): (bif b then some x else some y)=some (bif b then x else y):=by cases b <;> rfl
section
variable {α β:Type}
def Eg (l:List α) (p:α->Bool):Int:=match l.findIdx? p with | some k=>((k:Nat):Int) | none=> -1
theorem Gp {l:List α} {p:α->Bool} (h:l.any p=false):Eg l p = -1:=by
 unfold Eg
 rw [List.findIdx?_eq_none_iff.2]
 intro x hx
 rw [<-j4]
 intro hp
 rw [<-j4] at h
 exact h (jC.2 ⟨x,hx,hp⟩)
theorem Gq {l:List α} {p:α->Bool} {k:Nat} {x:α} (hk:l[k]? =some x) (hp:p x=true) (hn: ∀j y,j<k->l[j]? =some y->p y=false):Eg l p= ((k:Nat):Int):=by
 unfold Eg
 have hlt:=(aU.1 hk).1
 have:l.findIdx? p=some k:=by
  rw [List.findIdx?_eq_some_iff_getElem]
  refine⟨hlt,?_,fun j hj=>?_⟩
  ·have:=aL hlt;rw [hk] at this;injection this with this;rw [<-this];exact hp
  ·have:=hn j l[j] hj (aL (by omega));simpa using this
 rw [this]
theorem tw (l:List α) (p:α->Bool): (Eg l p = -1/\∀x∈l,p x=false)\/∃k x,Eg l p= ((k:Nat):Int)/\l[k]? =some x/\p x=true/\∀j y,j<k->l[j]? =some y->p y=false:=by
 unfold Eg
 cases h:l.findIdx? p with
 | none=>exact .inl ⟨rfl,fun x hx=>by have:=List.findIdx?_eq_none_iff.1 h x hx;simpa using this⟩
 | some k=>
  obtain⟨hk,hp,hn⟩:=List.findIdx?_eq_some_iff_getElem.1 h
  refine .inr ⟨k,l[k],rfl,aL hk,hp,fun j y hj hy=>?_⟩
  have:=hn j hj
  rw [aL (by omega)] at hy
  injection hy with hy
  subst hy;simpa using this
theorem Gr (l:List α) (p:α->Bool):decide (Eg l p>=0)=l.any p:=by
 rcases tw l p with ⟨h,hn⟩ | ⟨k,x,h,hx,hp,_⟩
 ·rw [h,List.any_eq_false.2 (fun x hx=>by rw [hn x hx];decide)];decide
 ·rw [h,jC.2 ⟨x,dU hx,hp⟩];simp
def rk (p0:List α) (p1:α->Option Bool):Option Int:=
 (rH p0.length (fun(k1:Nat) (_:Unit)=>((idx p0 ((k1:Nat):Int)).bind fun x7=>(p1 x7).bind fun x10=>bif x10 then (some (.rt ((k1:Nat):Int))) else (some (.nx ())):Option (Fl (Unit) Int))) ()).bind fun o11=>o11.cs (fun(_:Unit)=>some (-1)) (fun r=>some r)
theorem pU {l:List α} {φ:α->Option Bool} (p:α->Bool) (hl:l.length<=4611686018427387904) (h: ∀x∈l,φ x=some (p x)):rk l φ=some (Eg l p):=by
 unfold rk
 rw [qq (fun k=>(l[k]?).bind fun x=>if p x=true then some ((k:Nat):Int) else none) hl (fun k hk _=>by
  rw [j7 l k hk,aB,h _ (cJ hk),aB,aL hk]
  cases hp:p l[k] <;> simp [E1,hp]),aB]
 rcases tw l p with ⟨h1,h2⟩ | ⟨k,x,h1,h2,h3,h4⟩
 ·rw [mL.2 (fun k hk=>by rw [aL hk];simp [h2 _ (cJ hk)])]
  simp [De,Fo.cs,h1]
 ·rw [(nF (r:=((k:Nat):Int))).2 ⟨k,(aU.1 h2).1,by rw [h2];simp [h3],fun j hj=>by
   cases hy:l[j]? with
   | none=>rfl
   | some y=>simp [h4 j y hj hy]⟩]
  simp [De,Fo.cs,h1]
def pV (p0:List α) (p1:α->Option Bool):Option Bool:=
 (rk p0 p1).bind fun x1=>some (decide (x1>=0))
theorem qs {l:List α} {φ:α->Option Bool} (p:α->Bool) (hl:l.length<=4611686018427387904) (h: ∀x∈l,φ x=some (p x)):pV l φ=some (l.any p):=by
 unfold pV
 rw [pU p hl h,aB,Gr]
def Dg [DecidableEq α] (p0:List α) (p1:α):Option Int:=
 (rH p0.length (fun(k2:Nat) (_:Unit)=>((idx p0 ((k2:Nat):Int)).bind fun x12=>bif (decide (p1=x12)) then (some (.rt ((k2:Nat):Int))) else (some (.nx ())):Option (Fl (Unit) Int))) ()).bind fun o18=>o18.cs (fun(_:Unit)=>some (-1)) (fun r=>some r)
theorem E3 [DecidableEq α] {l:List α} {a:α} (hl:l.length<=4611686018427387904):Dg l a=some (Eg l (fun x=>decide (a=x))):=by
 have:=pU (l:=l) (φ:=fun x=>some (decide (a=x))) (fun x=>decide (a=x)) hl (fun _ _=>rfl)
 rw [<-this];rfl
def qt [DecidableEq α] (p0:List α) (p1:α):Option Bool:=(Dg p0 p1).bind fun x3=>some (decide (x3>=0))
theorem vm [DecidableEq α] {l:List α} {a:α} (hl:l.length<=4611686018427387904):qt l a=some (decide (a∈l)):=by
 unfold qt
 rw [E3 hl,aB,Gr,Option.some.injEq,dZ]
 simp
def Dh [DecidableEq α] (p0 p1:List α):Option Bool:=
 bif (((p0.length:Nat):Int) != ((p1.length:Nat):Int)) then (some false) else ((rH p0.length (fun(k1:Nat) (_:Unit)=>((idx p0 ((k1:Nat):Int)).bind fun x13=>(idx p1 ((k1:Nat):Int)).bind fun x16=>bif (!(decide (x13=x16))) then (some (.rt false)) else (some (.nx ())):Option (Fl (Unit) Bool))) ()).bind fun o23=>o23.cs (fun(_:Unit)=>some true) (fun r=>some r))
theorem zL [DecidableEq α] {l m:List α} (hl:l.length<=4611686018427387904):Dh l m=some (decide (l=m)):=by
 unfold Dh
 by_cases h:l.length=m.length
 ·have e: (((l.length:Nat):Int) != ((m.length:Nat):Int))=false:=by rw [h];simp
  rw [e,aM]
  rw [qq (fun k=>if l[k]? =m[k]? then none else some false) hl (fun k hk _=>by
   rw [j7 l k hk,aB,j7 m k (by omega),aB,aL hk,aL (by omega:k<m.length)]
   by_cases hx:l[k]=m[k] <;> simp [E1,hx]),aB]
  by_cases hx:l=m
  ·subst hx;rw [mL.2 (fun k _=>aC rfl)];simp [De,Fo.cs]
  ·have: ∃r,tN l.length (fun k=>if l[k]? =m[k]? then none else some false)=some r:=by
    cases hf:tN l.length (fun k=>if l[k]? =m[k]? then none else some false) with
    | some r=>exact⟨r,rfl⟩
    | none=>
     exfalso;refine hx (List.ext_getElem? fun i=>?_)
     by_cases hi:i<l.length
     ·have:=mL.1 hf i hi
      by_cases h6:l[i]? =m[i]?
      ·exact h6
      ·rw [aD h6] at this;cases this
     ·rw [List.getElem?_eq_none (by omega),List.getElem?_eq_none (by omega)]
   obtain⟨r,hr⟩:=this
   have hr2:r=false:=by
    obtain⟨k,_,hk,_⟩:=nF.1 hr
    split at hk
    ·cases hk
    ·injection hk with hk;exact hk.symm
   rw [hr,hr2];simp [De,Fo.cs,hx]
 ·have e: (((l.length:Nat):Int) != ((m.length:Nat):Int))=true:=by simp;omega
  rw [e,aO,bF (fun h'=>h (by rw [h']))]
def Gs (key:α->dO) (l:List α):Prop:=∀(i j:Nat) (x y:α),i<j->l[i]? =some x->l[j]? =some y->dO.lt (key x) (key y)
theorem Gs.inj {key:α->dO} {l:List α} (h:Gs key l) {i j:Nat} {x y:α} (hx:l[i]? =some x) (hy:l[j]? =some y) (e:key x=key y):i=j:=by
 rcases Nat.lt_trichotomy i j with h1 | h1 | h1
 ·exact absurd e (dO.Iv (h i j x y h1 hx hy))
 ·exact h1
 ·exact absurd e.symm (dO.Iv (h j i y x h1 hy hx))
def Gt (N:Nat) (p0:List α) (p1:β) (p2:α->β->Option Int):Option (Int×Bool):=
 (iY (fun(s2:Int×Int)=>(bif (decide (s2.1<s2.2)) then ((idx p0 (IntKind.wrap .i64 (Int.fdiv (IntKind.wrap .u64 (IntKind.wrap .i64 (s2.1+s2.2))) 2))).bind fun x13=>(p2 x13 p1).bind fun x16=>(bif (decide (x16<0)) then (some ((IntKind.wrap .i64 ((IntKind.wrap .i64 (Int.fdiv (IntKind.wrap .u64 (IntKind.wrap .i64 (s2.1+s2.2))) 2))+1)),s2.2)) else (some (s2.1,(IntKind.wrap .i64 (Int.fdiv (IntKind.wrap .u64 (IntKind.wrap .i64 (s2.1+s2.2))) 2))))).bind fun s17=>some (.nx (s17.1,s17.2))) else (some (.br (s2.1,s2.2))):Option (Fl (Int×Int) Empty))) N (0,((p0.length:Nat):Int))).bind fun o29=>o29.cs (fun(s2:Int×Int)=>(bif (decide (s2.1< ((p0.length:Nat):Int))) then ((idx p0 s2.1).bind fun x25=>(p2 x25 p1).bind fun x28=>some (x28==0)) else (some false)).bind fun s23=>some (s2.1,s23)) (fun r=>r.elim)
theorem zM {a b:Nat} (h:a<b) (hb:b<=4611686018427387904):IntKind.wrap .i64 (Int.fdiv (IntKind.wrap .u64 (IntKind.wrap .i64 (((a:Nat):Int)+ ((b:Nat):Int)))) 2)= (((a+b) / 2:Nat):Int):=by
 rw [eG (x:=((a:Nat):Int)+ ((b:Nat):Int)) (by omega) (by omega)]
 have e:IntKind.wrap .u64 (((a:Nat):Int)+ ((b:Nat):Int))= ((a+b:Nat):Int):=by
  show ((a:Int)+b) % 18446744073709551616=_
  omega
 rw [e,Int.fdiv_eq_ediv_of_nonneg _ (by omega),eG (by omega) (by omega)]
 omega
end
end Go.Gk
namespace Go.Gk
open Go Go.ChangeShapes Go.WideShapes Go.RowKit
structure UB (ub: (H:Type)->DataW H->Nat) (ua: (H:Type)->List (DataW H)->Nat):Prop where
 str: ∀(H:Type) (b:List UInt8),ub H (.lit (.string b))=b.length+1
 pos: ∀(H:Type) (d:DataW H),1<=ub H d
 sl: ∀(H:Type) (e s:List (DataW H)),ub H (.slice e s)=ua H e+ua H s+1
 ag: ∀(H:Type) (l:List (DataW H)),ub H (.agg l)=ua H l+1
 nil: ∀(H:Type),ua H []=0
 cons: ∀(H:Type) (x:DataW H) (l:List (DataW H)),ua H (x::l)=ub H x+ua H l
def Hw (w:World):dQ:=fun b=>w.heap[b]?
structure kn (ub: (H:Type)->DataW H->Nat) (P:Program) (T:TypeId) (α:Type) [GT α] [Bk α]:Prop where
 trod: ∀{H:Type} {enc:TypeId×Value->H} {w:World} {base:Nat} {spare:Nat->Bool} {held:Bool} {fuel:Nat} {cs:List Value} {d:DataW H×List MemPlace},
  DataW.trod enc P w base spare held fuel T cs=some d->∃x:α,GT.ok (Hw w) cs x/\bk x<=ub H d.1
 KF: ∀{w:World} {r:Reach} {base:Nat} {v:Value},Value.okWide P w r base T v->v=th α v.cells.toList
section
variable {ub: (H:Type)->DataW H->Nat} {ua: (H:Type)->List (DataW H)->Nat} {P:Program} {T e:TypeId}
theorem E4 (u:UB ub ua) (ht:P.underlying T=some (.int .i64)):kn ub P T Int where
 trod:=fun h=>by
  obtain⟨n,rfl,rfl,_⟩:=DataW.trod_int ht h
  exact⟨n,rfl,u.pos _ _⟩
 KF:=fun h=>by obtain⟨n,rfl⟩:=okWide_int ht h;rfl
theorem Di (u:UB ub ua) (ht:P.underlying T=some .bool):kn ub P T Bool where
 trod:=fun h=>by
  obtain⟨n,rfl,rfl⟩:=DataW.trod_bool ht h
  exact⟨n,rfl,u.pos _ _⟩
 KF:=fun h=>by obtain⟨n,rfl⟩:=okWide_bool ht h;rfl
theorem E5 (u:UB ub ua) (ht:P.underlying T=some .string):kn ub P T dO where
 trod:=fun h=>by
  obtain⟨s,rfl,rfl,_⟩:=DataW.trod_string ht h
  refine⟨⟨s.data.toList⟩,?_,?_⟩
  ·show [Value.string s]= [Gk.str ⟨s.data.toList⟩]
   cases s;rfl
  ·rw [u.str];exact bD _
 KF:=fun h=>by obtain⟨n,rfl⟩:=okWide_string ht h;rfl
theorem w4 {α:Type} {R:Nat->α->Prop}: ∀(n:Nat),(∀i,i<n->∃x,R i x)->∃l:List α,l.length=n/\∀i x,l[i]? =some x->R i x
 | 0,_=>⟨[],rfl,fun i x h=>by simp at h⟩
 | n+1,h=>by
  obtain⟨l,h1,h2⟩:=w4 n (fun i hi=>h i (by omega))
  obtain⟨x,hx⟩:=h n (by omega)
  refine⟨l++[x],by simp [h1],fun i y hy=>?_⟩
  by_cases hi:i<n
  ·rw [fz (by omega)] at hy;exact h2 i y hy
  ·have:=(aU.1 hy).1
   rw [cQ] at this
   have:i=n:=by simp at this;omega
   subst this
   rw [fI (by omega),h1] at hy
   simp at hy;subst hy;exact hx
theorem zN {H α:Type} [Bk α] (u:UB ub ua): ∀{l:List α} {es:List (DataW H×List MemPlace)},l.length=es.length->
  (∀(i:Nat) (x:α) (y:DataW H×List MemPlace),l[i]? =some x->es[i]? =some y->bk x<=ub H y.1)->bk l<=ua H (es.map (·.1))+1
 | [],[],_,_=>by rw [Gm];omega
 | x::l,y::es,hl,h=>by
  have h1:=h 0 x y rfl rfl
  have h2:=zN (H:=H) u (l:=l) (es:=es) (by simpa using hl) (fun i x y hx hy=>h (i+1) x y (by simpa using hx) (by simpa using hy))
  rw [AL,dA,u.cons];omega
theorem Cg {w:World} {base:Nat} {a:Addr} {n:Nat} {cs:List Value} (h:w.cells? base a n=some cs):At (Hw w) a cs:=by
 intro j v hv
 obtain⟨_,hlen,hc⟩:=World.cells?_some h
 have hj:=(aU.1 hv).1
 have h2:=hc j (by omega)
 rw [hv] at h2
 unfold uR Hw
 unfold World.cell? at h2
 exact h2
theorem rl {α:Type} [GT α] [Bk α] (u:UB ub ua) (he:kn ub P e α) (ht:P.underlying T=some (.slice e):=by kernel_rfl) (hc:P.cellsOf e=GT.sz α:=by kernel_rfl):kn ub P T (List α) where
 trod:=fun{H enc w base spare held fuel cs d} h=>by
  rcases DataW.trod_slice ht h with ⟨rfl,rfl⟩ | ⟨a,len,cap,elems,rest,n,_,rfl,rfl,_,hlc,hcm,hlen,hel,_⟩
  ·exact⟨[],⟨_,rfl,none,0,0,rfl,rfl,bD _,by simp [maxLen],fun i x hx=>by simp at hx⟩,u.pos _ _⟩
  ·have each: ∀i,i<len->∃x:α,(∃c y,GT.ok (Hw w) c x/\At (Hw w) (a.add (i*GT.sz α)) c/\elems[i]? =some y/\bk x<=ub H y.1):=by
    intro i hi
    have h1:=hel i hi
    rw [aL (by omega:i<elems.length),Option.bind_eq_some_iff] at h1
    obtain⟨c,h2,h3⟩:=h1
    obtain⟨x,h4,h5⟩:=he.trod h3
    refine⟨x,c,_,h4,?_,aL (by omega),h5⟩
    rw [hc] at h2
    exact Cg h2
   obtain⟨l,hl,hr⟩:=w4 len each
   refine⟨l,⟨_,rfl,some a,len,cap,rfl,hl.symm,hlc,hcm,fun i x hx=>?_⟩,?_⟩
   ·obtain⟨c,y,h1,h2,_⟩:=hr i x hx
    exact⟨a,c,rfl,h1,h2⟩
   ·have:=zN (H:=H) u (l:=l) (es:=elems) (by omega) (fun i x y hx hy=>by
     obtain⟨c,y',_,_,h3,h4⟩:=hr i x hx
     rw [hy] at h3;injection h3 with h3;subst h3;exact h4)
    rw [u.sl];omega
 KF:=fun h=>by obtain⟨a,n,c,rfl⟩:=okWide_slice ht h;rfl
def Eh (ub: (H:Type)->DataW H->Nat) (ua: (H:Type)->List (DataW H)->Nat) (P:Program) (off:Nat) (fs:List Field) (β:Type) [GT β] (m:β->Nat):Prop:=
 ∀{H:Type} {enc:TypeId×Value->H} {w:World} {base:Nat} {spare:Nat->Bool} {held:Bool} {n:Nat} {cs:List Value} {ys:List (DataW H×List MemPlace)},
  (∀(i:Nat) (f:Field),fs[i]? =some f->DataW.trod enc P w base spare held n f.type ((cs.drop f.offset).take (P.cellsOf f.type))=ys[i]?)->ys.length=fs.length->
  cs.length=off+GT.sz β->∃x:β,GT.ok (Hw w) (cs.drop off) x/\m x<=ua H (ys.map (·.1))
theorem oL {β:Type} [GT β] [Bk β] {off:Nat} {f:Field} (u:UB ub ua) (h:kn ub P f.type β) (ho:f.offset=off:=by exact rfl) (hc:P.cellsOf f.type=GT.sz β:=by kernel_rfl):Eh ub ua P off [f] β bk:=by
 intro H enc w base spare held n cs ys hf hl hcs
 match ys,hl with
 | [y],_=>
  have h1:=hf 0 f rfl
  rw [ho,hc,lj (by rw [fC];omega)] at h1
  obtain⟨x,h2,h3⟩:=h.trod (d:=y) h1
  exact⟨x,h2,by rw [dA,u.cons];omega⟩
theorem gl {α β:Type} [GT α] [GT β] [Bk α] {off off':Nat} {f:Field} {fs:List Field} {m:β->Nat} (u:UB ub ua) (h:kn ub P f.type α) (hr:Eh ub ua P off' fs β m) (ho:f.offset=off:=by exact rfl) (hc:P.cellsOf f.type=GT.sz α:=by kernel_rfl) (hoff:off'=off+GT.sz α:=by exact rfl):Eh ub ua P off (f::fs) (α×β) (fun x=>bk x.1+m x.2):=by
 intro H enc w base spare held n cs ys hf hl hcs
 have hsz:GT.sz (α×β)=GT.sz α+GT.sz β:=rfl
 match ys,hl with
 | y::ys,hl=>
  have h1:=hf 0 f rfl
  rw [ho,hc] at h1
  obtain⟨x,h2,h3⟩:=h.trod (d:=y) h1
  obtain⟨x',h4,h5⟩:=hr (n:=n) (cs:=cs) (ys:=ys) (fun i g hg=>hf (i+1) g hg) (by simpa using hl) (by omega)
  refine⟨(x,x'),⟨_,_,?_,h2,h4⟩,?_⟩
  ·rw [hoff,<-List.drop_drop,List.take_append_drop]
  ·rw [dA,u.cons];show bk x+m x'<=_;omega
theorem l8 {γ β:Type} [GT β] [Bk γ] {fs:Array Field} {m:β->Nat} (u:UB ub ua) (f:γ->β) (g:β->γ) (hfg: ∀b,f (g b)=b) (ht:P.underlying T=some (.struct fs)) (h:Eh ub ua P 0 fs.toList β m) (hm: ∀b,bk (g b)<=m b+1) (hc:P.cellsOf T=GT.sz β:=by kernel_rfl): @kn ub P T γ (GT.via f) _:=
 @kn.mk ub P T γ (GT.via f) _
  (fun{H enc w base spare held fuel cs d} hd=>by
   obtain⟨xs,n,_,rfl,hl,hlen,hf⟩:=DataW.trod_struct ht hd
   obtain⟨b,h1,h2⟩:=h (n:=n) (cs:=cs) (ys:=xs) (fun i g hg=>hf i g (by rw [<-Array.getElem?_toList];exact hg)) (by rw [hlen];simp) (by omega)
   refine⟨g b,?_,?_⟩
   ·show GT.ok (Hw w) cs (f (g b))
    rw [hfg];exact h1
   ·rw [u.ag];have:=hm b;omega)
  (fun hv=>by
   obtain⟨cs,rfl,_⟩:=okWide_struct ht hv
   cases cs;rfl)
theorem kn.arg {H:Type} {enc:TypeId×Value->H} {w:World} {base:Nat} {spare:Nat->Bool} {held:Bool} {r:Reach} {b0:Nat} {v:Value} {d:DataW H} {ps:List MemPlace} {α:Type} [GT α] [Bk α] (o:kn ub P T α)
  (hv:Value.okWide P w r b0 T v) (hd:DataW.Trod enc P w base spare held T v d ps): ∃x:α,uj (Hw w) v x/\bk x<=ub H d:=by
 obtain⟨fuel,hf⟩:=hd
 obtain⟨x,h1,h2⟩:=o.trod hf
 exact⟨x,⟨_,o.KF hv,h1⟩,h2⟩
end
theorem Calls.fin {P:Program} {f:FuncId} {args:Array Value} {w:World} {R Q:Value->World->Prop} (h:Calls P f args w (iv R)) (k: ∀v w',R v w'->Q v w'):
  Calls P f args w (fun e W'=>∃v,e = .returned v/\Q v W'):=Calls.mono h fun _ w' ⟨v,e,hr⟩=>⟨v,e,k v w' hr⟩
def fM (W:World):HP:=⟨fun M h=>hle (Hw W) M/\h=oz,fun k ⟨a,b⟩=>⟨EJ a k,b⟩⟩
theorem Holds.begin (W:World):Holds W W [fM W]:=by
 refine⟨Hw W,fun _=>oz,⟨rfl,rfl,rfl,bD _,fun b o h=>h,fun i Pr hq=>?_,fun _ _ _ _ h=>(by cases h),fun _ _ _ _ h=>(by cases h),fun _ _ _ _ _ _ _ h=>(by cases h)⟩⟩
 match i,hq with
 | 0,hq=>simp at hq;subst hq;exact⟨FI _,rfl⟩
theorem Holds.Gu {α:Type} [GT α] {W:World} {V:List HP} {v:Value} {x:α} (h:Holds W W (V++[fM W])) (hv:Gk.uj (Hw W) v x):Holds W W (rd v x::(V++[fM W])):=
 h.y7 fun M hs g=>by
  have h1:=(g.sat V.length (fM W) (by simp)).1
  exact⟨hv.mono h1,rfl⟩
theorem Holds.kept {E W w:World} {V:List HP} (h:Holds E w (V++[fM W])) (he:E=W):Below W.heap.size W w:=by
 subst he
 obtain⟨M,hs,g⟩:=h
 have h1:=(g.sat V.length (fM E) (by simp)).1
 have h2: ∀k o,E.heap[k]? =some o->w.heap[k]? =some o:=fun k o ho=>g.im k o (h1 k o ho)
 refine⟨g.os,g.tape,g.out,?_,fun k hk=>?_⟩
 ·by_cases h0:E.heap.size=0
  ·omega
  ·have h3:=h2 (E.heap.size - 1) _ (fZ (by omega))
   have:=(Array.getElem?_eq_some_iff.1 h3).1
   omega
 ·rw [fZ hk];exact h2 k _ (fZ hk)
section
variable {H:Type} {enc:TypeId×Value->H} {P:Program}
theorem E6 {f:Func} {s:ChangeSpec} {apart fresh handsOn again:Bool} {W W':World} {args:Array Value} {v:Value} {ds gs:List (DataW H)} {before pa pv:List MemPlace}
  (hW:DataW.Whole enc P f.params.toList s.vars apart W args.toList ds gs before)
  (hres: ∀(b:Nat) (sp:Nat->Bool) (hd:Bool),DataW.TrodAll enc P W' b sp hd f.resultTypes.toList (v.resultList f.resultTypes.size) (s.fn H (ds++gs)).results [])
  (hargs: ∀sp:Nat->Bool,(∀p∈before,sp p.block=true)->DataW.TrodAll enc P W' 0 sp true f.params.toList args.toList (s.fn H (ds++gs)).args pa)
  (hvars: ∀sp:Nat->Bool,(∀p∈before,sp p.block=true)->DataW.TrodVars enc P W' sp s.vars (s.fn H (ds++gs)).vars pv)
  (hps:before=pa++pv) (hb:Below W.heap.size W W')
  (hok: ∀(j:Nat) (t:TypeId) (r:Value),f.resultTypes[j]? =some t->(v.resultList f.resultTypes.size)[j]? =some r->Value.okWide P W' .any 0 t r):
  s.post enc P f apart fresh handsOn again W args v W':=by
 have hlt: ∀p∈before,p.block<W.heap.size:=fun p hp=>hW.lt p hp
 have hold: ∀p∈before,(fun b=>decide (b<W.heap.size)) p.block=true:=fun p hp=>by simpa using hlt p hp
 refine⟨ds,gs,before,[],pa,pv,hW,hres _ _ _,hargs _ hold,hvars _ hold,World.keptBut_mono (fun p hp=>⟨hp,?_⟩) (hb.frame (· ∈before)),fun _=>?_⟩
 ·rw [hps,cV] at hp
  exact Or.inr hp
 ·obtain⟨_,_,_,_,_,hz,hn⟩:=hW
  refine⟨hok,_,_,([]++pa)++pv,⟨[]++pa,pv,trodAll_append (hargs _ (fun _ _=>rfl)) (hres _ _ _),hvars _ (fun _ _=>rfl),rfl,?_,?_⟩,?_⟩
  ·intro b off hp
   have hin:MemPlace.cell b off∈before:=by rw [hps];simpa using hp
   rw [hb.frozen (hlt _ hin)]
   exact hz b off hin
  ·intro ha
   have:=hn ha
   rw [hps] at this
   simpa using this
  ·intro p hp _
   rw [hps]
   simpa using hp
theorem ud {W W':World} (hl:laidOutB P=true) (hb:Below W.heap.size W W') {sp:Nat->Bool}: ∀{ts:List TypeId} {vs:List Value} {ds:List (DataW H)} {ps:List MemPlace},
  (∀t∈ts,P.readableRec t=true/\t<P.types.size)->DataW.TrodAll enc P W 0 (fun _=>true) true ts vs ds ps->(∀p∈ps,p.block<W.heap.size)->(∀p∈ps,sp p.block=true)->DataW.TrodAll enc P W' 0 sp true ts vs ds ps
 | [],_,_,_,_,h,_,_=>by
  obtain⟨rfl,rfl,rfl⟩:=trodAll_nil h
  rfl
 | t::ts,_,_,_,ht,h,hlt,hsp=>by
  obtain⟨v,vs,d,ds,p,q,rfl,rfl,rfl,h1,h2⟩:=trodAll_cons h
  refine⟨p,q,?_,ud hl hb (fun t h=>ht t (by simp [h])) h2 (fun x hx=>hlt x (by simp [hx])) (fun x hx=>hsp x (by simp [hx])),rfl⟩
  exact WideElems.Trod_stays hl (ht t (by simp)).1 (ht t (by simp)).2 h1 (fun x hx=>hb.same (hlt x (by simp [hx]))) (fun x hx=>hsp x (by simp [hx]))
end
end Go.Gk
namespace Go.Gk
open Go
instance:Bk aH:=⟨fun x=>bk x.X0+bk x.Y0+bk x.X1+bk x.Y1+1,fun _=>by omega⟩
theorem HI (x:aH):bk x=bk x.X0+bk x.Y0+bk x.X1+bk x.Y1+1:=rfl
instance:Bk jE:=⟨fun x=>bk x.X+bk x.Y+1,fun _=>by omega⟩
theorem Gv (x:jE):bk x=bk x.X+bk x.Y+1:=rfl
instance:Bk cH:=⟨fun x=>bk x.At+bk x.eI+bk x.cY+bk x.To+bk x.jV+1,fun _=>by omega⟩
theorem HJ (x:cH):bk x=bk x.At+bk x.eI+bk x.cY+bk x.To+bk x.jV+1:=rfl
instance:Bk eW:=⟨fun x=>bk x.Part+bk x.fL+bk x.eT+bk x.At+1,fun _=>by omega⟩
theorem Ei (x:eW):bk x=bk x.Part+bk x.fL+bk x.eT+bk x.At+1:=rfl
instance:Bk iM:=⟨fun x=>bk x.aI+bk x.cL+bk x.aJ+bk x.bG+1,fun _=>by omega⟩
theorem Gw (x:iM):bk x=bk x.aI+bk x.cL+bk x.aJ+bk x.bG+1:=rfl
instance:Bk fL:=⟨fun x=>bk x.Part+bk x.fL+1,fun _=>by omega⟩
theorem I6 (x:fL):bk x=bk x.Part+bk x.fL+1:=rfl
instance:Bk Test:=⟨fun x=>bk x.A+bk x.B+bk x.Joined+1,fun _=>by omega⟩
instance:Bk aA:=⟨fun x=>bk x.Y0+bk x.Y1+bk x.Xs+1,fun _=>by omega⟩
instance:Bk aN:=⟨fun x=>bk x.eT+bk x.Set+bk x.oq+1,fun _=>by omega⟩
instance:Bk dI:=⟨fun x=>bk x.n7+bk x.aJ+bk x.jq+1,fun _=>by omega⟩
instance:Bk bX:=⟨fun x=>bk x.cH+bk x.Number+1,fun _=>by omega⟩
instance:Bk aK:=⟨fun x=>bk x.from_+bk x.to+1,fun _=>by omega⟩
instance:Bk bA:=⟨fun x=>bk x.from_+bk x.to+bk x.kb+1,fun _=>by omega⟩
end Go.Gk
namespace Go.Gk
open Go Go.Sort
section
variable {α:Type}
theorem w5 {β:Type} (a:Array β) {n:Nat} (h:a.size=n):a.extract 0 n=a:=by subst h;exact Array.extract_size
theorem I7 {φ:α->α->Option Int} {l:List α} (cf:α->α->Int) (hφ: ∀x∈l,∀y∈l,φ x y=some (cf x y)) (h1: ∀x∈l,¬cf x x<0)
  (h2: ∀x∈l,∀y∈l,∀z∈l,cf x y<0->cf y z<0->cf x z<0) (h3: ∀x∈l,∀y∈l,∀z∈l,¬cf x y<0->¬cf y z<0->¬cf x z<0):SWO (Hc (BM φ l)):=by
 have hm: ∀i:Fin l.length,l[i]∈l:=fun i=>cJ i.isLt
 have e: ∀i j:Fin l.length,BM φ l i j=cf l[i] l[j]:=fun i j=>by unfold BM;rw [hφ _ (hm i) _ (hm j)];rfl
 refine⟨fun x=>?_,fun x y z=>?_,fun x y z=>?_⟩
 ·simp only [Hc,e,decide_eq_false_iff_not];exact h1 _ (hm _)
 ·simp only [Hc,e,decide_eq_true_iff];exact h2 _ (hm _) _ (hm _) _ (hm _)
 ·simp only [Hc,e,decide_eq_false_iff_not];exact h3 _ (hm _) _ (hm _) _ (hm _)
theorem yf {φ:α->α->Option Int} {l:List α} (cf:α->α->Int) (hφ: ∀x∈l,∀y∈l,φ x y=some (cf x y)) (h1: ∀x∈l,¬cf x x<0)
  (h2: ∀x∈l,∀y∈l,∀z∈l,cf x y<0->cf y z<0->cf x z<0) (h3: ∀x∈l,∀y∈l,∀z∈l,¬cf x y<0->¬cf y z<0->¬cf x z<0) (hl:l.length<4611686018427387904):
  ∃m,uX φ l=some m/\m.Perm l/\m.Pairwise (fun x y=>¬cf y x<0):=by
 have hO:=I7 cf hφ h1 h2 h3
 have hm: ∀i:Fin l.length,l[i]∈l:=fun i=>cJ i.isLt
 have hc: (∀i j:Fin l.length,∃c,φ l[i] l[j]=some c):=fun i j=>⟨_,hφ _ (hm i) _ (hm j)⟩
 refine⟨D2 φ l,by unfold uX;rw [aC ⟨⟨hc,hO⟩,hl⟩],?_⟩
 unfold D2
 by_cases hn:0<l.length
 ·rw [dif_pos hn]
  letI inh:Inhabited (Fin l.length):=⟨⟨0,hn⟩⟩
  have hds: (Array.ofFn fun i:Fin l.length=>i).size=l.length:=by simp
  obtain⟨hp,hs⟩:=pdq_sorts (Hc (BM φ l)) hO (Array.ofFn fun i:Fin l.length=>i) 0 l.length (Lib.bitLen l.length) true true (eN _) (by rw [hds];exact bD _) (Or.inl rfl)
  show (List.map (fun i=>l[i]) (pdq (Hc (BM φ l)) (Array.ofFn fun i:Fin l.length=>i) 0 l.length (Lib.bitLen l.length) true true).toList).Perm l/\_
  generalize pdq (Hc (BM φ l)) (Array.ofFn fun i:Fin l.length=>i) 0 l.length (Lib.bitLen l.length) true true=d' at hp hs
  obtain⟨hz,_,hpm⟩:=hp
  have hz':d'.size=l.length:=hz.trans hds
  rw [w5 d' hz',w5 _ hds] at hpm
  have hof: (Array.ofFn fun i:Fin l.length=>i).toList.map (fun i=>l[i])=l:=by
   rw [Array.toList_ofFn,List.map_ofFn]
   exact List.ofFn_getElem
  refine⟨(hpm.map (fun i=>l[i])).trans (List.Perm.of_eq hof),?_⟩
  rw [List.pairwise_map,kA]
  intro i j hi hj hij
  rw [Array.length_toList] at hi hj
  have:=hs i j (eN _) hij (by rw [<-hz'];exact hj)
  rw [getElem!_pos d' i hi,getElem!_pos d' j hj] at this
  have hij2:=hφ _ (hm (d'[j])) _ (hm (d'[i]))
  have hij3:BM φ l d'[j] d'[i]=cf l[d'[j]] l[d'[i]]:=by unfold BM;rw [hij2];rfl
  unfold Hc at this
  rw [decide_eq_false_iff_not,hij3] at this
  exact this
 ·rw [dif_neg hn]
  have:l= []:=List.length_eq_zero_iff.1 (by omega)
  subst this
  exact⟨List.Perm.refl _,jh⟩
theorem zO {φ:α->α->Option Int} {x:α} (h:φ x x=some 0):uX φ [x]=some [x]:=by
 obtain⟨m,h1,h2,_⟩:=yf (φ:=φ) (l:=[x]) (fun _ _=>0) (fun a ha b hb=>by simp at ha hb;rw [ha,hb];exact h) (fun _ _=>by decide) (fun _ _ _ _ _ _ h=>by simp at h) (fun _ _ _ _ _ _ _ _=>by decide) (by simp)
 rw [h1,List.perm_singleton.1 h2]
theorem zh {l:List Int} (h:l.Pairwise (fun x y=>x<=y)) (hl:l.length<4611686018427387904):sd l=some l:=by
 unfold sd
 rw [aC hl,List.mergeSort_of_pairwise (by simpa using h)]
end
end Go.Gk
namespace Go.Gk
open Go
def qU (l:List Int) (x:Int):Nat:=l.countP (fun a=>decide (a<=x))
def nA (l:List Int) (x:Int):Bool:=qU l x % 2==1
def iC (l:List Int):Prop:=l.Pairwise (· < ·)
theorem Ek (x:Int):qU [] x=0:=rfl
theorem nY (a:Int) (l:List Int) (x:Int):qU (a::l) x= (if a<=x then 1 else 0)+qU l x:=by
 unfold qU
 rw [List.countP_cons]
 by_cases h:a<=x <;> simp [h];omega
theorem yg (l m:List Int) (x:Int):qU (l++m) x=qU l x+qU m x:=List.countP_append
theorem El {l:List Int} {x:Int} (h: ∀a∈l,a<=x):qU l x=l.length:=by
 unfold qU;rw [List.countP_eq_length];intro a ha;simpa using h a ha
theorem yh {l:List Int} {x:Int} (h: ∀a∈l,x<a):qU l x=0:=by
 unfold qU;rw [List.countP_eq_zero];intro a ha;have:=h a ha;simp;omega
theorem vB {l:List Int} {x:Int}:nA l x=true↔qU l x % 2=1:=by unfold nA;simp
theorem vC {l:List Int} {x:Int} (h: ∀a∈l,x<a):nA l x=false:=by unfold nA;rw [yh h];rfl
theorem iC.head {a:Int} {l:List Int} (h:iC (a::l)): ∀b∈l,a<b:=(mO.1 h).1
theorem iC.tail {a:Int} {l:List Int} (h:iC (a::l)):iC l:=(mO.1 h).2
theorem vD {a:Int} {l:List Int} (h:iC (a::l)):nA (a::l) a=true:=by
 rw [vB,nY,aC (Int.le_refl _),yh h.head]
theorem yi: ∀{l m:List Int},iC l->iC m->(∀x,nA l x=nA m x)->l=m
 | [],[],_,_,_=>rfl
 | [],b::m,_,hm,h=>by have:=h b;rw [vD hm] at this;cases this
 | a::l,[],hl,_,h=>by have:=h a;rw [vD hl] at this;cases this
 | a::l,b::m,hl,hm,h=>by
  have hab:a=b:=by
   rcases Int.lt_trichotomy a b with h1 | h1 | h1
   ·have h2:=h a
    rw [vD hl,vC (l:=b::m) (fun c hc=>by
     rcases cW.1 hc with rfl | hc
     ·exact h1
     ·have:=hm.head c hc;omega)] at h2
    cases h2
   ·exact h1
   ·have h2:=h b
    rw [vD hm,vC (l:=a::l) (fun c hc=>by
     rcases cW.1 hc with rfl | hc
     ·exact h1
     ·have:=hl.head c hc;omega)] at h2
    cases h2
  subst hab
  rw [yi hl.tail hm.tail (fun x=>?_)]
  by_cases hx:a<=x
  ·have h2:=h x
   unfold nA at h2 ⊢
   rw [nY,nY,aC hx] at h2
   rw [dZ] at h2 ⊢
   simp only [beq_iff_eq] at h2 ⊢
   omega
  ·rw [vC (fun c hc=>by have:=hl.head c hc;omega),vC (fun c hc=>by have:=hm.head c hc;omega)]
theorem vE {l:List Int} {a b:Int} (hl: ∀c∈l,c<a) (he:l.length % 2=0) (hab:a<b) (x:Int):nA (l++[a,b]) x= (nA l x||(decide (a<=x)&&decide (x<b))):=by
 rw [dZ,dB,bL,bE,bE,vB,vB,yg,nY,nY,Ek]
 by_cases h1:a<=x
 ·have h2:qU l x=l.length:=El fun c hc=>by have:=hl c hc;omega
  rw [h2,aC h1]
  by_cases h3:b<=x
  ·rw [aC h3];omega
  ·rw [aD h3];omega
 ·rw [aD h1,aD (by omega)];omega
theorem Gz {l:List Int} {s e a b:Int} (hl: ∀c∈l,c<s) (he:l.length % 2=0) (hs:s<e) (h1:s<=a) (h2:a<=e) (hab:a<b) (x:Int):nA (l++[s,max e b]) x= (nA (l++[s,e]) x||(decide (a<=x)&&decide (x<b))):=by
 rw [vE hl he (by omega),vE hl he hs]
 rw [dZ]
 simp only [dB,bL,bE]
 constructor
 ·rintro(h | h)
  ·exact .inl (.inl h)
  ·by_cases hx:x<e
   ·exact .inl (.inr ⟨h.1,hx⟩)
   ·exact .inr ⟨by omega,by omega⟩
 ·rintro((h | h) | h)
  ·exact .inl h
  ·exact .inr ⟨h.1,by omega⟩
  ·exact .inr ⟨by omega,by omega⟩
theorem iC.snoc {l:List Int} {a b:Int} (h:iC l) (hl: ∀c∈l,c<a) (hab:a<b):iC (l++[a,b]):=by
 unfold iC
 rw [lT]
 refine⟨h,by simp [hab],fun c hc d hd=>?_⟩
 have:=hl c hc
 simp at hd
 rcases hd with rfl | rfl <;> omega
structure Bd where
 y0:Int
 y1:Int
 xs:List Int
def rowAt:List Bd->Int->List Int
 | [],_=>[]
 | b::s,y=>if b.y0<=y/\y<b.y1 then b.xs else rowAt s y
theorem lL (b:Bd) (s:List Bd) (y:Int):rowAt (b::s) y=if b.y0<=y/\y<b.y1 then b.xs else rowAt s y:=rfl
structure dX (s:List Bd):Prop where
 each: ∀b∈s,b.y0<b.y1/\b.xs≠[]/\iC b.xs/\b.xs.length % 2=0
 ord:s.Pairwise (fun b c=>b.y1<=c.y0/\(b.y1=c.y0->b.xs≠c.xs))
theorem dX.nil:dX []:=⟨fun b h=>by simp at h,jh⟩
theorem dX.tail {b:Bd} {s:List Bd} (h:dX (b::s)):dX s:=⟨fun c hc=>h.each c (f0 _ hc),(mO.1 h.ord).2⟩
theorem kL {s:List Bd} {y:Int} (h: ∀b∈s,y<b.y0\/b.y1<=y):rowAt s y= []:=by
 induction s with
 | nil=>rfl
 | cons b s ih=>
  unfold rowAt
  have:=h b (by simp)
  rw [aD (by omega)]
  exact ih fun c hc=>h c (f0 _ hc)
theorem oG (s t:List Bd) (y:Int):rowAt (s++t) y=if (∃b∈s,b.y0<=y/\y<b.y1) then rowAt s y else rowAt t y:=by
 induction s with
 | nil=>simp
 | cons b s ih=>
  rw [List.cons_append,lL,lL]
  by_cases h:b.y0<=y/\y<b.y1
  ·rw [aC h,aC ⟨b,by simp,h⟩,aC h]
  ·rw [aD h,ih]
   by_cases h2: ∃c∈s,c.y0<=y/\y<c.y1
   ·obtain⟨c,hc,hc2⟩:=h2
    rw [aC ⟨c,hc,hc2⟩,aC ⟨c,f0 _ hc,hc2⟩,aD h]
   ·rw [aD h2,aD (show ¬∃c∈b::s,c.y0<=y/\y<c.y1 from ?_)]
    rintro⟨c,hc,hc2⟩
    rcases cW.1 hc with rfl | hc
    ·exact h hc2
    ·exact h2 ⟨c,hc,hc2⟩
theorem dX.lM {b:Bd} {s:List Bd} {y:Int} (h0:b.y0<=y) (h1:y<b.y1):rowAt (b::s) y=b.xs:=by unfold rowAt;rw [aC ⟨h0,h1⟩]
theorem dX.yj {b:Bd} {s:List Bd} (h:dX (b::s)): ∀c∈s,b.y1<=c.y0:=fun c hc=>((mO.1 h.ord).1 c hc).1
theorem dX.tx {b:Bd} {s:List Bd} (h:dX (b::s)) {y:Int} (hy:y<b.y0):rowAt (b::s) y= []:=kL fun c hc=>by
 rcases cW.1 hc with rfl | hc
 ·exact .inl hy
 ·have:=h.yj c hc;have:=(h.each b (by simp)).1;exact .inl (by omega)
theorem dX.Em {b:Bd} {s:List Bd} (h:dX (b::s)):rowAt (b::s) b.y1≠b.xs:=by
 rw [lL,aD (by omega)]
 cases s with
 | nil=>exact fun e=>(h.each b (by simp)).2.1 e.symm
 | cons c s=>
  have h1:=(mO.1 h.ord).1 c (by simp)
  by_cases e:b.y1=c.y0
  ·rw [dX.lM (by omega) (by have:=(h.tail.each c (by simp)).1;omega)]
   exact fun h=>h1.2 e h.symm
  ·rw [h.tail.tx (by have:=h1.1;omega)]
   exact fun e=>(h.each b (by simp)).2.1 e.symm
theorem yk: ∀{s t:List Bd},dX s->dX t->(∀y,rowAt s y=rowAt t y)->s=t
 | [],[],_,_,_=>rfl
 | [],c::t,_,ht,h=>by
  have hc:=ht.each c (by simp)
  have:=h c.y0
  rw [dX.lM (Int.le_refl _) hc.1] at this
  exact absurd this.symm hc.2.1
 | b::s,[],hs,_,h=>by
  have hb:=hs.each b (by simp)
  have:=h b.y0
  rw [dX.lM (Int.le_refl _) hb.1] at this
  exact absurd this hb.2.1
 | b::s,c::t,hs,ht,h=>by
  have hb:=hs.each b (by simp)
  have hc:=ht.each c (by simp)
  have e0:b.y0=c.y0:=by
   rcases Int.lt_trichotomy b.y0 c.y0 with h1 | h1 | h1
   ·have h2:=h b.y0
    rw [dX.lM (Int.le_refl _) hb.1,ht.tx h1] at h2
    exact absurd h2 hb.2.1
   ·exact h1
   ·have h2:=h c.y0
    rw [dX.lM (Int.le_refl _) hc.1,hs.tx h1] at h2
    exact absurd h2.symm hc.2.1
  have ex:b.xs=c.xs:=by
   have h2:=h b.y0
   rw [dX.lM (Int.le_refl _) hb.1,dX.lM (by omega) (by omega)] at h2
   exact h2
  have e1:b.y1=c.y1:=by
   rcases Int.lt_trichotomy b.y1 c.y1 with h1 | h1 | h1
   ·have h2:=h b.y1
    rw [dX.lM (b:=c) (by omega) h1] at h2
    exact absurd (h2.trans ex.symm) hs.Em
   ·exact h1
   ·have h2:=h c.y1
    rw [dX.lM (b:=b) (by omega) h1] at h2
    exact absurd (h2.symm.trans ex) ht.Em
  have ebc:b=c:=by cases b;cases c;simp_all
  subst ebc
  rw [yk hs.tail ht.tail (fun y=>?_)]
  by_cases hy:b.y1<=y
  ·have h2:=h y
   unfold rowAt at h2
   rw [aD (by omega),aD (by omega)] at h2
   exact h2
  ·rw [kL (fun d hd=>by have:=hs.yj d hd;exact .inl (by omega)),kL (fun d hd=>by have:=ht.yj d hd;exact .inl (by omega))]
def rY (s:List Bd) (x y:Int):Bool:=nA (rowAt s y) x
theorem zP {s:List Bd} (h: ∀b∈s,iC b.xs) (y:Int):iC (rowAt s y):=by
 induction s with
 | nil=>exact jh
 | cons b s ih=>
  unfold rowAt
  split
  ·exact h b (by simp)
  ·exact ih fun c hc=>h c (f0 _ hc)
theorem rn {s t:List Bd} (hs:dX s) (ht:dX t) (h: ∀x y,rY s x y=rY t x y):s=t:=
 yk hs ht fun y=>yi (zP (fun b hb=>(hs.each b hb).2.2.1) y) (zP (fun b hb=>(ht.each b hb).2.2.1) y) fun x=>h x y
def iD (s:List Bd) (b:Bd):List Bd:=
 if b.xs= []\/b.y1<=b.y0 then s else
  match s.getLast? with
  | some c=>if c.y1=b.y0/\c.xs=b.xs then s.dropLast++[⟨c.y0,b.y1,c.xs⟩] else s++[b]
  | none=>[b]
theorem o6 {α:Type} {s:List α} {c:α} (h:s.getLast? =some c):s=s.dropLast++[c]:=by
 have hne:s≠[]:=fun e=>by rw [e] at h;cases h
 rw [List.getLast?_eq_some_getLast hne] at h
 injection h with h
 rw [<-h];exact(List.dropLast_concat_getLast hne).symm
theorem tz {s:List Bd} {b:Bd} (hs: ∀c∈s,c.y1<=b.y0) (hg: ∀c∈s,c.y0<c.y1) (hb:b.y1<=b.y0->b.y1=b.y0) (y:Int):rowAt (iD s b) y=if b.y0<=y/\y<b.y1 then b.xs else rowAt s y:=by
 have key: ∀(s:List Bd) (c:Bd),(∀d∈s,d.y1<=c.y0)->rowAt (s++[c]) y=if c.y0<=y/\y<c.y1 then c.xs else rowAt s y:=by
  intro s c h
  rw [oG]
  by_cases h1:c.y0<=y/\y<c.y1
  ·rw [aC h1,aD (by rintro⟨d,hd,hd2⟩;have:=h d hd;omega),dX.lM h1.1 h1.2]
  ·rw [aD h1]
   by_cases h2: ∃d∈s,d.y0<=y/\y<d.y1
   ·rw [aC h2]
   ·rw [aD h2,lL,aD h1]
    refine(show rowAt [] y=_ from (kL (s:=s) fun d hd=>?_).symm)
    by_cases h3:d.y0<=y
    ·exact .inr (by have: ¬(d.y0<=y/\y<d.y1):=fun h4=>h2 ⟨d,hd,h4⟩;omega)
    ·exact .inl (by omega)
 unfold iD
 by_cases h0:b.xs= []\/b.y1<=b.y0
 ·rw [aC h0]
  by_cases h1:b.y0<=y/\y<b.y1
  ·rw [aC h1]
   rcases h0 with h0 | h0
   ·rw [h0];exact kL fun c hc=> .inr (by have:=hs c hc;omega)
   ·omega
  ·rw [aD h1]
 ·rw [aD h0]
  cases hl:s.getLast? with
  | none=>
   have:s= []:=by simpa using hl
   subst this
   rfl
  | some c=>
   dsimp only
   have hsp:=o6 hl
   have hcm:c∈s:=by rw [hsp];simp
   by_cases h1:c.y1=b.y0/\c.xs=b.xs
   ·rw [aC h1]
    have hd: ∀d∈s.dropLast,d.y1<=c.y0\/True:=fun _ _=> .inr trivial
    rw [oG]
    have hrow:rowAt s y=if (∃d∈s.dropLast,d.y0<=y/\y<d.y1) then rowAt s.dropLast y else (if c.y0<=y/\y<c.y1 then c.xs else []):=by
     conv=>lhs;rw [hsp]
     rw [oG];rfl
    rw [hrow]
    have hcg:=hg c hcm
    by_cases h2: ∃d∈s.dropLast,d.y0<=y/\y<d.y1
    ·obtain⟨d,hd,hd2⟩:=h2
     have:=hs d (List.dropLast_subset _ hd)
     have he: ∃d∈s.dropLast,d.y0<=y/\y<d.y1:=⟨d,hd,hd2⟩
     rw [aC he,aC he,aD (by omega)]
    ·rw [aD h2,aD h2]
     show (if c.y0<=y/\y<b.y1 then c.xs else [])=_
     by_cases h3:b.y0<=y/\y<b.y1
     ·rw [aC h3,aC ⟨by omega,h3.2⟩,h1.2]
     ·rw [aD h3]
      by_cases h4:c.y0<=y/\y<c.y1
      ·rw [aC h4,aC ⟨h4.1,by omega⟩]
      ·rw [aD h4,aD (by omega)]
   ·rw [aD h1]
    exact key s b hs
theorem tA {s:List Bd} {b:Bd} (h:dX s) (hs: ∀c∈s,c.y1<=b.y0) (hb:iC b.xs) (he:b.xs.length % 2=0):dX (iD s b):=by
 unfold iD
 by_cases h0:b.xs= []\/b.y1<=b.y0
 ·rw [aC h0];exact h
 ·rw [aD h0]
  have hbg:b.y0<b.y1/\b.xs≠[]/\iC b.xs/\b.xs.length % 2=0:=⟨by omega,fun e=>h0 (.inl e),hb,he⟩
  cases hl:s.getLast? with
  | none=>exact⟨fun c hc=>by simp at hc;subst hc;exact hbg,List.pairwise_singleton _ _⟩
  | some c=>
   dsimp only
   have hsp:=o6 hl
   have hcm:c∈s:=by rw [hsp];simp
   have hc:=h.each c hcm
   have hord:=h.ord
   rw [hsp,lT] at hord
   by_cases h1:c.y1=b.y0/\c.xs=b.xs
   ·rw [aC h1]
    refine⟨fun d hd=>?_,?_⟩
    ·rcases cV.1 hd with hd | hd
     ·exact h.each d (List.dropLast_subset _ hd)
     ·simp at hd;subst hd;exact⟨by show c.y0<b.y1;omega,hc.2⟩
    ·rw [lT]
     refine⟨hord.1,List.pairwise_singleton _ _,fun d hd e he=>?_⟩
     simp at he;subst he
     exact hord.2.2 d hd c (by simp)
   ·rw [aD h1]
    refine⟨fun d hd=>?_,?_⟩
    ·rcases cV.1 hd with hd | hd
     ·exact h.each d hd
     ·simp at hd;subst hd;exact hbg
    ·rw [lT]
     refine⟨h.ord,List.pairwise_singleton _ _,fun d hd e he=>?_⟩
     simp at he;subst he
     refine⟨hs d hd,fun e1 e2=>?_⟩
     rw [hsp] at hd
     rcases cV.1 hd with hd | hd
     ·have h2:=(hord.2.2 d hd c (by simp)).1
      have:=hs c hcm
      omega
     ·simp at hd;subst hd;exact h1 ⟨e1,e2⟩
theorem tB {s:List Bd} {b:Bd} (hs: ∀c∈s,c.y1<=b.y0) (hb:b.y0<=b.y1): ∀c∈iD s b,c.y1<=b.y1:=by
 intro c hc
 unfold iD at hc
 split at hc
 ·have:=hs c hc;omega
 ·split at hc
  ·split at hc
   ·rcases cV.1 hc with hc | hc
    ·have:=hs c (List.dropLast_subset _ hc);omega
    ·simp at hc;subst hc;exact Int.le_refl _
   ·rcases cV.1 hc with hc | hc
    ·have:=hs c hc;omega
    ·simp at hc;subst hc;exact Int.le_refl _
  ·simp at hc;subst hc;exact Int.le_refl _
end Go.Gk
namespace Go.Gk
open Go
section
variable {N:Nat}
def bJ (b:aA):Bd:=⟨b.Y0,b.Y1,b.Xs⟩
def small (a:Int):Prop:= -1099511627776<=a/\a<=1099511627776
structure zQ (r:aH):Prop where
 x:r.X0<r.X1
 y:r.Y0<r.Y1
 s1:small r.X0
 s2:small r.X1
 s3:small r.Y0
 s4:small r.Y1
def Dl (l:List aH) (x:Int):Bool:=l.any (fun r=>decide (r.X0<=x)&&decide (x<r.X1))
def sR (l:List aH) (x y:Int):Bool:=l.any (fun r=>(decide (r.X0<=x)&&decide (x<r.X1))&&(decide (r.Y0<=y)&&decide (y<r.Y1)))
theorem yl {l:List aH} {x:Int}:Dl l x=true↔∃r∈l,r.X0<=x/\x<r.X1:=by unfold Dl;simp [jC]
theorem ij {l:List aH} {x y:Int}:sR l x y=true↔∃r∈l,(r.X0<=x/\x<r.X1)/\r.Y0<=y/\y<r.Y1:=by unfold sR;simp [jC]
theorem wrap_small {a b:Int} (ha:small a) (hb:small b):IntKind.wrap .i64 (a - b)=a - b:=by unfold small at *;exact eG (by omega) (by omega)
theorem ym {n:Nat} (h:0<n) (hn:n<=4611686018427387904):IntKind.wrap .i64 (((n:Nat):Int) - 1)= ((n - 1:Nat):Int):=fW h hn
structure LU (out:List Int) (m:List aH) (k:Nat):Prop where
 row: (k=0/\out= [])\/∃A s e,out=A++[s,e]/\iC A/\(∀c∈A,c<s)/\A.length % 2=0/\s<e/\∃j r,j<k/\m[j]? =some r/\s=r.X0
 nA: ∀x,nA out x=Dl (m.take k) x
 len:out.length<=2*k
 mem: ∀c∈out,∃r∈m,c=r.X0\/c=r.X1
theorem wG (l:List aH) (r:aH) (x:Int):Dl (l++[r]) x= (Dl l x||(decide (r.X0<=x)&&decide (x<r.X1))):=by unfold Dl;rw [List.any_append];simp
theorem AO {l:List aH} (hl:l.length<=268435456) (hok: ∀r∈l,zQ r): ∃row l',iH N l=some (row,l')/\l'.Perm l/\iC row/\row.length % 2=0/\(∀x,nA row x=Dl l x)/\row.length<=2*l.length/\∀c∈row,∃r∈l,c=r.X0\/c=r.X1:=by
 unfold iH
 obtain⟨m,h1,h2,h3⟩:=yf (φ:=gj N) (l:=l) (fun a b=>a.X0 - b.X0) (fun a ha b hb=>by
  unfold gj;rw [wrap_small (hok a ha).s1 (hok b hb).s1]) (fun a _=>by omega) (fun a _ b _ c _ h1 h2=>by omega) (fun a _ b _ c _ h1 h2=>by omega) (by omega)
 have hml:m.length=l.length:=h2.length_eq
 have hmok: ∀r∈m,zQ r:=fun r hr=>hok r (h2.subset hr)
 rw [h1,aB]
 obtain⟨out,a1,a2⟩:=xH (m:=m.length) (s:=([]:List Int)) (body:=fun(k32:Nat) (s33: (List Int))=>((idx m (k32:Int)).bind fun x79=>(bif (decide ((IntKind.wrap .i64 ((s33.length:Int) - 1))>=0)) then ((idx s33 (IntKind.wrap .i64 ((s33.length:Int) - 1))).bind fun x86=>some (decide (x79.X0<=x86))) else (some false)).bind fun s84=>(bif s84 then ((idx s33 (IntKind.wrap .i64 ((s33.length:Int) - 1))).bind fun x94=>(idx s33 (IntKind.wrap .i64 ((s33.length:Int) - 1))).bind fun x95=>some (s33.set (Int.toNat (IntKind.wrap .i64 ((s33.length:Int) - 1))) (if x94<x79.X1 then x79.X1 else x94))) else ((app 8 s33 ([x79.X0,x79.X1]: (List Int))).bind fun x97=>some x97)).bind fun s92=>some s92:Option ((List Int))))
  (fun k out=>LU out m k) (by omega) ⟨.inl ⟨rfl,rfl⟩,fun x=>rfl,by simp,fun c hc=>by cases hc⟩ (fun k out hk ⟨i1,i2,i3,i4⟩=>by
   have hx:m[k]? =some m[k]:=aL hk
   have hr:=hmok _ (cJ hk)
   rw [dG hx,aB]
   have hts:m.take (k+1)=m.take k++[m[k]]:=dT hk
   rcases i1 with ⟨rfl,rfl⟩ | ⟨A,s,e,rfl,hA,hAs,hAe,hse,j,r,hj,hjr,hsr⟩
   ·rw [show decide (IntKind.wrap .i64 (((([]:List Int).length:Nat):Int) - 1)>=0)=false by decide,aM,aB,aM,iK (by simp),aB,aB]
    refine⟨_,rfl, .inr ⟨[],_,_,rfl,jh,fun c hc=>by simp at hc,rfl,hr.x,0,m[0],by omega,hx,rfl⟩,fun x=>?_,by simp,fun c hc=>⟨m[0],cJ hk,by simpa using hc⟩⟩
    rw [hts,wG,<-i2 x]
    exact vE (l:=[]) (fun c hc=>by simp at hc) rfl hr.x x
   ·have hlen: (A++[s,e]).length=A.length+2:=by simp
    have hwp:IntKind.wrap .i64 ((((A++[s,e]).length:Nat):Int) - 1)= ((A.length+1:Nat):Int):=by rw [ym (by omega) (by omega),hlen];rfl
    have hlast: (A++[s,e])[A.length+1]? =some e:=by rw [fI (by omega)];simp
    have hs:s<=m[k].X0:=by
     have:=kA.1 h3 j k (by have:=(aU.1 hjr).1;omega) hk hj
     rw [hsr,<-(aU.1 hjr).2];omega
    rw [hwp,bB (by omega),aO,dG hlast,aB,aB]
    by_cases hc:m[k].X0<=e
    ·rw [bB hc,aO,aB,aB,aB,cA]
     have lU: (A++[s,e]).set (A.length+1) (if e<m[k].X1 then m[k].X1 else e)=A++[s,max e m[k].X1]:=by
      rw [List.set_append_right _ _ (by omega)]
      have:A.length+1 - A.length=1:=by omega
      rw [this,Int.max_def]
      simp only [List.set_cons_succ,List.set_cons_zero]
      congr 2
      split <;> split <;> simp <;> omega
     rw [lU]
     refine⟨_,rfl, .inr ⟨A,s,_,rfl,hA,hAs,hAe,by omega,j,r,by omega,hjr,hsr⟩,fun x=>?_,by simp at i3 ⊢;omega,fun c hc=>by
      rcases cV.1 hc with h | h
      ·exact i4 c (List.mem_append_left _ h)
      ·simp at h
       rcases h with h | h
       ·exact i4 c (by simp [h])
       ·rw [Int.max_def] at h
        split at h
        ·exact⟨_,cJ hk, .inr h⟩
        ·exact i4 c (by simp [h])⟩
     rw [hts,wG,<-i2 x]
     exact Gz hAs hAe hse hs hc hr.x x
    ·rw [bF hc,aM,iK (by rw [hlen];simp;omega),aB,aB]
     have hall: ∀c∈A++[s,e],c<m[k].X0:=fun c hc'=>by
      rcases cV.1 hc' with h | h
      ·have:=hAs c h;omega
      ·simp at h;omega
     refine⟨_,rfl, .inr ⟨A++[s,e],_,_,rfl,hA.snoc hAs hse,hall,by rw [hlen];omega,hr.x,k,m[k],by omega,hx,rfl⟩,fun x=>?_,by simp at i3 ⊢;omega,fun c hc=>by
      rcases cV.1 hc with h | h
      ·exact i4 c h
      ·exact⟨m[k],cJ hk,by simpa using h⟩⟩
     rw [hts,wG,<-i2 x]
     exact vE hall (by rw [hlen];omega) hr.x x)
 rw [a1,aB]
 refine⟨out,m,rfl,h2,?_,?_,fun x=>?_,by rw [<-hml];exact a2.len,fun c hc=>by obtain⟨r,hr,h⟩:=a2.mem c hc;exact⟨r,h2.subset hr,h⟩⟩
 ·rcases a2.row with ⟨_,h⟩ | ⟨A,s,e,rfl,hA,hAs,hAe,hse,_⟩
  ·rw [h];exact jh
  ·exact hA.snoc hAs hse
 ·rcases a2.row with ⟨_,h⟩ | ⟨A,s,e,rfl,hA,hAs,hAe,hse,_⟩
  ·rw [h];rfl
  ·simp;omega
 ·rw [a2.nA x,eE,dZ,yl,yl]
  constructor
  ·rintro⟨r,hr,h⟩;exact⟨r,h2.subset hr,h⟩
  ·rintro⟨r,hr,h⟩;exact⟨r,h2.symm.subset hr,h⟩
theorem E7 {l m:List Int} (hl:l.length<=4611686018427387904):lX N l m=some (decide (l=m)):=zL hl
theorem En {s:List aA} {b:aA} (hs:s.length<=1048576000) (hx: ∀c∈s,c.Xs.length<=1048576000): ∃s',il N s b=some s'/\s'.map bJ=iD (s.map bJ) (bJ b):=by
 unfold il iD
 by_cases h0:b.Xs= []\/b.Y1<=b.Y0
 ·have e: ((((b.Xs.length:Nat):Int)==0)||(decide (b.Y1<=b.Y0)))=true:=by
   rw [dB]
   rcases h0 with h | h
   ·left;rw [h];rfl
   ·right;exact bB h
  rw [e,aO,aC (show (bJ b).xs= []\/(bJ b).y1<=(bJ b).y0 from h0)]
  exact⟨s,rfl,rfl⟩
 ·have e: ((((b.Xs.length:Nat):Int)==0)||(decide (b.Y1<=b.Y0)))=false:=by
   rw [Bool.or_eq_false_iff]
   constructor
   ·rw [beq_eq_false_iff_ne];intro h;exact h0 (.inl (List.eq_nil_of_length_eq_zero (by omega)))
   ·exact bF fun h=>h0 (.inr h)
  rw [e,aM,aD (show ¬((bJ b).xs= []\/(bJ b).y1<=(bJ b).y0) from h0)]
  rcases List.eq_nil_or_concat s with rfl | ⟨A,c,hA⟩
  ·rw [show decide (IntKind.wrap .i64 (((([]:List aA).length:Nat):Int) - 1)>=0)=false by decide,aM,aB,aM,iK (by simp),aB]
   exact⟨_,rfl,rfl⟩
  ·rw [List.concat_eq_append] at hA
   subst hA
   have hlen: (A++[c]).length=A.length+1:=by simp
   have hwp:IntKind.wrap .i64 ((((A++[c]).length:Nat):Int) - 1)= ((A.length:Nat):Int):=by rw [ym (by omega) (by omega),hlen];rfl
   have hlast: (A++[c])[A.length]? =some c:=by simp
   rw [hwp,bB (by omega),aO,dG hlast,aB,aB,E7 (by have:=hx c (by simp);omega),aB,aB,cA,iK (by rw [hlen];simp;omega),aB]
   have hl2: ((A++[c]).map bJ).getLast? =some (bJ c):=by simp
   have hd2: ((A++[c]).map bJ).dropLast=A.map bJ:=by simp
   rw [hl2,hd2]
   dsimp only
   by_cases h1:c.Y1=b.Y0/\c.Xs=b.Xs
   ·rw [aC (show (bJ c).y1= (bJ b).y0/\(bJ c).xs= (bJ b).xs from h1),show (c.Y1==b.Y0)=true by rw [h1.1];simp,aO,bB h1.2,aB,aO]
    refine⟨_,rfl,?_⟩
    rw [List.set_append_right _ _ (bD _),Nat.sub_self]
    simp [bJ]
   ·rw [aD (show ¬((bJ c).y1= (bJ b).y0/\(bJ c).xs= (bJ b).xs) from h1)]
    have e2: (bif (c.Y1==b.Y0) then (some (decide (c.Xs=b.Xs))) else (some false))=some false:=by
     by_cases h2:c.Y1=b.Y0
     ·rw [show (c.Y1==b.Y0)=true by rw [h2];simp,aO,bF (fun h=>h1 ⟨h2,h⟩)]
     ·rw [show (c.Y1==b.Y0)=false by simpa using h2,aM]
    rw [e2,aB,aM]
    exact⟨_,rfl,by simp⟩
end
end Go.Gk
namespace Go.Gk
open Go
def cU (l:List (Int×Int)):List Int:=l.flatMap fun s=>[s.1,s.2]
def hQ (l:List (Int×Int)) (x:Int):Bool:=l.any fun s=>decide (s.1<=x)&&decide (x<s.2)
theorem hU (s:Int×Int) (l:List (Int×Int)):cU (s::l)=s.1::s.2::cU l:=rfl
theorem rp (l m:List (Int×Int)):cU (l++m)=cU l++cU m:=List.flatMap_append
theorem iX (l:List (Int×Int)): (cU l).length=2*l.length:=by
 induction l with
 | nil=>rfl
 | cons s l ih=>rw [hU,dE,dE,dE,ih];omega
theorem zR (s:Int×Int) (l:List (Int×Int)) (x:Int):hQ (s::l) x= ((decide (s.1<=x)&&decide (x<s.2))||hQ l x):=rfl
theorem w6 (l m:List (Int×Int)) (x:Int):hQ (l++m) x= (hQ l x||hQ m x):=List.any_append
theorem qC {l:List (Int×Int)} {x:Int}:hQ l x=true↔∃s∈l,s.1<=x/\x<s.2:=by
 unfold hQ;simp
theorem E8 {a b:Int} {m:List Int} (h:iC (a::b::m)) (x:Int):nA (a::b::m) x= ((decide (a<=x)&&decide (x<b))||nA m x):=by
 have hab:a<b:=h.head b (by simp)
 have hm:=h.tail.head
 rw [dZ,dB,bL,bE,bE,vB,vB,nY,nY]
 by_cases h1:a<=x
 ·rw [aC h1]
  by_cases h2:b<=x
  ·rw [aC h2];omega
  ·rw [aD h2,yh (fun c hc=>by have:=hm c hc;omega)];omega
 ·rw [aD h1,aD (by omega)];omega
theorem qD: ∀{l:List (Int×Int)},iC (cU l)->∀x,nA (cU l) x=hQ l x
 | [],_,x=>rfl
 | s::l,h,x=>by
  rw [hU] at h ⊢
  rw [E8 h,zR,qD h.tail.tail]
theorem zS: ∀{l m:List (Int×Int)},cU l=cU m->l=m
 | [],[],_=>rfl
 | [],s::m,h=>by cases h
 | s::l,[],h=>by cases h
 | (a,b)::l,(c,d)::m,h=>by
  rw [hU,hU] at h
  injection h with h1 h2
  injection h2 with h2 h3
  simp only at h1 h2
  rw [h1,h2,zS h3]
theorem wH {l:List (Int×Int)} {c:Int} (h:c∈cU l): ∃s∈l,c=s.1\/c=s.2:=by
 obtain⟨s,hs,hc⟩:=List.mem_flatMap.1 h
 exact⟨s,hs,by simpa using hc⟩
theorem sS {l:List (Int×Int)} (h:iC (cU l)): ∀s∈l,s.1<s.2:=by
 induction l with
 | nil=>intro s hs;cases hs
 | cons a l ih=>
  rw [hU] at h
  intro s hs
  rcases cW.1 hs with rfl | hs
  ·exact h.head _ (by simp)
  ·exact ih h.tail.tail s hs
theorem qE {l m:List (Int×Int)}:iC (cU (l++m))↔iC (cU l)/\iC (cU m)/\∀s∈l,∀t∈m,s.2<t.1:=by
 rw [rp]
 unfold iC
 rw [lT]
 constructor
 ·rintro⟨h1,h2,h3⟩
  exact⟨h1,h2,fun s hs t ht=>h3 s.2 (List.mem_flatMap.2 ⟨s,hs,by simp⟩) t.1 (List.mem_flatMap.2 ⟨t,ht,by simp⟩)⟩
 ·rintro⟨h1,h2,h3⟩
  refine⟨h1,h2,fun a ha b hb=>?_⟩
  obtain⟨s,hs,ha⟩:=wH ha
  obtain⟨t,ht,hb⟩:=wH hb
  have h4:=h3 s hs t ht
  have h5:=sS (l:=l) h1 s hs
  have h6:=sS (l:=m) h2 t ht
  rcases ha with rfl | rfl <;> rcases hb with rfl | rfl <;> omega
def ju (s:Int×Int):List (Int×Int)->(Int×Int)×List (Int×Int)
 | []=>(s,[])
 | a::l=>if a.1<=s.2 then ju (min s.1 a.1,max s.2 a.2) l else (s,a::l)
def kM (l:List (Int×Int)) (s:Int×Int):List (Int×Int):=
 l.takeWhile (fun a=>decide (a.2<s.1))++(ju s (l.dropWhile fun a=>decide (a.2<s.1))).1::(ju s (l.dropWhile fun a=>decide (a.2<s.1))).2
theorem w7: ∀(l:List (Int×Int)) (s:Int×Int),s.1<s.2->iC (cU l)->(∀a∈l,s.1<=a.2)->
  (ju s l).1.1< (ju s l).1.2/\((ju s l).1.1=s.1\/∃a∈l,(ju s l).1.1=a.1)/\iC (cU (ju s l).2)/\(∀t∈(ju s l).2,(ju s l).1.2<t.1)/\
  ∀x,hQ ((ju s l).1::(ju s l).2) x= ((decide (s.1<=x)&&decide (x<s.2))||hQ l x)
 | [],s,h,_,_=>⟨h, .inl rfl,jh,fun t (ht:t∈([]:List (Int×Int)))=>(by cases ht),fun x=>rfl⟩
 | a::l,s,h,hi,hs=>by
  have hsp:=sS hi
  have ha:=hsp a (by simp)
  have hi':=hi
  rw [hU] at hi'
  have hsa:=hs a (by simp)
  unfold ju
  by_cases hc:a.1<=s.2
  ·rw [aC hc]
   have hlt: (min s.1 a.1,max s.2 a.2).1< (min s.1 a.1,max s.2 a.2).2:=by dsimp only;omega
   obtain⟨h1,h2,h3,h4,h5⟩:=w7 l (min s.1 a.1,max s.2 a.2) hlt hi'.tail.tail (fun b hb=>by
    have:=(qE (l:=[a]) (m:=l)).1 hi
    have h6:=this.2.2 a (by simp) b hb
    have h7:=hsp b (f0 _ hb)
    dsimp only;omega)
   refine⟨h1,?_,h3,h4,fun x=>?_⟩
   ·rcases h2 with h2 | ⟨b,hb,h2⟩
    ·rw [h2]
     rcases Int.le_total s.1 a.1 with h6 | h6
     ·exact .inl (by simp only;omega)
     ·exact .inr ⟨a,by simp,by simp only;omega⟩
    ·exact .inr ⟨b,f0 _ hb,h2⟩
   ·rw [h5,zR,<-Bool.or_assoc]
    congr 1
    clear h1 h2 h3 h4 h5
    rw [dZ]
    simp only [dB,bL,bE]
    constructor
    ·intro h6
     by_cases h7:s.1<=x/\x<s.2
     ·exact .inl h7
     ·exact .inr (by omega)
    ·rintro(h6 | h6) <;> omega
  ·rw [aD hc]
   refine⟨h, .inl rfl,hi,fun t ht=>?_,fun x=>rfl⟩
   show s.2<t.1
   rcases cW.1 ht with rfl | ht
   ·omega
   ·have:=((qE (l:=[a]) (m:=l)).1 hi).2.2 a (by simp) t ht
    omega
theorem AP {l:List (Int×Int)} {c:Int} (h:iC (cU l)): ∀a∈l.dropWhile (fun a=>decide (a.2<c)),c<=a.2:=by
 induction l with
 | nil=>intro a ha;cases ha
 | cons b l ih=>
  have h':=h
  rw [hU] at h'
  rw [List.dropWhile_cons]
  by_cases hb:b.2<c
  ·rw [aC (by simpa using hb)];exact ih h'.tail.tail
  ·rw [aD (by simpa using hb)]
   intro a ha
   rcases cW.1 ha with rfl | ha
   ·omega
   ·have h1:=((qE (l:=[b]) (m:=l)).1 h).2.2 b (by simp) a ha
    have h2:=sS h a (f0 _ ha)
    omega
theorem AQ (l:List (Int×Int)) (c:Int): ∀a∈l.takeWhile (fun a=>decide (a.2<c)),a.2<c:=by
 induction l with
 | nil=>intro a ha;cases ha
 | cons b l ih=>
  rw [List.takeWhile_cons]
  by_cases hb:b.2<c
  ·rw [aC (by simpa using hb)]
   intro a ha
   rcases cW.1 ha with rfl | ha
   ·exact hb
   ·exact ih a ha
  ·rw [aD (by simpa using hb)]
   intro a ha;cases ha
theorem vF {l:List (Int×Int)} {s:Int×Int} (h:iC (cU l)) (hs:s.1<s.2):
  iC (cU (kM l s))/\∀x,hQ (kM l s) x= ((decide (s.1<=x)&&decide (x<s.2))||hQ l x):=by
 have hsplit:=h
 rw [<-List.takeWhile_append_dropWhile (p:=fun a:Int×Int=>decide (a.2<s.1)) (l:=l),qE] at hsplit
 obtain⟨h1,h2,h3⟩:=hsplit
 obtain⟨m1,m2,m3,m4,m5⟩:=w7 (l.dropWhile fun a=>decide (a.2<s.1)) s hs h2 (AP h)
 unfold kM
 refine⟨qE.2 ⟨h1,?_,fun a ha t ht=>?_⟩,fun x=>?_⟩
 ·rw [hU]
  have h4: ∀c∈cU (ju s (l.dropWhile fun a=>decide (a.2<s.1))).2,(ju s (l.dropWhile fun a=>decide (a.2<s.1))).1.2<c:=fun c hc=>by
   obtain⟨t,ht,hc⟩:=wH hc
   have:=m4 t ht
   have:=sS m3 t ht
   rcases hc with rfl | rfl <;> omega
  exact mO.2 ⟨fun c hc=>by
   rcases cW.1 hc with rfl | hc
   ·exact m1
   ·have:=h4 c hc;omega,mO.2 ⟨h4,m3⟩⟩
 ·have ha1:=AQ l s.1 a ha
  rcases cW.1 ht with rfl | ht
  ·rcases m2 with m2 | ⟨b,hb,m2⟩
   ·rw [m2];exact ha1
   ·rw [m2];exact h3 a ha b hb
  ·have h5:=m4 t ht
   rcases m2 with m2 | ⟨b,hb,m2⟩
   ·rw [m2] at m1;omega
   ·have:=h3 a ha b hb;rw [m2] at m1;omega
 ·rw [w6,m5]
  conv=>rhs;rw [<-List.takeWhile_append_dropWhile (p:=fun a:Int×Int=>decide (a.2<s.1)) (l:=l),w6]
  rw [Bool.or_left_comm]
end Go.Gk
namespace Go.Gk
open Go
def jf:List Int->List (Int×Int)
 | a::b::l=>(a,b)::jf (b::l)
 | _=>[]
theorem oM: ∀{xs:List Int},iC xs->∀s∈jf xs,s.1∈xs/\s.2∈xs/\s.1<s.2/\∀c∈xs,c<=s.1\/s.2<=c
 | [],_,s,hs=>by cases hs
 | [a],_,s,hs=>by cases hs
 | a::b::l,h,s,hs=>by
  have hab:=h.head b (by simp)
  rcases cW.1 hs with rfl | hs
  ·refine⟨by simp,by simp,hab,fun c hc=>?_⟩
   rcases cW.1 hc with rfl | hc
   ·exact .inl (Int.le_refl _)
   ·rcases cW.1 hc with rfl | hc
    ·exact .inr (Int.le_refl _)
    ·exact .inr (by have:=h.tail.head c hc;show b<=c;omega)
  ·obtain⟨h1,h2,h3,h4⟩:=oM h.tail s hs
   refine⟨f0 _ h1,f0 _ h2,h3,fun c hc=>?_⟩
   rcases cW.1 hc with rfl | hc
   ·exact .inl (by have:=h.head s.1 h1;omega)
   ·exact h4 c hc
theorem uF: ∀{xs:List Int},iC xs->∀x,(∃s∈jf xs,s.1<=x/\x<s.2)\/(∀c∈xs,x<c)\/(∀c∈xs,c<=x)
 | [],_,x=> .inr (.inl fun c hc=>by cases hc)
 | [a],_,x=>by
  by_cases h:x<a
  ·exact .inr (.inl fun c hc=>by simp at hc;omega)
  ·exact .inr (.inr fun c hc=>by simp at hc;omega)
 | a::b::l,h,x=>by
  have hab:=h.head b (by simp)
  rcases uF h.tail x with ⟨s,hs,h1⟩ | h1 | h1
  ·exact .inl ⟨s,f0 _ hs,h1⟩
  ·by_cases h2:x<a
   ·exact .inr (.inl fun c hc=>by
     rcases cW.1 hc with rfl | hc
     ·exact h2
     ·exact h1 c hc)
   ·exact .inl ⟨(a,b),by simp [jf],by show a<=x;omega,h1 b (by simp)⟩
  ·exact .inr (.inr fun c hc=>by
    rcases cW.1 hc with rfl | hc
    ·have:=h1 b (by simp);omega
    ·exact h1 c hc)
def Ends (a:List (Int×Int)) (xs:List Int):Prop:=∀s∈a,s.1∈xs/\s.2∈xs
theorem xI {a:List (Int×Int)} {xs:List Int} (he:Ends a xs) (hx:iC xs) {s:Int×Int} (hs:s∈jf xs) {x:Int} (h1:s.1<=x) (h2:x<s.2):hQ a x=hQ a s.1:=by
 obtain⟨_,_,h3,h4⟩:=oM hx s hs
 rw [dZ,qC,qC]
 constructor
 ·rintro⟨t,ht,h5,h6⟩
  have:=h4 _ (he t ht).1
  exact⟨t,ht,by omega,by omega⟩
 ·rintro⟨t,ht,h5,h6⟩
  have:=h4 _ (he t ht).2
  exact⟨t,ht,by omega,by omega⟩
theorem Eo {a:List (Int×Int)} {xs:List Int} (he:Ends a xs) {x:Int} (h: (∀c∈xs,x<c)\/(∀c∈xs,c<=x)):hQ a x=false:=by
 rw [<-j4,qC]
 rintro⟨t,ht,h5,h6⟩
 obtain⟨e1,e2⟩:=he t ht
 rcases h with h | h
 ·have:=h _ e1;omega
 ·have:=h _ e2;omega
def lf (fM:Bool->Bool->Bool) (a b:List (Int×Int)) (ss:List (Int×Int)) (out:List (Int×Int)):List (Int×Int):=
 ss.foldl (fun out s=>if fM (hQ a s.1) (hQ b s.1)=true then kM out s else out) out
theorem sT (fM:Bool->Bool->Bool) (a b:List (Int×Int)): ∀(ss out:List (Int×Int)),iC (cU out)->(∀s∈ss,s.1<s.2)->
  iC (cU (lf fM a b ss out))/\∀x,hQ (lf fM a b ss out) x= (hQ out x||ss.any fun s=>fM (hQ a s.1) (hQ b s.1)&&(decide (s.1<=x)&&decide (x<s.2)))
 | [],out,h,_=>⟨h,fun x=>by simp [lf]⟩
 | s::ss,out,h,hs=>by
  have h0:=hs s (by simp)
  unfold lf
  rw [List.foldl_cons]
  by_cases hk:fM (hQ a s.1) (hQ b s.1)=true
  ·rw [aC hk]
   obtain⟨j1,j2⟩:=vF h h0
   obtain⟨m1,m2⟩:=sT fM a b ss (kM out s) j1 (fun t ht=>hs t (f0 _ ht))
   refine⟨m1,fun x=>?_⟩
   rw [show hQ (List.foldl _ (kM out s) ss) x=_ from m2 x,j2,List.any_cons,hk,Bool.true_and]
   cases hQ out x <;> simp
  ·rw [aD hk]
   obtain⟨m1,m2⟩:=sT fM a b ss out h (fun t ht=>hs t (f0 _ ht))
   refine⟨m1,fun x=>?_⟩
   rw [show hQ (List.foldl _ out ss) x=_ from m2 x,List.any_cons,eq_false_of_ne_true hk,Bool.false_and,Bool.false_or]
theorem Ci {fM:Bool->Bool->Bool} (hk:fM false false=false) {a b:List (Int×Int)} {xs:List Int} (hx:iC xs) (ha:Ends a xs) (hb:Ends b xs):
  iC (cU (lf fM a b (jf xs) []))/\∀x,hQ (lf fM a b (jf xs) []) x=fM (hQ a x) (hQ b x):=by
 obtain⟨m1,m2⟩:=sT fM a b (jf xs) [] jh (fun s hs=>(oM hx s hs).2.2.1)
 refine⟨m1,fun x=>?_⟩
 rw [m2,show hQ [] x=false from rfl,Bool.false_or]
 rcases uF hx x with ⟨s,hs,h1,h2⟩ | h
 ·rw [dZ,jC]
  constructor
  ·rintro⟨t,ht,h3⟩
   rw [bL,bL,bE,bE] at h3
   rw [xI ha hx ht h3.2.1 h3.2.2,xI hb hx ht h3.2.1 h3.2.2];exact h3.1
  ·intro h3
   rw [xI ha hx hs h1 h2,xI hb hx hs h1 h2] at h3
   exact⟨s,hs,by rw [h3,bB h1,bB h2];rfl⟩
 ·rw [Eo ha h,Eo hb h,hk,<-j4,jC]
  rintro⟨t,ht,h3⟩
  rw [bL,bL,bE,bE] at h3
  obtain⟨e1,e2,_⟩:=oM hx t ht
  rcases h with h | h
  ·have:=h _ e1;omega
  ·have:=h _ e2;omega
def lh (f:Int->List Int) (ss:List (Int×Int)) (out:List Bd):List Bd:=ss.foldl (fun out s=>iD out ⟨s.1,s.2,f s.1⟩) out
theorem w8 (f:Int->List Int) (hf: ∀y,iC (f y)/\(f y).length % 2=0): ∀(ys:List Int) (out:List Bd),iC ys->dX out->(∀c∈out,∀y∈ys,c.y1<=y)->
  dX (lh f (jf ys) out)/\∀y,rowAt (lh f (jf ys) out) y=match (jf ys).find? (fun s=>decide (s.1<=y)&&decide (y<s.2)) with | some s=>f s.1 | none=>rowAt out y
 | [],out,_,h,_=>⟨h,fun y=>rfl⟩
 | [a],out,_,h,_=>⟨h,fun y=>rfl⟩
 | a::b::l,out,hi,h,ho=>by
  have hab:=hi.head b (by simp)
  have ho1: ∀c∈out,c.y1<=(⟨a,b,f a⟩:Bd).y0:=fun c hc=>ho c hc a (by simp)
  have hc:=tA (b:=⟨a,b,f a⟩) h ho1 (hf a).1 (hf a).2
  have htop:=tB (b:=⟨a,b,f a⟩) ho1 (by show a<=b;omega)
  obtain⟨m1,m2⟩:=w8 f hf (b::l) (iD out ⟨a,b,f a⟩) hi.tail hc (fun c hc' y hy=>by
   have h1:=htop c hc'
   have h2:b<=y:=by
    rcases cW.1 hy with rfl | hy
    ·exact Int.le_refl _
    ·have:=hi.tail.head y hy;omega
   have h3:c.y1<=b:=h1
   omega)
  refine⟨m1,fun y=>?_⟩
  show rowAt (lh f (jf (b::l)) (iD out ⟨a,b,f a⟩)) y=_
  rw [m2 y,show jf (a::b::l)= (a,b)::jf (b::l) from rfl,List.find?_cons]
  have hrow:=tz (s:=out) (b:=⟨a,b,f a⟩) ho1 (fun c hc=>(h.each c hc).1) (fun h=>absurd h (by show ¬b<=a;omega)) y
  by_cases hy:a<=y/\y<b
  ·have e: (decide (a<=y)&&decide (y<b))=true:=by rw [bB hy.1,bB hy.2];rfl
   have hn: (jf (b::l)).find? (fun s=>decide (s.1<=y)&&decide (y<s.2))=none:=by
    rw [List.find?_eq_none]
    intro s hs
    have:=(oM hi.tail s hs).1
    have h5:b<=s.1:=by
     rcases cW.1 this with h6 | h6
     ·omega
     ·have:=hi.tail.head _ h6;omega
    simp;omega
   rw [hn]
   show rowAt (iD out ⟨a,b,f a⟩) y=_
   rw [hrow,aC hy,e]
  ·have e: (decide (a<=y)&&decide (y<b))=false:=by
    rw [Bool.and_eq_false_iff,decide_eq_false_iff_not,decide_eq_false_iff_not];omega
   rw [e]
   cases (jf (b::l)).find? (fun s=>decide (s.1<=y)&&decide (y<s.2)) with
   | some s=>rfl
   | none=>
    show rowAt (iD out ⟨a,b,f a⟩) y=rowAt out y
    rw [hrow,aD hy]
theorem w9 {f:Int->List Int} (hf: ∀y,iC (f y)/\(f y).length % 2=0) {ys:List Int} (hy:iC ys) (h1: ∀s∈jf ys,∀y,s.1<=y->y<s.2->f y=f s.1) (h2: ∀y,((∀c∈ys,y<c)\/(∀c∈ys,c<=y))->f y= []):
  dX (lh f (jf ys) [])/\∀y,rowAt (lh f (jf ys) []) y=f y:=by
 obtain⟨m1,m2⟩:=w8 f hf ys [] hy dX.nil (fun c hc=>by cases hc)
 refine⟨m1,fun y=>?_⟩
 rw [m2 y]
 cases Js: (jf ys).find? (fun s=>decide (s.1<=y)&&decide (y<s.2)) with
 | some s=>
  have h3:=List.find?_some Js
  rw [bL,bE,bE] at h3
  exact(h1 s (List.mem_of_find?_eq_some Js) y h3.1 h3.2).symm
 | none=>
  show rowAt [] y=f y
  rcases uF hy y with ⟨s,hs,h3,h4⟩ | h3
  ·have:=List.find?_eq_none.1 Js s hs
   rw [bB h3,bB h4] at this
   exact absurd rfl this
  ·rw [h2 y h3];rfl
end Go.Gk
namespace Go.Gk
open Go
def Ok {β:Type} (o:Option β) (P:β->Prop):Prop:=∃r,o=some r/\P r
section
variable {α β S R:Type} {P:α->Prop} {Q:β->Prop}
theorem Ok.ret {x:β} (h:Q x):Ok (some x) Q:=⟨x,rfl,h⟩
theorem Ok.of {o:Option β} {x:β} (h:o=some x) (hq:Q x):Ok o Q:=⟨x,h,hq⟩
theorem Ok.mono {o:Option α} {P':α->Prop} (h:Ok o P) (k: ∀x,P x->P' x):Ok o P':=by obtain⟨x,h1,h2⟩:=h;exact⟨x,h1,k x h2⟩
theorem Ok.bind {o:Option α} {f:α->Option β} (h:Ok o P) (k: ∀x,P x->Ok (f x) Q):Ok (o.bind f) Q:=by
 obtain⟨x,h1,h2⟩:=h;rw [h1];exact k x h2
theorem Ok.eq {o:Option α} {f:α->Option β} {x:α} (h:o=some x) (k:Ok (f x) Q):Ok (o.bind f) Q:=by rw [h];exact k
theorem Ok.bif {b:Bool} {x y:Option β} (ht:b=true->Ok x Q) (hf:b=false->Ok y Q):Ok (bif b then x else y) Q:=by
 cases b with
 | true=>exact ht rfl
 | false=>exact hf rfl
theorem Ok.get {o:Option β} {x:β} (h:Ok o (fun r=>r=x)):o=some x:=by obtain⟨r,h1,h2⟩:=h;rw [h1,h2]
def KL (Go:S->Prop) (Rt:R->Prop):Fo S R->Prop | .go s=>Go s | .rt r=>Rt r
def Hf (Nx Br:S->Prop) (Rt:R->Prop):Fl S R->Prop | .nx s=>Nx s | .br s=>Br s | .rt r=>Rt r
theorem Ok.nx {Nx Br:S->Prop} {Rt:R->Prop} {s:S} (h:Nx s):Ok (some (Fl.nx s)) (Hf Nx Br Rt):=⟨_,rfl,h⟩
theorem Ok.br {Nx Br:S->Prop} {Rt:R->Prop} {s:S} (h:Br s):Ok (some (Fl.br s)) (Hf Nx Br Rt):=⟨_,rfl,h⟩
theorem Ok.rt {Nx Br:S->Prop} {Rt:R->Prop} {r:R} (h:Rt r):Ok (some (Fl.rt r:Fl S R)) (Hf Nx Br Rt):=⟨_,rfl,h⟩
theorem Ok.cs {Go:S->Prop} {Rt:R->Prop} {o:Fo S R} {f:S->Option β} {g:R->Option β} (h:KL Go Rt o) (hf: ∀s,Go s->Ok (f s) Q) (hg: ∀r,Rt r->Ok (g r) Q):Ok (o.cs f g) Q:=by
 cases o with
 | go s=>exact hf s h
 | rt r=>exact hg r h
theorem Ok.lV {body:Nat->S->Option S} {m:Nat} {s:S} (Inv:Nat->S->Prop) (hm:m<=4611686018427387904) (h0:Inv 0 s) (h: ∀k s,k<m->Inv k s->Ok (body k s) (Inv (k+1))):Ok (lV m body s) (Inv m):=
 xH Inv hm h0 h
theorem Ok.rH {body:Nat->S->Option (Fl S R)} {m:Nat} {s:S} (Inv:Nat->S->Prop) {Go:S->Prop} {Rt:R->Prop} (hm:m<=4611686018427387904) (h0:Inv 0 s)
  (h: ∀k s,k<m->Inv k s->Ok (body k s) (Hf (Inv (k+1)) Go Rt)) (hg: ∀s,Inv m s->Go s):Ok (rH m body s) (KL Go Rt):=by
 obtain⟨o,h1,h2⟩:=HF (R:=R) Inv Go Rt hm h0 (fun k s hk hi=>by
  obtain⟨fl,a1,a2⟩:=h k s hk hi
  exact⟨fl,a1,by cases fl <;> exact a2⟩) hg
 exact⟨o,h1,by cases o <;> exact h2⟩
theorem Ok.iY {body:S->Option (Fl S R)} {N:Nat} {s:S} (Inv:S->Prop) (μ:S->Nat) {Go:S->Prop} {Rt:R->Prop}
  (h: ∀s,Inv s->Ok (body s) (Hf (fun s'=>Inv s'/\μ s'<μ s) Go Rt)) (hi:Inv s) (hn:μ s<N):Ok (iY body N s) (KL Go Rt):=by
 obtain⟨o,h1,h2⟩:=vl (R:=R) Inv μ Go Rt (fun s hi=>by
  obtain⟨fl,a1,a2⟩:=h s hi
  exact⟨fl,a1,by cases fl <;> exact a2⟩) N s hi hn
 exact⟨o,h1,by cases o <;> exact h2⟩
theorem Ok.app {b:Nat} {l ys:List α} {f:List α->Option β} (h: (l.length+ys.length)*b<=140737488355328) (k:Ok (f (l++ys)) Q):Ok ((Go.Gk.app b l ys).bind f) Q:=by rw [iK h];exact k
theorem Ok.idx {l:List α} {i:Nat} {f:α->Option β} (h:i<l.length) (k:Ok (f l[i]) Q):Ok ((Go.Gk.idx l ((i:Nat):Int)).bind f) Q:=by rw [j7 l i h];exact k
theorem Ok.ix {l:List α} {i:Nat} {x:α} {f:α->Option β} (h:l[i]? =some x) (k:Ok (f x) Q):Ok ((Go.Gk.idx l ((i:Nat):Int)).bind f) Q:=by rw [dG h];exact k
end
theorem Cj {n:Nat} (h:n<=4611686018427387904):IntKind.wrap .i64 ((n:Nat):Int)= ((n:Nat):Int):=eG (by omega) (by omega)
theorem wrap_add {n m:Nat} (h:n+m<=4611686018427387904):IntKind.wrap .i64 (((n:Nat):Int)+ ((m:Nat):Int))= ((n+m:Nat):Int):=by rw [eG (by omega) (by omega)];simp
theorem bQ {n:Nat} (h:n+1<=4611686018427387904):IntKind.wrap .i64 (((n:Nat):Int)+1)= ((n+1:Nat):Int):=by rw [eG (by omega) (by omega)];simp
theorem zT {n:Nat} (h:n+2<=4611686018427387904):IntKind.wrap .i64 (((n:Nat):Int)+2)= ((n+2:Nat):Int):=by rw [eG (by omega) (by omega)];simp
theorem eC {α:Type} [DecidableEq α]: ∀{l m:List α},l.Nodup->(∀x∈l,x∈m)->l.length<=m.length
 | [],m,_,_=>eN _
 | a::l,m,hn,hs=>by
  have ha:a∈m:=hs a (by simp)
  have hn':=List.nodup_cons.1 hn
  have:=eC (l:=l) (m:=m.erase a) hn'.2 (fun x hx=>by
   rw [List.mem_erase_of_ne (fun e=>hn'.1 (by rw [<-e];exact hx))]
   exact hs x (f0 _ hx))
  rw [List.length_erase_of_mem ha] at this
  have:=List.length_pos_of_mem ha
  simp;omega
section
variable {α:Type} {N:Nat}
def KM (z:α) (N:Nat) (p0:List α) (p1:α->Option Bool):Option (List α):=
 (rk p0 p1).bind fun x31=>bif (x31==(-1)) then (some p0) else ((iY (fun(s33: (List α)×Int×Int)=>(bif (decide (s33.2.2< (s33.1.length:Int))) then ((idx s33.1 s33.2.2).bind fun x54=>(p1 x54).bind fun x58=>(bif (!x58) then ((idx s33.1 s33.2.1).bind fun x63=>some ((s33.1.set (Int.toNat s33.2.1) x54),(IntKind.wrap .i64 (s33.2.1+1)))) else (some (s33.1,s33.2.1))).bind fun s61=>some (.nx (s61.1,s61.2,(IntKind.wrap .i64 (s33.2.2+1))))) else (some (.br (s33.1,s33.2.1,s33.2.2))):Option (Fl ((List α)×Int×Int) Empty))) N (p0,x31,(IntKind.wrap .i64 (x31+1)))).bind fun o67=>o67.cs (fun(s33: (List α)×Int×Int)=>(p9 s33.1 s33.2.1 (s33.1.length:Int)).bind fun x64=>(p9 (s33.1.take (Int.toNat s33.2.1)++List.replicate (s33.1.length - Int.toNat s33.2.1) z) 0 s33.2.1).bind fun x65=>some x65) (fun r=>r.elim))
theorem GA {z:α} {l:List α} {φ:α->Option Bool} (p:α->Bool) (hφ: ∀x∈l,φ x=some (p x)) (hl:l.length<=4611686018427387000) (hN:l.length<N):KM z N l φ=some (l.filter (fun x=> !p x)):=by
 unfold KM
 rw [pU p (by omega) hφ,aB]
 rcases tw l p with ⟨h1,h2⟩ | ⟨k,x,h1,h2,h3,h4⟩
 ·rw [h1]
  have:l.filter (fun x=> !p x)=l:=List.filter_eq_self.2 fun a ha=>by rw [h2 a ha];rfl
  rw [this];rfl
 ·rw [h1,show (((k:Nat):Int)== -1)=false by simp,aM]
  have hk:=(aU.1 h2).1
  have hpre: (l.take k).filter (fun x=> !p x)=l.take k:=List.filter_eq_self.2 fun a ha=>by
   obtain⟨j,hj⟩:=dF ha
   have hjk:j<k:=by have:=(aU.1 hj).1;rw [cF] at this;omega
   rw [List.getElem?_take_of_lt hjk] at hj
   rw [h4 j a hjk hj];rfl
  have hst:l.take (k+1)=l.take k++[x]:=by
   rw [dT hk];congr 1
   have:=(aU.1 h2).2;rw [this]
  have hk1:IntKind.wrap .i64 (((k:Nat):Int)+1)= ((k+1:Nat):Int):=by rw [eG (by omega) (by omega)];omega
  rw [hk1]
  obtain⟨o,a1,a2⟩:=vl (S:=(List α)×Int×Int) (R:=Empty) (body:=fun(s33: (List α)×Int×Int)=>(bif (decide (s33.2.2< (s33.1.length:Int))) then ((idx s33.1 s33.2.2).bind fun x54=>(φ x54).bind fun x58=>(bif (!x58) then ((idx s33.1 s33.2.1).bind fun x63=>some ((s33.1.set (Int.toNat s33.2.1) x54),(IntKind.wrap .i64 (s33.2.1+1)))) else (some (s33.1,s33.2.1))).bind fun s61=>some (.nx (s61.1,s61.2,(IntKind.wrap .i64 (s33.2.2+1))))) else (some (.br (s33.1,s33.2.1,s33.2.2))):Option (Fl ((List α)×Int×Int) Empty)))
   (fun s=>∃i j:Nat,s.2.1= ((i:Nat):Int)/\s.2.2= ((j:Nat):Int)/\i<j/\j<=l.length/\s.1.length=l.length/\s.1.take i= (l.take j).filter (fun x=> !p x)/\∀m,j<=m->s.1[m]? =l[m]?)
   (fun s=>l.length - s.2.2.toNat) (fun s=>∃i:Nat,s.2.1= ((i:Nat):Int)/\i<=l.length/\s.1.length=l.length/\s.1.take i=l.filter (fun x=> !p x)) (fun _=>True) (fun s ⟨i,j,e1,e2,hij,hj,hlen,ht,hd⟩=>by
    obtain⟨s,a,b⟩:=s
    dsimp only at e1 e2 hlen ht hd ⊢
    subst e1;subst e2
    by_cases hlt:j<l.length
    ·rw [bB (by rw [hlen];omega),aO]
     have hx:s[j]? =some l[j]:=by rw [hd j (bD _)];exact aL hlt
     have w1:IntKind.wrap .i64 (((j:Nat):Int)+1)= ((j+1:Nat):Int):=by rw [eG (by omega) (by omega)];omega
     have w2:IntKind.wrap .i64 (((i:Nat):Int)+1)= ((i+1:Nat):Int):=by rw [eG (by omega) (by omega)];omega
     have hs2:l.take (j+1)=l.take j++[l[j]]:=dT hlt
     rw [dG hx,aB,hφ _ (cJ hlt),aB,w1]
     cases hp:p l[j] with
     | true=>
      refine⟨.nx (s,((i:Nat):Int),((j+1:Nat):Int)),by rw [jB,aM,aB],⟨i,j+1,rfl,rfl,by omega,by omega,hlen,?_,fun m hm=>hd m (by omega)⟩,?_⟩
      ·rw [hs2,iO,ht];simp [hp]
      ·simp only [cA];omega
     | false=>
      refine⟨.nx (s.set i l[j],((i+1:Nat):Int),((j+1:Nat):Int)),by rw [mQ,aO,j7 _ _ (by omega),aB,cA,w2,aB],⟨i+1,j+1,rfl,rfl,by omega,by omega,by simp [hlen],?_,fun m hm=>?_⟩,?_⟩
      ·rw [hs2,iO,<-ht]
       have: (s.set i l[j]).take (i+1)=s.take i++[l[j]]:=by
        rw [dT (by simp;omega),List.take_set_of_le (bD _)];simp
       rw [this];simp [hp]
      ·rw [eF,aD (by omega)];exact hd m (by omega)
      ·simp only [cA];omega
    ·rw [bF (by rw [hlen];omega),aM]
     have hje:j=l.length:=by omega
     subst hje
     rw [eE] at ht
     exact⟨.br (s,((i:Nat):Int),((l.length:Nat):Int)),rfl,i,rfl,by omega,hlen,ht⟩)
   N (l,((k:Nat):Int),((k+1:Nat):Int)) ⟨k,k+1,rfl,rfl,by omega,by omega,rfl,by rw [hst,iO,hpre];simp [h3],fun _ _=>rfl⟩ (by simp only [cA];omega)
  rw [a1,aB]
  cases o with
  | rt r=>exact r.elim
  | go s=>
   obtain⟨i,e1,hi,hlen,ht⟩:=a2
   obtain⟨s,a,b⟩:=s
   dsimp only at e1 hlen ht
   subst e1
   simp only [Fo.cs]
   rw [nR _ _ (by omega),aB,cA,oW _ _ (by simp;omega),aB,List.take_append_of_le_length (by simp;omega),List.take_take,Nat.min_self,ht]
end
section
variable {κ ν:Type} [DecidableEq κ]
theorem qF (m:List (κ×ν)) (k k':κ) (x z:ν):dL (nP m k x) k' z=if k'=k then x else dL m k' z:=by
 induction m with
 | nil=>unfold nP dL;by_cases h:k'=k <;> simp [h]
 | cons p m ih=>
  unfold nP
  by_cases h:k=p.1
  ·rw [aC h]
   by_cases h':k'=k
   ·subst h';simp [dL]
   ·simp only [dL,List.find?_cons,aD h',bF h']
    rw [bF (fun e=>h' (e.trans h.symm))]
  ·rw [aD h]
   by_cases h':k'=p.1
   ·have:k'≠k:=fun e=>h (e.symm.trans h')
    simp only [dL,List.find?_cons,bB h',aD this]
   ·unfold dL at ih ⊢
    simp only [List.find?_cons,bF h']
    exact ih
theorem wI (m:List (κ×ν)) (k k':κ) (x:ν):fH (nP m k x) k'= (decide (k'=k)||fH m k'):=by
 induction m with
 | nil=>unfold nP fH;simp
 | cons p m ih=>
  unfold nP
  by_cases h:k=p.1
  ·rw [aC h]
   by_cases h':k'=k
   ·simp [fH,h']
   ·simp only [fH,List.any_cons,bF h',Bool.false_or]
    rw [bF (fun e=>h' (e.trans h.symm)),Bool.false_or]
  ·rw [aD h]
   unfold fH at ih ⊢
   simp only [List.any_cons]
   rw [ih]
   cases decide (k'=p.1) <;> cases decide (k'=k) <;> simp
end
end Go.Gk
namespace Go.Gk
open Go
section
variable {N:Nat}
theorem yn (l:List Int) (a b:Nat) (h:a+b<l.length):C7 l ((a:Nat):Int) ((b:Nat):Int)=some l[a+b]:=by
 unfold C7
 rw [aC (by omega),show ((a:Nat):Int)+ ((b:Nat):Int)= ((a+b:Nat):Int) by omega,j7 _ _ h]
theorem iC.GB {l:List Int} {a:Int} (h:iC l) (hl: ∀c∈l,c<a):iC (l++[a]):=by
 unfold iC
 rw [lT]
 exact⟨h,List.pairwise_singleton _ _,fun c hc d hd=>by simp at hd;subst hd;exact hl c hc⟩
theorem iC.last {l:List Int} {a:Int} (h:iC l) (hl:l.getLast? =some a): ∀c∈l,c<=a:=by
 intro c hc
 have hs:=o6 hl
 rw [hs] at h hc
 rcases cV.1 hc with h1 | h1
 ·have:=(lT.1 h).2.2 c h1 a (by simp);omega
 ·simp at h1;omega
theorem AR {l:List Int} (hs:l.Pairwise (fun x y=>x<=y)) (hl:l.length<=4611686018427387000) (hN:l.length<N):
  Ok (gh N l) (fun m=>iC m/\∀c,c∈m↔c∈l):=by
 unfold gh
 refine Ok.bif (fun h2=>Ok.ret ⟨?_,fun c=>Iff.rfl⟩) (fun h2=>?_)
 ·have h2:=of_decide_eq_true h2
  match l,h2 with
  | [],_=>exact jh
  | [a],_=>exact List.pairwise_singleton _ _
  | a::b::l,h2=>simp at h2;omega
 ·have h2:=of_decide_eq_false h2
  have le: ∀(i j:Nat) (x y:Int),i<j->l[i]? =some x->l[j]? =some y->x<=y:=fun i j x y hij hx hy=>by
   have:=kA.1 hs i j (aU.1 hx).1 (aU.1 hy).1 hij
   rw [(aU.1 hx).2,(aU.1 hy).2] at this;exact this
  refine Ok.bind (Ok.iY (Go:=fun _=>iC l) (Rt:=fun m=>iC m/\∀c,c∈m↔c∈l) (fun s=>∃k:Nat,s= ((k:Nat):Int)/\1<=k/\k<=l.length/\iC (l.take k)) (fun s=>l.length - s.toNat) ?_ ⟨1,rfl,bD _,by omega,?_⟩ (by simp;omega)) ?_
  ·rintro s ⟨k,rfl,hk1,hkl,hinc⟩
   refine Ok.bif (fun h=>?_) (fun h=>Ok.br ?_)
   ·have hk:k<l.length:=by have:=of_decide_eq_true h;omega
    refine Ok.idx hk ?_
    rw [fW hk1 (by omega)]
    refine Ok.idx (by omega) ?_
    refine Ok.bif (fun he=>?_) (fun he=>?_)
    ·have he:l[k]=l[k - 1]:=by simpa using he
     refine Ok.eq (nR l k hkl) ?_
     refine Ok.bind (Ok.iY (Go:=fun s=>∃i:Nat,s.2.1= ((i:Nat):Int)/\i<=l.length/\s.1.length=l.length/\iC (s.1.take i)/\∀c,c∈s.1.take i↔c∈l) (Rt:=fun _=>True)
      (fun s=>∃i j:Nat,s.2.1= ((i:Nat):Int)/\s.2.2= ((j:Nat):Int)/\1<=j/\k+j<=l.length/\i<=k+j - 1/\s.1.length=l.length/\iC (s.1.take i)/\(s.1.take i).getLast? =l[k+j - 1]? /\
       (∀c,c∈s.1.take i↔c∈l.take (k+j))/\∀m,k+j - 1<=m->s.1[m]? =l[m]?) (fun s=>l.length - s.2.2.toNat) ?_ ?_ (by simp;omega)) ?_
     ·rintro⟨u,a,b⟩ ⟨i,j,e1,e2,hj,hjl,hij,hlen,hi,hlast,hmem,hrest⟩
      dsimp only at e1 e2 hlen hi hlast hmem hrest ⊢
      subst e1;subst e2
      rw [cA]
      refine Ok.bif (fun h=>?_) (fun h=>Ok.br ?_)
      ·have hlt:k+j<l.length:=by have:=of_decide_eq_true h;omega
       have hx:u[k+j]'(by omega)=l[k+j]:=by have:=hrest (k+j) (by omega);rw [aL (by omega),aL hlt] at this;injection this
       have hy:u[k+ (j - 1)]'(by omega)=l[k+ (j - 1)]:=by have:=hrest (k+ (j - 1)) (by omega);rw [aL (by omega),aL (by omega)] at this;injection this
       refine Ok.eq (yn u k j (by omega)) ?_
       rw [fW hj (by omega)]
       refine Ok.eq (yn u k (j - 1) (by omega)) ?_
       rw [hx,hy]
       have hts:l.take (k+j+1)=l.take (k+j)++[l[k+j]]:=dT hlt
       have hlast': (u.take i).getLast? =some l[k+ (j - 1)]:=by rw [hlast,show k+j - 1=k+ (j - 1) by omega,aL (by omega)]
       have hxy:l[k+ (j - 1)]<=l[k+j]:=le (k+ (j - 1)) (k+j) _ _ (by omega) (aL _) (aL _)
       refine Ok.bind (P:=fun s'=>s'.1.length=l.length/\∃i':Nat,s'.2= ((i':Nat):Int)/\i'<=k+j/\iC (s'.1.take i')/\(s'.1.take i').getLast? =l[k+j]? /\(∀c,c∈s'.1.take i'↔c∈l.take (k+j+1))/\∀m,k+j<=m->s'.1[m]? =l[m]?) ?_ ?_
       ·refine Ok.bif (fun hne=>?_) (fun hne=>Ok.ret ?_)
        ·have hne:l[k+j]≠l[k+ (j - 1)]:=by simpa using hne
         refine Ok.eq (yn u k j (by omega)) ?_
         rw [hx]
         refine Ok.idx (by omega) (Ok.ret ⟨by simp [hlen],i+1,?_,by omega,?_⟩)
         ·rw [bQ (by omega)]
         ·dsimp only
          rw [cA]
          have ht: (u.set i l[k+j]).take (i+1)=u.take i++[l[k+j]]:=by
           rw [dT (by simp;omega),List.take_set_of_le (bD _)];simp
          rw [ht]
          refine⟨hi.GB fun c hc=>?_,by simp [aL hlt],fun c=>?_,fun m hm=>?_⟩
          ·have:=hi.last hlast' c hc;omega
          ·rw [hts,cV,cV,hmem]
          ·rw [eF,aD (by omega)];exact hrest m (by omega)
        ·have he:l[k+j]=l[k+ (j - 1)]:=by simpa using hne
         refine⟨hlen,i,rfl,by omega,hi,?_,fun c=>?_,fun m hm=>hrest m (by omega)⟩
         ·dsimp only;rw [hlast',aL hlt,he]
         ·rw [hts,cV,<-hmem]
          constructor
          ·exact .inl
          ·rintro(h | h)
           ·exact h
           ·simp at h;subst h
            rw [he];exact List.mem_of_getLast? hlast'
       ·rintro⟨v,a⟩ ⟨g1,i',g2,g3,g4,g5,g6,g7⟩
        dsimp only at g1 g2 g4 g5 g6 g7 ⊢
        refine Ok.nx ⟨⟨i',j+1,g2,?_,by omega,by omega,by omega,g1,g4,?_,g6,fun m hm=>g7 m (by omega)⟩,?_⟩
        ·rw [bQ (by omega)]
        ·rw [show k+ (j+1) - 1=k+j by omega];exact g5
        ·rw [bQ (by omega)];simp only [cA];omega
      ·have hge:k+j=l.length:=by have:=of_decide_eq_false h;omega
       refine⟨i,rfl,by omega,hlen,hi,fun c=>?_⟩
       rw [hmem,hge,eE]
     ·refine⟨k,1,rfl,rfl,bD _,by omega,by omega,rfl,hinc,?_,fun c=>?_,fun m _=>rfl⟩
      ·dsimp only
       rw [show k+1 - 1=k by omega,aL hk,he,List.getLast?_eq_getElem?,cF,Nat.min_eq_left hkl,List.getElem?_take_of_lt (by omega),aL (by omega)]
      ·dsimp only
       rw [dT hk,cV]
       constructor
       ·exact .inl
       ·rintro(h | h)
        ·exact h
        ·simp at h;subst h;rw [he]
         refine dU (i:=k - 1) ?_
         rw [List.getElem?_take_of_lt (by omega),aL (by omega)]
     ·rintro o ho
      refine Ok.cs ho ?_ (fun r=>r.elim)
      rintro⟨u,a,b⟩ ⟨i,e1,hi,hlen,hinc',hmem⟩
      dsimp only at e1 hlen hinc' hmem ⊢
      subst e1
      refine Ok.eq (nR u i (by omega)) ?_
      rw [cA]
      refine Ok.eq (oW _ i (by simp;omega)) (Ok.rt ?_)
      rw [List.take_append_of_le_length (by simp;omega),List.take_take,Nat.min_self]
      exact⟨hinc',hmem⟩
    ·have he:l[k]≠l[k - 1]:=by simpa using he
     refine Ok.nx ⟨⟨k+1,by rw [bQ (by omega)],by omega,by omega,?_⟩,by rw [bQ (by omega)];simp only [cA];omega⟩
     rw [dT hk]
     refine hinc.GB fun c hc=>?_
     have hlast: (l.take k).getLast? =some l[k - 1]:=by
      rw [List.getLast?_eq_getElem?,cF,Nat.min_eq_left hkl,List.getElem?_take_of_lt (by omega),aL (by omega)]
     have h3:=hinc.last hlast c hc
     have h4:=le (k - 1) k _ _ (by omega) (aL (by omega:k - 1<l.length)) (aL hk)
     omega
   ·have hge:k=l.length:=by have:=of_decide_eq_false h;omega
    subst hge;rw [eE] at hinc;exact hinc
  ·match l,h2 with
   | [],h2=>simp at h2
   | a::l,_=>exact List.pairwise_singleton _ _
  ·rintro o ho
   exact Ok.cs ho (fun s h=>Ok.ret ⟨h,fun c=>Iff.rfl⟩) (fun r h=>Ok.ret h)
def qG (l:List aH):List Int:=l.flatMap fun r=>[r.X0,r.X1]
def ik (l:List aH):List Int:=l.flatMap fun r=>[r.Y0,r.Y1]
theorem qH {l:List aH} {c:Int}:c∈qG l↔∃r∈l,c=r.X0\/c=r.X1:=by unfold qG;simp [List.mem_flatMap]
theorem kp {l:List aH} {c:Int}:c∈ik l↔∃r∈l,c=r.Y0\/c=r.Y1:=by unfold ik;simp [List.mem_flatMap]
theorem kS (l:List aH): (qG l).length=2*l.length:=by
 induction l with
 | nil=>rfl
 | cons r l ih=>unfold qG at *;simp [List.flatMap_cons,ih];omega
theorem iu (l:List aH): (ik l).length=2*l.length:=by
 induction l with
 | nil=>rfl
 | cons r l ih=>unfold ik at *;simp [List.flatMap_cons,ih];omega
def uQ (X Y:List Int) (s:List Bd):Prop:=∀b∈s,b.y0∈Y/\b.y1∈Y/\∀c∈b.xs,c∈X
theorem uQ.push {X Y:List Int} {s:List Bd} {b:Bd} (h:uQ X Y s) (h0:b.y0∈Y) (h1:b.y1∈Y) (h2: ∀c∈b.xs,c∈X):uQ X Y (iD s b):=by
 intro c hc
 unfold iD at hc
 split at hc
 ·exact h c hc
 ·split at hc
  ·rename_i d hd
   have hdm:d∈s:=List.mem_of_getLast? hd
   split at hc
   ·rcases cV.1 hc with hc | hc
    ·exact h c (List.dropLast_subset _ hc)
    ·simp at hc;subst hc;exact⟨(h d hdm).1,h1,(h d hdm).2.2⟩
   ·rcases cV.1 hc with hc | hc
    ·exact h c hc
    ·simp at hc;subst hc;exact⟨h0,h1,h2⟩
  ·simp at hc;subst hc;exact⟨h0,h1,h2⟩
theorem iC.nodup {l:List Int} (h:iC l):l.Nodup:=List.Pairwise.imp (fun h=>by omega) h
theorem uQ.row {X Y:List Int} {s:List Bd} (h:uQ X Y s) (hc:dX s) {b:Bd} (hb:b∈s):b.xs.length<=X.length:=eC (hc.each b hb).2.2.1.nodup (h b hb).2.2
theorem uQ.len {X Y:List Int} {s:List Bd} (h:uQ X Y s) (hc:dX s):s.length<=Y.length:=by
 have hn: (s.map Bd.y0).Nodup:=by
  unfold List.Nodup
  rw [List.pairwise_map]
  refine List.Pairwise.imp_of_mem (fun{a b} ha hb hab=>?_) hc.ord
  have:=(hc.each a ha).1
  have:=hab.1
  omega
 have:=eC hn (m:=Y) (fun x hx=>by
  obtain⟨b,hb,rfl⟩:=cP.1 hx
  exact(h b hb).1)
 rwa [cE] at this
theorem uQ.mono {X Y X' Y':List Int} {s:List Bd} (h:uQ X Y s) (hx: ∀c∈X,c∈X') (hy: ∀c∈Y,c∈Y'):uQ X' Y' s:=fun b hb=>⟨hy _ (h b hb).1,hy _ (h b hb).2.1,fun c hc=>hx c ((h b hb).2.2 c hc)⟩
theorem E9 (s:List Bd) (b:Bd): (iD s b).length<=s.length+1:=by
 unfold iD
 split
 ·omega
 ·split
  ·rename_i d hd
   have hsp:=o6 hd
   have:s.length=s.dropLast.length+1:=by
    conv=>lhs;rw [hsp]
    simp
   split <;> simp <;> omega
  ·simp
theorem iC.lt {l:List Int} (h:iC l) {i j:Nat} {x y:Int} (hij:i<j) (hx:l[i]? =some x) (hy:l[j]? =some y):x<y:=by
 have:=kA.1 h i j (aU.1 hx).1 (aU.1 hy).1 hij
 rw [(aU.1 hx).2,(aU.1 hy).2] at this;exact this
theorem iC.next {l:List Int} (h:iC l) {k:Nat} {x y c:Int} (hx:l[k]? =some x) (hy:l[k+1]? =some y) (hc:c∈l) (hxc:x<c):y<=c:=by
 obtain⟨j,hj⟩:=dF hc
 rcases Nat.lt_trichotomy j (k+1) with h1 | h1 | h1
 ·exfalso
  by_cases e:j=k
  ·subst e;rw [hx] at hj;injection hj with hj;omega
  ·have:=h.lt (show j<k by omega) hj hx;omega
 ·subst h1;rw [hy] at hj;injection hj with hj;omega
 ·have:=h.lt h1 hy hj;omega
theorem uG {l:List aH} {φ:aH->Option Bool} (p:aH->Bool) (hφ: ∀x∈l,φ x=some (p x)) (hl:l.length<=4611686018427387000) (hN:l.length<N):gC N l φ=some (l.filter (fun x=> !p x)):=
 GA (z:=(⟨0,0,0,0⟩:aH)) p hφ hl hN
theorem zi {l:List aH} (hl:l.length<=268435456):iz N l=some l:=by
 unfold iz;rw [iK (by simp;omega),aB,List.nil_append]
structure KN (l m:List aH) (ys:List Int) (k:Nat) (out:List aA) (now:List aH) (nx:Nat):Prop where
 can:dX (out.map bJ)
 top: ∀c∈out,∀y,ys[k]? =some y->c.Y1<=y
 cover: ∀x y,rY (out.map bJ) x y= (sR l x y&&decide (∀a,ys[k]? =some a->y<a))
 lim:uQ (qG l) (ik l) (out.map bJ)
 Mc: ∀r∈now,r∈m.take nx
 Md: ∀r∈m.take nx,∀y,ys[k]? =some y->y<r.Y1->r∈now
 len:now.length<=nx
 LV:nx<=m.length
 rest: ∀(j:Nat) r y,nx<=j->m[j]? =some r->ys[k]? =some y->y<=r.Y0
 low: ∀r∈now,∀y,ys[k]? =some y->r.Y0<=y
theorem HM {l m:List aH} (h: ∀r,r∈l↔r∈m) (x y:Int):sR l x y=sR m x y:=by
 rw [dZ,ij,ij]
 constructor
 ·rintro⟨r,hr,h1⟩;exact⟨r,(h r).1 hr,h1⟩
 ·rintro⟨r,hr,h1⟩;exact⟨r,(h r).2 hr,h1⟩
structure qI (l:List aH) (s:List aA):Prop where
 can:dX (s.map bJ)
 cover: ∀x y,rY (s.map bJ) x y=sR l x y
 lim:uQ (qG l) (ik l) (s.map bJ)
theorem nG {l:List aH} (hl:l.length<=134217728) (hok: ∀r∈l,zQ r) (hN:4294967296<=N):Ok (gm N l) (qI l):=by
 unfold gm
 refine Ok.eq (zi (by omega)) ?_
 obtain⟨m,h1,h2,h3⟩:=yf (φ:=iZ N) (l:=l) (fun a b=>a.Y0 - b.Y0) (fun a ha b hb=>by
  unfold iZ;rw [wrap_small (hok a ha).s3 (hok b hb).s3]) (fun a _=>by omega) (fun a _ b _ c _ h1 h2=>by omega) (fun a _ b _ c _ h1 h2=>by omega) (by omega)
 refine Ok.eq h1 ?_
 have hml:m.length=l.length:=h2.length_eq
 have hmem: ∀r,r∈m↔r∈l:=fun r=>h2.mem_iff
 refine Ok.bind (Ok.lV (fun k s=>s=ik (m.take k)) (by omega) rfl (fun k s hk e=>?_)) ?_
 ·subst e
  refine Ok.idx hk (Ok.app ?_ (Ok.ret ?_))
  ·rw [iu];simp;omega
  ·rw [dT hk]
   unfold ik;rw [List.flatMap_append];rfl
 rintro s rfl
 rw [eE]
 have hgs:sd (ik m)=some ((ik m).mergeSort (fun x y=>decide (x<=y))):=by unfold sd;rw [aC (by rw [iu];omega)]
 refine Ok.eq hgs ?_
 have hsp: ((ik m).mergeSort (fun x y=>decide (x<=y))).Pairwise (fun x y=>x<=y):=by
  have:=List.pairwise_mergeSort (le:=fun(x y:Int)=>decide (x<=y)) (fun a b c h1 h2=>by simp at *;omega) (fun a b=>by simp;omega) (ik m)
  exact List.Pairwise.imp (fun h=>by simpa using h) this
 have hsm: ∀c,c∈(ik m).mergeSort (fun x y=>decide (x<=y))↔c∈ik m:=fun c=>List.mem_mergeSort
 have hsl: ((ik m).mergeSort (fun x y=>decide (x<=y))).length=2*m.length:=by rw [List.length_mergeSort,iu]
 generalize (ik m).mergeSort (fun x y=>decide (x<=y))=sy at hsp hsm hsl
 refine Ok.bind (AR (N:=N) hsp (by omega) (by omega)) ?_
 rintro ys ⟨hy,hym⟩
 have hyl:ys.length<=2*m.length:=by
  have:=eC hy.nodup (m:=sy) (fun c hc=>(hym c).1 hc)
  omega
 have y0m: ∀r∈m,r.Y0∈ys:=fun r hr=>(hym _).2 ((hsm _).2 (kp.2 ⟨r,hr, .inl rfl⟩))
 have y1m: ∀r∈m,r.Y1∈ys:=fun r hr=>(hym _).2 ((hsm _).2 (kp.2 ⟨r,hr, .inr rfl⟩))
 have yml: ∀c∈ys,c∈ik l:=fun c hc=>by
  obtain⟨r,hr,h⟩:=kp.1 ((hsm _).1 ((hym _).1 hc))
  exact kp.2 ⟨r,(hmem r).1 hr,h⟩
 refine Ok.bind (Ok.iY (Go:=fun s=>qI l s.1) (Rt:=fun _=>True) (fun s=>∃k nx:Nat,s.2.2.2= ((k:Nat):Int)/\s.2.2.1= ((nx:Nat):Int)/\(k<ys.length\/k=0)/\KN l m ys k s.1 s.2.1 nx) (fun s=>ys.length - s.2.2.2.toNat) ?_ ?_ (by simp;omega)) ?_
 ·rintro⟨out,now,a,b⟩ ⟨k,nx,e1,e2,hk,I⟩
  dsimp only at e1 e2 I ⊢
  subst e1;subst e2
  rw [bQ (by omega)]
  refine Ok.bif (fun h=>?_) (fun h=>Ok.br ?_)
  ·have hk1:k+1<ys.length:=by have:=of_decide_eq_true h;omega
   have hyk:ys[k]? =some ys[k]:=aL _
   have hyk1:ys[k+1]? =some ys[k+1]:=aL hk1
   have hlt:=hy.lt (Nat.lt_succ_self k) hyk hyk1
   have hcov:=I.cover
   simp only [hyk,Option.some.injEq,forall_eq'] at hcov
   refine Ok.eq (uG (fun r=>decide (r.Y1<=ys[k])) (fun r _=>by unfold mU;rw [j7 ys k (by omega),aB]) (by have:=I.len;have:=I.LV;omega) (by have:=I.len;have:=I.LV;omega)) ?_
   have hfl:=kB (fun r:aH=> !decide (r.Y1<=ys[k])) now
   have hIl:=I.len
   have hIn:=I.LV
   refine Ok.bind (Ok.iY (Go:=fun s=>∃nx':Nat,s.2= ((nx':Nat):Int)/\nx'<=m.length/\s.1.length<=nx'/\(∀r∈s.1,r∈m.take nx')/\(∀r∈m.take nx',ys[k]<r.Y1->r∈s.1)/\(∀r∈s.1,r.Y0<=ys[k]/\ys[k]<r.Y1)/\(∀(j:Nat) r,nx'<=j->m[j]? =some r->ys[k]<r.Y0)) (Rt:=fun _=>True)
    (fun s=>∃nx':Nat,s.2= ((nx':Nat):Int)/\nx<=nx'/\nx'<=m.length/\s.1.length<=nx'/\(∀r∈s.1,r∈m.take nx')/\(∀r∈m.take nx',ys[k]<r.Y1->r∈s.1)/\(∀r∈s.1,r.Y0<=ys[k]/\ys[k]<r.Y1)) (fun s=>m.length - s.2.toNat) ?_ ?_ (by simp;omega)) ?_
   ·rintro⟨nw,b⟩ ⟨nx',e1,g0,g1,g2,g3,g4,g5⟩
    dsimp only at e1 g2 g3 g4 g5 ⊢
    subst e1
    refine Ok.bind (P:=fun b=>b=true↔∃h:nx'<m.length,m[nx'].Y0<=ys[k]) ?_ ?_
    ·refine Ok.bif (fun h=>?_) (fun h=>Ok.ret ?_)
     ·have hlt:nx'<m.length:=by have:=of_decide_eq_true h;omega
      refine Ok.idx hlt (Ok.idx (by omega) (Ok.ret ?_))
      rw [bE];exact⟨fun h=>⟨hlt,h⟩,fun⟨_,h⟩=>h⟩
     ·have:=of_decide_eq_false h
      constructor
      ·intro h;cases h
      ·rintro⟨h,_⟩;omega
    ·intro bb hbb
     refine Ok.bif (fun h=>?_) (fun h=>Ok.br ?_)
     ·obtain⟨hlt,h0⟩:=hbb.1 h
      have hts:m.take (nx'+1)=m.take nx'++[m[nx']]:=dT hlt
      refine Ok.idx hlt (Ok.app (by simp;omega) (Ok.nx ⟨⟨nx'+1,by rw [bQ (by omega)],by omega,by omega,by simp;omega,fun r hr=>?_,fun r hr hr2=>?_,fun r hr=>?_⟩,by rw [bQ (by omega)];simp only [cA];omega⟩))
      ·rw [hts]
       rcases cV.1 hr with h | h
       ·exact List.mem_append_left _ (g3 r h)
       ·exact List.mem_append_right _ h
      ·rw [hts] at hr
       rcases cV.1 hr with h | h
       ·exact List.mem_append_left _ (g4 r h hr2)
       ·exact List.mem_append_right _ h
      ·rcases cV.1 hr with h | h
       ·exact g5 r h
       ·simp at h;subst h
        refine⟨h0,?_⟩
        have:=(hok m[nx'] ((hmem _).1 (cJ hlt))).y
        have:=I.rest nx' _ ys[k] g0 (aL hlt) hyk
        omega
     ·refine⟨nx',rfl,g1,g2,g3,g4,g5,fun j r hj hr=>?_⟩
      have hjl:=(aU.1 hr).1
      have hlt:nx'<m.length:=by omega
      have h0: ¬m[nx'].Y0<=ys[k]:=fun h0=>by rw [hbb.2 ⟨hlt,h0⟩] at h;cases h
      by_cases e:nx'=j
      ·subst e;rw [aL hlt] at hr;injection hr with hr;subst hr;omega
      ·have:=kA.1 h3 nx' j hlt hjl (by omega)
       have hr':=(aU.1 hr).2
       rw [hr'] at this;omega
   ·refine⟨nx,rfl,bD _,hIn,by dsimp only;omega,fun r hr=>I.Mc r (iN.1 hr).1,fun r hr h=>iN.2 ⟨I.Md r hr ys[k] hyk h,by simpa using h⟩,fun r hr=>?_⟩
    have hr:=iN.1 hr
    have hr2:ys[k]<r.Y1:=by simpa using hr.2
    exact⟨I.low r hr.1 ys[k] hyk,hr2⟩
   ·rintro o ho
    refine Ok.cs ho ?_ (fun r=>r.elim)
    rintro⟨nw,b⟩ ⟨nx',e1,g1,g2,g3,g4,g5,g6⟩
    dsimp only at e1 g2 g3 g4 g5 ⊢
    subst e1
    refine Ok.idx (by omega) (Ok.idx hk1 ?_)
    have hnm: ∀r∈nw,r∈l:=fun r hr=>(hmem r).1 (List.take_subset _ _ (g3 r hr))
    obtain⟨row,nw',s1,s2,s3,s4,s5,s6,s7⟩:=AO (N:=N) (l:=nw) (by omega) (fun r hr=>hok r (hnm r hr))
    refine Ok.eq s1 ?_
    have hlimx: ∀c∈row,c∈qG l:=fun c hc=>by
     obtain⟨r,hr,h⟩:=s7 c hc
     exact qH.2 ⟨r,hnm r hr,h⟩
    have hol:out.length<=2*l.length:=by have:=I.lim.len I.can;rw [iu,cE] at this;exact this
    have hox: ∀c∈out,c.Xs.length<=2*l.length:=fun c hc=>by
     have:=I.lim.row I.can (b:=bJ c) (cP.2 ⟨c,hc,rfl⟩)
     rw [kS] at this;exact this
    obtain⟨out',p1,p2⟩:=En (N:=N) (s:=out) (b:=⟨ys[k],ys[k+1],row⟩) (by omega) (fun c hc=>by have:=hox c hc;omega)
    refine Ok.eq p1 ?_
    have htop: ∀c∈out.map bJ,c.y1<=(bJ ⟨ys[k],ys[k+1],row⟩).y0:=fun c hc=>by
     obtain⟨d,hd,rfl⟩:=cP.1 hc
     exact I.top d hd ys[k] hyk
    have hcan:=tA I.can htop s3 s4
    refine Ok.nx ⟨⟨k+1,nx',rfl,rfl, .inl hk1,⟨by dsimp only;rw [p2];exact hcan,fun c hc y hy1=>?_,fun x y=>?_,?_,fun r hr=>g3 r (s2.subset hr),fun r hr y hy1 h=>?_,by rw [s2.length_eq];exact g2,g1,fun j r y hj hr hy1=>?_,fun r hr y hy1=>?_⟩⟩,by simp only [cA];omega⟩
    ·rw [hyk1] at hy1;injection hy1 with hy1;subst hy1
     have hm':bJ c∈iD (out.map bJ) (bJ ⟨ys[k],ys[k+1],row⟩):=by rw [<-p2];exact cP.2 ⟨c,hc,rfl⟩
     exact tB htop (by show ys[k]<=ys[k+1];omega) _ hm'
    ·simp only [hyk1,Option.some.injEq,forall_eq']
     unfold rY
     rw [p2,tz htop (fun c hc=>(I.can.each c hc).1) (fun h=>absurd h (by show ¬ys[k+1]<=ys[k];omega))]
     by_cases hyy:ys[k]<=y/\y<ys[k+1]
     ·rw [aC (show (bJ ⟨ys[k],ys[k+1],row⟩).y0<=y/\y< (bJ ⟨ys[k],ys[k+1],row⟩).y1 from hyy),bB hyy.2,Bool.and_true]
      show nA row x=_
      rw [s5,dZ,yl,ij]
      constructor
      ·rintro⟨r,hr,h⟩
       have hrm:=List.take_subset _ _ (g3 r hr)
       have h5:=g5 r hr
       have:=hy.next hyk hyk1 (y1m r hrm) h5.2
       exact⟨r,hnm r hr,h,by omega,by omega⟩
      ·rintro⟨r,hr,h,h7,h8⟩
       have hrm:=(hmem r).2 hr
       have h9:r.Y0<=ys[k]:=by
        by_cases h10:r.Y0<=ys[k]
        ·exact h10
        ·have:=hy.next hyk hyk1 (y0m r hrm) (by omega);omega
       have h11:r∈m.take nx':=by
        obtain⟨j,hj⟩:=dF hrm
        by_cases h12:j<nx'
        ·exact dU (i:=j) (by rw [List.getElem?_take_of_lt h12];exact hj)
        ·have:=g6 j r (by omega) hj;omega
       exact⟨r,g4 r h11 (by omega),h⟩
     ·rw [aD (show ¬((bJ ⟨ys[k],ys[k+1],row⟩).y0<=y/\y< (bJ ⟨ys[k],ys[k+1],row⟩).y1) from hyy)]
      show rY (out.map bJ) x y=_
      rw [hcov]
      by_cases h1:y<ys[k]
      ·rw [bB h1,bB (show y<ys[k+1] by omega)]
      ·rw [bF h1,bF (show ¬y<ys[k+1] by omega)]
    ·show uQ (qG l) (ik l) (out'.map bJ)
     rw [p2]
     exact I.lim.push (yml _ (cJ _)) (yml _ (cJ _)) hlimx
    ·rw [hyk1] at hy1;injection hy1 with hy1;subst hy1
     exact s2.symm.subset (g4 r hr (by omega))
    ·rw [hyk1] at hy1;injection hy1 with hy1;subst hy1
     exact hy.next hyk hyk1 (y0m r (dU hr)) (g6 j r hj hr)
    ·rw [hyk1] at hy1;injection hy1 with hy1;subst hy1
     have:=(g5 r (s2.subset hr)).1;omega
  ·have hge: ¬k+1<ys.length:=by have:=of_decide_eq_false h;omega
   refine⟨I.can,fun x y=>?_,I.lim⟩
   rw [I.cover]
   by_cases hyn:ys= []
   ·have:sR l x y=false:=by
     rw [<-j4,ij]
     rintro⟨r,hr,_⟩
     have:=y0m r ((hmem r).2 hr)
     rw [hyn] at this;cases this
    rw [this];rfl
   ·have hkl:k<ys.length:=by
     rcases hk with h | h
     ·exact h
     ·subst h;exact List.length_pos_iff.2 hyn
    rw [aL hkl]
    simp only [Option.some.injEq,forall_eq']
    cases hc:sR l x y with
    | false=>rfl
    | true=>
     obtain⟨r,hr,_,h7,h8⟩:=ij.1 hc
     have:=y1m r ((hmem r).2 hr)
     obtain⟨j,hj⟩:=dF this
     have hjl:=(aU.1 hj).1
     have:r.Y1<=ys[k]:=by
      by_cases e:j=k
      ·subst e;rw [aL hkl] at hj;injection hj with hj;omega
      ·have:=hy.lt (show j<k by omega) hj (aL hkl);omega
     rw [bB (show y<ys[k] by omega)];rfl
 ·refine⟨0,0,rfl,rfl, .inr rfl,?_⟩
  show KN l m ys 0 [] [] 0
  refine⟨dX.nil,fun c hc=>(by cases hc),fun x y=>?_,fun b hb=>(by cases hb),fun r hr=>(by cases hr),fun r hr=>(by rw [List.take_zero] at hr;cases hr),bD _,eN _,fun j r y _ hr hy0=>?_,fun r hr=>(by cases hr)⟩
  ·show false=_
   symm
   rw [Bool.and_eq_false_iff]
   cases hc:sR l x y with
   | false=>exact .inl rfl
   | true=>
    right
    obtain⟨r,hr,_,h7,h8⟩:=ij.1 hc
    have hr0:=y0m r ((hmem r).2 hr)
    have hpos:0<ys.length:=List.length_pos_of_mem hr0
    rw [decide_eq_false_iff_not]
    intro h
    have h:=h ys[0] (aL hpos)
    obtain⟨j,hj⟩:=dF hr0
    by_cases e:j=0
    ·subst e;rw [aL hpos] at hj;injection hj with hj;omega
    ·have:=hy.lt (show 0<j by omega) (aL hpos) hj;omega
  ·obtain⟨j',hj'⟩:=dF (y0m r (dU hr))
   by_cases e:j'=0
   ·subst e;rw [hy0] at hj';injection hj' with hj';omega
   ·have:=hy.lt (show 0<j' by omega) hy0 hj';omega
 ·rintro o ho
  refine Ok.cs ho (fun s h=>Ok.ret h) (fun r=>r.elim)
end
end Go.Gk
namespace Go.Gk
open Go
section
variable {N:Nat}
def yo:List Int->List (Int×Int)
 | a::b::l=>(a,b)::yo l
 | _=>[]
theorem xJ: ∀(xs:List Int),(yo xs).length=xs.length / 2
 | []=>rfl
 | [a]=>by simp [yo]
 | a::b::l=>by unfold yo;rw [dE,xJ l];simp only [dE];omega
theorem vG: ∀(xs:List Int) (j:Nat) (h:2*j+1<xs.length),(yo xs)[j]? =some (xs[2*j],xs[2*j+1])
 | [],j,h=>by simp at h
 | [a],j,h=>by simp at h
 | a::b::l,0,h=>rfl
 | a::b::l,j+1,h=>by
  have:=vG l j (by simp at h;omega)
  unfold yo
  rw [List.getElem?_cons_succ,this]
  have e1: (a::b::l)[2* (j+1)]=l[2*j]'(by simp at h;omega):=by simp [show 2* (j+1)=2*j+1+1 by omega]
  have e2: (a::b::l)[2* (j+1)+1]=l[2*j+1]'(by simp at h;omega):=by simp [show 2* (j+1)+1=2*j+1+1+1 by omega]
  rw [e1,e2]
theorem vH: ∀{xs:List Int},xs.length % 2=0->cU (yo xs)=xs
 | [],_=>rfl
 | [a],h=>by simp at h
 | a::b::l,h=>by unfold yo;rw [hU,vH (by simp at h;omega)]
theorem HN {xs:List Int} (h:iC xs) (he:xs.length % 2=0) (x:Int):nA xs x=hQ (yo xs) x:=by
 have:=qD (l:=yo xs) (by rw [vH he];exact h) x
 rwa [vH he] at this
theorem AU {xs:List Int}: ∀p∈yo xs,p.1∈xs/\p.2∈xs:=by
 intro p hp
 obtain⟨j,hj⟩:=dF hp
 have hjl:=(aU.1 hj).1
 rw [xJ] at hjl
 rw [vG xs j (by omega)] at hj
 injection hj with hj;subst hj
 exact⟨cJ _,cJ _⟩
theorem Dm {xs:List Int} (h:iC xs): ∀p∈yo xs,p.1<p.2:=by
 intro p hp
 obtain⟨j,hj⟩:=dF hp
 have hjl:=(aU.1 hj).1
 rw [xJ] at hjl
 rw [vG xs j (by omega)] at hj
 injection hj with hj;subst hj
 exact h.lt (show 2*j<2*j+1 by omega) (aL _) (aL _)
def lN (b:aA):List aH:=(yo b.Xs).map fun p=>⟨p.1,b.Y0,p.2,b.Y1⟩
def aQ (s:List aA):List aH:=s.flatMap lN
theorem lO (b:aA) (s:List aA):aQ (b::s)=lN b++aQ s:=rfl
theorem ma (b:aA): (lN b).length=b.Xs.length / 2:=by unfold lN;rw [cE,xJ]
theorem mq (s t:List aA):aQ (s++t)=aQ s++aQ t:=List.flatMap_append
theorem wJ (s:List aA) (k:Nat): (aQ (s.take k)).length<=(aQ s).length:=by
 conv=>rhs;rw [<-List.take_append_drop k s,mq,cQ]
 omega
theorem yp {s:List aA} {A B:Nat} (h1:s.length<=A) (h2: ∀b∈s,b.Xs.length<=B): (aQ s).length<=A*B:=by
 induction s generalizing A with
 | nil=>simp [aQ]
 | cons b s ih=>
  rw [lO,cQ,ma]
  simp at h1
  obtain⟨A',rfl⟩: ∃A',A=A'+1:=⟨A - 1,by omega⟩
  have:=ih (A:=A') (by omega) (fun c hc=>h2 c (f0 _ hc))
  have:=h2 b (by simp)
  rw [Nat.add_mul];omega
theorem yq {s:List aA} (he: ∀b∈s,b.Xs.length % 2=0) (h1:s.length<=1099511627776) (h2: ∀b∈s,b.Xs.length<=1099511627776/\b.Xs.length<N) (h3: (aQ s).length<=1099511627776):iI N s=some (aQ s):=by
 refine Ok.get ?_
 unfold iI
 refine Ok.bind (Ok.lV (fun k t=>t=aQ (s.take k)) (by omega) rfl (fun k t hk e=>?_)) (fun t e=>Ok.ret (by rw [e,eE]))
 subst e
 refine Ok.idx hk ?_
 have hm:=cJ hk
 generalize hb:s[k]=b at hm ⊢
 have heb:=he b hm
 have hbl:=h2 b hm
 have hts:aQ (s.take (k+1))=aQ (s.take k)++lN b:=by
  rw [dT hk,mq,hb];simp [aQ]
 have hle:=wJ s (k+1)
 rw [hts,cQ,ma] at hle
 refine Ok.bind (Ok.iY (Go:=fun s'=>s'.1=aQ (s.take (k+1))) (Rt:=fun _=>True) (fun s'=>∃j:Nat,s'.2= ((2*j:Nat):Int)/\2*j<=b.Xs.length/\s'.1=aQ (s.take k)++(lN b).take j) (fun s'=>b.Xs.length - s'.2.toNat) ?_ ⟨0,rfl,by omega,by simp⟩ (by simp;omega)) ?_
 ·rintro⟨acc,i⟩ ⟨j,e1,hj,e2⟩
  dsimp only at e1 e2 ⊢
  subst e1;subst e2
  refine Ok.bif (fun h=>?_) (fun h=>Ok.br ?_)
  ·have hlt:2*j+1<b.Xs.length:=by have:=of_decide_eq_true h;omega
   refine Ok.idx (by omega) ?_
   rw [bQ (by omega)]
   refine Ok.idx hlt (Ok.app ?_ (Ok.nx ⟨⟨j+1,?_,by omega,?_⟩,?_⟩))
   ·simp;rw [ma];omega
   ·rw [zT (by omega)];congr 1
   ·rw [j3]
    congr 1
    have hg: (lN b)[j]? =some ⟨b.Xs[2*j],b.Y0,b.Xs[2*j+1],b.Y1⟩:=by
     unfold lN;rw [dV,vG _ _ hlt];rfl
    have hjl:=(aU.1 hg).1
    rw [dT hjl,(aU.1 hg).2]
   ·rw [zT (by omega)];simp only [cA];omega
  ·have hge:2*j=b.Xs.length:=by have:=of_decide_eq_false h;omega
   show aQ (s.take k)++(lN b).take j=_
   rw [hts,lj (l:=lN b) (by rw [ma];omega)]
 ·rintro o ho
  exact Ok.cs ho (fun s' h=>Ok.ret h) (fun r=>r.elim)
theorem HO {s:List aA} (h1:s.length<=1099511627776) (h2: ∀b∈s,b.Xs.length<=1099511627776) (h3: (aQ s).length<=1099511627776):lB N s=some (((aQ s).length:Nat):Int):=by
 refine Ok.get ?_
 unfold lB
 refine Ok.bind (Ok.lV (fun k t=>t= (((aQ (s.take k)).length:Nat):Int)) (by omega) rfl (fun k t hk e=>?_)) (fun t e=>Ok.ret (by rw [e,eE]))
 subst e
 refine Ok.idx hk (Ok.ret ?_)
 have hm:=cJ hk
 have hbl:=h2 _ hm
 have hts:aQ (s.take (k+1))=aQ (s.take k)++lN s[k]:=by
  rw [dT hk,mq];simp [aQ]
 have hle:=wJ s (k+1)
 rw [hts,cQ,ma] at hle
 have e:Int.tdiv ((s[k].Xs.length:Nat):Int) 2= ((s[k].Xs.length / 2:Nat):Int):=by
  rw [show (2:Int)= ((2:Nat):Int) by rfl,<-Int.ofNat_tdiv]
 rw [e,Cj (by omega),wrap_add (by omega),hts,cQ,ma]
theorem Dn (l m:List aH) (x y:Int):sR (l++m) x y= (sR l x y||sR m x y):=List.any_append
theorem GC {b:aA} (h:iC b.Xs) (he:b.Xs.length % 2=0) (x y:Int):sR (lN b) x y= (nA b.Xs x&&(decide (b.Y0<=y)&&decide (y<b.Y1))):=by
 rw [HN h he,dZ,ij,bL,qC,bL,bE,bE]
 unfold lN
 constructor
 ·rintro⟨r,hr,h1,h2⟩
  obtain⟨p,hp,rfl⟩:=cP.1 hr
  exact⟨⟨p,hp,h1⟩,h2⟩
 ·rintro⟨⟨p,hp,h1⟩,h2⟩
  exact⟨_,cP.2 ⟨p,hp,rfl⟩,h1,h2⟩
theorem nH: ∀{s:List aA},dX (s.map bJ)->∀x y,sR (aQ s) x y=rY (s.map bJ) x y
 | [],_,x,y=>rfl
 | b::s,h,x,y=>by
  rw [lO,Dn,nH h.tail x y]
  have hb:=h.each (bJ b) (by simp)
  rw [GC hb.2.2.1 hb.2.2.2]
  unfold rY
  rw [dA,lL]
  by_cases hy:b.Y0<=y/\y<b.Y1
  ·rw [aC (show (bJ b).y0<=y/\y< (bJ b).y1 from hy),kL (fun c hc=> .inl (by have:=h.yj c hc;have e: (bJ b).y1=b.Y1:=rfl;omega)),bB hy.1,bB hy.2]
   show (nA b.Xs x&&true||false)=nA b.Xs x
   simp
  ·rw [aD (show ¬((bJ b).y0<=y/\y< (bJ b).y1) from hy)]
   have: (decide (b.Y0<=y)&&decide (y<b.Y1))=false:=by rw [Bool.and_eq_false_iff,decide_eq_false_iff_not,decide_eq_false_iff_not];omega
   rw [this];simp
theorem oN {s:List aA} {r:aH} (h:r∈aQ s): ∃b∈s,∃p∈yo b.Xs,r= ⟨p.1,b.Y0,p.2,b.Y1⟩:=by
 unfold aQ lN at h
 obtain⟨b,hb,h⟩:=List.mem_flatMap.1 h
 obtain⟨p,hp,rfl⟩:=cP.1 h
 exact⟨b,hb,p,hp,rfl⟩
theorem yr {s:List aA} {X Y:List Int} (h:dX (s.map bJ)) (hl:uQ X Y (s.map bJ)) (hx: ∀c∈X,small c) (hy: ∀c∈Y,small c): ∀r∈aQ s,zQ r/\(r.X0∈X/\r.X1∈X)/\r.Y0∈Y/\r.Y1∈Y:=by
 intro r hr
 obtain⟨b,hb,p,hp,rfl⟩:=oN hr
 have hm:bJ b∈s.map bJ:=cP.2 ⟨b,hb,rfl⟩
 have hc:=h.each _ hm
 have hll:=hl _ hm
 have h1:=AU p hp
 have h2:=hll.2.2 p.1 h1.1
 have h3:=hll.2.2 p.2 h1.2
 exact⟨⟨Dm hc.2.2.1 p hp,hc.1,hx _ h2,hx _ h3,hy _ hll.1,hy _ hll.2.1⟩,⟨h2,h3⟩,hll.1,hll.2.1⟩
theorem uH {l:List Int} {x:Int} (h: ∀c∈l,c<=x):nA l x= (l.length % 2==1):=by unfold nA;rw [El h]
theorem wK {l:List Int} {a x:Int} (h:x<a):nA (l++[a]) x=nA l x:=by unfold nA;rw [yg,nY,aD (by omega),Ek];rfl
def Fa (l:List Int):Bool:=l.length % 2==1
theorem yt (l:List Int) (a:Int):Fa (l++[a]) = !Fa l:=by
 unfold Fa
 rw [cQ,dZ,Bool.not_eq_true',beq_iff_eq,beq_eq_false_iff_ne]
 simp;omega
structure Ck (fM:Bool->Bool->Bool) (a b a' b' out:List Int) (inA inB is:Bool) (pa pb:List Int):Prop where
 ea:a=pa++a'
 eb:b=pb++b'
 oa:inA=Fa pa
 ob:inB=Fa pb
 oo:is=Fa out
 ok:is=fM inA inB
 low: ∀c,(c∈pa\/c∈pb\/c∈out)->∀d,(d∈a'\/d∈b')->c<d
 inc:iC out
 KO: ∀x,(∀d,(d∈a'\/d∈b')->x<d)->nA out x=fM (nA pa x) (nA pb x)
 mem: ∀c∈out,c∈pa\/c∈pb
 len:out.length<=pa.length+pb.length
theorem Ck.step {fM:Bool->Bool->Bool} {a b a' b' out:List Int} {inA inB is:Bool} {pa pb:List Int} (I:Ck fM a b a' b' out inA inB is pa pb) (ha:iC a) (hb:iC b) (x:Int) (ta tb:List Int) (wa wb:Bool)
  (h1:a'= (if wa then x::ta else ta)) (h2:b'= (if wb then x::tb else tb)) (hw:wa=true\/wb=true) (hx: ∀d,(d∈ta\/d∈tb)->x<d):
  Ck fM a b ta tb (if fM (inA ^^ wa) (inB ^^ wb)=is then out else out++[x]) (inA ^^ wa) (inB ^^ wb) (fM (inA ^^ wa) (inB ^^ wb)) (if wa then pa++[x] else pa) (if wb then pb++[x] else pb):=by
 have hxm:x∈a'\/x∈b':=by
  rcases hw with h | h
  ·left;rw [h1,aC h];simp
  ·right;rw [h2,aC h];simp
 have hsub: ∀d,(d∈ta\/d∈tb)->d∈a'\/d∈b':=fun d hd=>by
  rcases hd with h | h
  ·left;rw [h1];split
   ·exact f0 _ h
   ·exact h
  ·right;rw [h2];split
   ·exact f0 _ h
   ·exact h
 have hlow: ∀c,(c∈pa\/c∈pb\/c∈out)->c<x:=fun c hc=>I.low c hc x hxm
 have hpa: ∀c∈(if wa then pa++[x] else pa),c∈pa\/(wa=true/\c=x):=fun c hc=>by
  split at hc
  ·rename_i h
   rcases cV.1 hc with h' | h'
   ·exact .inl h'
   ·simp at h';exact .inr ⟨h,h'⟩
  ·exact .inl hc
 have hpb: ∀c∈(if wb then pb++[x] else pb),c∈pb\/(wb=true/\c=x):=fun c hc=>by
  split at hc
  ·rename_i h
   rcases cV.1 hc with h' | h'
   ·exact .inl h'
   ·simp at h';exact .inr ⟨h,h'⟩
  ·exact .inl hc
 have hout: ∀c∈(if fM (inA ^^ wa) (inB ^^ wb)=is then out else out++[x]),c∈out\/c=x:=fun c hc=>by
  split at hc
  ·exact .inl hc
  ·rcases cV.1 hc with h' | h'
   ·exact .inl h'
   ·simp at h';exact .inr h'
 have ooA: (inA ^^ wa)=Fa (if wa then pa++[x] else pa):=by
  rw [I.oa];cases wa <;> simp [yt]
 have ooB: (inB ^^ wb)=Fa (if wb then pb++[x] else pb):=by
  rw [I.ob];cases wb <;> simp [yt]
 have ooO:fM (inA ^^ wa) (inB ^^ wb)=Fa (if fM (inA ^^ wa) (inB ^^ wb)=is then out else out++[x]):=by
  split
  ·rename_i h;rw [h];exact I.oo
  ·rename_i h
   rw [yt,<-I.oo]
   cases hk:fM (inA ^^ wa) (inB ^^ wb) <;> cases his:is <;> simp_all
 refine⟨?_,?_,ooA,ooB,ooO,rfl,?_,?_,?_,?_,?_⟩
 ·rw [I.ea,h1];split <;> simp
 ·rw [I.eb,h2];split <;> simp
 ·intro c hc d hd
  have hd':=hx d hd
  have hdd:=hsub d hd
  rcases hc with h | h | h
  ·rcases hpa c h with h' | ⟨_,rfl⟩
   ·exact I.low c (.inl h') d hdd
   ·exact hd'
  ·rcases hpb c h with h' | ⟨_,rfl⟩
   ·exact I.low c (.inr (.inl h')) d hdd
   ·exact hd'
  ·rcases hout c h with h' | rfl
   ·exact I.low c (.inr (.inr h')) d hdd
   ·exact hd'
 ·split
  ·exact I.inc
  ·exact I.inc.GB fun c hc=>hlow c (.inr (.inr hc))
 ·intro y hy
  by_cases hxy:y<x
  ·have e1:nA (if wa then pa++[x] else pa) y=nA pa y:=by split;exact wK hxy;rfl
   have e2:nA (if wb then pb++[x] else pb) y=nA pb y:=by split;exact wK hxy;rfl
   have e3:nA (if fM (inA ^^ wa) (inB ^^ wb)=is then out else out++[x]) y=nA out y:=by split;rfl;exact wK hxy
   rw [e1,e2,e3]
   refine I.KO y fun d hd=>?_
   have:x<=d:=by
    rcases hd with h | h
    ·rw [h1] at h
     split at h
     ·rcases cW.1 h with rfl | h
      ·exact Int.le_refl _
      ·have:=hx d (.inl h);omega
     ·have:=hx d (.inl h);omega
    ·rw [h2] at h
     split at h
     ·rcases cW.1 h with rfl | h
      ·exact Int.le_refl _
      ·have:=hx d (.inr h);omega
     ·have:=hx d (.inr h);omega
   omega
  ·rw [uH (l:=if wa then pa++[x] else pa),uH (l:=if wb then pb++[x] else pb),uH]
   ·have e1:=ooA;have e2:=ooB;have e3:=ooO
    unfold Fa at e1 e2 e3
    rw [<-e1,<-e2,<-e3]
   ·intro c hc
    rcases hout c hc with h | rfl
    ·have:=hlow c (.inr (.inr h));omega
    ·omega
   ·intro c hc
    rcases hpb c hc with h | ⟨_,rfl⟩
    ·have:=hlow c (.inr (.inl h));omega
    ·omega
   ·intro c hc
    rcases hpa c hc with h | ⟨_,rfl⟩
    ·have:=hlow c (.inl h);omega
    ·omega
 ·intro c hc
  have m1: ∀c,c∈pa->c∈(if wa then pa++[x] else pa):=fun c h=>by split;exact List.mem_append_left _ h;exact h
  have m2: ∀c,c∈pb->c∈(if wb then pb++[x] else pb):=fun c h=>by split;exact List.mem_append_left _ h;exact h
  rcases hout c hc with h | rfl
  ·rcases I.mem c h with h | h
   ·exact .inl (m1 c h)
   ·exact .inr (m2 c h)
  ·rcases hw with h | h
   ·left;rw [aC h];simp
   ·right;rw [aC h];simp
 ·have:=I.len
  have h3: (if wa then pa++[x] else pa).length+ (if wb then pb++[x] else pb).length>=pa.length+pb.length+1:=by
   rcases hw with h | h
   ·subst h;cases wb <;> simp <;> omega
   ·subst h;cases wa <;> simp <;> omega
  split
  ·omega
  ·simp at h3 ⊢;omega
end
end Go.Gk
namespace Go.Gk
open Go
section
variable {N:Nat}
theorem iL (x:Int) (l:List Int):idx (x::l) 0=some x:=rfl
theorem qJ {α:Type} (x:α) (l:List α):p9 (x::l) 1 (((x::l).length:Nat):Int)=some l:=nR (x::l) 1 (by simp)
theorem jP {α:Type} (x:α) (l:List α):decide ((((x::l).length:Nat):Int)>0)=true:=bB (by simp)
theorem tC {α:Type} (x:α) (l:List α): ((((x::l).length:Nat):Int)==0)=false:=by rw [beq_eq_false_iff_ne];simp;omega
theorem Dp {a b:List Int} (ha:iC a) (hb:iC b) (h:a≠[]\/b≠[]): ∃x ta tb wa wb,a= (if wa then x::ta else ta)/\b= (if wb then x::tb else tb)/\(wa=true\/wb=true)/\(∀d,(d∈ta\/d∈tb)->x<d):=by
 match a,b,ha,hb,h with
 | [],[],_,_,h=>rcases h with h | h <;> exact absurd rfl h
 | x::ta,[],ha,_,_=>exact⟨x,ta,[],true,false,rfl,rfl, .inl rfl,fun d hd=>by rcases hd with h | h;exact ha.head d h;cases h⟩
 | [],y::tb,_,hb,_=>exact⟨y,[],tb,false,true,rfl,rfl, .inr rfl,fun d hd=>by rcases hd with h | h;cases h;exact hb.head d h⟩
 | x::ta,y::tb,ha,hb,_=>
  rcases Int.lt_trichotomy x y with h | h | h
  ·refine⟨x,ta,y::tb,true,false,rfl,rfl, .inl rfl,fun d hd=>?_⟩
   rcases hd with h1 | h1
   ·exact ha.head d h1
   ·rcases cW.1 h1 with rfl | h1
    ·exact h
    ·have:=hb.head d h1;omega
  ·subst h
   exact⟨x,ta,tb,true,true,rfl,rfl, .inl rfl,fun d hd=>by rcases hd with h | h;exact ha.head d h;exact hb.head d h⟩
  ·refine⟨y,x::ta,tb,false,true,rfl,rfl, .inr rfl,fun d hd=>?_⟩
   rcases hd with h1 | h1
   ·rcases cW.1 h1 with rfl | h1
    ·exact h
    ·have:=ha.head d h1;omega
   ·exact hb.head d h1
theorem Fb {φ:Bool->Bool->Option Bool} {fM:Bool->Bool->Bool} (hφ: ∀p q,φ p q=some (fM p q)) (hk:fM false false=false) {a b:List Int} (ha:iC a) (hb:iC b) (hae:a.length % 2=0) (hbe:b.length % 2=0)
  (iT:a.length<=1099511627776) (hbl:b.length<=1099511627776) (hN:a.length+b.length<N):
  Ok (oQ N a b φ) (fun m=>iC m/\m.length % 2=0/\(∀x,nA m x=fM (nA a x) (nA b x))/\∀c∈m,c∈a\/c∈b):=by
 unfold oQ
 refine Ok.bind (Ok.iY (Go:=fun s=>iC s.2.2.1/\s.2.2.1.length % 2=0/\(∀x,nA s.2.2.1 x=fM (nA a x) (nA b x))/\∀c∈s.2.2.1,c∈a\/c∈b) (Rt:=fun _=>True)
  (fun s=>∃pa pb,Ck fM a b s.1 s.2.1 s.2.2.1 s.2.2.2.1 s.2.2.2.2.1 s.2.2.2.2.2 pa pb) (fun s=>s.1.length+s.2.1.length) ?_ ?_ hN) ?_
 ·rintro⟨a',b',out,inA,inB,is⟩ ⟨pa,pb,I⟩
  dsimp only at I ⊢
  have ha':iC a':=by have:=ha;rw [I.ea] at this;exact(lT.1 this).2.1
  have hb':iC b':=by have:=hb;rw [I.eb] at this;exact(lT.1 this).2.1
  have hle:pa.length+a'.length=a.length:=by rw [I.ea];simp
  have hlb:pb.length+b'.length=b.length:=by rw [I.eb];simp
  have hlo:=I.len
  by_cases hne:a'≠[]\/b'≠[]
  ·obtain⟨x,ta,tb,wa,wb,h1,h2,hw,hx⟩:=Dp ha' hb' hne
   have J:=I.step ha hb x ta tb wa wb h1 h2 hw hx
   have fin: ∀(sa sb:List Int×Bool),sa= (ta,inA ^^ wa)->sb= (tb,inB ^^ wb)->
     Ok ((φ sa.2 sb.2).bind fun x220=>(bif (x220 != is) then ((app 8 out ([x]: (List Int))).bind fun x227=>some (x227,x220)) else (some (out,is))).bind fun s224=>some (Fl.nx (sa.1,sb.1,s224.1,sa.2,sb.2,s224.2)))
      (Hf (fun s':List Int×List Int×List Int×Bool×Bool×Bool=>(∃pa pb,Ck fM a b s'.1 s'.2.1 s'.2.2.1 s'.2.2.2.1 s'.2.2.2.2.1 s'.2.2.2.2.2 pa pb)/\s'.1.length+s'.2.1.length<a'.length+b'.length) (fun s=>iC s.2.2.1/\s.2.2.1.length % 2=0/\(∀x,nA s.2.2.1 x=fM (nA a x) (nA b x))/\∀c∈s.2.2.1,c∈a\/c∈b) (fun _:Empty=>True)):=by
    rintro _ _ rfl rfl
    refine Ok.eq (hφ _ _) ?_
    have hlt:ta.length+tb.length<a'.length+b'.length:=by
     rw [h1,h2]
     rcases hw with h | h
     ·subst h;cases wb <;> simp <;> omega
     ·subst h;cases wa <;> simp <;> omega
    by_cases he:fM (inA ^^ wa) (inB ^^ wb)=is
    ·rw [aC he] at J
     refine Ok.eq (x:=(out,is)) (by rw [he,show (is != is)=false by simp,aM]) ?_
     rw [he] at J
     exact Ok.nx ⟨⟨_,_,J⟩,hlt⟩
    ·rw [aD he] at J
     refine Ok.eq (x:=(out++[x],fM (inA ^^ wa) (inB ^^ wb))) (by rw [show (fM (inA ^^ wa) (inB ^^ wb) != is)=true by simp [he],aO,iK (by simp;omega),aB]) (Ok.nx ⟨⟨_,_,J⟩,hlt⟩)
   rcases hw with rfl | rfl
   ·rw [aC rfl] at h1
    subst h1
    refine Ok.eq (x:=true) (by rw [jP,aO]) ?_
    rw [aO]
    have hle2: (bif (((b'.length:Nat):Int)==0) then (some true) else (bif (decide ((((x::ta).length:Nat):Int)>0)) then ((idx (x::ta) 0).bind fun x181=>(idx b' 0).bind fun x183=>some (decide (x181<=x183))) else (some false)))=some true:=by
     cases b' with
     | nil=>rfl
     | cons y b''=>
      rw [tC,aM,jP,aO,iL,aB,iL,aB]
      have:x<=y:=by
       cases wb with
       | true=>simp at h2;omega
       | false=>have:=hx y (.inr (by simp at h2;rw [<-h2];simp));omega
      rw [bB this]
    refine Ok.eq hle2 ?_
    rw [aO]
    refine Ok.eq (x:=x) (by rw [iL,aB]) ?_
    refine Ok.eq (x:=true) (by rw [jP,aO,iL,aB];simp) ?_
    refine Ok.eq (x:=(ta,!inA)) (by rw [aO,qJ,aB]) ?_
    cases wb with
    | true=>
     rw [aC rfl] at h2
     subst h2
     refine Ok.eq (x:=true) (by rw [jP,aO,iL,aB];simp) ?_
     refine Ok.eq (x:=(tb,!inB)) (by rw [aO,qJ,aB]) ?_
     exact fin _ _ (by simp) (by simp)
    | false=>
     have h2:b'=tb:=h2
     subst h2
     refine Ok.eq (x:=false) ?_ ?_
     ·cases b' with
      | nil=>rfl
      | cons y b''=>
       have:=hx y (.inr (by simp))
       rw [jP,aO,iL,aB,show (y==x)=false by rw [beq_eq_false_iff_ne];omega]
     ·refine Ok.eq (x:=(b',inB)) (by rw [aM]) ?_
      exact fin _ _ (by simp) (by simp)
   ·cases wa with
    | true=>
     rw [aC rfl] at h1 h2
     subst h1;subst h2
     refine Ok.eq (x:=true) (by rw [jP,aO]) ?_
     rw [aO]
     refine Ok.eq (x:=true) (by rw [tC,aM,jP,aO,iL,aB,iL,aB];simp) ?_
     rw [aO]
     refine Ok.eq (x:=x) (by rw [iL,aB]) ?_
     refine Ok.eq (x:=true) (by rw [jP,aO,iL,aB];simp) ?_
     refine Ok.eq (x:=(ta,!inA)) (by rw [aO,qJ,aB]) ?_
     refine Ok.eq (x:=true) (by rw [jP,aO,iL,aB];simp) ?_
     refine Ok.eq (x:=(tb,!inB)) (by rw [aO,qJ,aB]) ?_
     exact fin _ _ (by simp) (by simp)
    | false=>
     have h1:a'=ta:=h1
     rw [aC rfl] at h2
     subst h1;subst h2
     refine Ok.eq (x:=true) (by rw [jP,HH];simp) ?_
     rw [aO]
     refine Ok.eq (x:=false) ?_ ?_
     ·rw [tC,aM]
      cases a' with
      | nil=>rfl
      | cons y a''=>
       have:=hx y (.inl (by simp))
       rw [jP,aO,iL,aB,iL,aB,bF (by omega)]
     ·rw [aM]
      refine Ok.eq (x:=x) (by rw [iL,aB]) ?_
      refine Ok.eq (x:=false) ?_ ?_
      ·cases a' with
       | nil=>rfl
       | cons y a''=>
        have:=hx y (.inl (by simp))
        rw [jP,aO,iL,aB,show (y==x)=false by rw [beq_eq_false_iff_ne];omega]
      ·refine Ok.eq (x:=(a',inA)) (by rw [aM]) ?_
       refine Ok.eq (x:=true) (by rw [jP,aO,iL,aB];simp) ?_
       refine Ok.eq (x:=(tb,!inB)) (by rw [aO,qJ,aB]) ?_
       exact fin _ _ (by simp) (by simp)
  ·have ea:a'= []:=Classical.byContradiction fun h=>hne (.inl h)
   have eb:b'= []:=Classical.byContradiction fun h=>hne (.inr h)
   subst ea;subst eb
   refine Ok.eq (x:=false) rfl ?_
   refine Ok.br ⟨I.inc,?_,fun x=>?_,fun c hc=>?_⟩
   ·have h1:=I.ea;have h2:=I.eb
    rw [mz] at h1 h2
    have h3:Fa out=false:=by
     rw [<-I.oo,I.ok,I.oa,I.ob,<-h1,<-h2]
     unfold Fa;rw [hae,hbe];exact hk
    unfold Fa at h3
    rw [beq_eq_false_iff_ne] at h3
    dsimp only;omega
   ·have:=I.KO x (fun d hd=>by rcases hd with h | h <;> cases h)
    have h1:=I.ea;have h2:=I.eb
    rw [mz] at h1 h2
    rw [h1,h2];exact this
   ·have h1:=I.ea;have h2:=I.eb
    rw [mz] at h1 h2
    rw [h1,h2];exact I.mem c hc
 ·exact⟨[],[],rfl,rfl,rfl,rfl,rfl,hk.symm,fun c hc=>(by rcases hc with h | h | h <;> cases h),jh,fun x _=>hk.symm,fun c hc=>(by cases hc),bD _⟩
 ·rintro o ho
  exact Ok.cs ho (fun s h=>Ok.ret h) (fun r=>r.elim)
theorem dX.app {s t:List Bd} (h:dX (s++t)):dX t:=⟨fun b hb=>h.each b (List.mem_append_right _ hb),(lT.1 h.ord).2.1⟩
theorem dX.low {b:Bd} {s:List Bd} (h:dX (b::s)): ∀c∈b::s,b.y0<=c.y0:=fun c hc=>by
 rcases cW.1 hc with rfl | hc
 ·exact Int.le_refl _
 ·have:=h.yj c hc;have:=(h.each b (by simp)).1;omega
theorem dX.high {s:List Bd} {b:Bd} (h:dX (s++[b])): ∀c∈s++[b],c.y1<=b.y1:=fun c hc=>by
 rcases cV.1 hc with hc | hc
 ·have:=((lT.1 h.ord).2.2 c hc b (by simp)).1
  have:=(h.each b (by simp)).1;omega
 ·simp at hc;subst hc;exact Int.le_refl _
def CW (s:List aA) (y e:Int):List Int×Int:=match s with
 | []=>([],e)
 | b::_=>if y<b.Y0 then ([],if b.Y0<e then b.Y0 else e) else (b.Xs,if b.Y1<e then b.Y1 else e)
theorem GD {α:Type} (x:α) (l:List α):idx (x::l) 0=some x:=rfl
theorem Iw (s:List aA) (y e:Int):l3 N s y e=some (CW s y e):=by
 unfold l3 CW
 cases s with
 | nil=>rfl
 | cons b s=>
  dsimp only
  rw [tC,aM,GD,aB,aB,aB,aB]
  by_cases h:y<b.Y0
  ·rw [bB h,aO,aC h]
  ·rw [bF h,aM,aD h]
theorem Ep {s:List aA} {y e:Int} {X Y:List Int} (hc:dX (s.map bJ)) (hl:uQ X Y (s.map bJ)) (hh: ∀b t,s=b::t->y<b.Y1) (hy:y<e):
  y< (CW s y e).2/\(CW s y e).2<=e/\(∀y',y<=y'->y'< (CW s y e).2->rowAt (s.map bJ) y'= (CW s y e).1)/\iC (CW s y e).1/\(CW s y e).1.length % 2=0/\((CW s y e).2=e\/(CW s y e).2∈Y)/\∀c∈(CW s y e).1,c∈X:=by
 cases s with
 | nil=>exact⟨hy,Int.le_refl _,fun y' _ _=>rfl,jh,rfl, .inl rfl,fun c hc=>(by cases hc)⟩
 | cons b t=>
  have hb:=hc.each (bJ b) (by simp)
  have hlb:=hl (bJ b) (by simp)
  have h1:=hh b t rfl
  unfold CW
  dsimp only
  by_cases h:y<b.Y0
  ·rw [aC h]
   dsimp only
   refine⟨by split <;> omega,by split <;> omega,fun y' h2 h3=>?_,jh,rfl,?_,fun c hc=>(by cases hc)⟩
   ·exact hc.tx (by show y'<b.Y0;split at h3 <;> omega)
   ·split
    ·exact .inr hlb.1
    ·exact .inl rfl
  ·rw [aD h]
   dsimp only
   refine⟨by split <;> omega,by split <;> omega,fun y' h2 h3=>?_,hb.2.2.1,hb.2.2.2,?_,hlb.2.2⟩
   ·exact dX.lM (b:=bJ b) (by show b.Y0<=y';omega) (by show y'<b.Y1;split at h3 <;> omega)
   ·split
    ·exact .inr hlb.2.1
    ·exact .inl rfl
theorem zU {y:Int} {a:List aA} (hN:a.length<N) {body:List aA->Option (Fl (List aA) Empty)}
  (hb:body=fun(s373: (List aA))=>((bif (decide ((s373.length:Int)>0)) then ((idx s373 0).bind fun x407=>some (decide (x407.Y1<=y))) else (some false)).bind fun s405=>bif s405 then ((p9 s373 1 (s373.length:Int)).bind fun x410=>some (.nx x410)) else (some (.br s373)):Option (Fl ((List aA)) Empty))):
  Ok (iY body N a) (KL (fun a'=>∃p,a=p++a'/\(∀c∈p,c.Y1<=y)/\∀b t,a'=b::t->y<b.Y1) (fun _=>True)):=by
 subst hb
 refine Ok.iY (fun a'=>∃p,a=p++a'/\∀c∈p,c.Y1<=y) List.length ?_ ⟨[],rfl,fun c hc=>(by cases hc)⟩ hN
 rintro a' ⟨p,e,hp⟩
 cases a' with
 | nil=>exact Ok.eq (x:=false) rfl (Ok.br ⟨p,e,hp,fun b t h=>(by cases h)⟩)
 | cons b t=>
  refine Ok.eq (x:=decide (b.Y1<=y)) (by rw [jP,aO,GD,aB]) ?_
  refine Ok.bif (fun h=>?_) (fun h=>Ok.br ⟨p,e,hp,fun b' t' h'=>?_⟩)
  ·have h:=of_decide_eq_true h
   refine Ok.eq (qJ b t) (Ok.nx ⟨⟨p++[b],by rw [e];simp,fun c hc=>?_⟩,by simp⟩)
   rcases cV.1 hc with hc | hc
   ·exact hp c hc
   ·simp at hc;subst hc;exact h
  ·have h:=of_decide_eq_false h
   injection h' with h1 h2;subst h1;omega
theorem Cl {p a':List Bd} {y y':Int} (hp: ∀c∈p,c.y1<=y) (h:y<=y'):rowAt (p++a') y'=rowAt a' y':=by
 rw [oG,aD]
 rintro⟨b,hb,h1⟩
 have:=hp b hb;omega
structure AV (fM:Bool->Bool->Bool) (X Y:List Int) (a b s:List aA):Prop where
 can:dX (s.map bJ)
 cover: ∀x y,rY (s.map bJ) x y=fM (rY (a.map bJ) x y) (rY (b.map bJ) x y)
 lim:uQ X Y (s.map bJ)
theorem yu {s:List aA} (hs:s≠[]) (hl:s.length<=1099511627776) (hc:dX (s.map bJ)): ∃f l,idx s 0=some f/\idx s (IntKind.wrap .i64 (((s.length:Nat):Int) - 1))=some l/\f∈s/\l∈s/\∀c∈s,f.Y0<=c.Y0/\c.Y1<=l.Y1:=by
 cases s with
 | nil=>exact absurd rfl hs
 | cons f t=>
  rw [fW (by simp) (by omega)]
  have hlt: (f::t).length - 1< (f::t).length:=by simp
  refine⟨f,(f::t)[(f::t).length - 1],rfl,j7 _ _ hlt,by simp,cJ _,fun c hcm=>⟨?_,?_⟩⟩
  ·exact hc.low (bJ c) (cP.2 ⟨c,hcm,rfl⟩)
  ·have e: (f::t)= (f::t).dropLast++[(f::t)[(f::t).length - 1]]:=by
    have:=List.dropLast_concat_getLast (show f::t≠[] by simp)
    rw [<-List.getLast_eq_getElem (h:=by simp)];exact this.symm
   generalize (f::t)[(f::t).length - 1]=l at e
   have hc2:=hc
   rw [e,dD] at hc2
   have hm:bJ c∈(List.map bJ (f::t).dropLast++[bJ l]):=by
    have:bJ c∈(f::t).map bJ:=cP.2 ⟨c,hcm,rfl⟩
    rw [e,dD] at this;exact this
   exact dX.high hc2 (bJ c) hm
theorem Dq {φ:Bool->Bool->Option Bool} {fM:Bool->Bool->Bool} (hφ: ∀p q,φ p q=some (fM p q)) (hk:fM false false=false) {a b:List aA} {X Y:List Int} (ca:dX (a.map bJ)) (cb:dX (b.map bJ))
  (la:uQ X Y (a.map bJ)) (lb:uQ X Y (b.map bJ)) (hX:X.length<=1048576000) (hY:Y.length<=1048576000) (hs: ∀c∈Y,small c) (hN:4398046511104<=N):Ok (nQ N a b φ) (AV fM X Y a b):=by
 have iT:a.length<=Y.length:=by have:=la.len ca;rwa [cE] at this
 have hbl:b.length<=Y.length:=by have:=lb.len cb;rwa [cE] at this
 unfold nQ
 rw [wrap_add (by omega)]
 refine Ok.bif (fun h=>Ok.ret ?_) (fun h=>?_)
 ·have h:a.length+b.length=0:=by have:=beq_iff_eq.1 h;omega
  have e1:a= []:=List.eq_nil_of_length_eq_zero (by omega)
  have e2:b= []:=List.eq_nil_of_length_eq_zero (by omega)
  subst e1;subst e2
  exact⟨dX.nil,fun x y=>hk.symm,fun c hc=>(by cases hc)⟩
 have h0:a≠[]\/b≠[]:=by
  rw [beq_eq_false_iff_ne] at h
  by_cases e:a= []
  ·right;intro e2;subst e;subst e2;exact h rfl
  ·exact .inl e
 refine Ok.bind (Ok.lV (fun k s=>match k with | 0=>True | 1=>a= []\/((∀c∈a,s.1<=c.Y0/\c.Y1<=s.2)/\s.1∈Y/\s.2∈Y) | _=>((∀c∈a,s.1<=c.Y0/\c.Y1<=s.2)/\(∀c∈b,s.1<=c.Y0/\c.Y1<=s.2)/\s.1∈Y/\s.2∈Y)) (by simp) trivial (fun k s hk hI=>?_)) ?_
 ·obtain⟨y,e⟩:=s
  have hk:k=0\/k=1:=by simp at hk;omega
  rcases hk with rfl | rfl
  ·refine Ok.ix (x:=a) rfl ?_
   by_cases ea:a= []
   ·subst ea
    exact Ok.eq (x:=(y,e)) rfl (Ok.ret (.inl rfl))
   ·obtain⟨f,l,f1,f2,f3,f4,f5⟩:=yu ea (by omega) ca
    have hpos:decide (((a.length:Nat):Int)>0)=true:=bB (by have:=List.length_pos_iff.2 ea;omega)
    refine Ok.eq (x:=(f.Y0,l.Y1)) ?_ (Ok.ret (.inr ⟨f5,(la _ (cP.2 ⟨f,f3,rfl⟩)).1,(la _ (cP.2 ⟨l,f4,rfl⟩)).2.1⟩))
    rw [hpos,aO]
    show ((some true).bind _)=_
    rw [aB,aO,f1,aB,f2,aB,aB,aB,aB]
    simp
  ·refine Ok.ix (x:=b) rfl ?_
   have hI:a= []\/((∀c∈a,y<=c.Y0/\c.Y1<=e)/\y∈Y/\e∈Y):=hI
   by_cases eb:b= []
   ·subst eb
    refine Ok.eq (x:=(y,e)) rfl (Ok.ret ?_)
    rcases hI with h | ⟨h1,h2,h3⟩
    ·rcases h0 with h' | h'
     ·exact absurd h h'
     ·exact absurd rfl h'
    ·exact⟨h1,fun c hc=>(by cases hc),h2,h3⟩
   ·obtain⟨f,l,f1,f2,f3,f4,f5⟩:=yu eb (by omega) cb
    have hpos:decide (((b.length:Nat):Int)>0)=true:=bB (by have:=List.length_pos_iff.2 eb;omega)
    have g1:f.Y0∈Y:=(lb _ (cP.2 ⟨f,f3,rfl⟩)).1
    have g2:l.Y1∈Y:=(lb _ (cP.2 ⟨l,f4,rfl⟩)).2.1
    by_cases ea:a= []
    ·subst ea
     refine Ok.eq (x:=(f.Y0,l.Y1)) ?_ (Ok.ret ⟨fun c hc=>(by cases hc),f5,g1,g2⟩)
     rw [hpos,aO]
     show ((some true).bind _)=_
     rw [aB,aO,f1,aB,f2,aB,aB,aB,aB]
     simp
    ·obtain⟨h1,h2,h3⟩:=hI.resolve_left ea
     refine Ok.eq (x:=(if f.Y0<y then f.Y0 else y,if e<l.Y1 then l.Y1 else e)) ?_ (Ok.ret ⟨fun c hc=>?_,fun c hc=>?_,?_,?_⟩)
     ·rw [hpos,aO]
      have ez: (((a.length:Nat):Int)==0)=false:=by rw [beq_eq_false_iff_ne];have:=List.length_pos_iff.2 ea;omega
      rw [ez]
      show ((some false).bind _)=_
      rw [aB,aM,aB,f1,aB,f2,aB]
     ·have:=h1 c hc;dsimp only;split <;> split <;> omega
     ·have:=f5 c hc;dsimp only;split <;> split <;> omega
     ·dsimp only;split
      ·exact g1
      ·exact h2
     ·dsimp only;split
      ·exact g2
      ·exact h3
 ·rintro⟨y0,e0⟩ hI
  have hI: (∀c∈a,y0<=c.Y0/\c.Y1<=e0)/\(∀c∈b,y0<=c.Y0/\c.Y1<=e0)/\y0∈Y/\e0∈Y:=hI
  obtain⟨ia,ib,iy,ie⟩:=hI
  have sy:=hs _ iy
  have se:=hs _ ie
  unfold small at sy se
  dsimp only
  refine Ok.bind (Ok.iY (Go:=fun s=>AV fM X Y a b s.2.2.1) (Rt:=fun _=>True)
   (fun s=>∃pa pb,a=pa++s.1/\b=pb++s.2.1/\(∀c∈pa,c.Y1<=s.2.2.2)/\(∀c∈pb,c.Y1<=s.2.2.2)/\y0<=s.2.2.2/\s.2.2.2<=max y0 e0/\s.2.2.2∈Y/\dX (s.2.2.1.map bJ)/\uQ X Y (s.2.2.1.map bJ)/\(∀c∈s.2.2.1,c.Y1<=s.2.2.2)/\
    ∀x y,rY (s.2.2.1.map bJ) x y= (fM (rY (a.map bJ) x y) (rY (b.map bJ) x y)&&decide (y<s.2.2.2)))
   (fun s=>(e0 - s.2.2.2).toNat) ?_ ?_ (by dsimp only;omega)) ?_
  ·rintro⟨a',b',out,y⟩ ⟨pa,pb,ea,eb,hpa,hpb,hy0,hye,hyY,hcan,hlim,htop,hcov⟩
   dsimp only at ea eb hpa hpb hy0 hye hyY hcan hlim htop hcov ⊢
   refine Ok.bif (fun h=>?_) (fun h=>Ok.br ?_)
   ·have hlt:y<e0:=of_decide_eq_true h
    have hsl: ∀(p s t:List aA),t=p++s->s.length<=t.length:=fun p s t e=>by rw [e];simp
    have hal':=hsl _ _ _ ea
    have hbl':=hsl _ _ _ eb
    refine Ok.bind (zU (y:=y) (a:=a') (by omega) rfl) (fun o ho=>Ok.cs ho ?_ (fun r=>r.elim))
    rintro a2 ⟨qa,ea2,hqa,hha⟩
    refine Ok.bind (zU (y:=y) (a:=b') (by omega) rfl) (fun o ho=>Ok.cs ho ?_ (fun r=>r.elim))
    rintro b2 ⟨qb,eb2,hqb,hhb⟩
    have ea3:a= (pa++qa)++a2:=by rw [ea,ea2];simp
    have eb3:b= (pb++qb)++b2:=by rw [eb,eb2];simp
    have hPa: ∀c∈pa++qa,c.Y1<=y:=fun c hc=>by rcases cV.1 hc with h | h;exact hpa c h;exact hqa c h
    have hPb: ∀c∈pb++qb,c.Y1<=y:=fun c hc=>by rcases cV.1 hc with h | h;exact hpb c h;exact hqb c h
    have ca2:dX (a2.map bJ):=by have:=ca;rw [ea3,dD] at this;exact this.app
    have cb2:dX (b2.map bJ):=by have:=cb;rw [eb3,dD] at this;exact this.app
    have la2:uQ X Y (a2.map bJ):=fun c hc=>la c (by rw [ea3,dD];exact List.mem_append_right _ hc)
    have lb2:uQ X Y (b2.map bJ):=fun c hc=>lb c (by rw [eb3,dD];exact List.mem_append_right _ hc)
    refine Ok.eq (Iw a2 y e0) (Ok.eq (Iw b2 y e0) ?_)
    obtain⟨a1,a3,a4,a5,a6,a7,a8⟩:=Ep ca2 la2 hha hlt
    obtain⟨b1,b3,b4,b5,b6,b7,b8⟩:=Ep cb2 lb2 hhb hlt
    have hal2: (CW a2 y e0).1.length<=X.length:=eC a5.nodup a8
    have hbl2: (CW b2 y e0).1.length<=X.length:=eC b5.nodup b8
    generalize CW a2 y e0=pa2 at *
    generalize CW b2 y e0=pb2 at *
    obtain⟨xa,n⟩:=pa2
    obtain⟨xb,m⟩:=pb2
    dsimp only at *
    refine Ok.bind (Fb hφ hk a5 b5 a6 b6 (by omega) (by omega) (by omega)) ?_
    rintro row ⟨r1,r2,r3,r4⟩
    have hnx: ∃nx,nx= (if m<n then m else n)/\y<nx/\nx<=e0/\nx<=n/\nx<=m/\nx∈Y:=by
     refine⟨_,rfl,by split <;> omega,by split <;> omega,by split <;> omega,by split <;> omega,?_⟩
     split
     ·rcases b7 with h | h
      ·rw [h];exact ie
      ·exact h
     ·rcases a7 with h | h
      ·rw [h];exact ie
      ·exact h
    obtain⟨nx,hnx,n1,n2,n3,n4,n5⟩:=hnx
    rw [<-hnx]
    have hol:out.length<=Y.length:=by have:=hlim.len hcan;rwa [cE] at this
    obtain⟨out',p1,p2⟩:=En (N:=N) (s:=out) (b:=⟨y,nx,row⟩) (by omega) (fun c hc=>by
     have:=hlim.row hcan (b:=bJ c) (cP.2 ⟨c,hc,rfl⟩)
     have e: (bJ c).xs=c.Xs:=rfl
     rw [e] at this;omega)
    refine Ok.eq p1 ?_
    have htop': ∀c∈out.map bJ,c.y1<=(bJ ⟨y,nx,row⟩).y0:=fun c hc=>by
     obtain⟨d,hd,rfl⟩:=cP.1 hc
     exact htop d hd
    refine Ok.nx ⟨⟨pa++qa,pb++qb,ea3,eb3,fun c hc=>by have:=hPa c hc;dsimp only;omega,fun c hc=>by have:=hPb c hc;dsimp only;omega,by dsimp only;omega,by dsimp only;omega,n5,by dsimp only;rw [p2];exact tA hcan htop' r1 r2,?_,fun c hc=>?_,fun x y'=>?_⟩,by dsimp only;omega⟩
    ·dsimp only;rw [p2]
     refine hlim.push hyY n5 (fun c hc=>?_)
     rcases r4 c hc with h | h
     ·exact a8 c h
     ·exact b8 c h
    ·have hm':bJ c∈iD (out.map bJ) (bJ ⟨y,nx,row⟩):=by rw [<-p2];exact cP.2 ⟨c,hc,rfl⟩
     exact tB htop' (by show y<=nx;omega) _ hm'
    ·show nA (rowAt (out'.map bJ) y') x=_
     rw [p2,tz htop' (fun c hc=>(hcan.each c hc).1) (fun h=>absurd h (by show ¬nx<=y;omega))]
     by_cases hyy:y<=y'/\y'<nx
     ·rw [aC (show (bJ ⟨y,nx,row⟩).y0<=y'/\y'< (bJ ⟨y,nx,row⟩).y1 from hyy),bB hyy.2,Bool.and_true]
      show nA row x=_
      have mp: ∀p q:List aA,(∀c∈p++q,c.Y1<=y)->∀c∈(p++q).map bJ,c.y1<=y:=fun p q h c hc=>by
       obtain⟨d,hd,rfl⟩:=cP.1 hc
       exact h d hd
      have q1:rY (a.map bJ) x y'=nA xa x:=by
       unfold rY
       rw [ea3,dD,Cl (mp _ _ hPa) hyy.1,a4 y' hyy.1 (by omega)]
      have q2:rY (b.map bJ) x y'=nA xb x:=by
       unfold rY
       rw [eb3,dD,Cl (mp _ _ hPb) hyy.1,b4 y' hyy.1 (by omega)]
      rw [r3,q1,q2]
     ·rw [aD (show ¬((bJ ⟨y,nx,row⟩).y0<=y'/\y'< (bJ ⟨y,nx,row⟩).y1) from hyy)]
      show rY (out.map bJ) x y'=_
      rw [hcov]
      by_cases h1:y'<y
      ·rw [bB h1,bB (show y'<nx by omega)]
      ·rw [bF h1,bF (show ¬y'<nx by omega)]
   ·have hge:e0<=y:=by have:=of_decide_eq_false h;omega
    refine⟨hcan,fun x y'=>?_,hlim⟩
    dsimp only
    rw [hcov]
    by_cases h1:y'<y
    ·rw [bB h1,Bool.and_true]
    ·have z: ∀s:List aA,(∀c∈s,y0<=c.Y0/\c.Y1<=e0)->rY (s.map bJ) x y'=false:=fun s h=>by
      unfold rY
      rw [kL fun c hc=>?_]
      ·rfl
      ·obtain⟨d,hd,rfl⟩:=cP.1 hc
       exact .inr (by have:=(h d hd).2;show d.Y1<=y';omega)
     rw [z a ia,z b ib,hk];rfl
  ·refine⟨[],[],rfl,rfl,fun c hc=>(by cases hc),fun c hc=>(by cases hc),Int.le_refl _,by dsimp only;omega,iy,dX.nil,fun c hc=>(by cases hc),fun c hc=>(by cases hc),fun x y=>?_⟩
   dsimp only
   show false=_
   by_cases h1:y<y0
   ·have z: ∀s:List aA,(∀c∈s,y0<=c.Y0/\c.Y1<=e0)->rY (s.map bJ) x y=false:=fun s h=>by
     unfold rY
     rw [kL fun c hc=>?_]
     ·rfl
     ·obtain⟨d,hd,rfl⟩:=cP.1 hc
      exact .inl (by have:=(h d hd).1;show y<d.Y0;omega)
    rw [z a ia,z b ib,hk];rfl
   ·rw [bF h1,Bool.and_false]
  ·rintro o ho
   exact Ok.cs ho (fun s h=>Ok.ret h) (fun r=>r.elim)
theorem Fc {a b:List aA} {X Y:List Int} (ca:dX (a.map bJ)) (cb:dX (b.map bJ)) (la:uQ X Y (a.map bJ)) (lb:uQ X Y (b.map bJ)) (hX:X.length<=1048576000) (hY:Y.length<=1048576000) (hs: ∀c∈Y,small c) (hN:4398046511104<=N):
  Ok (kf N a b) (AV (fun p q=>p&& !q) X Y a b):=by
 unfold kf
 exact Ok.bind (Dq (fM:=fun p q=>p&& !q) (fun p q=>rfl) rfl ca cb la lb hX hY hs hN) (fun s h=>Ok.ret h)
end
end Go.Gk
namespace Go.Gk
open Go
section
variable {N:Nat}
structure UF (n:Nat) (up:List Int) (r:Nat->Nat):Prop where
 len:up.length=n
 rt: ∀i,i<n->∃u:Nat,up[i]? =some ((u:Nat):Int)/\u<=i/\r u=r i/\(u=i↔r i=i)
theorem UF.le {n:Nat} {up:List Int} {r:Nat->Nat} (h:UF n up r): ∀i,i<n->r i<=i:=by
 intro i
 induction i using Nat.strongRecOn with
 | ind i ih=>
  intro hi
  obtain⟨u,_,h2,h3,h4⟩:=h.rt i hi
  by_cases e:u=i
  ·rw [h4.1 e];exact bD _
  ·rw [<-h3];have:=ih u (by omega) (by omega);omega
theorem UF.rr {n:Nat} {up:List Int} {r:Nat->Nat} (h:UF n up r): ∀i,i<n->r (r i)=r i:=by
 intro i
 induction i using Nat.strongRecOn with
 | ind i ih=>
  intro hi
  obtain⟨u,_,h2,h3,h4⟩:=h.rt i hi
  by_cases e:u=i
  ·rw [h4.1 e,h4.1 e]
  ·rw [<-h3];exact ih u (by omega) (by omega)
theorem mD {l:List Int} {j:Nat} {v:Int} {i:Nat} (hj:j<l.length): (l.set j v)[i]? =if i=j then some v else l[i]? :=by
 rw [eF]
 by_cases e:j=i
 ·rw [aC e,aC e.symm,aC hj]
 ·rw [aD e,aD (fun h=>e h.symm)]
theorem UF.init (n:Nat) (up:List Int) (h1:up.length=n) (h2: ∀i,i<n->up[i]? =some ((i:Nat):Int)):UF n up (fun i=>i):=
 ⟨h1,fun i hi=>⟨i,h2 i hi,bD _,rfl,by simp⟩⟩
theorem Cm {n:Nat} (hn:n<=1048576000): ∃up,kg N ((n:Nat):Int)=some up/\UF n up (fun i=>i):=by
 unfold kg
 rw [tv 0 (by omega),aB]
 have h0: (List.replicate n (0:Int)).length=n:=by simp
 obtain⟨s',h1,h2⟩:=xH (m:=(List.replicate n (0:Int)).length) (s:=List.replicate n (0:Int)) (body:=fun(k34:Nat) (s35: (List Int))=>((idx s35 (k34:Int)).bind fun x38=>some (s35.set (Int.toNat (k34:Int)) (k34:Int)):Option ((List Int))))
  (fun k s=>s.length=n/\∀i,i<k->s[i]? =some ((i:Nat):Int)) (by omega) ⟨h0,fun i hi=>by omega⟩ (fun k s hk ⟨hs,hi⟩=>by
   refine⟨s.set k ((k:Nat):Int),?_,by simp [hs],fun i hi'=>?_⟩
   ·rw [j7 _ _ (by omega),aB,cA]
   ·rw [mD (by omega)]
    split
    ·rename_i e;rw [e]
    ·exact hi i (by omega))
 rw [h1,aB]
 exact⟨s',rfl,UF.init n s' h2.1 (fun i hi=>h2.2 i (by omega))⟩
theorem AW {n:Nat} {up:List Int} {r:Nat->Nat} (h:UF n up r) {i:Nat} (hi:i<n) (hn:n<N): ∃up',fP N up ((i:Nat):Int)=some (((r i:Nat):Int),up')/\UF n up' r:=by
 unfold fP
 obtain⟨o,h1,h2⟩:=vl (R:=Empty) (body:=fun(s32: (List Int)×Int)=>((idx s32.1 s32.2).bind fun x43=>bif (x43 != s32.2) then ((idx s32.1 s32.2).bind fun x44=>(idx s32.1 x44).bind fun x45=>(idx s32.1 s32.2).bind fun x46=>(idx (s32.1.set (Int.toNat s32.2) x45) s32.2).bind fun x47=>some (.nx ((s32.1.set (Int.toNat s32.2) x45),x47))) else (some (.br (s32.1,s32.2))):Option (Fl ((List Int)×Int) Empty)))
  (fun s=>UF n s.1 r/\∃j:Nat,s.2= ((j:Nat):Int)/\j<n/\r j=r i) (fun s=>s.2.toNat) (fun s=>s.2= ((r i:Nat):Int)/\UF n s.1 r) (fun _=>True) (fun s ⟨hu,j,hj,hjn,hr⟩=>by
   obtain⟨l,y⟩:=s
   dsimp only at hu hj ⊢
   subst hj
   obtain⟨u,a1,a2,a3,a4⟩:=hu.rt j hjn
   rw [dG a1,aB]
   by_cases e:u=j
   ·subst e
    refine⟨.br (l,((u:Nat):Int)),by rw [show (((u:Nat):Int) != ((u:Nat):Int))=false by simp,aM],?_,hu⟩
    show ((u:Nat):Int)=_
    rw [<-hr,a4.1 rfl]
   ·obtain⟨v,b1,b2,b3,b4⟩:=hu.rt u (by omega)
    have hl:=hu.len
    refine⟨.nx (l.set j ((v:Nat):Int),((v:Nat):Int)),by
     rw [show (((u:Nat):Int) != ((j:Nat):Int))=true by simp;omega,aO,aB,dG b1,aB,aB,cA,
      dG (x:=((v:Nat):Int)) (by rw [mD (by omega),aC rfl]),aB],⟨⟨by simp [hl],fun k hk=>?_⟩,v,rfl,by omega,?_⟩,?_⟩
    ·rw [mD (by omega)]
     by_cases e2:k=j
     ·subst e2
      rw [aC rfl]
      refine⟨v,rfl,by omega,by rw [b3,a3],?_⟩
      constructor
      ·intro h;omega
      ·intro h;exact absurd (a4.2 h) e
     ·rw [aD e2];exact hu.rt k hk
    ·rw [b3,a3,hr]
    ·simp only [cA];omega)
  N (up,((i:Nat):Int)) ⟨h,i,rfl,hi,rfl⟩ (by simp only [cA];omega)
 rw [h1,aB]
 cases o with
 | go s'=>exact⟨s'.1,by rw [<-h2.1];rfl,h2.2⟩
 | rt r=>exact r.elim
def nv (r:Nat->Nat) (a b:Nat):Nat->Nat:=fun x=>if r x=max a b then min a b else r x
theorem GF (a b:Nat): (if ((a:Nat):Int)< ((b:Nat):Int) then ((b:Nat):Int) else ((a:Nat):Int))= ((max a b:Nat):Int):=by
 rw [Nat.max_def];split <;> split <;> omega
theorem GG (a b:Nat): (if ((b:Nat):Int)< ((a:Nat):Int) then ((b:Nat):Int) else ((a:Nat):Int))= ((min a b:Nat):Int):=by
 rw [Nat.min_def];split <;> split <;> omega
theorem HQ {n:Nat} {up:List Int} {r:Nat->Nat} (h:UF n up r) {i k:Nat} (hi:i<n) (hk:k<n) (hn:n<N):
  ∃up',gk N up ((i:Nat):Int) ((k:Nat):Int)=some up'/\UF n up' (nv r (r i) (r k)):=by
 obtain⟨u1,a1,a2⟩:=AW h hi hn
 obtain⟨u2,b1,b2⟩:=AW a2 hk hn
 have hri:=h.le i hi
 have hrk:=h.le k hk
 have rri:=h.rr i hi
 have rrk:=h.rr k hk
 unfold gk
 rw [a1,aB,b1,aB]
 dsimp only
 rw [GF,GG]
 have hm:max (r i) (r k)<n:=by omega
 have hl:=b2.len
 rw [j7 _ _ (by omega),aB,cA]
 refine⟨_,rfl,by simp [hl],fun x hx=>?_⟩
 have rmax:r (max (r i) (r k))=max (r i) (r k):=by rcases Nat.le_total (r i) (r k) with e | e <;> simp [Nat.max_def] <;> split <;> omega
 have rmin:r (min (r i) (r k))=min (r i) (r k):=by rcases Nat.le_total (r i) (r k) with e | e <;> simp [Nat.min_def] <;> split <;> omega
 rw [mD (by omega)]
 by_cases e:x=max (r i) (r k)
 ·subst e
  rw [aC rfl]
  refine⟨min (r i) (r k),rfl,by omega,?_,?_⟩
  ·unfold nv;rw [rmin,rmax,aC rfl];split <;> rfl
  ·unfold nv;rw [rmax,aC rfl]
 ·rw [aD e]
  obtain⟨u,c1,c2,c3,c4⟩:=b2.rt x hx
  refine⟨u,c1,c2,?_,?_⟩
  ·unfold nv;rw [c3]
  ·unfold nv
   split
   ·rename_i e2
    constructor
    ·intro hu;have:=c4.1 hu;omega
    ·intro hu
     have h1:=b2.le x hx
     have:min (r i) (r k)=max (r i) (r k)\/x<max (r i) (r k):=by omega
     have h3:x=max (r i) (r k):=by omega
     exact absurd h3 e
   ·exact c4
def o7 (r:Nat->Nat) (E:List (Nat×Nat)):Prop:=∀p∈E,r p.1=r p.2
def yv (n:Nat) (r:Nat->Nat) (E:List (Nat×Nat)):Prop:=∀S:Nat->Prop,(∀p∈E,S p.1↔S p.2)->∀i j,i<n->j<n->r i=r j->S i->S j
theorem o7.join {r:Nat->Nat} {E:List (Nat×Nat)} (h:o7 r E) (i k:Nat) (_h2:r (r i)=r i):o7 (nv r (r i) (r k)) (E++[(i,k)]):=fun p hp=>by
 rcases cV.1 hp with hp | hp
 ·unfold nv;rw [h p hp]
 ·simp at hp;subst hp
  unfold nv
  dsimp only
  split <;> split <;> omega
theorem yv.join {n:Nat} {r:Nat->Nat} {E:List (Nat×Nat)} (h:yv n r E) {i k:Nat} (hi:i<n) (hk:k<n):yv n (nv r (r i) (r k)) (E++[(i,k)]):=fun S hS x y hx hy hr hSx=>by
 have hE: ∀p∈E,S p.1↔S p.2:=fun p hp=>hS p (List.mem_append_left _ hp)
 have hik:S i↔S k:=hS (i,k) (by simp)
 have key:=h S hE
 unfold nv at hr
 by_cases h1:r x=r y
 ·exact key x y hx hy h1 hSx
 ·have: (r x=r i/\r y=r k)\/(r x=r k/\r y=r i):=by
   split at hr <;> split at hr <;> omega
  rcases this with ⟨e1,e2⟩ | ⟨e1,e2⟩
  ·exact key k y hk hy e2.symm (hik.1 (key x i hx hi e1 hSx))
  ·exact key i y hi hy e2.symm (hik.2 (key x k hx hk e1 hSx))
theorem yv.id (n:Nat):yv n (fun i=>i) []:=fun S _ i j _ _ h hs=>by
 have h:i=j:=h
 subst h;exact hs
theorem o7.id:o7 (fun i=>i) []:=fun p hp=>by simp at hp
def bI (n:Nat) (r:Nat->Nat):List Nat:=(List.range n).filter (fun k=>decide (r k=k))
def cls (n:Nat) (r:Nat->Nat) (k:Nat):List Nat:=(List.range n).filter (fun i=>decide (r i=k))
theorem gI (n:Nat) (r:Nat->Nat):bI (n+1) r=if r n=n then bI n r++[n] else bI n r:=by
 unfold bI
 rw [List.range_succ,iO]
 by_cases h:r n=n
 ·rw [aC h];simp [h]
 ·rw [aD h];simp [h]
theorem sU (n:Nat) (r:Nat->Nat) (k:Nat):cls (n+1) r k=if r n=k then cls n r k++[n] else cls n r k:=by
 unfold cls
 rw [List.range_succ,iO]
 by_cases h:r n=k
 ·rw [aC h];simp [h]
 ·rw [aD h];simp [h]
theorem nI (n:Nat) (r:Nat->Nat): (bI n r).length<=n:=by
 have:=kB (fun k=>decide (r k=k)) (List.range n)
 rw [List.length_range] at this;exact this
theorem AX (n:Nat) (r:Nat->Nat) (k:Nat): (cls n r k).length<=n:=by
 have:=kB (fun i=>decide (r i=k)) (List.range n)
 rw [List.length_range] at this;exact this
theorem iE {n k:Nat} {r:Nat->Nat}:k∈bI n r↔k<n/\r k=k:=by unfold bI;simp
theorem mM (n:Nat) (r:Nat->Nat): (bI n r).Nodup:=List.Nodup.sublist List.filter_sublist List.nodup_range
def o8 (n:Nat) (r:Nat->Nat):List (List Int):=(bI n r).map (fun k=>(cls n r k).map (fun i=>((i:Nat):Int)))
theorem Er {n k:Nat} {r:Nat->Nat} (h: ∀i,i<n->r i<=i) (hk:n<=k):cls n r k= []:=by
 unfold cls
 rw [List.filter_eq_nil_iff]
 intro i hi
 have h1:=my.1 hi
 have:=h i h1
 simp;omega
theorem sV {α β:Type} (f g:α->β) (l:List α) (j:Nat) (a:α) (hn:l.Nodup) (hj:l[j]? =some a) (hf: ∀b,b∈l->b≠a->f b=g b): (l.map f).set j (g a)=l.map g:=by
 apply List.ext_getElem?
 intro i
 have hjl:=(aU.1 hj).1
 rw [eF,cE,dV,dV]
 by_cases e:j=i
 ·subst e;rw [aC rfl,aC hjl,hj];rfl
 ·rw [aD e]
  cases hb:l[i]? with
  | none=>rfl
  | some b=>
   have hne:b≠a:=fun he=>by
    subst he
    have hil:=(aU.1 hb).1
    exact e ((List.getElem_inj hn).1 (by rw [(aU.1 hb).2,(aU.1 hj).2]) |>.symm)
   show some (f b)=some (g b)
   rw [hf b (dU hb) hne]
def KP (n:Nat) (r:Nat->Nat) (m:List (Int×Int)):Prop:=∀(j k:Nat),(bI n r)[j]? =some k->dL m ((k:Nat):Int) 0= ((j:Nat):Int)
theorem HR {n:Nat} {up:List Int} {r:Nat->Nat} (h:UF n up r) (hn:n<N) (hn2:n<=1048576000): ∃up',i7 N up=some (o8 n r,up')/\UF n up' r:=by
 unfold i7
 have hlen:=h.len
 have hle:=h.le
 have hrr:=h.rr
 obtain⟨s',h1,h2⟩:=xH (m:=up.length) (s:=(up,([]: (List (List Int))),([]: (List (Int×Int)))))
  (body:=fun(k32:Nat) (s33: (List Int)×(List (List Int))×(List (Int×Int)))=>((fP N s33.1 (k32:Int)).bind fun x117=>(bif (x117.1==(k32:Int)) then ((app 24 s33.2.1 [([]: (List Int))]).bind fun x126=>some (x126,(nP s33.2.2 (k32:Int) (s33.2.1.length:Int)))) else (some (s33.2.1,s33.2.2))).bind fun s122=>(idx s122.1 (dL s122.2 x117.1 (0:Int))).bind fun x128=>(app 8 x128 ([(k32:Int)]: (List Int))).bind fun x134=>(idx s122.1 (dL s122.2 x117.1 (0:Int))).bind fun x136=>some (x117.2,(s122.1.set (Int.toNat (dL s122.2 x117.1 (0:Int))) x134),s122.2):Option ((List Int)×(List (List Int))×(List (Int×Int)))))
  (fun k s=>UF n s.1 r/\s.2.1=o8 k r/\KP k r s.2.2) (by omega) ⟨h,rfl,fun j k hj=>by simp [bI] at hj⟩ (fun k s hk ⟨hu,hs,hm⟩=>by
   obtain⟨l,ss,m⟩:=s
   dsimp only at hu hs hm ⊢
   subst hs
   rw [hlen] at hk
   obtain⟨u',a1,a2⟩:=AW hu hk hn
   rw [a1,aB]
   dsimp only
   have hhl:=nI k r
   have hsl: (o8 k r).length= (bI k r).length:=by unfold o8;simp
   have hrk:=hle k hk
   by_cases e:r k=k
   ·
    rw [show (((r k:Nat):Int)==((k:Nat):Int))=true by rw [e];simp,aO,iK (by rw [hsl];simp;omega),aB,aB]
    dsimp only
    rw [e,qF,aC rfl,hsl]
    have hi: (o8 k r++[([]:List Int)])[(bI k r).length]? =some []:=by rw [<-hsl,fI (bD _),Nat.sub_self];rfl
    rw [dG hi,aB,iK (by simp),aB,aB,cA]
    refine⟨_,rfl,a2,?_,fun j q hj=>?_⟩
    ·dsimp only
     rw [<-hsl,List.set_append_right _ _ (bD _),Nat.sub_self]
     unfold o8
     rw [gI,aC e,dD]
     congr 1
     ·apply List.map_congr_left
      intro a ha
      have:=(iE.1 ha).1
      rw [sU,aD (by omega)]
     ·simp only [List.set_cons_zero,dA,List.map_nil,List.nil_append]
      rw [sU,aC e,Er (fun i hi=>hle i (by omega)) (bD _)];rfl
    ·dsimp only
     rw [gI,aC e] at hj
     rw [qF]
     by_cases e2:j< (bI k r).length
     ·rw [fz e2] at hj
      have:=(iE.1 (dU hj)).1
      rw [aD (by omega)];exact hm j q hj
     ·rw [fI (by omega)] at hj
      have hj0:j - (bI k r).length=0:=by
       have:=(aU.1 hj).1;simp at this;omega
      rw [hj0] at hj;simp at hj;subst hj
      rw [aC rfl];congr 1;omega
   ·rw [show (((r k:Nat):Int)==((k:Nat):Int))=false by simp;omega,aM,aB]
    dsimp only
    have hh:r k∈bI k r:=iE.2 ⟨by omega,hrr k hk⟩
    obtain⟨j,hj⟩:=dF hh
    rw [hm j (r k) hj]
    have hcl:=AX k r (r k)
    have hi: (o8 k r)[j]? =some ((cls k r (r k)).map (fun i=>((i:Nat):Int))):=by unfold o8;rw [dV,hj];rfl
    rw [dG hi,aB,iK (by simp;omega),aB,aB,cA]
    refine⟨_,rfl,a2,?_,fun j' q hj'=>?_⟩
    ·unfold o8
     rw [gI,aD e]
     have:=sV (fun a=>(cls k r a).map (fun i=>((i:Nat):Int))) (fun a=>(cls (k+1) r a).map (fun i=>((i:Nat):Int))) (bI k r) j (r k) (mM k r) hj (fun b hb hne=>by
      rw [sU,aD (fun h=>hne h.symm)])
     rw [sU,aC rfl,dD] at this
     exact this
    ·rw [gI,aD e] at hj';exact hm j' q hj')
 rw [h1,aB]
 obtain⟨l,ss,m⟩:=s'
 dsimp only at h2
 rw [hlen] at h2
 refine⟨l,?_,h2.1⟩
 rw [<-h2.2.1]
end
end Go.Gk
namespace Go.Gk
open Go
section
variable {N:Nat}
theorem AY {n:Nat} {up:List Int} {r:Nat->Nat} (h:UF n up r) {i:Nat} (hi:i<n) (hn:n<N): ∃up',eO N ((i:Nat):Int) up=some (((r i:Nat):Int),up')/\UF n up' r:=by
 unfold eO
 have:=Ok.bind (β:=Int×List Int) (Q:=fun x=>x.1= ((r i:Nat):Int)/\UF n x.2 r) (Ok.iY (body:=fun(s32:Int×(List Int))=>((idx s32.2 s32.1).bind fun x43=>bif (x43 != s32.1) then ((idx s32.2 s32.1).bind fun x44=>(idx s32.2 x44).bind fun x45=>(idx s32.2 s32.1).bind fun x46=>(idx (s32.2.set (Int.toNat s32.1) x45) s32.1).bind fun x47=>some (.nx (x47,(s32.2.set (Int.toNat s32.1) x45)))) else (some (.br (s32.1,s32.2))):Option (Fl (Int×(List Int)) Empty)))
  (N:=N) (s:=(((i:Nat):Int),up)) (Go:=fun s=>s.1= ((r i:Nat):Int)/\UF n s.2 r) (Rt:=fun _=>True) (fun s=>UF n s.2 r/\∃j:Nat,s.1= ((j:Nat):Int)/\j<n/\r j=r i) (fun s=>s.1.toNat) (by
   rintro⟨y,l⟩ ⟨hu,j,hj,hjn,hr⟩
   dsimp only at hu hj ⊢
   subst hj
   obtain⟨u,a1,a2,a3,a4⟩:=hu.rt j hjn
   refine Ok.ix a1 ?_
   by_cases e:u=j
   ·subst e
    rw [show (((u:Nat):Int) != ((u:Nat):Int))=false by simp,aM]
    refine Ok.br ⟨?_,hu⟩
    show ((u:Nat):Int)=_
    rw [<-hr,a4.1 rfl]
   ·obtain⟨v,b1,b2,b3,b4⟩:=hu.rt u (by omega)
    have hl:=hu.len
    rw [show (((u:Nat):Int) != ((j:Nat):Int))=true by simp;omega,aO]
    refine Ok.ix a1 (Ok.ix b1 (Ok.ix a1 (Ok.ix (x:=((v:Nat):Int)) (by rw [cA,mD (by omega),aC rfl]) (Ok.nx ⟨⟨⟨by simp [hl],fun k hk=>?_⟩,v,rfl,by omega,?_⟩,?_⟩))))
    ·rw [cA,mD (by omega)]
     by_cases e2:k=j
     ·subst e2
      rw [aC rfl]
      refine⟨v,rfl,by omega,by rw [b3,a3],?_⟩
      constructor
      ·intro h;omega
      ·intro h;exact absurd (a4.2 h) e
     ·rw [aD e2];exact hu.rt k hk
    ·rw [b3,a3,hr]
    ·simp only [cA];omega)
  ⟨h,i,rfl,hi,rfl⟩ (by simp only [cA];omega))
  (fun o ho=>Ok.cs (f:=fun(s32:Int×(List Int))=>some (s32.1,s32.2)) (g:=fun r:Empty=>r.elim) ho (fun s h=>Ok.ret h) (fun r=>r.elim))
 obtain⟨⟨x,up'⟩,h1,h2,h3⟩:=this
 exact⟨up',by rw [<-h2];exact h1,h3⟩
theorem GH {n:Nat} {up:List Int} {r:Nat->Nat} (h:UF n up r) {i k:Nat} (hi:i<n) (hk:k<n) {f:List Int->Option (List Int)} (hn:n<N):
  ∃up',((eO N ((i:Nat):Int) up).bind fun x840=>(eO N ((k:Nat):Int) x840.2).bind fun x842=>(idx x842.2 (if x840.1<x842.1 then x842.1 else x840.1)).bind fun x844=>some (x842.2.set (Int.toNat (if x840.1<x842.1 then x842.1 else x840.1)) (if x842.1<x840.1 then x842.1 else x840.1)))=some up'/\UF n up' (nv r (r i) (r k)):=by
 obtain⟨u1,a1,a2⟩:=AY h hi hn
 obtain⟨u2,b1,b2⟩:=AY a2 hk hn
 obtain⟨v1,c1,c2⟩:=AW h hi hn
 have hri:=h.le i hi
 have hrk:=h.le k hk
 have rri:=h.rr i hi
 have rrk:=h.rr k hk
 rw [a1,aB,b1,aB]
 dsimp only
 rw [GF,GG]
 have hm:max (r i) (r k)<n:=by omega
 have hl:=b2.len
 rw [j7 _ _ (by omega),aB,cA]
 refine⟨_,rfl,by simp [hl],fun x hx=>?_⟩
 have rmax:r (max (r i) (r k))=max (r i) (r k):=by rcases Nat.le_total (r i) (r k) with e | e <;> simp [Nat.max_def] <;> split <;> omega
 have rmin:r (min (r i) (r k))=min (r i) (r k):=by rcases Nat.le_total (r i) (r k) with e | e <;> simp [Nat.min_def] <;> split <;> omega
 rw [mD (by omega)]
 by_cases e:x=max (r i) (r k)
 ·subst e
  rw [aC rfl]
  refine⟨min (r i) (r k),rfl,by omega,?_,?_⟩
  ·unfold nv;rw [rmin,rmax,aC rfl];split <;> rfl
  ·unfold nv;rw [rmax,aC rfl]
 ·rw [aD e]
  obtain⟨u,c1,c2,c3,c4⟩:=b2.rt x hx
  refine⟨u,c1,c2,?_,?_⟩
  ·unfold nv;rw [c3]
  ·unfold nv
   split
   ·rename_i e2
    constructor
    ·intro hu;have:=c4.1 hu;omega
    ·intro hu
     have h1:=b2.le x hx
     have h3:x=max (r i) (r k):=by omega
     exact absurd h3 e
   ·exact c4
def gV (s:List aA) (k:Nat):Nat:=(aQ (s.take k)).length
theorem wL {s:List aA} {k:Nat} (h:k<s.length):gV s (k+1)=gV s k+s[k].Xs.length / 2:=by
 unfold gV
 rw [dT h,mq,cQ]
 show _+ (aQ [s[k]]).length=_
 rw [show aQ [s[k]]=lN s[k] by simp [aQ],ma]
theorem wM {s:List aA} {k m:Nat} (h:k<=m):gV s k<=gV s m:=by
 unfold gV
 have:=wJ (s.take m) k
 rwa [List.take_take,Nat.min_eq_left h] at this
theorem Cn (s:List aA):gV s s.length= (aQ s).length:=by unfold gV;rw [eE]
theorem HS {s:List aA} {k t:Nat} (h:k<s.length) (ht:2*t+1<s[k].Xs.length): (aQ s)[gV s k+t]? =some ⟨s[k].Xs[2*t],s[k].Y0,s[k].Xs[2*t+1],s[k].Y1⟩:=by
 have e:aQ s=aQ (s.take k)++(lN s[k]++aQ (s.drop (k+1))):=by
  conv=>lhs;rw [<-List.take_append_drop k s,pB h]
  rw [mq,lO]
 rw [e]
 unfold gV
 rw [fI (by omega),Nat.add_sub_cancel_left,fz (by rw [ma];omega)]
 unfold lN
 rw [dV,vG _ _ ht];rfl
theorem Es {s:List aA} {i:Nat} (h:i< (aQ s).length): ∃k,k<s.length/\gV s k<=i/\i<gV s (k+1):=by
 have key: ∀m,m<=s.length->i<gV s m->∃k,k<m/\gV s k<=i/\i<gV s (k+1):=by
  intro m
  induction m with
  | zero=>intro _ h;unfold gV at h;simp [aQ] at h
  | succ m ih=>
   intro hm hi
   by_cases h1:i<gV s m
   ·obtain⟨k,hk,h2⟩:=ih (by omega) h1
    exact⟨k,by omega,h2⟩
   ·exact⟨m,by omega,by omega,hi⟩
 exact key s.length (bD _) (by rw [Cn];exact h)
def AZ (a c:aH):Prop:=a.Y1=c.Y0/\a.X0<c.X1/\c.X0<a.X1
def wh (all:List aH) (i j:Nat):Prop:=∃a c,all[i]? =some a/\all[j]? =some c/\AZ a c
theorem tD {s:List aA} (he: ∀b∈s,b.Xs.length % 2=0) {k i:Nat} (hk:k<s.length) (h1:gV s k<=i) (h2:i<gV s (k+1)): ∃t,i=gV s k+t/\∃h:2*t+1<s[k].Xs.length,(aQ s)[i]? =some ⟨s[k].Xs[2*t],s[k].Y0,s[k].Xs[2*t+1],s[k].Y1⟩:=by
 rw [wL hk] at h2
 have:=he _ (cJ hk)
 refine⟨i - gV s k,by omega,by omega,?_⟩
 have h3:=HS (t:=i - gV s k) hk (by omega)
 rwa [show gV s k+ (i - gV s k)=i by omega] at h3
theorem yw {s:List aA} (hc:dX (s.map bJ)) {p q:Nat} (hp:p<s.length) (hq:q<s.length) (h:p<q):s[p].Y1<=s[q].Y0:=by
 have:=kA.1 hc.ord p q (by simp;omega) (by simp;omega) h
 simp only [List.getElem_map] at this
 exact this.1
theorem yx {s:List aA} (hc:dX (s.map bJ)) {p:Nat} (hp:p<s.length):s[p].Y0<s[p].Y1:=(hc.each (bJ s[p]) (cP.2 ⟨_,cJ hp,rfl⟩)).1
theorem qK {s:List aA} (hc:dX (s.map bJ)): ∀b∈s,b.Xs.length % 2=0:=fun b hb=>(hc.each (bJ b) (cP.2 ⟨b,hb,rfl⟩)).2.2.2
theorem Et {s:List aA} (hc:dX (s.map bJ)): ∀b∈s,iC b.Xs:=fun b hb=>(hc.each (bJ b) (cP.2 ⟨b,hb,rfl⟩)).2.2.1
theorem Co {s:List aA} (hc:dX (s.map bJ)) {i j q:Nat} (hq:q<s.length) (h1:gV s q<=j) (h2:j<gV s (q+1)) (ht:wh (aQ s) i j): ∃hq0:0<q,s[q - 1].Y1=s[q].Y0/\gV s (q - 1)<=i/\i<gV s q:=by
 obtain⟨a,c,ha,hb,e1,e2,e3⟩:=ht
 obtain⟨t,e4,ht,hj⟩:=tD (qK hc) hq h1 h2
 rw [hj] at hb;injection hb with hb;subst hb
 have hil:=(aU.1 ha).1
 obtain⟨p,hp,p1,p2⟩:=Es hil
 obtain⟨u,e5,hu,hi⟩:=tD (qK hc) hp p1 p2
 rw [hi] at ha;injection ha with ha;subst ha
 have e1:s[p].Y1=s[q].Y0:=e1
 have hpp:=yx hc hp
 have hqq:=yx hc hq
 have hpq:p+1=q:=by
  rcases Nat.lt_trichotomy p q with h | h | h
  ·by_cases h':p+1=q
   ·exact h'
   ·have h3:=yw hc hp (show p+1<s.length by omega) (by omega)
    have h4:=yw hc (show p+1<s.length by omega) hq (by omega)
    have h5:=yx hc (show p+1<s.length by omega)
    omega
  ·subst h;omega
  ·have:=yw hc hq hp h;omega
 subst hpq
 exact⟨by omega,e1,p1,p2⟩
structure PJ (all:List aH) (n:Nat) (up:List Int) (r:Nat->Nat) (E:List (Nat×Nat)):Prop where
 uf:UF n up r
 co:o7 r E
 fi:yv n r E
 so: ∀p∈E,wh all p.1 p.2
theorem PJ.join {all:List aH} {n:Nat} {up up':List Int} {r:Nat->Nat} {E:List (Nat×Nat)} (h:PJ all n up r E) {i j:Nat} (hi:i<n) (hj:j<n) (hu:UF n up' (nv r (r i) (r j))) (ht:wh all i j):PJ all n up' (nv r (r i) (r j)) (E++[(i,j)]):=
 ⟨hu,h.co.join i j (h.uf.rr i hi),h.fi.join hi hj,fun p hp=>by
  rcases cV.1 hp with hp | hp
  ·exact h.so p hp
  ·simp at hp;subst hp;exact ht⟩
structure Joined (all:List aH) (r:Nat->Nat):Prop where
 le: ∀i,i<all.length->r i<=i
 rr: ∀i,i<all.length->r (r i)=r i
 co: ∀i j,wh all i j->r i=r j
 fi: ∀S:Nat->Prop,(∀i j,wh all i j->(S i↔S j))->∀i j,i<all.length->j<all.length->r i=r j->S i->S j
def mu (all:List aH) (n:Nat) (r:Nat->Nat) (h:Nat):List aH:=(cls n r h).filterMap (fun i=>all[i]?)
theorem yy (all:List aH) (n:Nat) (r:Nat->Nat) (h:Nat): (mu all n r h).length<=n:=by
 have h1:=List.length_filterMap_le (fun i=>all[i]?) (cls n r h)
 have h2:=AX n r h
 unfold mu;omega
theorem tE {all:List aH} {n:Nat} {r:Nat->Nat} (h:Nat) {x:aH} (hx:all[n]? =some x):mu all (n+1) r h=if r n=h then mu all n r h++[x] else mu all n r h:=by
 unfold mu
 rw [sU]
 split
 ·rw [List.filterMap_append];simp [hx]
 ·rfl
theorem kT {all:List aH} {n:Nat} {r:Nat->Nat} {h:Nat} {x:aH}:x∈mu all n r h↔∃i,i<n/\r i=h/\all[i]? =some x:=by
 unfold mu cls
 rw [List.mem_filterMap]
 constructor
 ·rintro⟨i,hi,h⟩
  have:=iN.1 hi
  exact⟨i,my.1 this.1,by simpa using this.2,h⟩
 ·rintro⟨i,h1,h2,h3⟩
  exact⟨i,iN.2 ⟨my.2 h1,by simpa using h2⟩,h3⟩
structure pM (s:List aA) (r:Nat->Nat) (ps:List (List aA)):Prop where
 join:Joined (aQ s) r
 len:ps.length= (bI (aQ s).length r).length
 each: ∀(j h:Nat) (p:List aA),(bI (aQ s).length r)[j]? =some h->ps[j]? =some p->qI (mu (aQ s) (aQ s).length r h) p
def LW (n:Nat) (r:Nat->Nat) (m:List (Int×Int)):Prop:=(∀(j k:Nat),(bI n r)[j]? =some k->dL m ((k:Nat):Int) 0= ((j:Nat):Int))/\∀k:Nat,fH m ((k:Nat):Int)=decide (k∈bI n r)
theorem Dr {s:List aA} {X Y:List Int} (hc:dX (s.map bJ)) (hl:uQ X Y (s.map bJ)) (hX: ∀c∈X,small c) (hY: ∀c∈Y,small c) (h1:s.length<=1073741824) (h2: ∀b∈s,b.Xs.length<=1073741824) (h3: (aQ s).length<=134217728) (hN:4398046511104<=N):
  Ok (kQ N s) (fun ps=>∃r,pM s r ps):=by
 unfold kQ
 have hev:=qK hc
 have hinc:=Et hc
 refine Ok.eq (yq hev (by omega) (fun b hb=>by have:=h2 b hb;omega) (by omega)) ?_
 have hok:=yr hc hl hX hY
 have hall:gV s s.length= (aQ s).length:=Cn s
 generalize hn: (aQ s).length=n at *
 refine Ok.eq (tv 0 (by omega)) ?_
 rw [show ((List.replicate n (0:Int)).length)=n by simp]
 refine Ok.bind (Ok.lV (fun k up=>up.length=n/\∀i,i<k->up[i]? =some ((i:Nat):Int)) (by omega) ⟨by simp,fun i hi=>by omega⟩ (fun k up hk hI=>?_)) ?_
 ·obtain⟨hs,hi⟩:=hI
  refine Ok.idx (by omega) (Ok.ret ⟨by simp [hs],fun i hi'=>?_⟩)
  rw [cA,mD (by omega)]
  split
  ·rename_i e;rw [e]
  ·exact hi i (by omega)
 rintro up0 ⟨hu1,hu2⟩
 refine Ok.bind (Ok.lV (fun k st=>st.2.1= ((gV s k:Nat):Int)/\(0<k->st.2.2= ((gV s (k - 1):Nat):Int))/\∃r E,PJ (aQ s) n st.1 r E/\∀q,q<k->∀i j,gV s q<=j->j<gV s (q+1)->wh (aQ s) i j->(i,j)∈E) (by omega)
  ⟨rfl,fun h=>by omega,_,_,⟨UF.init n up0 hu1 hu2,o7.id,yv.id n,fun p hp=>(by cases hp)⟩,fun q hq=>by omega⟩ (fun k st hk hI=>?_)) ?_
 ·obtain⟨up,a,b⟩:=st
  obtain⟨e1,e2,r,E,hP,hE⟩:=hI
  dsimp only at e1 e2 hP ⊢
  subst e1
  refine Ok.idx hk ?_
  have hoff:=wL hk
  have hoffle:gV s (k+1)<=n:=by rw [<-hall];exact wM hk
  have hkm:=cJ hk
  have hlen:IntKind.wrap .i64 (Int.tdiv ((s[k].Xs.length:Nat):Int) 2)= ((s[k].Xs.length / 2:Nat):Int):=by
   have:=h2 _ hkm
   rw [show (2:Int)= ((2:Nat):Int) by rfl,<-Int.ofNat_tdiv,Cj (by omega)]
  rw [hlen,wrap_add (by omega),<-hoff]
  refine Ok.bind (P:=fun c=>c=true↔∃h0:0<k,s[k - 1].Y1=s[k].Y0) ?_ (fun c hcc=>?_)
  ·refine Ok.bif (fun h=>?_) (fun h=>Ok.ret ?_)
   ·have hpos:0<k:=by have:=of_decide_eq_true h;omega
    rw [fW hpos (by omega)]
    refine Ok.idx (by omega) (Ok.ret ?_)
    rw [beq_iff_eq]
    exact⟨fun h=>⟨hpos,h⟩,fun⟨_,h⟩=>h⟩
   ·have:=of_decide_eq_false h
    constructor
    ·intro h;cases h
    ·rintro⟨h0,_⟩;omega
  refine Ok.bind (P:=fun up'=>∃r E,PJ (aQ s) n up' r E/\∀q,q<k+1->∀i j,gV s q<=j->j<gV s (q+1)->wh (aQ s) i j->(i,j)∈E) ?_ (fun up' hI=>Ok.ret ⟨rfl,fun _=>rfl,hI⟩)
  refine Ok.bif (fun h=>?_) (fun h=>Ok.ret ⟨r,E,hP,fun q hq i j q1 q2 ht=>?_⟩)
  ·obtain⟨hpos,hyy⟩:=hcc.1 h
   rw [e2 hpos]
   have hoffp:=wL (show k - 1<s.length by omega)
   rw [show k - 1+1=k by omega] at hoffp
   refine Ok.bind (Ok.iY (Go:=fun st=>∃r E,PJ (aQ s) n st.1 r E/\∀q,q<k+1->∀i j,gV s q<=j->j<gV s (q+1)->wh (aQ s) i j->(i,j)∈E) (Rt:=fun _=>True)
    (fun st=>∃i j:Nat,st.2.1= ((i:Nat):Int)/\st.2.2= ((j:Nat):Int)/\gV s (k - 1)<=i/\i<=gV s k/\gV s k<=j/\j<=gV s (k+1)/\∃r E,PJ (aQ s) n st.1 r E/\(∀q,q<k->∀i j,gV s q<=j->j<gV s (q+1)->wh (aQ s) i j->(i,j)∈E)/\
     ∀i' j',gV s (k - 1)<=i'->i'<gV s k->gV s k<=j'->j'<gV s (k+1)->(i'<i\/j'<j)->wh (aQ s) i' j'->(i',j')∈E)
    (fun st=>(n - st.2.1.toNat)+ (n - st.2.2.toNat)) ?_ ?_ (by simp only [cA];omega)) (fun o ho=>Ok.cs ho (fun st h=>Ok.ret h) (fun r=>r.elim))
   ·rintro⟨up,a,b⟩ ⟨i,j,e3,e4,i1,i2,j1,j2,r,E,hP,hE,hE2⟩
    dsimp only at e3 e4 hP ⊢
    subst e3;subst e4
    refine Ok.bif (fun h=>?_) (fun h=>Ok.br ?_)
    ·rw [bL,bE,bE] at h
     have hi:i<gV s k:=by omega
     have hj:j<gV s (k+1):=by omega
     obtain⟨t,et,_,hri⟩:=tD hev (show k - 1<s.length by omega) i1 (by rw [show k - 1+1=k by omega];exact hi)
     obtain⟨u,eu,_,hrj⟩:=tD hev hk j1 hj
     have xi:=hinc _ (cJ (show k - 1<s.length by omega))
     have xj:=hinc _ hkm
     have farI: ∀i' a,i<i'->i'<gV s k->(aQ s)[i']? =some a->s[k - 1].Xs[2*t+1]<a.X0:=fun i' a h4 h5 h6=>by
      obtain⟨t',et',ht',hr'⟩:=tD hev (show k - 1<s.length by omega) (show gV s (k - 1)<=i' by omega) (by rw [show k - 1+1=k by omega];exact h5)
      rw [hr'] at h6;injection h6 with h6;subst h6
      exact xi.lt (show 2*t+1<2*t' by omega) (aL _) (aL _)
     have farJ: ∀j' a,j<j'->j'<gV s (k+1)->(aQ s)[j']? =some a->s[k].Xs[2*u+1]<a.X0:=fun j' a h4 h5 h6=>by
      obtain⟨u',eu',hu',hr'⟩:=tD hev hk (show gV s k<=j' by omega) h5
      rw [hr'] at h6;injection h6 with h6;subst h6
      exact xj.lt (show 2*u+1<2*u' by omega) (aL _) (aL _)
     refine Ok.bind (P:=fun c=>c=true↔wh (aQ s) i j) ?_ (fun c hct=>?_)
     ·refine Ok.ix hri (Ok.ix hrj (Ok.bif (fun h=>Ok.ix hrj (Ok.ix hri (Ok.ret ?_))) (fun h=>Ok.ret ?_)))
      ·rw [bE] at h ⊢
       constructor
       ·intro h';exact⟨_,_,hri,hrj,hyy,h,h'⟩
       ·rintro⟨a,c,ha,hc',_,_,h'⟩
        rw [hri] at ha;injection ha with ha;subst ha
        rw [hrj] at hc';injection hc' with hc';subst hc'
        exact h'
      ·constructor
       ·intro h;cases h
       ·rintro⟨a,c,ha,hc',_,h',_⟩
        rw [hri] at ha;injection ha with ha;subst ha
        rw [hrj] at hc';injection hc' with hc';subst hc'
        rw [decide_eq_false_iff_not] at h;exact absurd h' h
     refine Ok.bind (P:=fun up'=>∃r E',PJ (aQ s) n up' r E'/\(∀p∈E,p∈E')/\(wh (aQ s) i j->(i,j)∈E')) ?_ ?_
     ·refine Ok.bif (fun h=>?_) (fun h=>Ok.ret ⟨r,E,hP,fun p hp=>hp,fun ht=>by rw [hct.2 ht] at h;cases h⟩)
      obtain⟨up',u1,u2⟩:=GH (N:=N) (f:=fun x=>some x) hP.uf (i:=i) (k:=j) (by omega) (by omega) (by omega)
      refine⟨up',u1,_,_,hP.join (by omega) (by omega) u2 (hct.1 h),fun p hp=>List.mem_append_left _ hp,fun _=>by simp⟩
     ·rintro up' ⟨r',E',hP',hsub,hij⟩
      refine Ok.ix hri (Ok.ix hrj ?_)
      dsimp only
      by_cases hx:s[k - 1].Xs[2*t+1]<s[k].Xs[2*u+1]
      ·rw [bB hx,aO]
       refine Ok.eq (x:=(((i+1:Nat):Int),((j:Nat):Int))) (by rw [bQ (by omega)]) (Ok.nx ⟨⟨i+1,j,rfl,rfl,by omega,by omega,j1,j2,r',E',hP',fun q hq i j q1 q2 ht=>hsub _ (hE q hq i j q1 q2 ht),fun i' j' g1 g2 g3 g4 g5 ht=>?_⟩,by simp only [cA];omega⟩)
       by_cases h5:i'<i\/j'<j
       ·exact hsub _ (hE2 i' j' g1 g2 g3 g4 h5 ht)
       ·have:i'=i:=by omega
        subst this
        by_cases h6:j'=j
        ·subst h6;exact hij ht
        ·exfalso
         obtain⟨a,c,ha,hc',_,_,h'⟩:=ht
         rw [hri] at ha;injection ha with ha;subst ha
         have:=farJ j' c (by omega) g4 hc'
         dsimp only at h';omega
      ·rw [bF hx,aM]
       refine Ok.eq (x:=(((i:Nat):Int),((j+1:Nat):Int))) (by rw [bQ (by omega)]) (Ok.nx ⟨⟨i,j+1,rfl,rfl,i1,i2,by omega,by omega,r',E',hP',fun q hq i j q1 q2 ht=>hsub _ (hE q hq i j q1 q2 ht),fun i' j' g1 g2 g3 g4 g5 ht=>?_⟩,by simp only [cA];omega⟩)
       by_cases h5:i'<i\/j'<j
       ·exact hsub _ (hE2 i' j' g1 g2 g3 g4 h5 ht)
       ·have:j'=j:=by omega
        subst this
        by_cases h6:i'=i
        ·subst h6;exact hij ht
        ·exfalso
         obtain⟨a,c,ha,hc',_,h',_⟩:=ht
         rw [hrj] at hc';injection hc' with hc';subst hc'
         have:=farI i' a (by omega) g2 ha
         dsimp only at h';omega
    ·refine⟨r,E,hP,fun q hq i' j' q1 q2 ht=>?_⟩
     by_cases hqk:q<k
     ·exact hE q hqk i' j' q1 q2 ht
     ·have:q=k:=by omega
      subst this
      obtain⟨_,_,g1,g2⟩:=Co hc hk q1 q2 ht
      refine hE2 i' j' g1 g2 q1 q2 ?_ ht
      rw [Bool.and_eq_false_iff,decide_eq_false_iff_not,decide_eq_false_iff_not] at h
      omega
   ·exact⟨gV s (k - 1),gV s k,rfl,rfl,bD _,wM (by omega),bD _,wM (by omega),r,E,hP,hE,fun i' j' g1 g2 g3 g4 g5=>by omega⟩
  ·by_cases hqk:q<k
   ·exact hE q hqk i j q1 q2 ht
   ·have:q=k:=by omega
    subst this
    obtain⟨g0,g1,_⟩:=Co hc hk q1 q2 ht
    rw [hcc.2 ⟨g0,g1⟩] at h;cases h
 ·rintro⟨up,a,b⟩ ⟨_,_,r,E,hP,hE⟩
  dsimp only at hP ⊢
  have hEq: ∀i j,wh (aQ s) i j->(i,j)∈E:=fun i j ht=>by
   have hjl:j< (aQ s).length:=by obtain⟨a,c,_,hb,_⟩:=ht;exact(aU.1 hb).1
   obtain⟨q,hq,q1,q2⟩:=Es hjl
   exact hE q hq i j q1 q2 ht
  have hJ:Joined (aQ s) r:=⟨by rw [hn];exact hP.uf.le,by rw [hn];exact hP.uf.rr,fun i j ht=>hP.co (i,j) (hEq i j ht),fun S hS i j hi hj=>by
   rw [hn] at hi hj
   exact hP.fi S (fun p hp=>hS p.1 p.2 (hP.so p hp)) i j hi hj⟩
  refine Ok.bind (Ok.lV (fun k st=>UF n st.1 r/\LW k r st.2.1/\st.2.2= (bI k r).map (mu (aQ s) k r)) (by omega) ⟨hP.uf,⟨fun j k hj=>by simp [bI] at hj,fun k=>rfl⟩,rfl⟩ (fun k st hk hI=>?_)) ?_
  ·obtain⟨l,m,ls⟩:=st
   obtain⟨hu,⟨hm1,hm2⟩,hs⟩:=hI
   dsimp only at hu hm1 hm2 hs ⊢
   subst hs
   have hkx: (aQ s)[k]? =some ((aQ s)[k]'(by omega)):=aL (by omega)
   refine Ok.ix hkx ?_
   obtain⟨u',a1,a2⟩:=AY (N:=N) hu hk (by omega)
   refine Ok.eq a1 ?_
   dsimp only
   have hhl:=nI k r
   have hrk:=hP.uf.le k hk
   have hrr:=hP.uf.rr k hk
   have hcl:=yy (aQ s) k r (r k)
   have hmap: ((bI k r).map (mu (aQ s) k r)).length= (bI k r).length:=by simp
   rw [hm2]
   by_cases e:r k=k
   ·have hnot:r k∉bI k r:=fun h=>by have:=(iE.1 h).1;omega
    refine Ok.eq (x:=(nP m ((r k:Nat):Int) (((bI k r).length:Nat):Int),(bI k r).map (mu (aQ s) k r)++[([]:List aH)],(((bI k r).length:Nat):Int))) ?_ ?_
    ·rw [bF hnot,mQ,aO,iK (by simp;omega),aB,hmap]
    ·dsimp only
     have hi: ((bI k r).map (mu (aQ s) k r)++[([]:List aH)])[(bI k r).length]? =some []:=by rw [<-hmap,fI (bD _),Nat.sub_self];rfl
     refine Ok.ix hi (Ok.app (by simp) (Ok.ix hi (Ok.ret ⟨a2,⟨fun j q hj=>?_,fun q=>?_⟩,?_⟩)))
     ·dsimp only
      rw [gI,aC e] at hj
      rw [qF]
      by_cases e2:j< (bI k r).length
      ·rw [fz e2] at hj
       have:=(iE.1 (dU hj)).1
       rw [aD (by omega)];exact hm1 j q hj
      ·rw [fI (by omega)] at hj
       have hj0:j - (bI k r).length=0:=by
        have:=(aU.1 hj).1;simp at this;omega
       rw [hj0] at hj;simp at hj;subst hj
       rw [aC (by rw [e])];congr 1;omega
     ·dsimp only
      rw [wI,hm2,gI,aC e,dZ]
      rw [dB,bE,bE,bE,cV,pA,e]
      constructor
      ·rintro(h | h)
       ·exact .inr (by omega)
       ·exact .inl h
      ·rintro(h | h)
       ·exact .inr h
       ·exact .inl (by omega)
     ·dsimp only
      rw [cA,<-hmap,List.set_append_right _ _ (bD _),Nat.sub_self,gI,aC e,dD]
      congr 1
      ·apply List.map_congr_left
       intro a ha
       have:=(iE.1 ha).1
       rw [tE a hkx,aD (by omega)]
      ·simp only [List.set_cons_zero,dA,List.map_nil,List.nil_append]
       rw [tE k hkx,aC e]
       have:mu (aQ s) k r k= []:=by unfold mu;rw [Er (fun i hi=>hP.uf.le i (by omega)) (bD _)];rfl
       rw [this];rfl
   ·have hh:r k∈bI k r:=iE.2 ⟨by omega,hrr⟩
    obtain⟨j,hj⟩:=dF hh
    refine Ok.eq (x:=(m,(bI k r).map (mu (aQ s) k r),((j:Nat):Int))) ?_ ?_
    ·rw [bB hh,jB,aM,hm1 j (r k) hj]
    ·dsimp only
     have hi: ((bI k r).map (mu (aQ s) k r))[j]? =some (mu (aQ s) k r (r k)):=by rw [dV,hj];rfl
     refine Ok.ix hi (Ok.app (by simp;omega) (Ok.ix hi (Ok.ret ⟨a2,⟨fun j' q hj'=>?_,fun q=>?_⟩,?_⟩)))
     ·rw [gI,aD e] at hj';exact hm1 j' q hj'
     ·rw [gI,aD e];exact hm2 q
     ·dsimp only
      rw [cA,gI,aD e]
      have:=sV (mu (aQ s) k r) (mu (aQ s) (k+1) r) (bI k r) j (r k) (mM k r) hj (fun b hb hne=>by
       rw [tE b hkx,aD (fun h=>hne h.symm)])
      rw [tE (r k) hkx,aC rfl] at this
      exact this
  ·rintro⟨l,m,ls⟩ ⟨_,_,hs⟩
   dsimp only at hs ⊢
   subst hs
   have hhl:=nI n r
   refine Ok.bind (Ok.lV (fun k ps=>ps.length=k/\∀(j h:Nat) (p:List aA),j<k->(bI n r)[j]? =some h->ps[j]? =some p->qI (mu (aQ s) n r h) p) (by simp;omega) ⟨rfl,fun j h p hj=>by omega⟩ (fun k ps hk hI=>?_)) ?_
   ·obtain⟨hp1,hp2⟩:=hI
    have hk':k< (bI n r).length:=by simpa using hk
    refine Ok.ix (x:=mu (aQ s) n r (bI n r)[k]) (by rw [dV,aL hk'];rfl) ?_
    have hcl:=yy (aQ s) n r (bI n r)[k]
    refine Ok.bind (nG (N:=N) (by omega) (fun x hx=>?_) (by omega)) ?_
    ·obtain⟨i,_,_,h⟩:=kT.1 hx
     exact(hok x (dU h)).1
    ·intro p hp
     refine Ok.app (by rw [hp1];simp;omega) (Ok.ret ⟨by simp [hp1],fun j h q hj hh hq=>?_⟩)
     by_cases hjk:j<k
     ·rw [fz (by omega)] at hq
      exact hp2 j h q hjk hh hq
     ·have:j=k:=by omega
      subst this
      rw [fI (by omega),hp1,Nat.sub_self] at hq
      simp at hq;subst hq
      rw [aL hk'] at hh;injection hh with hh;subst hh
      exact hp
   ·rintro ps ⟨hp1,hp2⟩
    refine Ok.ret ⟨r,hJ,?_,fun j h p hh hp=>?_⟩
    ·rw [hp1,hn];simp
    ·rw [hn] at hh ⊢
     exact hp2 j h p (by have:=(aU.1 hp).1;omega) hh hp
end
end Go.Gk
namespace Go.Gk
open Go
section
variable {N:Nat}
theorem vI {n:Int} (h: -9223372036854775808<=n/\n<=9223372036854775807):IntKind.wrap .i64 n=n:=by rw [IntKind.wrap_i64];omega
def eZ (n lo hi:Int):Bool:=decide (n>=lo)&&decide (n<=hi)
def kx (n:Int):Bool:=eZ n (-1000000) 1000000
def o9 (p:jE):Bool:=kx p.X&&kx p.Y
def eP (r:aH):Bool:=kx r.X0&&(kx r.Y0&&(kx r.X1&&kx r.Y1))
theorem yz (n:Int):kE N n=some (kx n):=rfl
theorem xc (p:jE):iU N p=some (o9 p):=by
 unfold iU o9
 rw [yz,aB,yz]
 cases kx p.X <;> rfl
theorem xd (p:jE):gS N p=some (o9 p):=by
 have e: ∀n,cN N n=some (kx n):=fun _=>rfl
 unfold gS o9
 rw [e,aB,e]
 cases kx p.X <;> rfl
theorem yA (r:aH):lW N r=some (eP r):=by
 unfold lW eP
 simp only [yz,aB]
 cases kx r.X0 <;> cases kx r.Y0 <;> cases kx r.X1 <;> rfl
theorem Cp {a b:Int} (h:a≠b):gh (N+4) [a,b]=some [a,b]:=by
 have e: (b==a)=false:=by rw [beq_eq_false_iff_ne];exact fun e=>h e.symm
 have w1:IntKind.wrap .i64 ((1:Int) - 1)=0:=by decide
 have w2:IntKind.wrap .i64 ((1:Int)+1)=2:=by decide
 unfold gh
 have e1:idx [a,b] 1=some b:=rfl
 have e2:idx [a,b] 0=some a:=rfl
 have l2: (([a,b]:List Int).length:Int)=2:=rfl
 rw [l2,show decide ((2:Int)<2)=false by decide,aM]
 rw [iY.eq_def]
 dsimp only
 rw [show decide ((1:Int)<2)=true by decide,aO,e1,aB,w1,e2,aB,e,aM,aB,w2]
 dsimp only
 rw [iY.eq_def]
 dsimp only
 rw [show decide ((2:Int)<2)=false by decide,aM,aB]
 rfl
theorem Ix (x:Int):IntKind.wrap .i64 (x - x)=0:=by rw [Int.sub_self];decide
theorem Fe {r:aH} (hx:r.X0<r.X1) (hy:r.Y0<r.Y1):gm (N+16) [r]=some [⟨r.Y0,r.Y1,[r.X0,r.X1]⟩]:=by
 have s1:uX (iZ (N+16)) [r]=some [r]:=zO (by unfold iZ;rw [Ix])
 have s2:uX (gj (N+16)) [r]=some [r]:=zO (by unfold gj;rw [Ix])
 have s3:sd [r.Y0,r.Y1]=some [r.Y0,r.Y1]:=zh (by simp;omega) (by simp)
 have c1:iz (N+16) [r]=some [r]:=rfl
 have f1: ∀φ,gC (N+16) [] φ=some []:=fun φ=>rfl
 have st:iH (N+16) [r]=some ([r.X0,r.X1],[r]):=by
  unfold iH
  rw [s2,aB]
  rfl
 have pu: ∀b:aA,b.Xs= [r.X0,r.X1]->b.Y0<b.Y1->il (N+16) [] b=some [b]:=fun b h1 h2=>by
  unfold il
  rw [h1,bF (show ¬b.Y1<=b.Y0 by omega)]
  rfl
 unfold gm
 rw [c1,aB,s1,aB]
 have ys: (lV ([r]:List aH).length (fun(k35:Nat) (s36: (List Int))=>((idx [r] (k35:Int)).bind fun x54=>(app 8 s36 ([x54.Y0,x54.Y1]: (List Int))).bind fun x58=>some x58:Option ((List Int)))) ([]: (List Int)))=some [r.Y0,r.Y1]:=rfl
 rw [ys,aB,s3,aB,Cp (N:=N+12) (by omega),aB]
 have l2: (([r.Y0,r.Y1]:List Int).length:Int)=2:=rfl
 have l1: (([r]:List aH).length:Int)=1:=rfl
 have w1:IntKind.wrap .i64 ((0:Int)+1)=1:=by decide
 have w2:IntKind.wrap .i64 ((1:Int)+1)=2:=by decide
 have i0:idx [r.Y0,r.Y1] 0=some r.Y0:=rfl
 have i1:idx [r.Y0,r.Y1] 1=some r.Y1:=rfl
 have j0:idx [r] 0=some r:=rfl
 have a1:app 32 ([]:List aH) [r]=some [r]:=rfl
 rw [l2,l1]
 rw [iY.eq_def]
 dsimp only
 rw [w1,show decide ((1:Int)<2)=true by decide,aO,f1,aB]
 rw [iY.eq_def]
 dsimp only
 rw [show decide ((0:Int)<1)=true by decide,aO,j0,aB,i0,aB,aB,show decide (r.Y0<=r.Y0)=true by simp,aO,aB,a1,aB,w1,aB]
 dsimp only
 rw [iY.eq_def]
 dsimp only
 rw [show decide ((1:Int)<1)=false by decide,aM,aB,aM,aB,aB]
 unfold Fo.cs
 dsimp only
 rw [aB,i1,aB,st,aB,pu _ rfl hy,aB,aB]
 dsimp only
 rw [iY.eq_def]
 dsimp only
 rw [w2,show decide ((2:Int)<2)=false by decide,aM,aB]
 rfl
theorem GI {r:aH} (hx:r.X0<r.X1):lz N [⟨r.Y0,r.Y1,[r.X0,r.X1]⟩]=some (eP r):=by
 have ar:lY N [⟨r.Y0,r.Y1,[r.X0,r.X1]⟩]=some r:=by
  have e1: (if r.X0<r.X0 then r.X0 else r.X0)=r.X0:=by split <;> rfl
  have e2: (if r.X1<r.X1 then r.X1 else r.X1)=r.X1:=by split <;> rfl
  show some ({X0:=(if r.X0<r.X0 then r.X0 else r.X0),Y0:=r.Y0,X1:=(if r.X1<r.X1 then r.X1 else r.X1),Y1:=r.Y1}:aH)=some r
  rw [e1,e2]
 unfold lz
 rw [ar,aB,yA]
 rfl
def sW (b:cH):aH:=⟨b.At.X - b.eI / 2,b.At.Y - b.eI / 2,b.At.X - b.eI / 2+b.eI,b.At.Y - b.eI / 2+b.eI⟩
def ox (b:cH):Bool:=eZ b.eI 1 10000&&o9 b.At
def lq (b:cH):aH×Int:=if ox b&&eP (sW b) then (sW b,0) else (⟨0,0,0,0⟩,1)
theorem pN {b:cH} (h:ox b=true): (1<=b.eI/\b.eI<=10000)/\(-1000000<=b.At.X/\b.At.X<=1000000)/\(-1000000<=b.At.Y/\b.At.Y<=1000000):=by
 simp only [ox,eZ,o9,kx,bL,decide_eq_true_iff] at h
 omega
theorem lP {b:cH} (h:ox b=true):fG N b=some (sW b):=by
 obtain⟨h1,h2,h3⟩:=pN h
 have t:Int.tdiv b.eI 2=b.eI / 2:=Int.tdiv_eq_ediv_of_nonneg (by omega)
 unfold fG sW
 rw [t,vI (n:=b.eI / 2) (by omega),vI (n:=b.At.X - b.eI / 2) (by omega),vI (n:=b.At.Y - b.eI / 2) (by omega),vI (by omega),vI (by omega)]
theorem qL {b:cH}:jX (N+16) b=some (lq b):=by
 have e0:fu (N+16) b.eI 1 10000=some (eZ b.eI 1 10000):=rfl
 have e1: (bif (!(eZ b.eI 1 10000)) then (some true) else (some (!(o9 b.At))))=some (!ox b):=by unfold ox;cases eZ b.eI 1 10000 <;> rfl
 unfold jX lq
 rw [e0,aB,xc,aB,e1,aB]
 cases hf:ox b with
 | false=>rfl
 | true=>
  obtain⟨h1,h2,h3⟩:=pN hf
  have hx: (sW b).X0< (sW b).X1:=by simp only [sW];omega
  have hy: (sW b).Y0< (sW b).Y1:=by simp only [sW];omega
  rw [jB,aM,lP hf,aB,Fe hx hy,aB,GI hx,aB]
  cases eP (sW b) <;> rfl
theorem Ff:eB (N+16)=some true:=by
 unfold eB
 rw [qL,aB]
 rfl
end
end Go.Gk
namespace Go.Gk
open Go
section
variable {N:Nat}
def Cq (c:UInt8):Bool:=
 ((((decide (((c.toNat:Nat):Int)<65))||(decide (((c.toNat:Nat):Int)>90)))&&((decide (((c.toNat:Nat):Int)<97))||(decide (((c.toNat:Nat):Int)>122))))&&((decide (((c.toNat:Nat):Int)<48))||(decide (((c.toNat:Nat):Int)>57))))&&decide (Lib.indexByte [95,43,45,35] c<0)
def isWord (s:dO):Bool:= !s.cR.any Cq&&(decide (1<=s.cR.length)&&decide (s.cR.length<=40))
theorem rq (s:dO) (c:UInt8):fO N s ((c.toNat:Nat):Int)=some (Lib.indexByte s.cR c):=by
 show some (Lib.indexByte s.cR (Int.toNat ((c.toNat:Nat):Int)).toUInt8)=_
 rw [cA];simp
theorem Ds {R:Type} (b1:Bool) (c:UInt8) (r:R):
  ((bif b1 then ((fO N (⟨[95,43,45,35]⟩) ((c.toNat:Nat):Int)).bind fun x14=>some (decide (x14<0))) else (some false)).bind fun s12=>bif s12 then (some (.rt r)) else (some (.nx ())):Option (Fl Unit R))=some (if (b1&&decide (Lib.indexByte [95,43,45,35] c<0))=true then .rt r else .nx ()):=by
 rw [rq,aB]
 cases b1
 ·rfl
 ·rw [aO,aB,Bool.true_and]
  cases decide (Lib.indexByte [95,43,45,35] c<0) <;> rfl
theorem pO {s:dO} (h:s.cR.length<=1048576):iq N s=some (isWord s):=by
 unfold iq
 rw [HG Cq false (by omega) (fun k x hx=>by
  have hk:=(aU.1 hx).1
  have e:C2 s ((k:Nat):Int)=some x:=by rw [Ce s k hk,<-aL hk,hx]
  rw [e,aB]
  exact Ds (R:=Bool) _ x false),aB]
 unfold isWord
 cases s.cR.any Cq
 ·simp only [Fo.cs,mQ,Bool.true_and,Bool.false_eq_true,if_false,Option.some.injEq]
  rw [dZ,bL,bL]
  simp only [bE]
  omega
 ·simp [Fo.cs]
def cutAt (c:UInt8):List UInt8->List (List UInt8)
 | []=>[[]]
 | b::l=>if b==c then []::cutAt c l else match cutAt c l with | h::t=>(b::h)::t | []=>[[b]]
theorem yB {c:UInt8}: ∀{l:List UInt8},c∉l->cutAt c l= [l]
 | [],_=>rfl
 | b::l,h=>by
  unfold cutAt
  have hb: (b==c)=false:=by rw [beq_eq_false_iff_ne];rintro rfl;exact h (by simp)
  rw [hb,yB (fun h'=>h (by simp [h']))];rfl
theorem Cr {c:UInt8}: ∀{a b:List UInt8},c∉a->cutAt c (a++c::b)=a::cutAt c b
 | [],b,_=>by rw [List.nil_append];show (if (c==c)=true then _ else _)=_;simp
 | x::a,b,h=>by
  have hb: (x==c)=false:=by rw [beq_eq_false_iff_ne];rintro rfl;exact h (by simp)
  have ih:=Cr (c:=c) (a:=a) (b:=b) (fun h'=>h (by simp [h']))
  show (if (x==c)=true then []::cutAt c (a++c::b) else match cutAt c (a++c::b) with | h::t=>(x::h)::t | []=>[[x]])=_
  rw [hb,ih];rfl
theorem sX: ∀(l:List UInt8) (c:UInt8),(Lib.indexByte l c = -1/\c∉l)\/∃a b,l=a++c::b/\c∉a/\Lib.indexByte l c= ((a.length:Nat):Int)
 | [],c=> .inl ⟨rfl,by simp⟩
 | x::l,c=>by
  unfold Lib.indexByte
  by_cases hx:x=c
  ·subst hx;exact .inr ⟨[],l,rfl,by simp,by simp⟩
  ·have hb: (x==c)=false:=by rw [beq_eq_false_iff_ne];exact hx
   rcases sX l c with ⟨h1,h2⟩ | ⟨a,b,h1,h2,h3⟩
   ·left;rw [hb,h1];refine⟨by simp,?_⟩;simp [h2];exact fun h=>hx h.symm
   ·right
    refine⟨x::a,b,by rw [h1];rfl,by simp [h2];exact fun h=>hx h.symm,?_⟩
    rw [hb,h3]
    have: (((a.length:Nat):Int)== -1)=false:=by rw [beq_eq_false_iff_ne];omega
    rw [this];simp
theorem GJ (s:dO) (c:UInt8):kW N s ⟨[c]⟩=some (Lib.indexByte s.cR c):=by
 show (jH N s ⟨[c]⟩).bind _=_
 unfold jH
 by_cases h:dO.Af ⟨[c]⟩ s=true
 ·have:s= ⟨[c]⟩:=(AK.1 h).symm
  subst this
  rw [h];simp [Lib.indexByte]
 ·rw [j4] at h
  rw [h]
  show ((gQ N s ((c.toNat:Nat):Int)).bind _).bind _=_
  have:=rq (N:=N) s c
  simp only [fO] at this
  rw [this];rfl
theorem GK (s:dO) (c:UInt8):mj N s ⟨[c]⟩=some ((s.cR.count c:Nat):Int):=by
 unfold mj
 show (some _:Option Int)=_
 simp [Lib.countByte]
theorem Fg {s:dO} {k:Nat} (h:k<=s.cR.length):um s 0 ((k:Nat):Int)=some ⟨s.cR.take k⟩:=by
 unfold um;rw [aC ⟨by omega,by omega,by omega⟩]
 simp only [Int.toNat_zero,List.drop_zero,Int.sub_zero,cA]
theorem Fh {s:dO} {k:Nat} (h:k<=s.cR.length):um s ((k:Nat):Int) ((s.cR.length:Nat):Int)=some ⟨s.cR.drop k⟩:=by
 unfold um;rw [aC ⟨by omega,by omega,by omega⟩]
 simp only [cA]
 rw [lj];rw [fC];omega
def mF (s:dO) (c:UInt8):List dO:=(cutAt c s.cR).map dO.mk
theorem Cs {s:dO} (c:UInt8) (h:s.cR.length<=1048576) (hN:4194304<=N):kX N s ⟨[c]⟩=some (mF s c):=by
 have hc:s.cR.count c<=s.cR.length:=List.count_le_length
 unfold kX lZ
 rw [show ((-1:Int)==0)=false by decide,aM,show dO.Af ⟨[c]⟩ ⟨[]⟩=false by simp [dO.Af],aM,GK,aB]
 rw [eG (x:=((s.cR.count c:Nat):Int)+1) (by omega) (by omega),show decide ((-1:Int)<0)=true by decide,aO,aB]
 rw [eG (x:=((s.cR.length:Nat):Int)+1) (by omega) (by omega)]
 have e1: (if ((s.cR.length:Nat):Int)+1< ((s.cR.count c:Nat):Int)+1 then ((s.cR.length:Nat):Int)+1 else ((s.cR.count c:Nat):Int)+1)= ((s.cR.count c+1:Nat):Int):=by
  rw [aD (by omega)];omega
 rw [e1,tv _ (by omega),aB]
 rw [eG (x:=((s.cR.count c+1:Nat):Int) - 1) (by omega) (by omega)]
 have key:=vl (S:=dO×List dO×Int) (R:=Empty) (body:=(fun(s7:dO×(List dO)×Int)=>(bif (decide (s7.2.2< ((s.cR.count c+1:Nat):Int) - 1)) then ((kW N s7.1 ⟨[c]⟩).bind fun x23=>bif (decide (x23<0)) then (some (.br (s7.1,s7.2.1,s7.2.2))) else ((um s7.1 0 (IntKind.wrap .i64 (x23+0))).bind fun x24=>(idx s7.2.1 s7.2.2).bind fun x25=>(um s7.1 (IntKind.wrap .i64 (x23+ (((⟨[c]⟩:dO).cR.length:Nat):Int))) ((s7.1.cR.length:Nat):Int)).bind fun x27=>some (.nx (x27,(s7.2.1.set (Int.toNat s7.2.2) x24),(IntKind.wrap .i64 (s7.2.2+1)))))) else (some (.br (s7.1,s7.2.1,s7.2.2))):Option (Fl (dO×(List dO)×Int) Empty))))
  (fun st=>∃ws:List (List UInt8),st.2.2= ((ws.length:Nat):Int)/\cutAt c s.cR=ws++cutAt c st.1.cR/\ws.length+st.1.cR.count c=s.cR.count c/\st.1.cR.length<=s.cR.length/\st.2.1=ws.map dO.mk++List.replicate (s.cR.count c+1 - ws.length) ⟨[]⟩)
  (fun st=>s.cR.count c+1 - st.2.2.toNat)
  (fun st=>∃ws:List (List UInt8),st.2.2= ((ws.length:Nat):Int)/\cutAt c s.cR=ws++[st.1.cR]/\ws.length=s.cR.count c/\st.2.1=ws.map dO.mk++[⟨[]⟩])
  (fun _=>True) (by
   rintro⟨r,arr,i⟩ ⟨ws,h1,h2,h3,h4,h5⟩
   simp only at h1 h2 h3 h4 h5
   subst h1 h5
   by_cases hlt:ws.length<s.cR.count c
   ·have hd:decide (((ws.length:Nat):Int)< ((s.cR.count c+1:Nat):Int) - 1)=true:=by rw [bE];omega
    simp only [hd,aO,GJ,aB]
    rcases sX r.cR c with ⟨_,hn⟩ | ⟨a,b,hr,ha,hi⟩
    ·rw [List.count_eq_zero_of_not_mem hn] at h3;omega
    ·have hrl:r.cR.length=a.length+ (b.length+1):=by rw [hr];simp
     rw [hi,bF (by omega),aM]
     rw [show ((a.length:Nat):Int)+0= ((a.length:Nat):Int) by omega,eG (x:=((a.length:Nat):Int)) (by omega) (by omega),Fg (by omega),aB]
     rw [j7 _ _ (by simp;omega),aB]
     rw [show ((a.length:Nat):Int)+ (((⟨[c]⟩:dO).cR.length:Nat):Int)= ((a.length+1:Nat):Int) by simp,eG (x:=((a.length+1:Nat):Int)) (by omega) (by omega),Fh (by omega),aB]
     refine⟨_,rfl,⟨ws++[a],?_,?_,?_,?_,?_⟩,?_⟩
     ·simp only;rw [eG (by omega) (by omega)];simp
     ·simp only
      rw [h2,hr,Cr ha];simp
     ·simp only
      rw [hr] at h3 ⊢
      simp [List.count_eq_zero_of_not_mem ha] at h3 ⊢;omega
     ·simp;omega
     ·simp only [cA]
      rw [List.set_append_right _ _ (by simp)]
      simp only [cE,Nat.sub_self]
      obtain⟨d,hd'⟩: ∃d,s.cR.count c+1 - ws.length=d+1:=⟨s.cR.count c - ws.length,by omega⟩
      rw [hd',List.replicate_succ,List.set_cons_zero,show s.cR.count c+1 - (ws++[a]).length=d by simp;omega]
      simp [hr]
     ·simp only;rw [eG (by omega) (by omega)];omega
   ·have hd:decide (((ws.length:Nat):Int)< ((s.cR.count c+1:Nat):Int) - 1)=false:=by rw [decide_eq_false_iff_not];omega
    simp only [hd,aM]
    refine⟨_,rfl,ws,rfl,?_,by omega,?_⟩
    ·have h0:r.cR.count c=0:=by omega
     rw [h2,yB (List.count_eq_zero.1 h0)]
    ·rw [show s.cR.count c+1 - ws.length=1 by omega];rfl)
  N (s,List.replicate (s.cR.count c+1) ⟨[]⟩,0) ⟨[],rfl,rfl,by simp,bD _,by simp⟩ (by simp only;omega)
 obtain⟨o,ho,hgo⟩:=key
 rw [ho,aB]
 cases o with
 | rt r=>exact r.elim
 | go st=>
  obtain⟨r,arr,i⟩:=st
  obtain⟨ws,h1,h2,h3,h4⟩:=hgo
  simp only at h1 h2 h3 h4
  subst h1 h4
  simp only [Fo.cs]
  rw [j7 _ _ (by simp),aB,eG (by omega) (by omega)]
  rw [show ((ws.length:Nat):Int)+1= ((ws.length+1:Nat):Int) by omega,oW _ _ (by simp),aB,aB]
  unfold mF
  rw [h2]
  rw [cA,List.set_append_right _ _ (by simp),lj (by simp)]
  simp
def mi (s:dO):Bool:=decide (s.cR.length<=200)&&(mF s 47).all isWord
theorem tF {c:UInt8}: ∀{l x:List UInt8},x∈cutAt c l->x.length<=l.length
 | [],x,h=>by simp [cutAt] at h;subst h;simp
 | b::l,x,h=>by
  unfold cutAt at h
  split at h
  ·rcases cW.1 h with h | h
   ·subst h;simp
   ·have:=tF h;simp;omega
  ·split at h
   ·rename_i t e
    rcases cW.1 h with h | h
    ·subst h;have:=tF (c:=c) (l:=l) (by rw [e];exact List.mem_cons_self);simp;omega
    ·have:=tF (c:=c) (l:=l) (by rw [e];exact f0 _ h);simp;omega
   ·simp at h;subst h;simp
theorem zV (c:UInt8): ∀(l:List UInt8),(cutAt c l).length<=l.length+1
 | []=>by simp [cutAt]
 | b::l=>by
  have:=zV c l
  unfold cutAt
  split
  ·simp;omega
  ·split
   ·rename_i e;rw [e] at this;simp at this ⊢;omega
   ·simp
theorem zW {s x:dO} {c:UInt8} (h:x∈mF s c):x.cR.length<=s.cR.length:=by
 obtain⟨y,hy,rfl⟩:=cP.1 h
 exact tF hy
theorem zX (s:dO) (c:UInt8): (mF s c).length<=s.cR.length+1:=by unfold mF;rw [cE];exact zV c _
theorem vJ {s:dO} (h:s.cR.length<=1048576) (hN:4194304<=N):lA N s=some (mi s):=by
 unfold lA mi
 by_cases hl:s.cR.length<=200
 ·rw [bB (by omega),aO,Cs 47 h hN,aB]
  have e:=qs (l:=mF s 47) (φ:=gE N) (fun x=> !isWord x) (by have:=zX s 47;omega) (fun x hx=>by
   unfold gE
   rw [pO (by have:=zW hx;omega)];rfl)
  have e2:gD N (mF s 47) (gE N)=pV (mF s 47) (gE N):=rfl
  rw [e2,e,aB,aB,bB hl,Bool.true_and]
  congr 1
  rw [dZ]
  simp
 ·rw [bF (by omega),aM,aB,bF hl,Bool.false_and]
end
end Go.Gk
namespace Go.Gk
open Go Classical
section
variable {N:Nat}
theorem GL {a b:aA} (h:bJ a=bJ b):a=b:=by cases a;cases b;unfold bJ at h;simp at h;obtain⟨h1,h2,h3⟩:=h;subst h1;subst h2;subst h3;rfl
theorem vK: ∀{s t:List aA},s.map bJ=t.map bJ->s=t
 | [],[],_=>rfl
 | [],_::_,h=>by cases h
 | _::_,[],h=>by cases h
 | a::s,b::t,h=>by
  rw [dA,dA] at h
  injection h with h1 h2
  rw [GL h1,vK h2]
theorem GM {s t:List aA} (hs:dX (s.map bJ)) (ht:dX (t.map bJ)) (h: ∀x y,rY (s.map bJ) x y=rY (t.map bJ) x y):s=t:=vK (rn hs ht h)
theorem qI.unique {l:List aH} {s t:List aA} (hs:qI l s) (ht:qI l t):s=t:=GM hs.can ht.can fun x y=>by rw [hs.cover,ht.cover]
theorem qI.Ct {l:List aH} {s:List aA} (h:qI l s):s.length<=2*l.length/\(∀b∈s,b.Xs.length<=2*l.length)/\(aQ s).length<=2*l.length* (2*l.length):=by
 have h1:s.length<=2*l.length:=by have:=h.lim.len h.can;rwa [cE,iu] at this
 have h2: ∀b∈s,b.Xs.length<=2*l.length:=fun b hb=>by
  have:=h.lim.row h.can (b:=bJ b) (cP.2 ⟨b,hb,rfl⟩)
  rwa [kS] at this
 exact⟨h1,h2,yp h1 h2⟩
theorem tG {n:Int} (h:kx n=true): -1000000<=n/\n<=1000000:=by
 unfold kx eZ at h
 rw [bL,bE,bE] at h;omega
theorem lQ {r:aH} (h:eP r=true): (-1000000<=r.X0/\r.X0<=1000000)/\(-1000000<=r.Y0/\r.Y0<=1000000)/\(-1000000<=r.X1/\r.X1<=1000000)/\(-1000000<=r.Y1/\r.Y1<=1000000):=by
 unfold eP at h
 simp only [bL] at h
 exact⟨tG h.1,tG h.2.1,tG h.2.2.1,tG h.2.2.2⟩
theorem yC {r:aH} (h: (-1000000<=r.X0/\r.X0<=1000000)/\(-1000000<=r.Y0/\r.Y0<=1000000)/\(-1000000<=r.X1/\r.X1<=1000000)/\(-1000000<=r.Y1/\r.Y1<=1000000)):eP r=true:=by
 unfold eP kx eZ
 simp only [bL,bE]
 omega
theorem Dt {r:aH} (h:eP r=true) (hx:r.X0<r.X1) (hy:r.Y0<r.Y1):zQ r:=by
 have:=lQ h
 refine⟨hx,hy,?_,?_,?_,?_⟩ <;> unfold small <;> omega
def jQ (r:aH):Option Int:=if eP r=true then (if r.X1<=r.X0\/r.Y1<=r.Y0 then some 13 else none) else some 1
def kq (l:List aH):Int:=if 2000<l.length then 2 else (l.findSome? jQ).getD 0
theorem zj {l:List aH} (hl:l.length<=4611686018427387904):kc N l=some (kq l):=by
 unfold kc kq
 by_cases h:2000<l.length
 ·rw [bB (by omega),aO,aC h]
 ·rw [bF (by omega),aM,aD h,yc jQ hl (fun k x hx=>by
   rw [dG hx,aB,yA,aB]
   unfold jQ
   cases hr:eP x with
   | false=>rfl
   | true=>
    rw [jB,aM,aC rfl]
    by_cases h2:x.X1<=x.X0\/x.Y1<=x.Y0
    ·rw [aC h2,show (decide (x.X1<=x.X0)||decide (x.Y1<=x.Y0))=true by rw [dB,bE,bE];exact h2];rfl
    ·rw [aD h2,show (decide (x.X1<=x.X0)||decide (x.Y1<=x.Y0))=false by rw [<-j4,dB,bE,bE];exact h2];rfl),aB]
  cases l.findSome? jQ <;> rfl
theorem vL {r:aH}:jQ r=none↔eP r=true/\r.X0<r.X1/\r.Y0<r.Y1:=by
 unfold jQ
 by_cases h:eP r=true
 ·rw [aC h]
  by_cases h2:r.X1<=r.X0\/r.Y1<=r.Y0
  ·rw [aC h2]
   constructor
   ·intro h;cases h
   ·rintro⟨_,h3,h4⟩;omega
  ·rw [aD h2]
   exact⟨fun _=>⟨h,by omega,by omega⟩,fun _=>rfl⟩
 ·rw [aD h]
  constructor
  ·intro h;cases h
  ·rintro⟨h3,_⟩;exact absurd h3 h
theorem Cu {r:aH} {e:Int} (h:jQ r=some e):e≠0:=by
 unfold jQ at h
 split at h
 ·split at h
  ·injection h with h;omega
  ·cases h
 ·injection h with h;omega
theorem p5 {l:List aH}:kq l=0↔l.length<=2000/\∀r∈l,eP r=true/\r.X0<r.X1/\r.Y0<r.Y1:=by
 unfold kq
 by_cases h:2000<l.length
 ·rw [aC h];constructor
  ·intro h;omega
  ·intro h;omega
 ·rw [aD h]
  cases hf:l.findSome? jQ with
  | none=>
   rw [List.findSome?_eq_none_iff] at hf
   exact⟨fun _=>⟨by omega,fun r hr=>vL.1 (hf r hr)⟩,fun _=>rfl⟩
  | some e=>
   obtain⟨r,hr,he⟩:=List.exists_of_findSome?_eq_some hf
   constructor
   ·intro h0;exact absurd h0 (Cu he)
   ·rintro⟨_,h2⟩
    rw [vL.2 (h2 r hr)] at he;cases he
def I8 (l:List aH):Prop:=∀(k:Nat) a b,l[k]? =some a->l[k+1]? =some b->¬(b.Y0<a.Y0\/(b.Y0=a.Y0/\b.X0<=a.X0))
def yD (l:List aH):Prop:=∃s,qI l s/\aQ s=l
noncomputable def iS (l:List aH):Int:=if kq l≠0 then kq l else if I8 l then (if yD l then 0 else 3) else 8
theorem A0 {l:List aH} (h:kq l=0):l.length<=2000/\∀r∈l,zQ r:=⟨(p5.1 h).1,fun r hr=>by have:=(p5.1 h).2 r hr;exact Dt this.1 this.2.1 this.2.2⟩
theorem Du {l m:List aH} (hl:l.length<=4611686018427387904):jF N l m=some (decide (l=m)):=by
 have:=zL (l:=l) (m:=m) hl
 unfold Dh at this
 unfold jF
 rw [show (decide (l=m)) = @decide (l=m) (instDecidableEqList l m) from decide_eq_decide.2 Iff.rfl]
 exact this
theorem sY {l:List aH} (hl:l.length<=1073741824) (hN:4398046511104<=N):iA N l=some (iS l):=by
 refine Ok.get ?_
 unfold iA
 refine Ok.eq (zj (by omega)) ?_
 unfold iS
 refine Ok.bif (fun h=>Ok.ret ?_) (fun h=>?_)
 ·rw [aC (by simpa using h)]
 ·have h0:kq l=0:=by simpa using h
  rw [aD (by simpa using h0)]
  obtain⟨hlen,hok⟩:=A0 h0
  refine Ok.bind (Ok.iY (Go:=fun _=>I8 l) (Rt:=fun r=>r=8/\¬I8 l) (fun s=>∃k:Nat,s= ((k:Nat):Int)/\1<=k/\∀(j:Nat) a b,j+1<k->l[j]? =some a->l[j+1]? =some b->¬(b.Y0<a.Y0\/(b.Y0=a.Y0/\b.X0<=a.X0))) (fun s=>l.length - s.toNat) ?_ ⟨1,rfl,bD _,fun j a b hj=>by omega⟩ (by simp;omega)) ?_
  ·rintro s ⟨k,rfl,hk,hI⟩
   refine Ok.bif (fun h=>?_) (fun h=>Ok.br fun j a b ha hb=>hI j a b ?_ ha hb)
   ·have hk2:k<l.length:=by have:=of_decide_eq_true h;omega
    rw [fW hk (by omega)]
    refine Ok.idx (by omega) (Ok.idx hk2 (Ok.bif (fun hb=>Ok.rt ⟨rfl,fun hu=>?_⟩) (fun hb=>Ok.nx ⟨⟨k+1,by rw [bQ (by omega)],by omega,fun j a b hj ha hb'=>?_⟩,by rw [bQ (by omega)];simp only [cA];omega⟩)))
    ·refine hu (k - 1) l[k - 1] l[k] (aL _) (by rw [show k - 1+1=k by omega];exact aL _) ?_
     rw [dB,bL,bE,bE,beq_iff_eq] at hb;exact hb
    ·by_cases e:j+1<k
     ·exact hI j a b e ha hb'
     ·have:j+1=k:=by omega
      subst this
      rw [aL (by omega)] at ha hb'
      injection ha with ha;injection hb' with hb'
      subst ha;subst hb'
      rw [<-j4,dB,bL,bE,bE,beq_iff_eq] at hb;exact hb
   ·have:=of_decide_eq_false h
    have:=(aU.1 hb).1;omega
  ·rintro o ho
   refine Ok.cs ho (fun s hu=>?_) (fun r hr=>Ok.ret (by rw [hr.1,aD hr.2]))
   rw [aC hu]
   refine Ok.bind (nG (N:=N) (by omega) hok (by omega)) ?_
   intro s hs
   obtain⟨z1,z2,z3⟩:=hs.Ct
   have z4:2*l.length* (2*l.length)<=4000*4000:=Nat.mul_le_mul (by omega) (by omega)
   refine Ok.eq (yq (qK hs.can) (by omega) (fun b hb=>by have:=z2 b hb;omega) (by omega)) (Ok.eq (Du (by omega)) ?_)
   have hiff:yD l↔aQ s=l:=⟨fun⟨t,h1,h2⟩=>by rw [hs.unique h1];exact h2,fun h=>⟨s,hs,h⟩⟩
   refine Ok.bif (fun h=>Ok.ret ?_) (fun h=>Ok.ret ?_)
   ·have h: ¬aQ s=l:=by simpa using h
    rw [aD (fun h'=>h (hiff.1 h'))]
   ·have h:aQ s=l:=by simpa using h
    rw [aC (hiff.2 h)]
theorem xe {l:List aH}:iS l=0↔kq l=0/\I8 l/\yD l:=by
 unfold iS
 by_cases h:kq l=0
 ·rw [aD (by simpa using h)]
  by_cases h2:I8 l
  ·rw [aC h2]
   by_cases h3:yD l
   ·rw [aC h3];exact⟨fun _=>⟨h,h2,h3⟩,fun _=>rfl⟩
   ·rw [aD h3];constructor
    ·intro h;omega
    ·rintro⟨_,_,h4⟩;exact absurd h4 h3
  ·rw [aD h2];constructor
   ·intro h;omega
   ·rintro⟨_,h4,_⟩;exact absurd h4 h2
 ·rw [aC h]
  constructor
  ·intro h2;exact absurd h2 h
  ·rintro⟨h2,_⟩;exact absurd h2 h
theorem uI (n lo hi:Int):fu N n lo hi=some (eZ n lo hi):=rfl
theorem Fi {b:cH} (hN:16<=N):jX N b=some (lq b):=by
 have:=qL (N:=N - 16) (b:=b)
 rwa [show N - 16+16=N by omega] at this
def kN (n:Nat) (b:cH):Option Int:=if (lq b).2≠0 then some (lq b).2 else if eZ b.cY 0 (((n:Nat):Int) - 1)=true/\eZ b.To b.cY (((n:Nat):Int) - 1)=true then none else some 1
def gX (a:iM):Int:=if 500<a.aJ.length then 2 else (a.aJ.findSome? (kN a.aI.length)).getD 0
theorem zk {a:iM} (h1:a.aI.length<=4611686018427387904) (h2:a.aJ.length<=4611686018427387904) (hN:16<=N):jG N a=some (gX a):=by
 unfold jG gX
 by_cases h:500<a.aJ.length
 ·rw [bB (by omega),aO,aC h]
 ·have hw:IntKind.wrap .i64 (((a.aI.length:Nat):Int) - 1)= ((a.aI.length:Nat):Int) - 1:=eG (by omega) (by omega)
  rw [bF (by omega),aM,aD h,yc (kN a.aI.length) h2 (fun k x hx=>by
   rw [dG hx,aB,Fi hN,aB]
   unfold kN
   by_cases h0: (lq x).2=0
   ·rw [aD (by simpa using h0),h0,show ((0:Int) != 0)=false by rfl,aM,hw,uI,aB,uI,aB]
    cases h3:eZ x.cY 0 (((a.aI.length:Nat):Int) - 1) <;> cases h4:eZ x.To x.cY (((a.aI.length:Nat):Int) - 1) <;> rfl
   ·rw [aC h0,show ((lq x).2 != 0)=true by simpa using h0];rfl),aB]
  cases a.aJ.findSome? (kN a.aI.length) <;> rfl
theorem Cv {b:cH} (h: (lq b).2=0):ox b=true/\eP (sW b)=true:=by
 unfold lq at h
 split at h
 ·rename_i h';rwa [bL] at h'
 ·cases h
theorem k6 {a:iM} (h:gX a=0):a.aJ.length<=500/\∀b∈a.aJ,ox b=true/\eP (sW b)=true/\0<=b.cY/\b.cY<=b.To/\b.To< ((a.aI.length:Nat):Int):=by
 unfold gX at h
 split at h
 ·omega
 ·refine⟨by omega,fun b hb=>?_⟩
  have hn:kN a.aI.length b=none:=by
   cases hf:a.aJ.findSome? (kN a.aI.length) with
   | none=>exact List.findSome?_eq_none_iff.1 hf b hb
   | some e=>
    rw [hf] at h
    obtain⟨c,hc,he⟩:=List.exists_of_findSome?_eq_some hf
    have h:e=0:=h
    subst h
    unfold kN at he
    split at he
    ·rename_i h';injection he with he;exact absurd he h'
    ·split at he
     ·cases he
     ·injection he with he;omega
  unfold kN at hn
  split at hn
  ·cases hn
  ·rename_i h0
   split at hn
   ·rename_i h1
    have h0: (lq b).2=0:=by simpa using h0
    have:=Cv h0
    unfold eZ at h1
    simp only [bL,bE] at h1
    exact⟨this.1,this.2,by omega,by omega,by omega⟩
   ·cases hn
theorem KQ {b:cH} (h1:ox b=true) (h2:eP (sW b)=true):zQ (sW b):=by
 have hf:=pN h1
 refine Dt h2 ?_ ?_
 ·show b.At.X - b.eI / 2<b.At.X - b.eI / 2+b.eI;omega
 ·show b.At.Y - b.eI / 2<b.At.Y - b.eI / 2+b.eI;omega
def iF (p q:fL):Int:=if Lib.compareBytes p.Part.cR q.Part.cR≠0 then Lib.compareBytes p.Part.cR q.Part.cR else Lib.compareBytes p.fL.cR q.fL.cR
theorem rN (p q:fL):gJ N p q=some (iF p q):=by
 unfold gJ iF
 show (bif (Lib.compareBytes p.Part.cR q.Part.cR != 0) then _ else _)=_
 by_cases h:Lib.compareBytes p.Part.cR q.Part.cR=0
 ·rw [h,aD (by simp)];rfl
 ·rw [aC h,show (Lib.compareBytes p.Part.cR q.Part.cR != 0)=true by simpa using h];rfl
def jv (l:eW):fL:=⟨l.Part,l.fL⟩
theorem wN (l:eW):kF N l=some (jv l):=rfl
def jl (a:iM) (k:Nat):Option Int:=(a.bG[k]?).bind fun x=>
 if (mi x.Part&&isWord x.fL)=true then
  if (eZ x.eT 0 (((a.aI.length:Nat):Int) - 1)&&o9 x.At)=true then
   if 0<k/\(∃y,a.bG[k - 1]? =some y/\iF (jv x) (jv y)<=0) then some 8 else none
  else some 1
 else some 5
noncomputable def lR (a:iM):Int:=if 1000<a.bG.length then 2 else (tN a.bG.length (jl a)).getD 0
end
end Go.Gk
namespace Go.Gk
open Go Classical
section
variable {N:Nat}
def yE (a:iM):Prop:=∀x∈a.bG,x.Part.cR.length<=1048576/\x.fL.cR.length<=1048576
theorem zm {a:iM} (h1:a.aI.length<=1073741824) (h2:a.bG.length<=1073741824) (h3:yE a) (hN:4194304<=N):jI N a=some (lR a):=by
 unfold jI lR
 by_cases h:1000<a.bG.length
 ·rw [bB (by omega),aO,aC h]
 ·have hw:IntKind.wrap .i64 (((a.aI.length:Nat):Int) - 1)= ((a.aI.length:Nat):Int) - 1:=eG (by omega) (by omega)
  rw [bF (by omega),aM,aD h,qq (jl a) (by omega) (fun k hk _=>by
   have hx:a.bG[k]? =some a.bG[k]:=aL hk
   have hs:=h3 _ (cJ hk)
   rw [dG hx,aB,vJ hs.1 hN,aB]
   have hle:jl a k= (if (mi a.bG[k].Part&&isWord a.bG[k].fL)=true then
     if (eZ a.bG[k].eT 0 (((a.aI.length:Nat):Int) - 1)&&o9 a.bG[k].At)=true then
      if 0<k/\(∃y,a.bG[k - 1]? =some y/\iF (jv a.bG[k]) (jv y)<=0) then some 8 else none
     else some 1
    else some 5):=by unfold jl;rw [hx];rfl
   rw [hle]
   have e1: ((bif (!mi a.bG[k].Part) then (some true) else ((iq N a.bG[k].fL).bind fun x225=>some (!x225))):Option Bool)=some (!(mi a.bG[k].Part&&isWord a.bG[k].fL)):=by
    rw [pO hs.2,aB]
    cases mi a.bG[k].Part <;> rfl
   have e2: ((fu N a.bG[k].eT 0 (IntKind.wrap .i64 (((a.aI.length:Nat):Int) - 1))).bind fun x318=>bif (!x318) then (some true) else ((iU N a.bG[k].At).bind fun x321=>some (!x321)))=some (!(eZ a.bG[k].eT 0 (((a.aI.length:Nat):Int) - 1)&&o9 a.bG[k].At)):=by
    rw [hw,uI,aB,xc,aB]
    cases eZ a.bG[k].eT 0 (((a.aI.length:Nat):Int) - 1) <;> rfl
   show ((bif (!mi a.bG[k].Part) then (some true) else ((iq N a.bG[k].fL).bind fun x225=>some (!x225))):Option Bool).bind _=_
   rw [e1,aB]
   cases h4: (mi a.bG[k].Part&&isWord a.bG[k].fL) with
   | false=>rfl
   | true=>
    rw [jB,aM,aC rfl]
    show (((fu N a.bG[k].eT 0 (IntKind.wrap .i64 (((a.aI.length:Nat):Int) - 1))).bind fun x318=>bif (!x318) then (some true) else ((iU N a.bG[k].At).bind fun x321=>some (!x321)))).bind _=_
    rw [e2,aB]
    cases h5: (eZ a.bG[k].eT 0 (((a.aI.length:Nat):Int) - 1)&&o9 a.bG[k].At) with
    | false=>rfl
    | true=>
     rw [jB,aM,aC rfl]
     by_cases h0:0<k
     ·rw [bB (by omega),aO,fW h0 (by omega),j7 _ _ (by omega:k - 1<a.bG.length)]
      simp only [wN,aB,rN]
      by_cases h6:iF (jv a.bG[k]) (jv a.bG[k - 1])<=0
      ·rw [bB h6,aC ⟨h0,_,aL (by omega:k - 1<a.bG.length),h6⟩];rfl
      ·rw [bF h6,aD (by
        rintro⟨_,y,hy,h7⟩
        rw [aL (by omega:k - 1<a.bG.length)] at hy;injection hy with hy
        rw [<-hy] at h7;exact h6 h7)];rfl
     ·rw [bF (by omega),aD (fun h=>h0 h.1)];rfl),aB]
  cases tN a.bG.length (jl a) <;> rfl
def jR (b:cH) (k:Int):Bool:=decide (b.cY<=k)&&decide (k<=b.To)
theorem yF (b:cH) (k:Int):ke N b k=some (jR b k):=rfl
def jS (bs:List cH) (k:Int):List aH:=(bs.filter (fun b=>jR b k)).map sW
structure mc (bs:List cH):Prop where
 len:bs.length<=500
 ok: ∀b∈bs,ox b=true/\eP (sW b)=true
structure ru (r hs:List aH) (s:List aA):Prop where
 can:dX (s.map bJ)
 cover: ∀x y,rY (s.map bJ) x y= (sR r x y&& !sR hs x y)
 lim:uQ (qG r++qG hs) (ik r++ik hs) (s.map bJ)
theorem wO {bs:List cH} (h:mc bs) (k:Int): (jS bs k).length<=500:=by
 unfold jS
 rw [cE]
 have:=kB (fun b=>jR b k) bs
 have:=h.len;omega
theorem sZ {bs:List cH} (h:mc bs) (k:Int): ∀r∈jS bs k,zQ r/\eP r=true:=by
 intro r hr
 unfold jS at hr
 obtain⟨b,hb,rfl⟩:=cP.1 hr
 have:=h.ok b (iN.1 hb).1
 exact⟨KQ this.1 this.2,this.2⟩
theorem ru.small {r hs:List aH} {s:List aA} (h:ru r hs s) (h1: ∀x∈r,zQ x) (h2: ∀x∈hs,zQ x): (∀c∈qG r++qG hs,small c)/\∀c∈ik r++ik hs,small c:=by
 constructor
 ·intro c hc
  rcases cV.1 hc with h | h
  ·obtain⟨x,hx,rfl | rfl⟩:=qH.1 h
   ·exact(h1 x hx).s1
   ·exact(h1 x hx).s2
  ·obtain⟨x,hx,rfl | rfl⟩:=qH.1 h
   ·exact(h2 x hx).s1
   ·exact(h2 x hx).s2
 ·intro c hc
  rcases cV.1 hc with h | h
  ·obtain⟨x,hx,rfl | rfl⟩:=kp.1 h
   ·exact(h1 x hx).s3
   ·exact(h1 x hx).s4
  ·obtain⟨x,hx,rfl | rfl⟩:=kp.1 h
   ·exact(h2 x hx).s3
   ·exact(h2 x hx).s4
theorem tH {s:List aA} {X Y:List Int} {A:Nat} (hc:dX (s.map bJ)) (h:uQ X Y (s.map bJ)) (hX:X.length<=A) (hY:Y.length<=A):s.length<=A/\(∀b∈s,b.Xs.length<=A)/\(aQ s).length<=A*A:=by
 have h1:s.length<=A:=by have:=h.len hc;rw [cE] at this;omega
 have h2: ∀b∈s,b.Xs.length<=A:=fun b hb=>by
  have:=h.row hc (b:=bJ b) (cP.2 ⟨b,hb,rfl⟩)
  have e: (bJ b).xs=b.Xs:=rfl
  rw [e] at this;omega
 exact⟨h1,h2,yp h1 h2⟩
theorem zn {r hs:List aH} (h1:r.length<=2000) (h2: ∀x∈r,zQ x) (h3:hs.length<=500) (h4: ∀x∈hs,zQ x) (hN:4398046511104<=N) {β:Type} {f:List aA->Option β} {Q:β->Prop} (k: ∀s,ru r hs s->Ok (f s) Q):
  Ok ((gm N r).bind fun x378=>(gm N hs).bind fun x380=>(kf N x378 x380).bind f) Q:=by
 refine Ok.bind (nG (N:=N) (by omega) h2 (by omega)) (fun s hs1=>?_)
 refine Ok.bind (nG (N:=N) (by omega) h4 (by omega)) (fun t ht=>?_)
 have hz: ∀c∈ik r++ik hs,small c:=by
  intro c hc
  rcases cV.1 hc with h | h
  ·obtain⟨x,hx,rfl | rfl⟩:=kp.1 h
   ·exact(h2 x hx).s3
   ·exact(h2 x hx).s4
  ·obtain⟨x,hx,rfl | rfl⟩:=kp.1 h
   ·exact(h4 x hx).s3
   ·exact(h4 x hx).s4
 refine Ok.bind (Fc (X:=qG r++qG hs) (Y:=ik r++ik hs) hs1.can ht.can (hs1.lim.mono (fun c h=>List.mem_append_left _ h) (fun c h=>List.mem_append_left _ h)) (ht.lim.mono (fun c h=>List.mem_append_right _ h) (fun c h=>List.mem_append_right _ h))
  (by rw [cQ,kS,kS];omega) (by rw [cQ,iu,iu];omega) hz hN) (fun u hu=>?_)
 exact k u ⟨hu.can,fun x y=>by rw [hu.cover,hs1.cover,ht.cover],hu.lim⟩
def aP:Nat->List (List (List aA))->List aN
 | _,[]=>[]
 | k,ps::r=>ps.map (fun p=>⟨((k:Nat):Int),p,aQ p⟩)++aP (k+1) r
theorem uJ (ps:List (List aA)): ∀(r:List (List (List aA))) (k:Nat),aP k (r++[ps])=aP k r++ps.map (fun p=>⟨((k+r.length:Nat):Int),p,aQ p⟩)
 | [],k=>by unfold aP;simp [aP]
 | q::r,k=>by
  show _++aP (k+1) (r++[ps])= (_++aP (k+1) r)++_
  rw [uJ ps r (k+1),j3]
  congr 3
  simp only [dE]
  rw [show k+ (r.length+1)=k+1+r.length by omega]
theorem yG {s p:List aA} {ps:List (List aA)} {r:Nat->Nat} {X Y:List Int} (h:pM s r ps) (hc:dX (s.map bJ)) (hl:uQ X Y (s.map bJ)) (hX: ∀c∈X,small c) (hY: ∀c∈Y,small c) (hp:p∈ps):
  ∃j k:Nat,ps[j]? =some p/\(bI (aQ s).length r)[j]? =some k/\qI (mu (aQ s) (aQ s).length r k) p/\uQ X Y (p.map bJ):=by
 obtain⟨j,hj⟩:=dF hp
 have hjl:=(aU.1 hj).1
 rw [h.len] at hjl
 have hh: (bI (aQ s).length r)[j]? =some (bI (aQ s).length r)[j]:=aL hjl
 have hs:=h.each j _ p hh hj
 refine⟨j,_,hj,hh,hs,hs.lim.mono (fun c hcx=>?_) (fun c hcx=>?_)⟩
 ·obtain⟨x,hx,hxc⟩:=qH.1 hcx
  obtain⟨i,_,_,hi⟩:=kT.1 hx
  have:=yr hc hl hX hY x (dU hi)
  rcases hxc with rfl | rfl
  ·exact this.2.1.1
  ·exact this.2.1.2
 ·obtain⟨x,hx,hxc⟩:=kp.1 hcx
  obtain⟨i,_,_,hi⟩:=kT.1 hx
  have:=yr hc hl hX hY x (dU hi)
  rcases hxc with rfl | rfl
  ·exact this.2.2.1
  ·exact this.2.2.2
structure uK (cs:List (List aH)) (bs:List cH) (k:Nat) (ky:List (List aA)) (bV:List (List (List aA))):Prop where
 len:ky.length=k
 A1:bV.length=k
 dr: ∀(i:Nat) r s,i<k->cs[i]? =some r->ky[i]? =some s->ru r (jS bs ((i:Nat):Int)) s
 pt: ∀(i:Nat) s ps,i<k->ky[i]? =some s->bV[i]? =some ps->∃u,pM s u ps
 xB: (aP 0 bV).length<=k*25000000
theorem pM.xB {s:List aA} {u:Nat->Nat} {ps:List (List aA)} (h:pM s u ps):ps.length<=(aQ s).length:=by
 rw [h.len];exact nI _ _
theorem Dv {cs:List (List aH)} {bs:List cH} (hcs:cs.length<=16) (hc: ∀r∈cs,r.length<=2000/\∀x∈r,zQ x) (hb:mc bs) (hN:4398046511104<=N):
  Ok (i5 N cs bs [] []) (fun x=>∃bV,uK cs bs cs.length x.2.1 bV/\x.2.2=aP 0 bV/\(x.1=true↔(∀s∈x.2.1,(aQ s).length<=2000)/\x.2.2.length<=2000)):=by
 unfold i5
 refine Ok.bind (P:=fun(st:List (List aA)×List aN×Bool)=>∃bV,uK cs bs cs.length st.1 bV/\st.2.1=aP 0 bV/\(st.2.2=true↔∀s∈st.1,(aQ s).length<=2000)) (Ok.lV (fun(k:Nat) (st:List (List aA)×List aN×Bool)=>∃bV,uK cs bs k st.1 bV/\st.2.1=aP 0 bV/\(st.2.2=true↔∀s∈st.1,(aQ s).length<=2000)) (by omega)
  ⟨[],⟨rfl,rfl,fun i r s hi=>by omega,fun i s ps hi=>by omega,by simp [aP]⟩,rfl,by simp⟩ (fun k st hk hI=>?_)) ?_
 ·obtain⟨ky,pcs,okk⟩:=st
  obtain⟨bV,D,e1,e2⟩:=hI
  dsimp only at D e1 e2 ⊢
  subst e1
  have hkx:cs[k]? =some cs[k]:=aL hk
  obtain⟨hr1,hr2⟩:=hc _ (cJ hk)
  refine Ok.ix hkx ?_
  refine Ok.bind (P:=fun t=>t=jS bs ((k:Nat):Int)) (Ok.mono (Ok.lV (fun j t=>t=jS (bs.take j) ((k:Nat):Int)) (by have:=hb.len;omega) rfl (fun j t hj e=>?_)) (fun t e=>by rw [e,eE])) (fun t e=>?_)
  ·subst e
   refine Ok.idx hj (Ok.eq (yF _ _) ?_)
   have hts:bs.take (j+1)=bs.take j++[bs[j]]:=dT hj
   have hgb:=hb.ok _ (cJ hj)
   have hl: (jS (bs.take j) ((k:Nat):Int)).length<=500:=by
    unfold jS
    rw [cE]
    have:=kB (fun b=>jR b ((k:Nat):Int)) (bs.take j)
    rw [cF] at this
    have:=hb.len;omega
   cases ht:jR bs[j] ((k:Nat):Int) with
   | false=>
    rw [aM]
    refine Ok.eq rfl (Ok.ret ?_)
    unfold jS
    rw [hts,iO];simp [ht]
   | true=>
    rw [aO]
    refine Ok.eq (x:=jS (bs.take j) ((k:Nat):Int)++[sW bs[j]]) (by rw [lP hgb.1,aB,iK (by simp;omega),aB]) (Ok.ret ?_)
    unfold jS
    rw [hts,iO,dD];simp [ht]
  ·subst e
   have hho:=sZ hb ((k:Nat):Int)
   have hhl:=wO hb ((k:Nat):Int)
   refine zn hr1 hr2 hhl (fun x hx=>(hho x hx).1) hN (fun s hs=>?_)
   obtain⟨sx,sy⟩:=hs.small hr2 (fun x hx=>(hho x hx).1)
   obtain⟨z1,z2,z3⟩:=tH (A:=5000) hs.can hs.lim (by rw [cQ,kS,kS];omega) (by rw [cQ,iu,iu];omega)
   have hmany:=HO (N:=N) (s:=s) (by omega) (fun b hb=>by have:=z2 b hb;omega) (by omega)
   refine Ok.eq (x:=(okk&&decide ((aQ s).length<=2000),s)) ?_ ?_
   ·cases okk with
    | false=>rfl
    | true=>
     rw [aO,hmany,aB,Bool.true_and]
     rw [show decide ((((aQ s).length:Nat):Int)<=2000)=decide ((aQ s).length<=2000) from decide_eq_decide.2 (by omega)]
   dsimp only
   refine Ok.app (by rw [D.len];simp;omega) ?_
   refine Ok.bind (Dr (N:=N) hs.can hs.lim sx sy (by omega) (fun b hb=>by have:=z2 b hb;omega) (by omega) hN) ?_
   rintro ps ⟨u,hu⟩
   have hfew:=hu.xB
   have hk16:k*25000000<=16*25000000:=Nat.mul_le_mul_right _ (by omega)
   have hDf:=D.xB
   refine Ok.bind (P:=fun t=>t=aP 0 bV++ps.map (fun p=>(⟨((k:Nat):Int),p,aQ p⟩:aN))) (Ok.mono (Ok.lV (fun j t=>t=aP 0 bV++(ps.take j).map (fun p=>(⟨((k:Nat):Int),p,aQ p⟩:aN))) (by omega) (by simp) (fun j t hj e=>?_)) (fun t e=>by rw [e,eE])) (fun t e=>Ok.ret ?_)
   ·subst e
    have hjx:ps[j]? =some ps[j]:=aL hj
    refine Ok.ix hjx ?_
    obtain⟨_,_,_,_,lU,hpl⟩:=yG hu hs.can hs.lim sx sy (cJ hj)
    obtain⟨y1,y2,y3⟩:=tH (A:=5000) lU.can hpl (by rw [cQ,kS,kS];omega) (by rw [cQ,iu,iu];omega)
    refine Ok.eq (yq (qK lU.can) (by omega) (fun b hb=>by have:=y2 b hb;omega) (by omega)) (Ok.app ?_ (Ok.ret ?_))
    ·simp only [cQ,cE,cF,List.length_singleton];omega
    ·rw [dT hj,dD,j3];rfl
   ·subst e
    refine⟨bV++[ps],⟨by simp [D.len],by simp [D.A1],fun i r s' hi hr hs'=>?_,fun i s' ps' hi hs' hps'=>?_,?_⟩,?_,?_⟩
    ·dsimp only at hs'
     by_cases hik:i<k
     ·rw [fz (by rw [D.len];exact hik)] at hs'
      exact D.dr i r s' hik hr hs'
     ·have:i=k:=by omega
      subst this
      rw [fI (by rw [D.len];omega),D.len,Nat.sub_self] at hs'
      simp at hs';subst hs'
      rw [hkx] at hr;injection hr with hr;subst hr
      exact hs
    ·dsimp only at hs'
     by_cases hik:i<k
     ·rw [fz (by rw [D.len];exact hik)] at hs'
      rw [fz (by rw [D.A1];exact hik)] at hps'
      exact D.pt i s' ps' hik hs' hps'
     ·have:i=k:=by omega
      subst this
      rw [fI (by rw [D.len];omega),D.len,Nat.sub_self] at hs'
      rw [fI (by rw [D.A1];omega),D.A1,Nat.sub_self] at hps'
      simp at hs' hps';subst hs';subst hps'
      exact⟨u,hu⟩
    ·rw [uJ,cQ,cE];omega
    ·dsimp only
     rw [uJ,D.A1,gx]
    ·dsimp only
     rw [bL,e2,bE]
     constructor
     ·rintro⟨h1,h2⟩ s' hs'
      rcases cV.1 hs' with h | h
      ·exact h1 s' h
      ·simp at h;subst h;exact h2
     ·intro h
      exact⟨fun s' hs'=>h s' (List.mem_append_left _ hs'),h s (by simp)⟩
 ·rintro⟨ky,pcs,okk⟩ ⟨bV,D,e1,e2⟩
  dsimp only at D e1 e2 ⊢
  subst e1
  refine Ok.bind (P:=fun b=>b=true↔(∀s∈ky,(aQ s).length<=2000)/\(aP 0 bV).length<=2000) (Ok.bif (fun h=>Ok.ret ?_) (fun h=>Ok.ret ?_)) (fun b hb=>Ok.ret ⟨bV,D,rfl,hb⟩)
  ·rw [bE]
   constructor
   ·intro h';exact⟨e2.1 h,by omega⟩
   ·rintro⟨_,h'⟩;omega
  ·constructor
   ·intro h';cases h'
   ·rintro⟨h',_⟩;rw [e2.2 h'] at h;cases h
end
end Go.Gk
