/-
  Helping texts: plain functions and plain laws. No statement of the seed is proved here.
-/
import Derived.Test.YthioiiocofohiaaGreatDoorA1
import Derived.ChangeShapes
import Derived.ChangeSame
import Derived.Carry
import Derived.RowKit
import Derived.Test.YthioiiocofohiaaGreatDoorA2
set_option linter.unusedVariables false
set_option linter.unusedSimpArgs false
set_option linter.unusedSectionVars false
namespace Go.Gk
open Go
noncomputable section
structure aI where
 X0:Int
 Y0:Int
 X1:Int
 Y1:Int
 deriving DecidableEq,Inhabited
structure eV where
 X:Int
 Y:Int
 deriving DecidableEq,Inhabited
structure bW where
 At:eV
 fy:Int
 bU:Int
 To:Int
 ik:Bool
 deriving DecidableEq,Inhabited
structure cU where
 Part:dA
 fW:dA
 cX:Int
 At:eV
 deriving DecidableEq,Inhabited
structure gU where
 aL: (List (List aI))
 dF: (List aI)
 aV: (List bW)
 bH: (List cU)
 deriving DecidableEq,Inhabited
structure fW where
 Part:dA
 fW:dA
 deriving DecidableEq,Inhabited
structure Test where
 A:fW
 B:fW
 Joined:Bool
 deriving DecidableEq,Inhabited
structure aA where
 Y0:Int
 Y1:Int
 Xs: (List Int)
 deriving DecidableEq,Inhabited
structure aH where
 cX:Int
 Set: (List aA)
 iZ: (List aI)
 deriving DecidableEq,Inhabited
structure cI where
 m9: (List Int)
 aV: (List Int)
 gW: (List fW)
 deriving DecidableEq,Inhabited
structure dQ where
 bW:Bool
 Number:Int
 deriving DecidableEq,Inhabited
structure aT where
 Open:Bool
 dQ:dQ
 A:Int
 B:Int
 deriving DecidableEq,Inhabited
structure pZ where
 A:Int
 B:Int
 iv:Int
 bU:eV
 To:eV
 deriving DecidableEq,Inhabited
structure bL where
 ug:aT
 mz: (List Bool)
 deriving DecidableEq,Inhabited
structure Touch where
 Test:Int
 IB:Bool
 Fm:Int
 deriving DecidableEq,Inhabited
def qf (N:Nat) (p0 p1 p2:Int):Option (Bool):=
 some ((decide (p0>=p1))&&(decide (p0<=p2)))
def jT (N:Nat) (p0:Int):Option (Bool):=
 (qf N p0 (-1000000) 1000000).bind fun j=>some j
def kT (N:Nat) (p0:aI):Option (Bool):=
 ((jT N p0.X0).bind fun j=>bif j then ((jT N p0.Y0).bind fun o=>bif o then ((jT N p0.X1).bind fun aa=>bif aa then ((jT N p0.Y1).bind fun ab=>some ab) else (some false)) else (some false)) else (some false)).bind fun ad=>some ad
def jH (N:Nat) (p0: (List aI)):Option (Int):=
 bif (decide ((p0.length:Int)>2000)) then (some 2) else ((pX p0.length (fun(o:Nat) (aa:Unit)=>((idx p0 (o:Int)).bind fun j=>(kT N j).bind fun ab=>bif (!ab) then (some (.rt 1)) else (bif ((decide (j.X1<=j.X0))||(decide (j.Y1<=j.Y0))) then (some (.rt 13)) else (some (.nx ()))):Option (Fl (Unit) Int))) ()).bind fun ad=>ad.cs (fun(aa:Unit)=>some 0) (fun r=>some r))
def g9 (N:Nat) (p0: (List aI)):Option ((List aI)):=
 (app 32 ([]: (List aI)) p0).bind fun j=>some j
def iM (N:Nat) (p0 p1:aI):Option (Int):=
 some (IntKind.wrap .i64 (p0.Y0 - p1.Y0))
def fT (N:Nat) (p0: (List Int)):Option ((List Int)):=
 bif (decide ((p0.length:Int)<2)) then (some p0) else ((nD (fun(o:Int)=>(bif (decide (o< (p0.length:Int))) then ((idx p0 o).bind fun ab=>(idx p0 (IntKind.wrap .i64 (o - 1))).bind fun ad=>bif (ab==ad) then ((tV p0 o (p0.length:Int)).bind fun ak=>(nD (fun(j: (List Int)×Int×Int)=>(bif (decide (j.2.2< (((j.1.length - Int.toNat o):Nat):Int))) then ((CC j.1 o j.2.2).bind fun ae=>(CC j.1 o (IntKind.wrap .i64 (j.2.2 - 1))).bind fun af=>(bif (ae != af) then ((CC j.1 o j.2.2).bind fun ag=>(idx j.1 j.2.1).bind fun al=>some ((j.1.set (Int.toNat j.2.1) ag),(IntKind.wrap .i64 (j.2.1+1)))) else (some (j.1,j.2.1))).bind fun aa=>some (.nx (aa.1,aa.2,(IntKind.wrap .i64 (j.2.2+1))))) else (some (.br (j.1,j.2.1,j.2.2))):Option (Fl ((List Int)×Int×Int) Empty))) N (p0,o,1)).bind fun ah=>ah.cs (fun(j: (List Int)×Int×Int)=>(tV j.1 j.2.1 (j.1.length:Int)).bind fun an=>(tV (j.1.take (Int.toNat j.2.1)++List.replicate (j.1.length - Int.toNat j.2.1) (0:Int)) 0 j.2.1).bind fun ai=>some (.rt ai)) (fun r=>r.elim)) else (some (.nx (IntKind.wrap .i64 (o+1))))) else (some (.br o)):Option (Fl (Int) (List Int)))) N 1).bind fun aj=>aj.cs (fun(o:Int)=>some p0) (fun r=>some r))
def mb (N:Nat) (p0:aI) (p1: (List Int)) (p2:Int):Option (Bool):=
 (idx p1 p2).bind fun j=>some (decide (p0.Y1<=j))
def kh (N:Nat) (p0: (List aI)) (p1:aI->Option Bool):Option (Int):=
 (pX p0.length (fun(j:Nat) (o:Unit)=>((idx p0 (j:Int)).bind fun aa=>(p1 aa).bind fun ab=>bif ab then (some (.rt (j:Int))) else (some (.nx ())):Option (Fl (Unit) Int))) ()).bind fun ad=>ad.cs (fun(o:Unit)=>some (-1)) (fun r=>some r)
def jv (N:Nat) (p0: (List aI)) (p1:aI->Option Bool):Option (Int):=
 (pX p0.length (fun(j:Nat) (o:Unit)=>((idx p0 (j:Int)).bind fun aa=>(p1 aa).bind fun ab=>bif ab then (some (.rt (j:Int))) else (some (.nx ())):Option (Fl (Unit) Int))) ()).bind fun ad=>ad.cs (fun(o:Unit)=>some (-1)) (fun r=>some r)
def gr (N:Nat) (p0: (List aI)) (p1:aI->Option Bool):Option ((List aI)):=
 (jv N p0 p1).bind fun o=>bif (o==(-1)) then (some p0) else ((nD (fun(j: (List aI)×Int×Int)=>(bif (decide (j.2.2< (j.1.length:Int))) then ((idx j.1 j.2.2).bind fun aa=>(p1 aa).bind fun ad=>(bif (!ad) then ((idx j.1 j.2.1).bind fun ag=>some ((j.1.set (Int.toNat j.2.1) aa),(IntKind.wrap .i64 (j.2.1+1)))) else (some (j.1,j.2.1))).bind fun ab=>some (.nx (ab.1,ab.2,(IntKind.wrap .i64 (j.2.2+1))))) else (some (.br (j.1,j.2.1,j.2.2))):Option (Fl ((List aI)×Int×Int) Empty))) N (p0,o,(IntKind.wrap .i64 (o+1)))).bind fun ae=>ae.cs (fun(j: (List aI)×Int×Int)=>(tV j.1 j.2.1 (j.1.length:Int)).bind fun ah=>(tV (j.1.take (Int.toNat j.2.1)++List.replicate (j.1.length - Int.toNat j.2.1) (⟨0,0,0,0⟩:aI)) 0 j.2.1).bind fun af=>some af) (fun r=>r.elim))
def fU (N:Nat) (p0 p1:aI):Option (Int):=
 some (IntKind.wrap .i64 (p0.X0 - p1.X0))
def il (N:Nat) (p0: (List aI)):Option ((List Int)×(List aI)):=
 (ue (fU N) p0).bind fun aa=>(iL aa.length (fun(ad:Nat) (j: (List Int))=>((idx aa (ad:Int)).bind fun o=>(bif (decide ((IntKind.wrap .i64 ((j.length:Int) - 1))>=0)) then ((idx j (IntKind.wrap .i64 ((j.length:Int) - 1))).bind fun ae=>some (decide (o.X0<=ae))) else (some false)).bind fun af=>(bif af then ((idx j (IntKind.wrap .i64 ((j.length:Int) - 1))).bind fun ab=>(idx j (IntKind.wrap .i64 ((j.length:Int) - 1))).bind fun ai=>some (j.set (Int.toNat (IntKind.wrap .i64 ((j.length:Int) - 1))) (if ab<o.X1 then o.X1 else ab))) else ((app 8 j ([o.X0,o.X1]: (List Int))).bind fun ag=>some ag)).bind fun ah=>some ah:Option ((List Int)))) ([]: (List Int))).bind fun j=>some (j,aa)
def kU (N:Nat) (p0: (List Int)) (p1: (List Int)):Option (Bool):=
 bif ((p0.length:Int) != (p1.length:Int)) then (some false) else ((pX p0.length (fun(j:Nat) (o:Unit)=>((idx p0 (j:Int)).bind fun aa=>(idx p1 (j:Int)).bind fun ab=>bif (aa != ab) then (some (.rt false)) else (some (.nx ())):Option (Fl (Unit) Bool))) ()).bind fun ad=>ad.cs (fun(o:Unit)=>some true) (fun r=>some r))
def gX (N:Nat) (p0: (List aA)) (p1:aA):Option ((List aA)):=
 bif (((p1.Xs.length:Int)==0)||(decide (p1.Y1<=p1.Y0))) then (some p0) else ((bif (decide ((IntKind.wrap .i64 ((p0.length:Int) - 1))>=0)) then ((idx p0 (IntKind.wrap .i64 ((p0.length:Int) - 1))).bind fun j=>bif (j.Y1==p1.Y0) then ((idx p0 (IntKind.wrap .i64 ((p0.length:Int) - 1))).bind fun o=>(kU N o.Xs p1.Xs).bind fun aa=>some aa) else (some false)) else (some false)).bind fun ab=>bif ab then ((idx p0 (IntKind.wrap .i64 ((p0.length:Int) - 1))).bind fun ad=>some (p0.set (Int.toNat (IntKind.wrap .i64 ((p0.length:Int) - 1))) ({ad with Y1:=p1.Y1}))) else ((app 40 p0 ([p1]: (List aA))).bind fun ae=>some ae))
def fY (N:Nat) (p0: (List aI)):Option ((List aA)):=
 (g9 N p0).bind fun ag=>(ue (iM N) ag).bind fun aa=>(iL aa.length (fun(ah:Nat) (ad: (List Int))=>((idx aa (ah:Int)).bind fun ae=>(app 8 ad ([ae.Y0,ae.Y1]: (List Int))).bind fun ai=>some ai:Option ((List Int)))) ([]: (List Int))).bind fun ad=>(q9 ad).bind fun aj=>(fT N aj).bind fun ab=>(nD (fun(j: (List aA)×(List aI)×Int×Int)=>(bif (decide ((IntKind.wrap .i64 (j.2.2.2+1))< (ab.length:Int))) then ((gr N j.2.1 (fun y0=>mb N y0 ab j.2.2.2)).bind fun ak=>(nD (fun(o: (List aI)×Int)=>((bif (decide (o.2< (aa.length:Int))) then ((idx aa o.2).bind fun al=>(idx ab j.2.2.2).bind fun an=>some (decide (al.Y0<=an))) else (some false)).bind fun ao=>bif ao then ((idx aa o.2).bind fun aq=>(app 32 o.1 ([aq]: (List aI))).bind fun ar=>some (.nx (ar,(IntKind.wrap .i64 (o.2+1))))) else (some (.br (o.1,o.2))):Option (Fl ((List aI)×Int) Empty))) N (ak,j.2.2.1)).bind fun au=>au.cs (fun(o: (List aI)×Int)=>(idx ab j.2.2.2).bind fun av=>(idx ab (IntKind.wrap .i64 (j.2.2.2+1))).bind fun aw=>(il N o.1).bind fun af=>(gX N j.1 (⟨av,aw,af.1⟩:aA)).bind fun ax=>some (.nx (ax,af.2,o.2,(IntKind.wrap .i64 (j.2.2.2+1))))) (fun r=>r.elim)) else (some (.br (j.1,j.2.1,j.2.2.1,j.2.2.2))):Option (Fl ((List aA)×(List aI)×Int×Int) Empty))) N (([]: (List aA)),([]: (List aI)),0,0)).bind fun ay=>ay.cs (fun(j: (List aA)×(List aI)×Int×Int)=>some j.1) (fun r=>r.elim)
def iq (N:Nat) (p0: (List aA)):Option ((List aI)):=
 (iL p0.length (fun(ab:Nat) (aa: (List aI))=>((idx p0 (ab:Int)).bind fun o=>(nD (fun(j: (List aI)×Int)=>(bif (decide (j.2< (o.Xs.length:Int))) then ((idx o.Xs j.2).bind fun ad=>(idx o.Xs (IntKind.wrap .i64 (j.2+1))).bind fun ae=>(app 32 j.1 ([(⟨ad,o.Y0,ae,o.Y1⟩:aI)]: (List aI))).bind fun af=>some (.nx (af,(IntKind.wrap .i64 (j.2+2))))) else (some (.br (j.1,j.2))):Option (Fl ((List aI)×Int) Empty))) N (aa,0)).bind fun ag=>ag.cs (fun(j: (List aI)×Int)=>some j.1) (fun r=>r.elim):Option ((List aI)))) ([]: (List aI))).bind fun aa=>some aa
def jl (N:Nat) (p0: (List aI)) (p1: (List aI)):Option (Bool):=
 bif ((p0.length:Int) != (p1.length:Int)) then (some false) else ((pX p0.length (fun(j:Nat) (o:Unit)=>((idx p0 (j:Int)).bind fun aa=>(idx p1 (j:Int)).bind fun ab=>bif (!(decide (aa=ab))) then (some (.rt false)) else (some (.nx ())):Option (Fl (Unit) Bool))) ()).bind fun ad=>ad.cs (fun(o:Unit)=>some true) (fun r=>some r))
def hG (N:Nat) (p0: (List aI)):Option (Int):=
 (jH N p0).bind fun ab=>bif (ab != 0) then (some ab) else ((nD (fun(j:Int)=>(bif (decide (j< (p0.length:Int))) then ((idx p0 (IntKind.wrap .i64 (j - 1))).bind fun o=>(idx p0 j).bind fun aa=>bif ((decide (aa.Y0<o.Y0))||((aa.Y0==o.Y0)&&(decide (aa.X0<=o.X0)))) then (some (.rt 8)) else (some (.nx (IntKind.wrap .i64 (j+1))))) else (some (.br j)):Option (Fl (Int) Int))) N 1).bind fun ad=>ad.cs (fun(j:Int)=>(fY N p0).bind fun ae=>(iq N ae).bind fun af=>(jl N af p0).bind fun ag=>bif (!ag) then (some 3) else (some 0)) (fun r=>some r))
def gm (N:Nat) (p0 p1 p2:Int):Option (Bool):=
 some ((decide (p0>=p1))&&(decide (p0<=p2)))
def iE (N:Nat) (p0:eV):Option (Bool):=
 ((jT N p0.X).bind fun j=>bif j then ((jT N p0.Y).bind fun o=>some o) else (some false)).bind fun aa=>some aa
def fw (N:Nat) (p0:bW):Option (aI):=
 some (⟨(IntKind.wrap .i64 (p0.At.X - (IntKind.wrap .i64 (Int.tdiv p0.fy 2)))),(IntKind.wrap .i64 (p0.At.Y - (IntKind.wrap .i64 (Int.tdiv p0.fy 2)))),(IntKind.wrap .i64 ((IntKind.wrap .i64 (p0.At.X - (IntKind.wrap .i64 (Int.tdiv p0.fy 2))))+p0.fy)),(IntKind.wrap .i64 ((IntKind.wrap .i64 (p0.At.Y - (IntKind.wrap .i64 (Int.tdiv p0.fy 2))))+p0.fy))⟩:aI)
def kV (N:Nat) (p0: (List aA)):Option (aI):=
 (idx p0 0).bind fun ad=>(idx ad.Xs 0).bind fun ae=>(idx p0 0).bind fun af=>(idx p0 0).bind fun ag=>(idx ag.Xs 1).bind fun ah=>(idx p0 (IntKind.wrap .i64 ((p0.length:Int) - 1))).bind fun ai=>(iL p0.length (fun(aj:Nat) (j:aI)=>((idx p0 (aj:Int)).bind fun o=>(idx o.Xs 0).bind fun aa=>(idx o.Xs (IntKind.wrap .i64 ((o.Xs.length:Int) - 1))).bind fun ab=>some ({{j with X0:=(if aa<j.X0 then aa else j.X0)} with X1:=(if j.X1<ab then ab else j.X1)}):Option (aI))) (⟨ae,af.Y0,ah,ai.Y1⟩:aI)).bind fun j=>some j
def kA (N:Nat) (p0: (List aA)):Option (Bool):=
 (bif ((p0.length:Int)==0) then (some true) else ((kV N p0).bind fun j=>(kT N j).bind fun o=>some o)).bind fun aa=>some aa
def kd (N:Nat) (p0:bW):Option (aI×Int):=
 ((gm N p0.fy 1 10000).bind fun o=>bif (!o) then (some true) else ((iE N p0.At).bind fun aa=>some (!aa))).bind fun ab=>bif ab then (some ((⟨0,0,0,0⟩:aI),1)) else ((fw N p0).bind fun j=>(fY N ([j]: (List aI))).bind fun ad=>(kA N ad).bind fun ae=>bif (!ae) then (some ((⟨0,0,0,0⟩:aI),1)) else (some (j,0)))
def jm (N:Nat) (p0:gU):Option (Int):=
 bif (decide ((p0.aV.length:Int)>500)) then (some 2) else ((pX p0.aV.length (fun(aa:Nat) (ab:Unit)=>((idx p0.aV (aa:Int)).bind fun j=>(kd N j).bind fun o=>bif (o.2 != 0) then (some (.rt o.2)) else (((gm N j.bU 0 (IntKind.wrap .i64 ((p0.aL.length:Int) - 1))).bind fun ad=>bif (!ad) then (some true) else ((gm N j.To j.bU (IntKind.wrap .i64 ((p0.aL.length:Int) - 1))).bind fun ae=>some (!ae))).bind fun af=>bif af then (some (.rt 1)) else (some (.nx ()))):Option (Fl (Unit) Int))) ()).bind fun ag=>ag.cs (fun(ab:Unit)=>some 0) (fun r=>some r))
def gF (N:Nat) (p0:dA) (p1:Int):Option (Int):=
 some (Lib.indexByte p0.cR (Int.toNat p1).toUInt8)
def jo (N:Nat) (p0 p1:dA):Option (Int):=
 bif (((p1.cR.length:Int)==0)||(p1.Cv p0)) then (some 0) else (bif ((p1.cR.length:Int)==1) then ((D4 p1 0).bind fun j=>(gF N p0 (j.toNat:Int)).bind fun o=>some o) else (bif (decide ((p1.cR.length:Int)>=(p0.cR.length:Int))) then (some (-1)) else (none)))
def ke (N:Nat) (p0 p1:dA):Option (Int):=
 (jo N p0 p1).bind fun j=>some j
def ll (N:Nat) (p0 p1:dA):Option (Int):=
 bif ((p1.cR.length:Int)==0) then (none) else (bif ((p1.cR.length:Int)==1) then ((D4 p1 0).bind fun aa=>some ((Lib.countByte p0.cR (Int.toNat (aa.toNat:Int)).toUInt8:Nat):Int)) else ((nD (fun(j:dA×Int)=>((ke N j.1 p1).bind fun o=>bif (o==(-1)) then (some (.rt j.2)) else ((tl j.1 (IntKind.wrap .i64 (o+ (p1.cR.length:Int))) (j.1.cR.length:Int)).bind fun ab=>some (.nx (ab,(IntKind.wrap .i64 (j.2+1))))):Option (Fl (dA×Int) Int))) N (p0,0)).bind fun ad=>ad.cs (fun(j:dA×Int)=>some 0) (fun r=>some r)))
def kW (N:Nat) (p0 p1:dA) (p2 p3:Int):Option ((List dA)):=
 bif (p3==0) then (some ([]: (List dA))) else (bif (p1.Cv (⟨[]⟩)) then (none) else ((bif (decide (p3<0)) then ((ll N p0 p1).bind fun ab=>some (IntKind.wrap .i64 (ab+1))) else (some p3)).bind fun o=>(mk 16 (⟨[]⟩:dA) (if (IntKind.wrap .i64 ((p0.cR.length:Int)+1))<o then (IntKind.wrap .i64 ((p0.cR.length:Int)+1)) else o)).bind fun ad=>(nD (fun(j:dA×(List dA)×Int)=>(bif (decide (j.2.2< (IntKind.wrap .i64 ((if (IntKind.wrap .i64 ((p0.cR.length:Int)+1))<o then (IntKind.wrap .i64 ((p0.cR.length:Int)+1)) else o) - 1)))) then ((ke N j.1 p1).bind fun aa=>bif (decide (aa<0)) then (some (.br (j.1,j.2.1,j.2.2))) else ((tl j.1 0 (IntKind.wrap .i64 (aa+p2))).bind fun ae=>(idx j.2.1 j.2.2).bind fun ai=>(tl j.1 (IntKind.wrap .i64 (aa+ (p1.cR.length:Int))) (j.1.cR.length:Int)).bind fun af=>some (.nx (af,(j.2.1.set (Int.toNat j.2.2) ae),(IntKind.wrap .i64 (j.2.2+1)))))) else (some (.br (j.1,j.2.1,j.2.2))):Option (Fl (dA×(List dA)×Int) Empty))) N (p0,ad,0)).bind fun ag=>ag.cs (fun(j:dA×(List dA)×Int)=>(idx j.2.1 j.2.2).bind fun aj=>(tV (j.2.1.set (Int.toNat j.2.2) j.1) 0 (IntKind.wrap .i64 (j.2.2+1))).bind fun ah=>some ah) (fun r=>r.elim)))
def ln (N:Nat) (p0 p1:dA):Option ((List dA)):=
 (kW N p0 p1 0 (-1)).bind fun j=>some j
def jI (N:Nat) (p0: (List dA)) (p1:dA->Option Bool):Option (Int):=
 (pX p0.length (fun(j:Nat) (o:Unit)=>((idx p0 (j:Int)).bind fun aa=>(p1 aa).bind fun ab=>bif ab then (some (.rt (j:Int))) else (some (.nx ())):Option (Fl (Unit) Int))) ()).bind fun ad=>ad.cs (fun(o:Unit)=>some (-1)) (fun r=>some r)
def gu (N:Nat) (p0: (List dA)) (p1:dA->Option Bool):Option (Bool):=
 (jI N p0 p1).bind fun j=>some (decide (j>=0))
def hQ (N:Nat) (p0:dA) (p1:Int):Option (Int):=
 (gF N p0 p1).bind fun j=>some j
def gY (N:Nat) (p0:dA):Option (Bool):=
 (pX p0.cR.length (fun(o:Nat) (aa:Unit)=>((D4 p0 (o:Int)).bind fun j=>(bif ((((decide ((j.toNat:Int)<65))||(decide ((j.toNat:Int)>90)))&&((decide ((j.toNat:Int)<97))||(decide ((j.toNat:Int)>122))))&&((decide ((j.toNat:Int)<48))||(decide ((j.toNat:Int)>57)))) then ((hQ N (⟨[95,43,45,35]⟩) (j.toNat:Int)).bind fun ab=>some (decide (ab<0))) else (some false)).bind fun ad=>bif ad then (some (.rt false)) else (some (.nx ())):Option (Fl (Unit) Bool))) ()).bind fun ae=>ae.cs (fun(aa:Unit)=>some ((decide ((p0.cR.length:Int)>=1))&&(decide ((p0.cR.length:Int)<=40)))) (fun r=>some r)
def gv (N:Nat) (p0:dA):Option (Bool):=
 (gY N p0).bind fun j=>some (!j)
def kB (N:Nat) (p0:dA):Option (Bool):=
 (bif (decide ((p0.cR.length:Int)<=200)) then ((ln N p0 (⟨[47]⟩)).bind fun j=>(gu N j (gv N)).bind fun o=>some (!o)) else (some false)).bind fun aa=>some aa
def jU (N:Nat) (p0:cU):Option (fW):=
 some (⟨p0.Part,p0.fW⟩:fW)
def ki (N:Nat) (p0 p1:dA):Option (Int):=
 some (Lib.compareBytes p0.cR p1.cR)
def lG (N:Nat) (p0 p1:dA):Option (Int):=
 (ki N p0 p1).bind fun j=>some j
def dK (N:Nat) (p0 p1:fW):Option (Int):=
 (lG N p0.Part p1.Part).bind fun j=>bif (j != 0) then (some j) else ((lG N p0.fW p1.fW).bind fun o=>some o)
def jq (N:Nat) (p0:gU):Option (Int):=
 bif (decide ((p0.bH.length:Int)>1000)) then (some 2) else ((pX p0.bH.length (fun(o:Nat) (aa:Unit)=>((idx p0.bH (o:Int)).bind fun j=>((kB N j.Part).bind fun ab=>bif (!ab) then (some true) else ((gY N j.fW).bind fun ad=>some (!ad))).bind fun ae=>bif ae then (some (.rt 5)) else (((gm N j.cX 0 (IntKind.wrap .i64 ((p0.aL.length:Int) - 1))).bind fun af=>bif (!af) then (some true) else ((iE N j.At).bind fun ag=>some (!ag))).bind fun ah=>bif ah then (some (.rt 1)) else ((bif (decide ((o:Int)>0)) then ((idx p0.bH (IntKind.wrap .i64 ((o:Int) - 1))).bind fun ai=>(jU N j).bind fun aj=>(jU N ai).bind fun ak=>(dK N aj ak).bind fun al=>some (decide (al<=0))) else (some false)).bind fun an=>bif an then (some (.rt 8)) else (some (.nx ())))):Option (Fl (Unit) Int))) ()).bind fun ao=>ao.cs (fun(aa:Unit)=>some 0) (fun r=>some r))
def iF (N:Nat) (p0 p1:Int) (p2 p3:Int):Option (Int):=
 some (if (if 0< (IntKind.wrap .i64 ((IntKind.wrap .i64 (p2 - p1))+1)) then (IntKind.wrap .i64 ((IntKind.wrap .i64 (p2 - p1))+1)) else 0)< (IntKind.wrap .i64 ((IntKind.wrap .i64 (p0 - p3))+1)) then (IntKind.wrap .i64 ((IntKind.wrap .i64 (p0 - p3))+1)) else (if 0< (IntKind.wrap .i64 ((IntKind.wrap .i64 (p2 - p1))+1)) then (IntKind.wrap .i64 ((IntKind.wrap .i64 (p2 - p1))+1)) else 0))
def jJ (N:Nat) (p0 p1:aI):Option (Int):=
 (iF N p0.X0 p0.X1 p1.X0 p1.X1).bind fun j=>(iF N p0.Y0 p0.Y1 p1.Y0 p1.Y1).bind fun o=>some (if j<o then o else j)
def jK (N:Nat) (p0:bW) (p1:Int):Option (Bool):=
 some ((decide (p0.bU<=p1))&&(decide (p1<=p0.To)))
def kX (N:Nat) (p0: (List aA)) (p1 p2:Int):Option ((List Int)×Int):=
 bif ((p0.length:Int)==0) then (some (([]: (List Int)),p2)) else ((idx p0 0).bind fun aa=>bif (decide (p1<aa.Y0)) then ((idx p0 0).bind fun j=>some (([]: (List Int)),(if j.Y0<p2 then j.Y0 else p2))) else ((idx p0 0).bind fun ab=>(idx p0 0).bind fun o=>some (ab.Xs,(if o.Y1<p2 then o.Y1 else p2))))
def nU (N:Nat) (p0: (List Int)) (p1: (List Int)) (p2:Bool->Bool->Option Bool):Option ((List Int)):=
 (nD (fun(j: (List Int)×(List Int)×(List Int)×Bool×Bool×Bool)=>((bif (decide ((j.1.length:Int)>0)) then (some true) else (some (decide ((j.2.1.length:Int)>0)))).bind fun af=>bif af then ((bif ((j.2.1.length:Int)==0) then (some true) else (bif (decide ((j.1.length:Int)>0)) then ((idx j.1 0).bind fun ag=>(idx j.2.1 0).bind fun ah=>some (decide (ag<=ah))) else (some false))).bind fun ai=>(bif ai then ((idx j.1 0).bind fun aj=>some aj) else ((idx j.2.1 0).bind fun ak=>some ak)).bind fun o=>(bif (decide ((j.1.length:Int)>0)) then ((idx j.1 0).bind fun al=>some (al==o)) else (some false)).bind fun an=>(bif an then ((tV j.1 1 (j.1.length:Int)).bind fun ao=>some (ao,(!j.2.2.2.1))) else (some (j.1,j.2.2.2.1))).bind fun aa=>(bif (decide ((j.2.1.length:Int)>0)) then ((idx j.2.1 0).bind fun aq=>some (aq==o)) else (some false)).bind fun ar=>(bif ar then ((tV j.2.1 1 (j.2.1.length:Int)).bind fun au=>some (au,(!j.2.2.2.2.1))) else (some (j.2.1,j.2.2.2.2.1))).bind fun ab=>(p2 aa.2 ab.2).bind fun ad=>(bif (ad != j.2.2.2.2.2) then ((app 8 j.2.2.1 ([o]: (List Int))).bind fun av=>some (av,ad)) else (some (j.2.2.1,j.2.2.2.2.2))).bind fun ae=>some (.nx (aa.1,ab.1,ae.1,aa.2,ab.2,ae.2))) else (some (.br (j.1,j.2.1,j.2.2.1,j.2.2.2.1,j.2.2.2.2.1,j.2.2.2.2.2))):Option (Fl ((List Int)×(List Int)×(List Int)×Bool×Bool×Bool) Empty))) N (p0,p1,([]: (List Int)),false,false,false)).bind fun aw=>aw.cs (fun(j: (List Int)×(List Int)×(List Int)×Bool×Bool×Bool)=>some j.2.2.1) (fun r=>r.elim)
def mV (N:Nat) (p0: (List aA)) (p1: (List aA)) (p2:Bool->Bool->Option Bool):Option ((List aA)):=
 bif ((IntKind.wrap .i64 ((p0.length:Int)+ (p1.length:Int)))==0) then (some ([]: (List aA))) else ((iL (([p0,p1]: (List (List aA))).length) (fun(ah:Nat) (o:Int×Int)=>((idx ([p0,p1]: (List (List aA))) (ah:Int)).bind fun ad=>(bif (decide ((ad.length:Int)>0)) then ((bif ((ah:Int)==0) then (some true) else (some ((p0.length:Int)==0))).bind fun al=>(bif al then ((idx ad 0).bind fun an=>(idx ad (IntKind.wrap .i64 ((ad.length:Int) - 1))).bind fun ao=>some (an.Y0,ao.Y1)) else (some (o.1,o.2))).bind fun ag=>(idx ad 0).bind fun ai=>(idx ad (IntKind.wrap .i64 ((ad.length:Int) - 1))).bind fun aj=>some ((if ai.Y0<ag.1 then ai.Y0 else ag.1),(if ag.2<aj.Y1 then aj.Y1 else ag.2))) else (some (o.1,o.2))).bind fun ak=>some (ak.1,ak.2):Option (Int×Int))) (0,0)).bind fun o=>(nD (fun(j: (List aA)×(List aA)×(List aA)×Int)=>(bif (decide (j.2.2.2<o.2)) then ((nD (fun(aa: (List aA))=>((bif (decide ((aa.length:Int)>0)) then ((idx aa 0).bind fun aq=>some (decide (aq.Y1<=j.2.2.2))) else (some false)).bind fun ar=>bif ar then ((tV aa 1 (aa.length:Int)).bind fun au=>some (.nx au)) else (some (.br aa)):Option (Fl ((List aA)) Empty))) N j.1).bind fun av=>av.cs (fun(aa: (List aA))=>(nD (fun(ab: (List aA))=>((bif (decide ((ab.length:Int)>0)) then ((idx ab 0).bind fun aw=>some (decide (aw.Y1<=j.2.2.2))) else (some false)).bind fun ax=>bif ax then ((tV ab 1 (ab.length:Int)).bind fun ay=>some (.nx ay)) else (some (.br ab)):Option (Fl ((List aA)) Empty))) N j.2.1).bind fun az=>az.cs (fun(ab: (List aA))=>(kX N aa j.2.2.2 o.2).bind fun ae=>(kX N ab j.2.2.2 o.2).bind fun af=>(nU N ae.1 af.1 p2).bind fun a0=>(gX N j.2.2.1 (⟨j.2.2.2,(if af.2<ae.2 then af.2 else ae.2),a0⟩:aA)).bind fun a1=>some (.nx (aa,ab,a1,(if af.2<ae.2 then af.2 else ae.2)))) (fun r=>r.elim)) (fun r=>r.elim)) else (some (.br (j.1,j.2.1,j.2.2.1,j.2.2.2))):Option (Fl ((List aA)×(List aA)×(List aA)×Int) Empty))) N (p0,p1,([]: (List aA)),o.1)).bind fun a2=>a2.cs (fun(j: (List aA)×(List aA)×(List aA)×Int)=>some j.2.2.1) (fun r=>r.elim))
def mc (N:Nat) (p0 p1:Bool):Option (Bool):=
 some (p0&&(!p1))
def jL (N:Nat) (p0: (List aA)) (p1: (List aA)):Option ((List aA)):=
 (mV N p0 p1 (mc N)).bind fun j=>some j
def kC (N:Nat) (p0: (List aA)):Option (Int):=
 (iL p0.length (fun(o:Nat) (j:Int)=>((idx p0 (o:Int)).bind fun aa=>some (IntKind.wrap .i64 (j+ (IntKind.wrap .i64 (Int.tdiv (aa.Xs.length:Int) 2)))):Option (Int))) 0).bind fun j=>some j
def eI (N:Nat) (p0:Int) (p1_0: (List Int)):Option (Int×(List Int)):=
 (nD (fun(j:Int×(List Int))=>((idx j.2 j.1).bind fun aa=>bif (aa != j.1) then ((idx j.2 j.1).bind fun ab=>(idx j.2 ab).bind fun o=>(idx j.2 j.1).bind fun af=>(idx (j.2.set (Int.toNat j.1) o) j.1).bind fun ad=>some (.nx (ad,(j.2.set (Int.toNat j.1) o)))) else (some (.br (j.1,j.2))):Option (Fl (Int×(List Int)) Empty))) N (p0,p1_0)).bind fun ae=>ae.cs (fun(j:Int×(List Int))=>some (j.1,j.2)) (fun r=>r.elim)
def j8 (N:Nat) (p0: (List aA)):Option ((List (List aA))):=
 (iq N p0).bind fun ab=>(mk 8 (0:Int) (ab.length:Int)).bind fun an=>(iL an.length (fun(ai:Nat) (ag: (List Int))=>((idx ag (ai:Int)).bind fun bd=>some (ag.set (Int.toNat (ai:Int)) (ai:Int)):Option ((List Int)))) an).bind fun ag=>(iL p0.length (fun(aj:Nat) (aa: (List Int)×Int×Int)=>((idx p0 (aj:Int)).bind fun ak=>(bif (decide ((aj:Int)>0)) then ((idx p0 (IntKind.wrap .i64 ((aj:Int) - 1))).bind fun ar=>some (ar.Y1==ak.Y0)) else (some false)).bind fun au=>(bif au then ((nD (fun(j: (List Int)×Int×Int)=>(bif ((decide (j.2.1<aa.2.1))&&(decide (j.2.2< (IntKind.wrap .i64 (aa.2.1+ (IntKind.wrap .i64 (Int.tdiv (ak.Xs.length:Int) 2))))))) then (((idx ab j.2.1).bind fun av=>(idx ab j.2.2).bind fun aw=>bif (decide (av.X0<aw.X1)) then ((idx ab j.2.2).bind fun ax=>(idx ab j.2.1).bind fun ay=>some (decide (ax.X0<ay.X1))) else (some false)).bind fun az=>(bif az then ((eI N j.2.1 j.1).bind fun ae=>(eI N j.2.2 ae.2).bind fun ad=>(idx ad.2 (if ae.1<ad.1 then ad.1 else ae.1)).bind fun bf=>some (ad.2.set (Int.toNat (if ae.1<ad.1 then ad.1 else ae.1)) (if ad.1<ae.1 then ad.1 else ae.1))) else (some j.1)).bind fun a0=>(idx ab j.2.1).bind fun a1=>(idx ab j.2.2).bind fun a2=>(bif (decide (a1.X1<a2.X1)) then (some ((IntKind.wrap .i64 (j.2.1+1)),j.2.2)) else (some (j.2.1,(IntKind.wrap .i64 (j.2.2+1))))).bind fun ao=>some (.nx (a0,ao.1,ao.2))) else (some (.br (j.1,j.2.1,j.2.2))):Option (Fl ((List Int)×Int×Int) Empty))) N (aa.1,aa.2.2,aa.2.1)).bind fun a3=>a3.cs (fun(j: (List Int)×Int×Int)=>some j.1) (fun r=>r.elim)) else (some aa.1)).bind fun a4=>some (a4,(IntKind.wrap .i64 (aa.2.1+ (IntKind.wrap .i64 (Int.tdiv (ak.Xs.length:Int) 2)))),aa.2.1):Option ((List Int)×Int×Int))) (ag,0,0)).bind fun aa=>(iL ab.length (fun(aq:Nat) (o: (List Int)×(List (Int×Int))×(List (List aI)))=>((idx ab (aq:Int)).bind fun a5=>(eI N (aq:Int) o.1).bind fun ah=>(bif (!(gK o.2.1 ah.1)) then ((app 24 o.2.2 [([]: (List aI))]).bind fun a6=>some ((nT o.2.1 ah.1 (o.2.2.length:Int)),a6,(o.2.2.length:Int))) else (some (o.2.1,o.2.2,(dH o.2.1 ah.1 (0:Int))))).bind fun af=>(idx af.2.1 af.2.2).bind fun a7=>(app 32 a7 ([a5]: (List aI))).bind fun a8=>(idx af.2.1 af.2.2).bind fun bg=>some (ah.2,af.1,(af.2.1.set (Int.toNat af.2.2) a8)):Option ((List Int)×(List (Int×Int))×(List (List aI))))) (aa.1,([]: (List (Int×Int))),([]: (List (List aI))))).bind fun o=>(iL o.2.2.length (fun(a9:Nat) (al: (List (List aA)))=>((idx o.2.2 (a9:Int)).bind fun ba=>(fY N ba).bind fun bb=>(app 24 al ([bb]: (List (List aA)))).bind fun bc=>some bc:Option ((List (List aA))))) ([]: (List (List aA)))).bind fun al=>some al
def iN (N:Nat) (p0_0: (List (List aI))) (p0_2: (List bW)) (p0_4: (List (List aA))) (p0_5: (List aH)):Option (Bool×(List (List aA))×(List aH)):=
 (iL p0_0.length (fun(aa:Nat) (j: (List (List aA))×(List aH)×Bool)=>((idx p0_0 (aa:Int)).bind fun ai=>(iL p0_2.length (fun(aj:Nat) (o: (List aI))=>((idx p0_2 (aj:Int)).bind fun af=>(jK N af (aa:Int)).bind fun ak=>(bif ak then ((fw N af).bind fun al=>(app 32 o ([al]: (List aI))).bind fun an=>some an) else (some o)).bind fun ao=>some ao:Option ((List aI)))) ([]: (List aI))).bind fun o=>(fY N ai).bind fun aq=>(fY N o).bind fun ar=>(jL N aq ar).bind fun ab=>(bif j.2.2 then ((kC N ab).bind fun au=>some ((decide (au<=2000)),ab)) else (some (false,ab))).bind fun ad=>(app 24 j.1 ([ad.2]: (List (List aA)))).bind fun av=>(j8 N ad.2).bind fun ag=>(iL ag.length (fun(aw:Nat) (ae: (List aH))=>((idx ag (aw:Int)).bind fun ah=>(iq N ah).bind fun ax=>(app 56 ae ([(⟨(aa:Int),ah,ax⟩:aH)]: (List aH))).bind fun ay=>some ay:Option ((List aH)))) j.2.1).bind fun ae=>some (av,ae,ad.1):Option ((List (List aA))×(List aH)×Bool))) (p0_4,p0_5,true)).bind fun j=>(bif j.2.2 then (some (decide ((j.2.1.length:Int)<=2000))) else (some false)).bind fun az=>some (az,j.1,j.2.1)
def o6 (N:Nat) (p0 p1:aI):Option (Bool):=
 some ((((decide (p0.X0<p1.X1))&&(decide (p1.X0<p0.X1)))&&((p0.Y1==p1.Y0)||(p1.Y1==p0.Y0)))||(((decide (p0.Y0<p1.Y1))&&(decide (p1.Y0<p0.Y1)))&&((p0.X1==p1.X0)||(p1.X1==p0.X0))))
def iY (N:Nat) (p0:aI) (p1:bW):Option (Bool):=
 (fw N p1).bind fun j=>(o6 N p0 j).bind fun o=>some o
def fL (N:Nat) (p0: (List aI)) (p1:aI->Option Bool):Option (Bool):=
 (kh N p0 p1).bind fun j=>some (decide (j>=0))
def iO (N:Nat) (p0_2: (List bW)) (p0_5: (List aH)) (p0_6: (List (List Int))):Option ((List (List Int))):=
 (iL p0_2.length (fun(ae:Nat) (o: (List (List Int)))=>((idx p0_2 (ae:Int)).bind fun aa=>(iL p0_5.length (fun(ab:Nat) (j: (List Int))=>((idx p0_5 (ab:Int)).bind fun ad=>(bif aa.ik then ((jK N aa ad.cX).bind fun af=>bif af then ((fL N ad.iZ (fun y0=>iY N y0 aa)).bind fun ag=>some ag) else (some false)) else (some false)).bind fun ah=>(bif ah then ((app 8 j ([(ab:Int)]: (List Int))).bind fun ai=>some ai) else (some j)).bind fun aj=>some aj:Option ((List Int)))) ([]: (List Int))).bind fun j=>(app 24 o ([j]: (List (List Int)))).bind fun ak=>some ak:Option ((List (List Int))))) p0_6).bind fun o=>some o
def iG (N:Nat) (p0:Int):Option (((List Int))):=
 (mk 8 (0:Int) p0).bind fun aa=>(iL aa.length (fun(o:Nat) (j: (List Int))=>((idx j (o:Int)).bind fun ab=>some (j.set (Int.toNat (o:Int)) (o:Int)):Option ((List Int)))) aa).bind fun j=>some j
def dO (N:Nat) (p0_0: (List Int)) (p1:Int):Option (Int×(List Int)):=
 (nD (fun(j: (List Int)×Int)=>((idx j.1 j.2).bind fun aa=>bif (aa != j.2) then ((idx j.1 j.2).bind fun ab=>(idx j.1 ab).bind fun o=>(idx j.1 j.2).bind fun af=>(idx (j.1.set (Int.toNat j.2) o) j.2).bind fun ad=>some (.nx ((j.1.set (Int.toNat j.2) o),ad))) else (some (.br (j.1,j.2))):Option (Fl ((List Int)×Int) Empty))) N (p0_0,p1)).bind fun ae=>ae.cs (fun(j: (List Int)×Int)=>some (j.2,j.1)) (fun r=>r.elim)
def dI (N:Nat) (p0_0: (List Int)) (p1 p2:Int):Option ((List Int)):=
 (dO N p0_0 p1).bind fun o=>(dO N o.2 p2).bind fun j=>(idx j.2 (if o.1<j.1 then j.1 else o.1)).bind fun aa=>some (j.2.set (Int.toNat (if o.1<j.1 then j.1 else o.1)) (if j.1<o.1 then j.1 else o.1))
def iP (N:Nat) (p0_0: (List Int)):Option ((List (List Int))×(List Int)):=
 (iL p0_0.length (fun(ab:Nat) (j: (List Int)×(List (List Int))×(List (Int×Int)))=>((dO N j.1 (ab:Int)).bind fun aa=>(bif (aa.1==(ab:Int)) then ((app 24 j.2.1 [([]: (List Int))]).bind fun ad=>some (ad,(nT j.2.2 (ab:Int) (j.2.1.length:Int)))) else (some (j.2.1,j.2.2))).bind fun o=>(idx o.1 (dH o.2 aa.1 (0:Int))).bind fun ae=>(app 8 ae ([(ab:Int)]: (List Int))).bind fun af=>(idx o.1 (dH o.2 aa.1 (0:Int))).bind fun ag=>some (aa.2,(o.1.set (Int.toNat (dH o.2 aa.1 (0:Int))) af),o.2):Option ((List Int)×(List (List Int))×(List (Int×Int))))) (p0_0,([]: (List (List Int))),([]: (List (Int×Int))))).bind fun j=>some (j.2.1,j.1)
def jV (N:Nat) (p0:aI) (p1:eV):Option (Bool):=
 (bif (decide (p1.X>=p0.X0)) then (bif (decide (p1.X<p0.X1)) then (bif (decide (p1.Y>=p0.Y0)) then (some (decide (p1.Y<p0.Y1))) else (some false)) else (some false)) else (some false)).bind fun j=>some j
def je (N:Nat) (p0: (List aI)) (p1:eV):Option (Bool):=
 (fL N p0 (fun y0=>jV N y0 p1)).bind fun j=>some j
def iQ (N:Nat) (p0_2: (List bW)) (p0_5: (List aH)) (p1:cU):Option (dQ×Bool):=
 (pX p0_2.length (fun(o:Nat) (ad:Unit)=>((idx p0_2 (o:Int)).bind fun j=>(bif j.ik then ((jK N j p1.cX).bind fun ae=>bif ae then ((fw N j).bind fun af=>(je N ([af]: (List aI)) p1.At).bind fun ag=>some ag) else (some false)) else (some false)).bind fun ah=>bif ah then (some (.rt ((⟨true,(o:Int)⟩:dQ),true))) else (some (.nx ())):Option (Fl (Unit) (dQ×Bool)))) ()).bind fun ai=>ai.cs (fun(ad:Unit)=>(pX p0_5.length (fun(aa:Nat) (aj:Unit)=>((idx p0_5 (aa:Int)).bind fun ab=>(bif (ab.cX==p1.cX) then ((je N ab.iZ p1.At).bind fun ak=>some ak) else (some false)).bind fun al=>bif al then (some (.rt ((⟨false,(aa:Int)⟩:dQ),true))) else (some (.nx ())):Option (Fl (Unit) (dQ×Bool)))) ()).bind fun an=>an.cs (fun(aj:Unit)=>some ((⟨false,0⟩:dQ),false)) (fun r=>some r)) (fun r=>some r)
def fZ (N:Nat) (p0_8: (List Int)) (p0_9: (List Int)) (p1:dQ):Option (Int):=
 bif p1.bW then ((idx p0_9 p1.Number).bind fun j=>some j) else ((idx p0_8 p1.Number).bind fun o=>some o)
def eZ (N:Nat) (p0_2: (List bW)) (p0_3: (List cU)) (p0_5: (List aH)) (p0_6: (List (List Int))) (p0_8: (List Int)) (p0_9: (List Int)) (p0_10: (List Int)) (p0_11: (List dQ)):Option ((List cI)×(List Int)×(List Int)×(List Int)×(List dQ)):=
 (iG N (IntKind.wrap .i64 ((p0_5.length:Int)+ (p0_2.length:Int)))).bind fun ar=>(iL p0_6.length (fun(ai:Nat) (af: (List Int))=>((idx p0_6 (ai:Int)).bind fun aj=>(iL aj.length (fun(au:Nat) (ag: (List Int))=>((idx aj (au:Int)).bind fun av=>(dI N ag av (IntKind.wrap .i64 ((p0_5.length:Int)+ (ai:Int)))).bind fun aw=>some aw:Option ((List Int)))) af).bind fun ag=>some ag:Option ((List Int)))) ar).bind fun af=>(mk 8 (0:Int) (p0_5.length:Int)).bind fun ax=>(mk 8 (0:Int) (p0_2.length:Int)).bind fun ay=>(iP N af).bind fun ak=>(iL ak.1.length (fun(az:Nat) (aa: (List cI)×(List Int)×(List Int))=>((idx ak.1 (az:Int)).bind fun al=>(iL al.length (fun(a0:Nat) (j: (List Int)×(List Int)×(List Int)×(List Int))=>((idx al (a0:Int)).bind fun ab=>(bif (decide (ab< (p0_5.length:Int))) then ((idx j.1 ab).bind fun bd=>(app 8 j.2.2.1 ([ab]: (List Int))).bind fun a1=>some ((j.1.set (Int.toNat ab) (aa.1.length:Int)),j.2.1,a1,j.2.2.2)) else ((idx p0_2 (IntKind.wrap .i64 (ab - (p0_5.length:Int)))).bind fun a2=>(bif a2.ik then ((idx j.2.1 (IntKind.wrap .i64 (ab - (p0_5.length:Int)))).bind fun bf=>(app 8 j.2.2.2 ([(IntKind.wrap .i64 (ab - (p0_5.length:Int)))]: (List Int))).bind fun a3=>some ((j.2.1.set (Int.toNat (IntKind.wrap .i64 (ab - (p0_5.length:Int)))) (aa.1.length:Int)),a3)) else ((idx j.2.1 (IntKind.wrap .i64 (ab - (p0_5.length:Int)))).bind fun bg=>some ((j.2.1.set (Int.toNat (IntKind.wrap .i64 (ab - (p0_5.length:Int)))) (-1)),j.2.2.2))).bind fun an=>some (j.1,an.1,j.2.2.1,an.2))).bind fun ad=>some (ad.1,ad.2.1,ad.2.2.1,ad.2.2.2):Option ((List Int)×(List Int)×(List Int)×(List Int)))) (aa.2.1,aa.2.2,([]: (List Int)),([]: (List Int)))).bind fun j=>(bif (decide ((IntKind.wrap .i64 ((j.2.2.1.length:Int)+ (j.2.2.2.length:Int)))>0)) then ((app 72 aa.1 [(⟨j.2.2.1,j.2.2.2,([]: (List fW))⟩:cI)]).bind fun a4=>some a4) else (some aa.1)).bind fun a5=>some (a5,j.1,j.2.1):Option ((List cI)×(List Int)×(List Int)))) (([]: (List cI)),ax,ay)).bind fun aa=>(iL p0_3.length (fun(a6:Nat) (o: (List cI)×(List Int)×(List Int)×(List Int)×(List dQ))=>((idx p0_3 (a6:Int)).bind fun ao=>(iQ N p0_2 p0_5 ao).bind fun ah=>(bif ah.2 then ((fZ N o.2.1 o.2.2.1 ah.1).bind fun ae=>(idx o.1 ae).bind fun a7=>(jU N ao).bind fun a8=>(app 32 a7.gW ([a8]: (List fW))).bind fun a9=>(idx o.1 ae).bind fun ba=>some ((o.1.set (Int.toNat ae) {ba with gW:=a9}),ae)) else (some (o.1,(-1)))).bind fun aq=>(app 8 o.2.2.2.1 ([aq.2]: (List Int))).bind fun bb=>(app 16 o.2.2.2.2 ([ah.1]: (List dQ))).bind fun bc=>some (aq.1,o.2.1,o.2.2.1,bb,bc):Option ((List cI)×(List Int)×(List Int)×(List Int)×(List dQ)))) (aa.1,aa.2.1,aa.2.2,p0_10,p0_11)).bind fun o=>some (o.1,o.2.1,o.2.2.1,o.2.2.2.1,o.2.2.2.2)
def eF (N:Nat) (p0:gU):Option (Option ((List (List aI))×(List aI)×(List bW)×(List cU)×(List (List aA))×(List aH)×(List (List Int))×(List cI)×(List Int)×(List Int)×(List Int)×(List dQ))×Int):=
 bif ((p0.aL.length:Int)==0) then (some (none,9)) else (bif (decide ((p0.aL.length:Int)>16)) then (some (none,2)) else ((pX p0.aL.length (fun(al:Nat) (aa:Int)=>((idx p0.aL (al:Int)).bind fun ad=>(hG N ad).bind fun ae=>bif (ae != 0) then (some (.rt (none,ae))) else (some (.nx (IntKind.wrap .i64 (aa+ (ad.length:Int))))):Option (Fl (Int) (Option ((List (List aI))×(List aI)×(List bW)×(List cU)×(List (List aA))×(List aH)×(List (List Int))×(List cI)×(List Int)×(List Int)×(List Int)×(List dQ))×Int)))) (p0.dF.length:Int)).bind fun an=>an.cs (fun(aa:Int)=>(hG N p0.dF).bind fun af=>bif (af != 0) then (some (none,af)) else (bif (decide (aa>2000)) then (some (none,2)) else ((jm N p0).bind fun ag=>bif (ag != 0) then (some (none,ag)) else ((jq N p0).bind fun ah=>bif (ah != 0) then (some (none,ah)) else ((pX p0.aV.length (fun(ai:Nat) (ao:Unit)=>((idx p0.aV (ai:Int)).bind fun eR=>(tV p0.aV 0 (ai:Int)).bind fun aj=>(pX aj.length (fun(aq:Nat) (ar:Unit)=>((idx aj (aq:Int)).bind fun ab=>(bif ((decide (eR.bU<=ab.To))&&(decide (ab.bU<=eR.To))) then ((fw N eR).bind fun au=>(fw N ab).bind fun av=>(jJ N au av).bind fun aw=>some (aw==0)) else (some false)).bind fun ax=>bif ax then (some (.rt (none,12))) else (some (.nx ())):Option (Fl (Unit) (Option ((List (List aI))×(List aI)×(List bW)×(List cU)×(List (List aA))×(List aH)×(List (List Int))×(List cI)×(List Int)×(List Int)×(List Int)×(List dQ))×Int)))) ()).bind fun ay=>ay.cs (fun(ar:Unit)=>some (.nx ())) (fun r=>some (.rt r)):Option (Fl (Unit) (Option ((List (List aI))×(List aI)×(List bW)×(List cU)×(List (List aA))×(List aH)×(List (List Int))×(List cI)×(List Int)×(List Int)×(List Int)×(List dQ))×Int)))) ()).bind fun az=>az.cs (fun(ao:Unit)=>(iN N p0.aL p0.aV ([]: (List (List aA))) ([]: (List aH))).bind fun j=>bif (!j.1) then (some (none,2)) else ((iO N p0.aV j.2.2 ([]: (List (List Int)))).bind fun ak=>(eZ N p0.aV p0.bH j.2.2 ak ([]: (List Int)) ([]: (List Int)) ([]: (List Int)) ([]: (List dQ))).bind fun o=>some (some (p0.aL,p0.dF,p0.aV,p0.bH,j.2.1,j.2.2,ak,o.1,o.2.1,o.2.2.1,o.2.2.2.1,o.2.2.2.2),0))) (fun r=>some r)))))) (fun r=>some r)))
def kY (N:Nat) (p0 p1 p2:Int):Option (Bool):=
 some ((decide (p0>=p1))&&(decide (p0<=p2)))
def gA (N:Nat) (p0:dQ) (p1:Int) (p3_0: (List aT)) (p2h_7: (List cI)):Option ((List aT)):=
 (bif (decide (p1>=0)) then ((idx p2h_7 p1).bind fun j=>some (decide ((j.gW.length:Int)>1))) else (some false)).bind fun o=>(bif o then ((app 40 p3_0 ([(⟨true,p0,0,0⟩:aT)]: (List aT))).bind fun aa=>some aa) else (some p3_0)).bind fun ab=>some ab
def nV (N:Nat) (p0 p1:aI) (p2:Int):Option (eV):=
 some (⟨(if p0.X0< (IntKind.wrap .i64 (p1.X0 - p2)) then (IntKind.wrap .i64 (p1.X0 - p2)) else p0.X0),(if p0.Y0< (IntKind.wrap .i64 (p1.Y0 - p2)) then (IntKind.wrap .i64 (p1.Y0 - p2)) else p0.Y0)⟩:eV)
def nW (N:Nat) (p0 p1:eV):Option (Bool):=
 some ((decide (p0.Y<p1.Y))||((p0.Y==p1.Y)&&(decide (p0.X<p1.X))))
def lT (N:Nat) (p0: (List aI)) (p1: (List aI)):Option (pZ):=
 (iL p0.length (fun(an:Nat) (aa:Int)=>((idx p0 (an:Int)).bind fun ao=>(iL p1.length (fun(aq:Nat) (ad:Int)=>((idx p1 (aq:Int)).bind fun ar=>(jJ N ao ar).bind fun ae=>(bif ((decide (ad<0))||(decide (ae<ad))) then (some ae) else (some ad)).bind fun au=>some au:Option (Int))) aa).bind fun ad=>some ad:Option (Int))) (-1)).bind fun aa=>(iL p0.length (fun(av:Nat) (j:pZ×Bool)=>((idx p0 (av:Int)).bind fun af=>(iL p1.length (fun(aw:Nat) (o:pZ×Bool)=>((idx p1 (aw:Int)).bind fun ag=>(nV N af ag aa).bind fun ah=>((jJ N af ag).bind fun ax=>bif (ax==aa) then (bif (!o.2) then (some true) else ((nW N ah o.1.bU).bind fun ay=>some ay)) else (some false)).bind fun az=>(bif az then (some ({o.1 with bU:=ah},true)) else (some (o.1,o.2))).bind fun ai=>some (ai.1,ai.2):Option (pZ×Bool))) (j.1,j.2)).bind fun o=>some (o.1,o.2):Option (pZ×Bool))) ((⟨0,0,(IntKind.wrap .i64 (aa - 1)),⟨0,0⟩,⟨0,0⟩⟩:pZ),false)).bind fun j=>(iL p1.length (fun(a0:Nat) (ab:pZ×Bool)=>((idx p1 (a0:Int)).bind fun aj=>(nV N aj (⟨j.1.bU.X,j.1.bU.Y,(IntKind.wrap .i64 (j.1.bU.X+1)),(IntKind.wrap .i64 (j.1.bU.Y+1))⟩:aI) aa).bind fun ak=>((jJ N aj (⟨j.1.bU.X,j.1.bU.Y,(IntKind.wrap .i64 (j.1.bU.X+1)),(IntKind.wrap .i64 (j.1.bU.Y+1))⟩:aI)).bind fun a1=>bif (a1==aa) then (bif (!ab.2) then (some true) else ((nW N ak ab.1.To).bind fun a2=>some a2)) else (some false)).bind fun a3=>(bif a3 then (some ({ab.1 with To:=ak},true)) else (some (ab.1,ab.2))).bind fun al=>some (al.1,al.2):Option (pZ×Bool))) (j.1,false)).bind fun ab=>some ab.1
def jW (N:Nat) (p0_0: (List (List aI))) (p0_1: (List aI)) (p0_2: (List bW)) (p0_3: (List cU)) (p0_4: (List (List aA))) (p0_5: (List aH)) (p0_6: (List (List Int))) (p0_7: (List cI)) (p0_8: (List Int)) (p0_9: (List Int)) (p0_10: (List Int)) (p0_11: (List dQ)) (p1:Int):Option ((List aT)×Int):=
 (kY N p1 0 100000).bind fun ah=>bif (!ah) then (some (([]: (List aT)),1)) else ((iL p0_8.length (fun(ae:Nat) (ab: (List aT))=>((idx p0_8 (ae:Int)).bind fun ai=>(gA N (⟨false,(ae:Int)⟩:dQ) ai ab p0_7).bind fun aj=>some aj:Option ((List aT)))) ([]: (List aT))).bind fun ab=>(iL p0_9.length (fun(af:Nat) (ad: (List aT))=>((idx p0_9 (af:Int)).bind fun ak=>(gA N (⟨true,(af:Int)⟩:dQ) ak ad p0_7).bind fun al=>some al:Option ((List aT)))) ab).bind fun ad=>(iL p0_5.length (fun(o:Nat) (aa: (List aT))=>((idx p0_5 (o:Int)).bind fun ag=>(nD (fun(j: (List aT)×Int)=>((bif (decide (j.2< (p0_5.length:Int))) then ((idx p0_5 j.2).bind fun an=>some (an.cX==ag.cX)) else (some false)).bind fun ao=>bif ao then (((idx p0_8 (o:Int)).bind fun aq=>(idx p0_8 j.2).bind fun ar=>bif (aq != ar) then ((idx p0_5 j.2).bind fun au=>(lT N ag.iZ au.iZ).bind fun av=>some (decide (av.iv<p1))) else (some false)).bind fun aw=>(bif aw then ((app 40 j.1 ([(⟨false,⟨false,0⟩,(o:Int),j.2⟩:aT)]: (List aT))).bind fun ax=>some ax) else (some j.1)).bind fun ay=>some (.nx (ay,(IntKind.wrap .i64 (j.2+1))))) else (some (.br (j.1,j.2))):Option (Fl ((List aT)×Int) Empty))) N (aa,(IntKind.wrap .i64 ((o:Int)+1)))).bind fun az=>az.cs (fun(j: (List aT)×Int)=>some j.1) (fun r=>r.elim):Option ((List aT)))) ad).bind fun aa=>bif (decide ((aa.length:Int)>20000)) then (some (([]: (List aT)),2)) else (some (aa,0)))
def jr (N:Nat) (p0:gU) (p1:Int):Option ((List aT)×Int):=
 (eF N p0).bind fun o=>Aa o.1 (bif (o.2 != 0) then (some (([]: (List aT)),o.2)) else (none)) (fun(j: ((List (List aI))×(List aI)×(List bW)×(List cU)×(List (List aA))×(List aH)×(List (List Int))×(List cI)×(List Int)×(List Int)×(List Int)×(List dQ)))=>bif (o.2 != 0) then (some (([]: (List aT)),o.2)) else ((jW N j.1 j.2.1 j.2.2.1 j.2.2.2.1 j.2.2.2.2.1 j.2.2.2.2.2.1 j.2.2.2.2.2.2.1 j.2.2.2.2.2.2.2.1 j.2.2.2.2.2.2.2.2.1 j.2.2.2.2.2.2.2.2.2.1 j.2.2.2.2.2.2.2.2.2.2.1 j.2.2.2.2.2.2.2.2.2.2.2 p1).bind fun aa=>some (aa.1,aa.2)))
def eU (N:Nat) (p0: (List cU)) (p1:fW) (p2:cU->fW->Option Int):Option (Int×Bool):=
 (nD (fun(j:Int×Int)=>(bif (decide (j.1<j.2)) then ((idx p0 (IntKind.wrap .i64 (Int.fdiv (IntKind.wrap .u64 (IntKind.wrap .i64 (j.1+j.2))) 2))).bind fun aa=>(p2 aa p1).bind fun ab=>(bif (decide (ab<0)) then (some ((IntKind.wrap .i64 ((IntKind.wrap .i64 (Int.fdiv (IntKind.wrap .u64 (IntKind.wrap .i64 (j.1+j.2))) 2))+1)),j.2)) else (some (j.1,(IntKind.wrap .i64 (Int.fdiv (IntKind.wrap .u64 (IntKind.wrap .i64 (j.1+j.2))) 2))))).bind fun o=>some (.nx (o.1,o.2))) else (some (.br (j.1,j.2))):Option (Fl (Int×Int) Empty))) N (0,(p0.length:Int))).bind fun ad=>ad.cs (fun(j:Int×Int)=>(bif (decide (j.1< (p0.length:Int))) then ((idx p0 j.1).bind fun ae=>(p2 ae p1).bind fun af=>some (af==0)) else (some false)).bind fun ag=>some (j.1,ag)) (fun r=>r.elim)
def gM (N:Nat) (p0:cU) (p1:fW):Option (Int):=
 (jU N p0).bind fun j=>(dK N j p1).bind fun o=>some o
def dT (N:Nat) (p0:gU) (p1:fW):Option (Int):=
 (eU N p0.bH p1 (gM N)).bind fun j=>bif (!j.2) then (some (-1)) else (some j.1)
def nX (N:Nat) (p0: (List Int)):Option (Int):=
 (pX p0.length (fun(o:Nat) (aa:Unit)=>((idx p0 (o:Int)).bind fun j=>bif (j != 0) then (some (.rt j)) else (some (.nx ())):Option (Fl (Unit) Int))) ()).bind fun ab=>ab.cs (fun(aa:Unit)=>some 0) (fun r=>some r)
def fV (N:Nat) (p0 p1:Test):Option (Int):=
 (dK N p0.A p1.A).bind fun j=>(dK N p0.B p1.B).bind fun o=>(nX N ([j,o]: (List Int))).bind fun aa=>some aa
def iR (N:Nat) (p0:gU) (p1: (List Test)):Option (Option ((List (List aI))×(List aI)×(List bW)×(List cU)×(List (List aA))×(List aH)×(List (List Int))×(List cI)×(List Int)×(List Int)×(List Int)×(List dQ))×Int):=
 (eF N p0).bind fun o=>Aa o.1 (bif (o.2 != 0) then (some (none,o.2)) else (bif (decide ((p1.length:Int)>2000)) then (some (none,2)) else ((pX p1.length (fun(ad:Nat) (af:Unit)=>((idx p1 (ad:Int)).bind fun aa=>((dT N p0 aa.A).bind fun ag=>bif (decide (ag<0)) then (some true) else ((dT N p0 aa.B).bind fun ah=>some (decide (ah<0)))).bind fun ai=>bif ai then (some (.rt (none,9))) else ((dK N aa.B aa.A).bind fun aj=>bif (decide (aj<=0)) then (some (.rt (none,8))) else ((bif (decide ((ad:Int)>0)) then ((idx p1 (IntKind.wrap .i64 ((ad:Int) - 1))).bind fun ak=>(fV N aa ak).bind fun al=>some (decide (al<=0))) else (some false)).bind fun an=>bif an then (some (.rt (none,8))) else (some (.nx ())))):Option (Fl (Unit) (Option ((List (List aI))×(List aI)×(List bW)×(List cU)×(List (List aA))×(List aH)×(List (List Int))×(List cI)×(List Int)×(List Int)×(List Int)×(List dQ))×Int)))) ()).bind fun ao=>ao.cs (fun(af:Unit)=>some (none,0)) (fun r=>some r)))) (fun(j: ((List (List aI))×(List aI)×(List bW)×(List cU)×(List (List aA))×(List aH)×(List (List Int))×(List cI)×(List Int)×(List Int)×(List Int)×(List dQ)))=>bif (o.2 != 0) then (some (none,o.2)) else (bif (decide ((p1.length:Int)>2000)) then (some (none,2)) else ((pX p1.length (fun(ae:Nat) (aq:Unit)=>((idx p1 (ae:Int)).bind fun ab=>((dT N p0 ab.A).bind fun ar=>bif (decide (ar<0)) then (some true) else ((dT N p0 ab.B).bind fun au=>some (decide (au<0)))).bind fun av=>bif av then (some (.rt (none,9))) else ((dK N ab.B ab.A).bind fun aw=>bif (decide (aw<=0)) then (some (.rt (none,8))) else ((bif (decide ((ae:Int)>0)) then ((idx p1 (IntKind.wrap .i64 ((ae:Int) - 1))).bind fun ax=>(fV N ab ax).bind fun ay=>some (decide (ay<=0))) else (some false)).bind fun az=>bif az then (some (.rt (none,8))) else (some (.nx ())))):Option (Fl (Unit) (Option ((List (List aI))×(List aI)×(List bW)×(List cU)×(List (List aA))×(List aH)×(List (List Int))×(List cI)×(List Int)×(List Int)×(List Int)×(List dQ))×Int)))) ()).bind fun a0=>a0.cs (fun(aq:Unit)=>some (some (j.1,j.2.1,j.2.2.1,j.2.2.2.1,j.2.2.2.2.1,j.2.2.2.2.2.1,j.2.2.2.2.2.2.1,j.2.2.2.2.2.2.2.1,j.2.2.2.2.2.2.2.2.1,j.2.2.2.2.2.2.2.2.2.1,j.2.2.2.2.2.2.2.2.2.2.1,j.2.2.2.2.2.2.2.2.2.2.2),0)) (fun r=>some r))))
def iw (N:Nat) (p0:Int) (p1h_5: (List aH)):Option (Bool):=
 (kY N p0 0 (IntKind.wrap .i64 ((p1h_5.length:Int) - 1))).bind fun j=>some j
def me (N:Nat) (p0: (List aT)) (p1:aT):Option (Int):=
 (pX p0.length (fun(j:Nat) (o:Unit)=>((idx p0 (j:Int)).bind fun aa=>bif (decide (p1=aa)) then (some (.rt (j:Int))) else (some (.nx ())):Option (Fl (Unit) Int))) ()).bind fun ab=>ab.cs (fun(o:Unit)=>some (-1)) (fun r=>some r)
def kD (N:Nat) (p0: (List aT)) (p1:aT):Option (Bool):=
 (me N p0 p1).bind fun j=>some (decide (j>=0))
def jM (N:Nat) (p0_0: (List (List aI))) (p0_1: (List aI)) (p0_2: (List bW)) (p0_3: (List cU)) (p0_4: (List (List aA))) (p0_5: (List aH)) (p0_6: (List (List Int))) (p0_7: (List cI)) (p0_8: (List Int)) (p0_9: (List Int)) (p0_10: (List Int)) (p0_11: (List dQ)) (p1: (List aT)):Option (Int):=
 bif (decide ((p1.length:Int)>20)) then (some 2) else ((pX p1.length (fun(o:Nat) (aa:Unit)=>((idx p1 (o:Int)).bind fun j=>(bif (j.Open&&((j.A != 0)||(j.B != 0))) then (some true) else (bif (!j.Open) then (some (!(decide (j.dQ= (⟨false,0⟩:dQ))))) else (some false))).bind fun ab=>bif ab then (some (.rt 3)) else (((iw N j.A p0_5).bind fun ad=>bif ad then ((iw N j.B p0_5).bind fun ae=>some ae) else (some false)).bind fun af=>(bif j.Open then ((iw N j.dQ.Number p0_5).bind fun ag=>some ag) else (some af)).bind fun ah=>(bif (j.Open&&j.dQ.bW) then (((kY N j.dQ.Number 0 (IntKind.wrap .i64 ((p0_2.length:Int) - 1))).bind fun ai=>bif ai then ((idx p0_2 j.dQ.Number).bind fun aj=>some aj.ik) else (some false)).bind fun ak=>some ak) else (some ah)).bind fun al=>bif (!al) then (some (.rt 9)) else (bif ((!j.Open)&&(decide (j.B<=j.A))) then (some (.rt 8)) else ((tV p1 0 (o:Int)).bind fun an=>(kD N an j).bind fun ao=>bif ao then (some (.rt 7)) else (some (.nx ()))))):Option (Fl (Unit) Int))) ()).bind fun aq=>aq.cs (fun(aa:Unit)=>some 0) (fun r=>some r))
def f0 (N:Nat) (p0:dQ) (p1:Int):Option (Int):=
 bif p0.bW then (some (IntKind.wrap .i64 (p1+p0.Number))) else (some p0.Number)
def gN (N:Nat) (p0 p1:Int) (p2_0: (List (Int×Bool))) (p3h_0: (List Int)):Option ((List Int)):=
 (bif (!(dH p2_0 p0 (false:Bool))) then (some (!(dH p2_0 p1 (false:Bool)))) else (some false)).bind fun j=>(bif j then ((dI N p3h_0 p0 p1).bind fun o=>some o) else (some p3h_0)).bind fun aa=>some aa
def cY (N:Nat) (p0_2: (List bW)) (p0_3: (List cU)) (p0_5: (List aH)) (p0_6: (List (List Int))) (p0_10: (List Int)) (p0_11: (List dQ)) (p1: (List aT)):Option ((List Int)):=
 (iL p1.length (fun(aq:Nat) (aa: (List (Int×Bool)))=>((idx p1 (aq:Int)).bind fun aj=>(bif aj.Open then ((f0 N aj.dQ (p0_5.length:Int)).bind fun ar=>some (nT aa ar true)) else (some aa)).bind fun au=>some au:Option ((List (Int×Bool))))) ([]: (List (Int×Bool)))).bind fun aa=>(iG N (IntKind.wrap .i64 ((p0_5.length:Int)+ (p0_2.length:Int)))).bind fun av=>(iL p0_6.length (fun(ak:Nat) (ae: (List Int))=>((idx p0_6 (ak:Int)).bind fun al=>(iL al.length (fun(aw:Nat) (af: (List Int))=>((idx al (aw:Int)).bind fun ax=>(gN N ax (IntKind.wrap .i64 ((p0_5.length:Int)+ (ak:Int))) aa af).bind fun ay=>some ay:Option ((List Int)))) ae).bind fun af=>some af:Option ((List Int)))) av).bind fun ae=>(iL p1.length (fun(az:Nat) (ab: (List Int))=>((idx p1 (az:Int)).bind fun ag=>(bif (!ag.Open) then ((gN N ag.A ag.B aa ab).bind fun a0=>some a0) else (some ab)).bind fun a1=>some a1:Option ((List Int)))) ae).bind fun ab=>(mk 8 (0:Int) (p0_3.length:Int)).bind fun a2=>(iL p0_11.length (fun(o:Nat) (j: (List Int)×(List (Int×Int))×(List Int))=>((idx p0_11 (o:Int)).bind fun a3=>(f0 N a3 (p0_5.length:Int)).bind fun ad=>((idx p0_10 (o:Int)).bind fun a4=>bif (decide (a4<0)) then (some true) else (some (dH aa ad (false:Bool)))).bind fun a5=>bif a5 then ((idx j.2.2 (o:Int)).bind fun a6=>some (j.1,j.2.1,(j.2.2.set (Int.toNat (o:Int)) (-1)))) else ((dO N j.1 ad).bind fun ah=>(bif (!(gK j.2.1 ah.1)) then ((dO N ah.2 ad).bind fun an=>some (an.2,(nT j.2.1 an.1 (o:Int)))) else (some (ah.2,j.2.1))).bind fun ai=>(dO N ai.1 ad).bind fun ao=>(idx j.2.2 (o:Int)).bind fun a7=>some (ao.2,ai.2,(j.2.2.set (Int.toNat (o:Int)) (dH ai.2 ao.1 (0:Int))))):Option ((List Int)×(List (Int×Int))×(List Int)))) (ab,([]: (List (Int×Int))),a2)).bind fun j=>some j.2.2
def ir (N:Nat) (p0:gU) (p1: (List aT)) (p2 p3:fW):Option (Bool×Int):=
 (eF N p0).bind fun o=>Aa o.1 (bif (o.2 != 0) then (some (false,o.2)) else (none)) (fun(j: ((List (List aI))×(List aI)×(List bW)×(List cU)×(List (List aA))×(List aH)×(List (List Int))×(List cI)×(List Int)×(List Int)×(List Int)×(List dQ)))=>bif (o.2 != 0) then (some (false,o.2)) else ((jM N j.1 j.2.1 j.2.2.1 j.2.2.2.1 j.2.2.2.2.1 j.2.2.2.2.2.1 j.2.2.2.2.2.2.1 j.2.2.2.2.2.2.2.1 j.2.2.2.2.2.2.2.2.1 j.2.2.2.2.2.2.2.2.2.1 j.2.2.2.2.2.2.2.2.2.2.1 j.2.2.2.2.2.2.2.2.2.2.2 p1).bind fun ad=>bif (ad != 0) then (some (false,ad)) else ((dT N p0 p2).bind fun aa=>(dT N p0 p3).bind fun ae=>bif ((decide (aa<0))||(decide (ae<0))) then (some (false,9)) else ((cY N j.2.2.1 j.2.2.2.1 j.2.2.2.2.2.1 j.2.2.2.2.2.2.1 j.2.2.2.2.2.2.2.2.2.2.1 j.2.2.2.2.2.2.2.2.2.2.2 p1).bind fun ab=>((idx ab aa).bind fun af=>bif (decide (af>=0)) then ((idx ab aa).bind fun ag=>(idx ab ae).bind fun ah=>some (ag==ah)) else (some false)).bind fun ai=>some (ai,0)))))
def dP (N:Nat):Option (Bool):=
 (ir N (⟨([([(⟨0,0,1,1⟩:aI)]: (List aI))]: (List (List aI))),([]: (List aI)),([]: (List bW)),([(⟨⟨[97]⟩,⟨[49]⟩,0,⟨0,0⟩⟩:cU)]: (List cU))⟩:gU) ([]: (List aT)) (⟨⟨[97]⟩,⟨[49]⟩⟩:fW) (⟨⟨[97]⟩,⟨[49]⟩⟩:fW)).bind fun j=>some ((j.2==0)&&j.1)
def jP (N:Nat) (p0_0: (List (List aI))) (p0_1: (List aI)) (p0_2: (List bW)) (p0_3: (List cU)) (p0_5: (List aH)) (p0_6: (List (List Int))) (p0_10: (List Int)) (p0_11: (List dQ)) (p1: (List Test)) (p2: (List aT)):Option ((List Bool)):=
 (cY N p0_2 p0_3 p0_5 p0_6 p0_10 p0_11 p2).bind fun o=>(iL p1.length (fun(ad:Nat) (j: (List Bool))=>((idx p1 (ad:Int)).bind fun aa=>(dT N (⟨p0_0,p0_1,p0_2,p0_3⟩:gU) aa.A).bind fun ab=>(dT N (⟨p0_0,p0_1,p0_2,p0_3⟩:gU) aa.B).bind fun ae=>((idx o ab).bind fun af=>bif (decide (af>=0)) then ((idx o ab).bind fun ag=>(idx o ae).bind fun ah=>(app 1 j ([(ag==ah)]: (List Bool))).bind fun ai=>some ai) else ((app 1 j ([false]: (List Bool))).bind fun aj=>some aj)).bind fun ak=>some ak:Option ((List Bool)))) ([]: (List Bool))).bind fun j=>some j
def wj (N:Nat) (p0:gU) (p1: (List Test)) (p2: (List aT)):Option ((List Bool)×Int):=
 (iR N p0 p1).bind fun o=>Aa o.1 (bif (o.2 != 0) then (some (([]: (List Bool)),o.2)) else (none)) (fun(j: ((List (List aI))×(List aI)×(List bW)×(List cU)×(List (List aA))×(List aH)×(List (List Int))×(List cI)×(List Int)×(List Int)×(List Int)×(List dQ)))=>bif (o.2 != 0) then (some (([]: (List Bool)),o.2)) else ((jM N j.1 j.2.1 j.2.2.1 j.2.2.2.1 j.2.2.2.2.1 j.2.2.2.2.2.1 j.2.2.2.2.2.2.1 j.2.2.2.2.2.2.2.1 j.2.2.2.2.2.2.2.2.1 j.2.2.2.2.2.2.2.2.2.1 j.2.2.2.2.2.2.2.2.2.2.1 j.2.2.2.2.2.2.2.2.2.2.2 p2).bind fun aa=>bif (aa != 0) then (some (([]: (List Bool)),aa)) else ((jP N j.1 j.2.1 j.2.2.1 j.2.2.2.1 j.2.2.2.2.2.1 j.2.2.2.2.2.2.1 j.2.2.2.2.2.2.2.2.2.2.1 j.2.2.2.2.2.2.2.2.2.2.2 p1 p2).bind fun ab=>some (ab,0))))
def hU (N:Nat) (p0: (List Bool)) (p1: (List Bool)):Option (Bool):=
 bif ((p0.length:Int) != (p1.length:Int)) then (some false) else ((pX p0.length (fun(j:Nat) (o:Unit)=>((idx p0 (j:Int)).bind fun aa=>(idx p1 (j:Int)).bind fun ab=>bif (aa != ab) then (some (.rt false)) else (some (.nx ())):Option (Fl (Unit) Bool))) ()).bind fun ad=>ad.cs (fun(o:Unit)=>some true) (fun r=>some r))
def lU (N:Nat) (p0: (List Int)) (p1: (List Int)):Option (Bool):=
 (pX p0.length (fun(j:Nat) (ab:Unit)=>((idx p0 (j:Int)).bind fun o=>(idx p1 (j:Int)).bind fun aa=>(bif (decide (o<0)) then (some (j:Int)) else (some o)).bind fun ad=>(bif (decide (aa<0)) then (some (j:Int)) else (some aa)).bind fun ae=>bif (ad != ae) then (some (.rt false)) else (some (.nx ())):Option (Fl (Unit) Bool))) ()).bind fun af=>af.cs (fun(ab:Unit)=>some true) (fun r=>some r)
def fx (N:Nat) (p0:gU) (p1: (List Test)) (p2:Int):Option ((List bL)×(List Bool)×Int):=
 (iR N p0 p1).bind fun aa=>Aa aa.1 (bif (aa.2 != 0) then (some (([]: (List bL)),([]: (List Bool)),aa.2)) else (none)) (fun(j: ((List (List aI))×(List aI)×(List bW)×(List cU)×(List (List aA))×(List aH)×(List (List Int))×(List cI)×(List Int)×(List Int)×(List Int)×(List dQ)))=>bif (aa.2 != 0) then (some (([]: (List bL)),([]: (List Bool)),aa.2)) else ((jW N j.1 j.2.1 j.2.2.1 j.2.2.2.1 j.2.2.2.2.1 j.2.2.2.2.2.1 j.2.2.2.2.2.2.1 j.2.2.2.2.2.2.2.1 j.2.2.2.2.2.2.2.2.1 j.2.2.2.2.2.2.2.2.2.1 j.2.2.2.2.2.2.2.2.2.2.1 j.2.2.2.2.2.2.2.2.2.2.2 p2).bind fun ab=>bif (ab.2 != 0) then (some (([]: (List bL)),([]: (List Bool)),ab.2)) else ((cY N j.2.2.1 j.2.2.2.1 j.2.2.2.2.2.1 j.2.2.2.2.2.2.1 j.2.2.2.2.2.2.2.2.2.2.1 j.2.2.2.2.2.2.2.2.2.2.2 ([]: (List aT))).bind fun ae=>(iL ab.1.length (fun(af:Nat) (o: (List Int)×(List bL))=>((idx ab.1 (af:Int)).bind fun ad=>(cY N j.2.2.1 j.2.2.2.1 j.2.2.2.2.2.1 j.2.2.2.2.2.2.1 j.2.2.2.2.2.2.2.2.2.2.1 j.2.2.2.2.2.2.2.2.2.2.2 ([ad]: (List aT))).bind fun ag=>(lU N ag o.1).bind fun ah=>(bif (!ah) then ((jP N j.1 j.2.1 j.2.2.1 j.2.2.2.1 j.2.2.2.2.2.1 j.2.2.2.2.2.2.1 j.2.2.2.2.2.2.2.2.2.2.1 j.2.2.2.2.2.2.2.2.2.2.2 p1 ([ad]: (List aT))).bind fun ai=>(app 64 o.2 ([(⟨ad,ai⟩:bL)]: (List bL))).bind fun aj=>some aj) else (some o.2)).bind fun ak=>some (o.1,ak):Option ((List Int)×(List bL)))) (ae,([]: (List bL)))).bind fun o=>(jP N j.1 j.2.1 j.2.2.1 j.2.2.2.1 j.2.2.2.2.2.1 j.2.2.2.2.2.2.1 j.2.2.2.2.2.2.2.2.2.2.1 j.2.2.2.2.2.2.2.2.2.2.2 p1 ([]: (List aT))).bind fun al=>some (o.2,al,0))))
def mf (N:Nat) (p0:gU) (p1: (List Test)) (p2:Int):Option ((List aT)×Int):=
 (fx N p0 p1 p2).bind fun o=>bif (o.2.2 != 0) then (some (([]: (List aT)),o.2.2)) else ((iL o.1.length (fun(ab:Nat) (j: (List Bool)×(List aT))=>((idx o.1 (ab:Int)).bind fun aa=>(hU N aa.mz j.1).bind fun ad=>(bif ad then ((app 40 j.2 ([aa.ug]: (List aT))).bind fun ae=>some ae) else (some j.2)).bind fun af=>some (j.1,af):Option ((List Bool)×(List aT)))) (o.2.1,([]: (List aT)))).bind fun j=>some (j.2,0))
def iS (N:Nat) (p0:gU) (p1: (List Test)) (p2:Int):Option ((List (List aT))×Int):=
 (fx N p0 p1 p2).bind fun ab=>bif (ab.2.2 != 0) then (some (([]: (List (List aT))),ab.2.2)) else ((iL ab.1.length (fun(ae:Nat) (j: (List Bool)×(List (dA×Int))×(List (List aT)))=>((idx ab.1 (ae:Int)).bind fun ad=>(hU N ad.mz j.1).bind fun af=>bif af then (some (j.1,j.2.1,j.2.2)) else ((iL ad.mz.length (fun(ag:Nat) (aa: (List UInt8))=>((idx ad.mz (ag:Int)).bind fun ah=>(bif ah then ((app 1 aa ([121]: (List UInt8))).bind fun ai=>some ai) else ((app 1 aa ([110]: (List UInt8))).bind fun aj=>some aj)).bind fun ak=>some ak:Option ((List UInt8)))) ([]: (List UInt8))).bind fun aa=>(bif (!(gK j.2.1 (⟨aa⟩:dA))) then ((app 24 j.2.2 [([]: (List aT))]).bind fun al=>some ((nT j.2.1 (⟨aa⟩:dA) (j.2.2.length:Int)),al,(j.2.2.length:Int))) else (some (j.2.1,j.2.2,(dH j.2.1 (⟨aa⟩:dA) (0:Int))))).bind fun o=>(idx o.2.1 o.2.2).bind fun an=>(app 40 an ([ad.ug]: (List aT))).bind fun ao=>(idx o.2.1 o.2.2).bind fun aq=>some (j.1,o.1,(o.2.1.set (Int.toNat o.2.2) ao))):Option ((List Bool)×(List (dA×Int))×(List (List aT))))) (ab.2.1,([]: (List (dA×Int))),([]: (List (List aT))))).bind fun j=>some (j.2.2,0))
def kE (N:Nat) (p0:gU) (p1:Int):Option ((List aT)×Int):=
 (eF N p0).bind fun aa=>Aa aa.1 (bif (aa.2 != 0) then (some (([]: (List aT)),aa.2)) else (none)) (fun(j: ((List (List aI))×(List aI)×(List bW)×(List cU)×(List (List aA))×(List aH)×(List (List Int))×(List cI)×(List Int)×(List Int)×(List Int)×(List dQ)))=>bif (aa.2 != 0) then (some (([]: (List aT)),aa.2)) else ((jW N j.1 j.2.1 j.2.2.1 j.2.2.2.1 j.2.2.2.2.1 j.2.2.2.2.2.1 j.2.2.2.2.2.2.1 j.2.2.2.2.2.2.2.1 j.2.2.2.2.2.2.2.2.1 j.2.2.2.2.2.2.2.2.2.1 j.2.2.2.2.2.2.2.2.2.2.1 j.2.2.2.2.2.2.2.2.2.2.2 p1).bind fun ab=>bif (ab.2 != 0) then (some (([]: (List aT)),ab.2)) else ((cY N j.2.2.1 j.2.2.2.1 j.2.2.2.2.2.1 j.2.2.2.2.2.2.1 j.2.2.2.2.2.2.2.2.2.2.1 j.2.2.2.2.2.2.2.2.2.2.2 ([]: (List aT))).bind fun ae=>(iL ab.1.length (fun(af:Nat) (o: (List Int)×(List aT))=>((idx ab.1 (af:Int)).bind fun ad=>(cY N j.2.2.1 j.2.2.2.1 j.2.2.2.2.2.1 j.2.2.2.2.2.2.1 j.2.2.2.2.2.2.2.2.2.2.1 j.2.2.2.2.2.2.2.2.2.2.2 ([ad]: (List aT))).bind fun ag=>(lU N ag o.1).bind fun ah=>(bif ah then ((app 40 o.2 ([ad]: (List aT))).bind fun ai=>some ai) else (some o.2)).bind fun aj=>some (o.1,aj):Option ((List Int)×(List aT)))) (ae,([]: (List aT)))).bind fun o=>some (o.2,0))))
def cW (N:Nat) (p0:gU) (p1: (List Test)) (p2:Int):Option (Bool):=
 (jr N p0 p2).bind fun aa=>(iS N p0 p1 p2).bind fun o=>bif ((aa.2 != 0)||(o.2 != 0)) then ((bif (aa.2==0) then (bif (o.2==0) then ((dP N).bind fun ae=>some ae) else (bif ((o.1.length:Int)==0) then ((dP N).bind fun af=>some af) else (some false))) else (bif ((aa.1.length:Int)==0) then (bif (o.2==0) then ((dP N).bind fun ag=>some ag) else (bif ((o.1.length:Int)==0) then ((dP N).bind fun ah=>some ah) else (some false))) else (some false))).bind fun ai=>some ai) else ((mf N p0 p1 p2).bind fun ab=>(kE N p0 p2).bind fun ad=>(nD (fun(j:Int×Int)=>(bif (decide (j.2< (o.1.length:Int))) then ((idx o.1 j.2).bind fun aj=>(idx o.1 j.2).bind fun ak=>bif ((ak.length:Int)==0) then (some (.rt false)) else (some (.nx ((IntKind.wrap .i64 (j.1+ (aj.length:Int))),(IntKind.wrap .i64 (j.2+1)))))) else (some (.br (j.1,j.2))):Option (Fl (Int×Int) Bool))) N ((IntKind.wrap .i64 ((ab.1.length:Int)+ (ad.1.length:Int))),0)).bind fun al=>al.cs (fun(j:Int×Int)=>(bif ((ab.2==0)&&(ad.2==0)) then (bif (j.1==(aa.1.length:Int)) then ((dP N).bind fun an=>some an) else (some false)) else (some false)).bind fun ao=>some ao) (fun r=>some r))
end
end Go.Gk
namespace Go.Gk
open Go
def mW {R:Type} (m:Nat) (e:Nat->Option R):Option R:=(List.range m).findSome? e
theorem gO {R:Type} {m:Nat} {e:Nat->Option R}:mW m e=none↔∀k,k<m->e k=none:=by
 simp [mW]
theorem iI {R:Type} {m:Nat} {e:Nat->Option R} {r:R}:mW m e=some r↔∃k,k<m/\e k=some r/\∀j,j<k->e j=none:=by
 constructor
 ·intro h
  obtain⟨l1,a,l2,hl,ha,hn⟩:=List.findSome?_eq_some_iff.1 h
  have hlen:l1.length<m:=by have:=congrArg List.length hl;simp at this;omega
  have hget: ∀i,i<l1.length->l1[i]? =some i:=fun i hi=>by
   have:=congrArg (·[i]?) hl
   simp only [fO hi,List.getElem?_range (show i<m by omega)] at this
   exact this.symm
  have hat:a=l1.length:=by
   have:=congrArg (·[l1.length]?) hl
   simp [List.getElem?_range hlen] at this
   exact this.symm
  refine⟨a,by omega,ha,fun j hj=>hn j ?_⟩
  exact gH (hget j (by omega))
 ·rintro⟨k,hk,he,hn⟩
  refine List.findSome?_eq_some_iff.2 ⟨List.range k,k,(List.range (m - k - 1)).map (· + (k+1)),?_,he,fun x hx=>hn x (jf.1 hx)⟩
  refine List.ext_getElem? fun i=>?_
  by_cases h1:i<k
  ·rw [fO (by simpa using h1),List.getElem?_range (by omega),List.getElem?_range h1]
  ·rw [fz (by simpa using h1),List.length_range]
   by_cases h2:i=k
   ·subst h2;simp [List.getElem?_range hk]
   ·obtain⟨d,rfl⟩: ∃d,i=k+1+d:=⟨i - (k+1),by omega⟩
    rw [show k+1+d - k=d+1 by omega,List.getElem?_cons_succ,fP]
    by_cases h3:k+1+d<m
    ·rw [List.getElem?_range h3,List.getElem?_range (by omega)];simp;omega
    ·rw [List.getElem?_eq_none (by simp;omega),List.getElem?_eq_none (by simp;omega)];rfl
theorem FW {R R':Type} {m:Nat} {e:Nat->Option R} (f:R->R'): (mW m e).map f=mW m (fun k=>(e k).map f):=by
 cases hx:mW m e with
 | none=>exact(gO.2 fun k hk=>by rw [gO.1 hx k hk];rfl).symm
 | some r=>
  obtain⟨k,hk,he,hn⟩:=iI.1 hx
  exact(iI.2 ⟨k,hk,by rw [he];rfl,fun j hj=>by rw [hn j hj];rfl⟩).symm
section
variable {S R:Type}
def Er (o:Option R) (s:S):Fl S R:=match o with | some r=> .rt r | none=> .nx s
def Av (o:Option R) (s:S):Fo S R:=match o with | some r=> .rt r | none=> .go s
theorem BM {body:Nat->S->Option (Fl S R)} (F:Nat->S) (e:Nat->Option R) (m:Nat): ∀(n k:Nat),k+n=m->
  (∀j,k<=j->j<m->(∀i,k<=i->i<j->e i=none)->body j (F j)=some (Er (e j) (F (j+1))))->
  ∃o,zZ body n k (F k)=some o/\((∀j,k<=j->j<m->e j=none)/\o = .go (F m)\/∃j r,k<=j/\j<m/\e j=some r/\(∀i,k<=i->i<j->e i=none)/\o = .rt r)
 | 0,k,hk,_=>⟨_,rfl, .inl ⟨fun j h1 h2=>by omega,by rw [show k=m by omega]⟩⟩
 | n+1,k,hk,h=>by
  have hb:=h k (bM _) (by omega) (fun i h1 h2=>by omega)
  unfold zZ
  rw [hb]
  cases hx:e k with
  | some r=>exact⟨_,rfl, .inr ⟨k,r,bM _,by omega,hx,fun i h1 h2=>by omega,rfl⟩⟩
  | none=>
   obtain⟨o,ho,hc⟩:=BM F e m n (k+1) (by omega) (fun j h1 h2 h3=>h j (by omega) h2 fun i h4 h5=>by
    by_cases h6:i=k
    ·subst h6;exact hx
    ·exact h3 i (by omega) h5)
   refine⟨o,ho,?_⟩
   rcases hc with ⟨h1,h2⟩ | ⟨j,r,h1,h2,h3,h4,h5⟩
   ·refine .inl ⟨fun j h3 h4=>?_,h2⟩
    by_cases h6:j=k
    ·subst h6;exact hx
    ·exact h1 j (by omega) h4
   ·refine .inr ⟨j,r,by omega,h2,h3,fun i h6 h7=>?_,h5⟩
    by_cases h8:i=k
    ·subst h8;exact hx
    ·exact h4 i (by omega) h7
theorem Hp {body:Nat->S->Option (Fl S R)} {m:Nat} {s:S} (F:Nat->S) (e:Nat->Option R) (hm:m<=4611686018427387904) (hs:F 0=s)
  (h: ∀k,k<m->(∀i,i<k->e i=none)->body k (F k)=some (Er (e k) (F (k+1)))):pX m body s=some (Av (mW m e) (F m)):=by
 subst hs
 unfold pX
 rw [aC hm]
 obtain⟨o,ho,hc⟩:=BM F e m m 0 (by omega) (fun j _ h2 h3=>h j h2 fun i hi=>h3 i (mP _) hi)
 rw [ho]
 rcases hc with ⟨h1,h2⟩ | ⟨j,r,_,h2,h3,h4,h5⟩
 ·rw [gO.2 fun k hk=>h1 k (mP _) hk,h2];rfl
 ·rw [iI.2 ⟨j,h2,h3,fun i hi=>h4 i (mP _) hi⟩,h5];rfl
theorem mh {body:Nat->Unit->Option (Fl Unit R)} {m:Nat} (e:Nat->Option R) (hm:m<=4611686018427387904)
  (h: ∀k,k<m->(∀i,i<k->e i=none)->body k ()=some (Er (e k) ())):pX m body ()=some (Av (mW m e) ()):=
 Hp (fun _=>()) e hm rfl h
theorem BN {body:Nat->S->Option S} (F:Nat->S): ∀(n k:Nat),(∀j,k<=j->j<k+n->body j (F j)=some (F (j+1)))->Cx body n k (F k)=some (F (k+n))
 | 0,_,_=>rfl
 | n+1,k,h=>by
  unfold Cx
  rw [h k (bM _) (by omega)]
  have:=BN F n (k+1) (fun j h1 h2=>h j (by omega) (by omega))
  rw [show k+ (n+1)=k+1+n by omega]
  exact this
theorem qs {body:Nat->S->Option S} {m:Nat} {s:S} (F:Nat->S) (hm:m<=4611686018427387904) (hs:F 0=s)
  (h: ∀k,k<m->body k (F k)=some (F (k+1))):iL m body s=some (F m):=by
 subst hs
 unfold iL
 rw [aC hm]
 have:=BN F m 0 (fun j _ h2=>h j (by omega))
 rwa [gj] at this
theorem uF {body:S->Option (Fl S R)} (Inv:S->Prop) (μ:S->Nat) (Go:S->Prop) (Rt:R->Prop)
  (h: ∀s,Inv s->∃fl,body s=some fl/\match fl with | .nx s'=>Inv s'/\μ s'<μ s | .br s'=>Go s' | .rt r=>Rt r):
  ∀(N:Nat) (s:S),Inv s->μ s<N->∃o,nD body N s=some o/\match o with | .go s'=>Go s' | .rt r=>Rt r
 | 0,s,_,hn=>by omega
 | N+1,s,hi,hn=>by
  obtain⟨fl,hb,hf⟩:=h s hi
  unfold nD
  rw [hb]
  cases fl with
  | nx s'=>exact uF Inv μ Go Rt h N s' hf.1 (by have:=hf.2;omega)
  | br s'=>exact⟨_,rfl,hf⟩
  | rt r=>exact⟨_,rfl,hf⟩
theorem BO {body:Nat->S->Option (Fl S R)} (Inv:Nat->S->Prop) (Go:S->Prop) (Rt:R->Prop) (m:Nat)
  (h: ∀k s,k<m->Inv k s->∃fl,body k s=some fl/\match fl with | .nx s'=>Inv (k+1) s' | .br s'=>Go s' | .rt r=>Rt r) (hg: ∀s,Inv m s->Go s):
  ∀(n k:Nat) (s:S),k+n=m->Inv k s->∃o,zZ body n k s=some o/\match o with | .go s'=>Go s' | .rt r=>Rt r
 | 0,k,s,hk,hi=>⟨_,rfl,hg s (by rw [<-hk];exact hi)⟩
 | n+1,k,s,hk,hi=>by
  obtain⟨fl,hb,hf⟩:=h k s (by omega) hi
  unfold zZ
  rw [hb]
  cases fl with
  | nx s'=>exact BO Inv Go Rt m h hg n (k+1) s' (by omega) hf
  | br s'=>exact⟨_,rfl,hf⟩
  | rt r=>exact⟨_,rfl,hf⟩
theorem Hq {body:Nat->S->Option (Fl S R)} {m:Nat} {s:S} (Inv:Nat->S->Prop) (Go:S->Prop) (Rt:R->Prop) (hm:m<=4611686018427387904) (h0:Inv 0 s)
  (h: ∀k s,k<m->Inv k s->∃fl,body k s=some fl/\match fl with | .nx s'=>Inv (k+1) s' | .br s'=>Go s' | .rt r=>Rt r) (hg: ∀s,Inv m s->Go s):
  ∃o,pX m body s=some o/\match o with | .go s'=>Go s' | .rt r=>Rt r:=by
 unfold pX
 rw [aC hm]
 exact BO Inv Go Rt m h hg m 0 s (by omega) h0
theorem BP {body:Nat->S->Option S} (Inv:Nat->S->Prop) (m:Nat) (h: ∀k s,k<m->Inv k s->∃s',body k s=some s'/\Inv (k+1) s'):
  ∀(n k:Nat) (s:S),k+n=m->Inv k s->∃s',Cx body n k s=some s'/\Inv m s'
 | 0,k,s,hk,hi=>⟨_,rfl,by rw [<-hk];exact hi⟩
 | n+1,k,s,hk,hi=>by
  obtain⟨s',hb,hf⟩:=h k s (by omega) hi
  unfold Cx
  rw [hb]
  exact BP Inv m h n (k+1) s' (by omega) hf
theorem w8 {body:Nat->S->Option S} {m:Nat} {s:S} (Inv:Nat->S->Prop) (hm:m<=4611686018427387904) (h0:Inv 0 s)
  (h: ∀k s,k<m->Inv k s->∃s',body k s=some s'/\Inv (k+1) s'): ∃s',iL m body s=some s'/\Inv m s':=by
 unfold iL
 rw [aC hm]
 exact BP Inv m h m 0 s (by omega) h0
end
section
variable {α β:Type}
theorem aB (x:α) (f:α->Option β): (some x).bind f=f x:=rfl
theorem jE (l:List α) (k:Nat) (h:k<l.length):idx l ((k:Nat):Int)=some l[k]:=by
 unfold idx;rw [aC (by omega),bY,aJ h]
theorem dD {l:List α} {k:Nat} {x:α} (h:l[k]? =some x):idx l ((k:Nat):Int)=some x:=by
 unfold idx;rw [aC (by omega),bY,h]
theorem FX (s:dA) (k:Nat) (h:k<s.cR.length):D4 s ((k:Nat):Int)=some s.cR[k]:=by
 unfold D4;rw [aC (by omega),bY,aJ h]
theorem lW {k:Nat} (h:0<k) (hk:k<=4611686018427387904):IntKind.wrap .i64 (((k:Nat):Int) - 1)= ((k - 1:Nat):Int):=by
 rw [fB (by omega) (by omega)];omega
theorem uG (l:List α) (k:Nat) (h:k<=l.length):tV l 0 ((k:Nat):Int)=some (l.take k):=by
 unfold tV;rw [aC ⟨by omega,by omega,by omega⟩]
 simp only [Int.toNat_zero,List.drop_zero,Int.sub_zero,bY]
theorem uH (l:List α) (k:Nat) (h:k<=l.length):tV l ((k:Nat):Int) ((l.length:Nat):Int)=some (l.drop k):=by
 unfold tV;rw [aC ⟨by omega,by omega,by omega⟩]
 simp only [bY,Option.some.injEq]
 rw [oM];rw [gR];omega
theorem fF {b:Nat} {l ys:List α} (h: (l.length+ys.length)*b<=140737488355328):app b l ys=some (l++ys):=by unfold app;rw [aC h]
theorem qt {b:Nat} (z:α) {n:Nat} (h:n*b<=140737488355328):mk b z ((n:Nat):Int)=some (List.replicate n z):=by
 unfold mk
 have e: ((n:Nat):Int)* ((b:Nat):Int)= ((n*b:Nat):Int):=(Int.natCast_mul n b).symm
 rw [e]
 generalize n*b=q at h ⊢
 rw [aC ⟨by omega,by omega⟩,bY]
end
theorem dA.ext' {a b:dA} (h:a.cR=b.cR):a=b:=by cases a;cases b;simp at h;rw [h]
theorem Hr {a b:dA}:a.Cv b=true↔a=b:=by
 unfold dA.Cv;rw [beq_iff_eq];exact⟨dA.ext',fun h=>by rw [h]⟩
theorem wq: ∀(a:List UInt8),Op.bytesLess a a=false
 | []=>rfl
 | a::l=>by
  unfold Op.bytesLess
  rw [wq l];simp
theorem xN: ∀{a b c:List UInt8},Op.bytesLess a b=true->Op.bytesLess b c=true->Op.bytesLess a c=true
 | [],[],_,h,_=>by simp [Op.bytesLess] at h
 | [],_::_,[],_,h=>by simp [Op.bytesLess] at h
 | [],_::_,_::_,_,_=>rfl
 | _::_,[],_,h,_=>by simp [Op.bytesLess] at h
 | _::_,_::_,[],_,h=>by simp [Op.bytesLess] at h
 | a::l,b::m,c::n,h1,h2=>by
  unfold Op.bytesLess at h1 h2 ⊢
  simp only [dU,bT,bP,beq_iff_eq] at h1 h2 ⊢
  rcases h1 with h1 | ⟨rfl,h1⟩
  ·rcases h2 with h2 | ⟨rfl,h2⟩
   ·exact .inl (UInt8.lt_trans h1 h2)
   ·exact .inl h1
  ·rcases h2 with h2 | ⟨rfl,h2⟩
   ·exact .inl h2
   ·exact .inr ⟨rfl,xN h1 h2⟩
theorem xO: ∀(a b:List UInt8),Op.bytesLess a b=true\/a=b\/Op.bytesLess b a=true
 | [],[]=> .inr (.inl rfl)
 | [],_::_=> .inl rfl
 | _::_,[]=> .inr (.inr rfl)
 | a::l,b::m=>by
  unfold Op.bytesLess
  simp only [dU,bT,bP,beq_iff_eq]
  by_cases h1:a<b
  ·exact .inl (.inl h1)
  ·by_cases h2:b<a
   ·exact .inr (.inr (.inl h2))
   ·have e:a=b:=by
     simp only [UInt8.lt_iff_toNat_lt] at h1 h2
     exact UInt8.toNat_inj.1 (by omega)
    subst e
    rcases xO l m with h | h | h
    ·exact .inl (.inr ⟨rfl,h⟩)
    ·exact .inr (.inl (by rw [h]))
    ·exact .inr (.inr (.inr ⟨rfl,h⟩))
theorem tt: ∀(a b:List UInt8),Lib.compareBytes a b<0↔Op.bytesLess a b=true
 | [],[]=>by simp [Lib.compareBytes,Op.bytesLess]
 | [],_::_=>by simp [Lib.compareBytes,Op.bytesLess]
 | _::_,[]=>by simp [Lib.compareBytes,Op.bytesLess]
 | a::l,b::m=>by
  unfold Lib.compareBytes Op.bytesLess
  simp only [dU,bT,bP,beq_iff_eq]
  split
  ·simp_all
  ·rename_i h1
   split
   ·rename_i h2
    have h3:a≠b:=fun e=>by subst e;exact h1 h2
    simp [h1,h3]
   ·rename_i h2
    have e:a=b:=by
     simp only [UInt8.lt_iff_toNat_lt] at h1 h2
     exact UInt8.toNat_inj.1 (by omega)
    subst e
    rw [tt l m];simp [h1]
theorem tu: ∀(a b:List UInt8),Lib.compareBytes a b=0↔a=b
 | [],[]=>by simp [Lib.compareBytes]
 | [],_::_=>by simp [Lib.compareBytes]
 | _::_,[]=>by simp [Lib.compareBytes]
 | a::l,b::m=>by
  unfold Lib.compareBytes
  split
  ·rename_i h1
   have h3:a≠b:=fun e=>by subst e;exact absurd h1 (by simp)
   simp [h3]
  ·rename_i h1
   split
   ·rename_i h2
    have h3:a≠b:=fun e=>by subst e;exact h1 h2
    simp [h3]
   ·rename_i h2
    have e:a=b:=by
     simp only [UInt8.lt_iff_toNat_lt] at h1 h2
     exact UInt8.toNat_inj.1 (by omega)
    subst e
    rw [tu l m];simp
def dA.lt (a b:dA):Prop:=a.Io b=true
theorem dA.lt_irrefl (a:dA): ¬dA.lt a a:=by unfold dA.lt dA.Io;rw [wq];decide
theorem dA.lt_trans {a b c:dA} (h1:dA.lt a b) (h2:dA.lt b c):dA.lt a c:=xN h1 h2
theorem dA.BQ (a b:dA):dA.lt a b\/a=b\/dA.lt b a:=by
 rcases xO a.cR b.cR with h | h | h
 ·exact .inl h
 ·exact .inr (.inl (dA.ext' h))
 ·exact .inr (.inr h)
theorem dA.Ib {a b:dA} (h:dA.lt a b):a≠b:=fun e=>by subst e;exact dA.lt_irrefl a h
end Go.Gk
namespace Go.Gk
open Go
class Bk (α:Type) where
 bk:α->Nat
 pos: ∀x,1<=bk x
def bk {α:Type} [Bk α] (x:α):Nat:=Bk.bk x
theorem FY {α:Type} [Bk α] (x:α):1<=bk x:=Bk.pos x
instance:Bk dA:=⟨fun s=>s.cR.length+1,fun _=>by omega⟩
instance:Bk Int:=⟨fun _=>1,fun _=>by omega⟩
instance:Bk Bool:=⟨fun _=>1,fun _=>by omega⟩
instance {α:Type} [Bk α]:Bk (List α):=⟨fun l=>(l.map bk).sum+1,fun _=>by omega⟩
theorem FZ {α:Type} [Bk α]:bk ([]:List α)=1:=rfl
theorem Aw {α:Type} [Bk α] (x:α) (l:List α):bk (x::l)=bk x+bk l:=by
 show (List.map bk (x::l)).sum+1=bk x+ ((List.map bk l).sum+1)
 simp;omega
theorem CQ {α:Type} [Bk α]: ∀{l:List α} {x:α},x∈l->bk x+1<=bk l
 | y::l,x,h=>by
  rw [Aw]
  rcases fQ.1 h with h | h
  ·subst h;have:=FY l;omega
  ·have:=CQ h;omega
theorem tv {α:Type} [Bk α]: ∀(l:List α),l.length+1<=bk l
 | []=>by rw [FZ];simp
 | x::l=>by rw [Aw,fI];have:=tv l;have:=FY x;omega
theorem F0 (s:dA):bk s=s.cR.length+1:=rfl
section
variable {α R:Type}
theorem Es {l:List α} {e:Nat->Option R} (f:α->Option R) (h: ∀k x,l[k]? =some x->e k=f x):mW l.length e=l.findSome? f:=by
 cases hx:mW l.length e with
 | none=>
  refine(List.findSome?_eq_none_iff.2 fun x hm=>?_).symm
  obtain⟨k,hk⟩:=gk hm
  rw [<-h k x hk];exact gO.1 hx k (bC.1 hk).1
 | some r=>
  obtain⟨k,hk,he,hn⟩:=iI.1 hx
  refine(List.findSome?_eq_some_iff.2 ⟨l.take k,l[k],l.drop (k+1),?_,?_,fun y hy=>?_⟩).symm
  ·rw [<-r6 hk,List.take_append_drop]
  ·rw [<-h k l[k] (aJ hk)];exact he
  ·obtain⟨j,hj⟩:=gk hy
   have hjk:j<k:=by have:=(bC.1 hj).1;rw [dE] at this;omega
   rw [List.getElem?_take_of_lt hjk] at hj
   rw [<-h j y hj];exact hn j hjk
theorem Ax (l:List α) (p:α->Bool) (r:R):l.findSome? (fun x=>if p x=true then some r else none)=if l.any p=true then some r else none:=by
 induction l with
 | nil=>simp
 | cons x l ih=>
  rw [List.findSome?_cons,List.any_cons]
  cases h:p x <;> simp [ih]
theorem uI {l:List α} {body:Nat->Unit->Option (Fl Unit R)} (f:α->Option R) (hl:l.length<=4611686018427387904)
  (h: ∀k x,l[k]? =some x->body k ()=some (Er (f x) ())):pX l.length body ()=some (Av (l.findSome? f) ()):=by
 have h2:=mh (body:=body) (m:=l.length) (fun k=>(l[k]?).bind f) hl (fun k hk _=>by
  rw [h k l[k] (aJ hk),aJ hk];rfl)
 rw [h2,Es f (fun k x hx=>by rw [hx];rfl)]
theorem Hs {l:List α} {body:Nat->Unit->Option (Fl Unit R)} (p:α->Bool) (r:R) (hl:l.length<=4611686018427387904)
  (h: ∀k x,l[k]? =some x->body k ()=some (if p x=true then .rt r else .nx ())):pX l.length body ()=some (if l.any p=true then .rt r else .go ()):=by
 rw [uI (fun x=>if p x=true then some r else none) hl (fun k x hx=>by rw [h k x hx];cases p x <;> rfl),Ax]
 cases l.any p <;> rfl
end
theorem Ht {β:Type} (b:Bool) (x y:β): (bif b then some x else some y)=some (bif b then x else y):=by cases b <;> rfl
section
variable {α β:Type}
def Et (l:List α) (p:α->Bool):Int:=match l.findIdx? p with | some k=>((k:Nat):Int) | none=> -1
theorem F1 {l:List α} {p:α->Bool} (h:l.any p=false):Et l p = -1:=by
 unfold Et
 rw [List.findIdx?_eq_none_iff.2]
 intro x hx
 rw [<-oL]
 intro hp
 rw [<-oL] at h
 exact h (jQ.2 ⟨x,hx,hp⟩)
theorem F2 {l:List α} {p:α->Bool} {k:Nat} {x:α} (hk:l[k]? =some x) (hp:p x=true) (hn: ∀j y,j<k->l[j]? =some y->p y=false):Et l p= ((k:Nat):Int):=by
 unfold Et
 have hlt:=(bC.1 hk).1
 have:l.findIdx? p=some k:=by
  rw [List.findIdx?_eq_some_iff_getElem]
  refine⟨hlt,?_,fun j hj=>?_⟩
  ·have:=aJ hlt;rw [hk] at this;injection this with this;rw [<-this];exact hp
  ·have:=hn j l[j] hj (aJ (by omega));simpa using this
 rw [this]
theorem su (l:List α) (p:α->Bool): (Et l p = -1/\∀x∈l,p x=false)\/∃k x,Et l p= ((k:Nat):Int)/\l[k]? =some x/\p x=true/\∀j y,j<k->l[j]? =some y->p y=false:=by
 unfold Et
 cases h:l.findIdx? p with
 | none=>exact .inl ⟨rfl,fun x hx=>by have:=List.findIdx?_eq_none_iff.1 h x hx;simpa using this⟩
 | some k=>
  obtain⟨hk,hp,hn⟩:=List.findIdx?_eq_some_iff_getElem.1 h
  refine .inr ⟨k,l[k],rfl,aJ hk,hp,fun j y hj hy=>?_⟩
  have:=hn j hj
  rw [aJ (by omega)] at hy
  injection hy with hy
  subst hy;simpa using this
theorem I0 (l:List α) (p:α->Bool):decide (Et l p>=0)=l.any p:=by
 rcases su l p with ⟨h,hn⟩ | ⟨k,x,h,hx,hp,_⟩
 ·rw [h,List.any_eq_false.2 (fun x hx=>by rw [hn x hx];decide)];decide
 ·rw [h,jQ.2 ⟨x,gH hx,hp⟩];simp
def qu (p0:List α) (p1:α->Option Bool):Option Int:=
 (pX p0.length (fun(k1:Nat) (_:Unit)=>((idx p0 ((k1:Nat):Int)).bind fun x7=>(p1 x7).bind fun x10=>bif x10 then (some (.rt ((k1:Nat):Int))) else (some (.nx ())):Option (Fl (Unit) Int))) ()).bind fun o11=>o11.cs (fun(_:Unit)=>some (-1)) (fun r=>some r)
theorem s8 {l:List α} {φ:α->Option Bool} (p:α->Bool) (hl:l.length<=4611686018427387904) (h: ∀x∈l,φ x=some (p x)):qu l φ=some (Et l p):=by
 unfold qu
 rw [mh (fun k=>(l[k]?).bind fun x=>if p x=true then some ((k:Nat):Int) else none) hl (fun k hk _=>by
  rw [jE l k hk,aB,h _ (cP hk),aB,aJ hk]
  cases hp:p l[k] <;> simp [Er,hp]),aB]
 rcases su l p with ⟨h1,h2⟩ | ⟨k,x,h1,h2,h3,h4⟩
 ·rw [gO.2 (fun k hk=>by rw [aJ hk];simp [h2 _ (cP hk)])]
  simp [Av,Fo.cs,h1]
 ·rw [(iI (r:=((k:Nat):Int))).2 ⟨k,(bC.1 h2).1,by rw [h2];simp [h3],fun j hj=>by
   cases hy:l[j]? with
   | none=>rfl
   | some y=>simp [h4 j y hj hy]⟩]
  simp [Av,Fo.cs,h1]
def o8 (p0:List α) (p1:α->Option Bool):Option Bool:=
 (qu p0 p1).bind fun x1=>some (decide (x1>=0))
theorem pG {l:List α} {φ:α->Option Bool} (p:α->Bool) (hl:l.length<=4611686018427387904) (h: ∀x∈l,φ x=some (p x)):o8 l φ=some (l.any p):=by
 unfold o8
 rw [s8 p hl h,aB,I0]
def CR [DecidableEq α] (p0 p1:List α):Option Bool:=
 bif (((p0.length:Nat):Int) != ((p1.length:Nat):Int)) then (some false) else ((pX p0.length (fun(k1:Nat) (_:Unit)=>((idx p0 ((k1:Nat):Int)).bind fun x13=>(idx p1 ((k1:Nat):Int)).bind fun x16=>bif (!(decide (x13=x16))) then (some (.rt false)) else (some (.nx ())):Option (Fl (Unit) Bool))) ()).bind fun o23=>o23.cs (fun(_:Unit)=>some true) (fun r=>some r))
theorem zw [DecidableEq α] {l m:List α} (hl:l.length<=4611686018427387904):CR l m=some (decide (l=m)):=by
 unfold CR
 by_cases h:l.length=m.length
 ·have e: (((l.length:Nat):Int) != ((m.length:Nat):Int))=false:=by rw [h];simp
  rw [e,aS]
  rw [mh (fun k=>if l[k]? =m[k]? then none else some false) hl (fun k hk _=>by
   rw [jE l k hk,aB,jE m k (by omega),aB,aJ hk,aJ (by omega:k<m.length)]
   by_cases hx:l[k]=m[k] <;> simp [Er,hx]),aB]
  by_cases hx:l=m
  ·subst hx;rw [gO.2 (fun k _=>aC rfl)];simp [Av,Fo.cs]
  ·have: ∃r,mW l.length (fun k=>if l[k]? =m[k]? then none else some false)=some r:=by
    cases hf:mW l.length (fun k=>if l[k]? =m[k]? then none else some false) with
    | some r=>exact⟨r,rfl⟩
    | none=>
     exfalso;refine hx (List.ext_getElem? fun i=>?_)
     by_cases hi:i<l.length
     ·have:=gO.1 hf i hi
      by_cases h6:l[i]? =m[i]?
      ·exact h6
      ·rw [aD h6] at this;cases this
     ·rw [List.getElem?_eq_none (by omega),List.getElem?_eq_none (by omega)]
   obtain⟨r,hr⟩:=this
   have hr2:r=false:=by
    obtain⟨k,_,hk,_⟩:=iI.1 hr
    split at hk
    ·cases hk
    ·injection hk with hk;exact hk.symm
   rw [hr,hr2];simp [Av,Fo.cs,hx]
 ·have e: (((l.length:Nat):Int) != ((m.length:Nat):Int))=true:=by simp;omega
  rw [e,aR,bG (fun h'=>h (by rw [h']))]
def F3 (key:α->dA) (l:List α):Prop:=∀(i j:Nat) (x y:α),i<j->l[i]? =some x->l[j]? =some y->dA.lt (key x) (key y)
theorem F3.inj {key:α->dA} {l:List α} (h:F3 key l) {i j:Nat} {x y:α} (hx:l[i]? =some x) (hy:l[j]? =some y) (e:key x=key y):i=j:=by
 rcases Nat.lt_trichotomy i j with h1 | h1 | h1
 ·exact absurd e (dA.Ib (h i j x y h1 hx hy))
 ·exact h1
 ·exact absurd e.symm (dA.Ib (h j i y x h1 hy hx))
def F4 (N:Nat) (p0:List α) (p1:β) (p2:α->β->Option Int):Option (Int×Bool):=
 (nD (fun(s2:Int×Int)=>(bif (decide (s2.1<s2.2)) then ((idx p0 (IntKind.wrap .i64 (Int.fdiv (IntKind.wrap .u64 (IntKind.wrap .i64 (s2.1+s2.2))) 2))).bind fun x13=>(p2 x13 p1).bind fun x16=>(bif (decide (x16<0)) then (some ((IntKind.wrap .i64 ((IntKind.wrap .i64 (Int.fdiv (IntKind.wrap .u64 (IntKind.wrap .i64 (s2.1+s2.2))) 2))+1)),s2.2)) else (some (s2.1,(IntKind.wrap .i64 (Int.fdiv (IntKind.wrap .u64 (IntKind.wrap .i64 (s2.1+s2.2))) 2))))).bind fun s17=>some (.nx (s17.1,s17.2))) else (some (.br (s2.1,s2.2))):Option (Fl (Int×Int) Empty))) N (0,((p0.length:Nat):Int))).bind fun o29=>o29.cs (fun(s2:Int×Int)=>(bif (decide (s2.1< ((p0.length:Nat):Int))) then ((idx p0 s2.1).bind fun x25=>(p2 x25 p1).bind fun x28=>some (x28==0)) else (some false)).bind fun s23=>some (s2.1,s23)) (fun r=>r.elim)
theorem Eu {a b:Nat} (h:a<b) (hb:b<=4611686018427387904):IntKind.wrap .i64 (Int.fdiv (IntKind.wrap .u64 (IntKind.wrap .i64 (((a:Nat):Int)+ ((b:Nat):Int)))) 2)= (((a+b) / 2:Nat):Int):=by
 rw [fB (x:=((a:Nat):Int)+ ((b:Nat):Int)) (by omega) (by omega)]
 have e:IntKind.wrap .u64 (((a:Nat):Int)+ ((b:Nat):Int))= ((a+b:Nat):Int):=by
  show ((a:Int)+b) % 18446744073709551616=_
  omega
 rw [e,Int.fdiv_eq_ediv_of_nonneg _ (by omega),fB (by omega) (by omega)]
 omega
end
end Go.Gk
namespace Go.Gk
open Go Go.ChangeShapes Go.WideShapes Go.RowKit
structure UB (ub: (H:Type)->DataW H->Nat) (ua: (H:Type)->List (DataW H)->Nat):Prop where
 str: ∀(H:Type) (b:List UInt8),ub H (.lit (.string b))=b.length+1
 pos: ∀(H:Type) (d:DataW H),1<=ub H d
 sl: ∀(H:Type) (e s:List (DataW H)),ub H (.slice e s)=ua H e+ua H s+1
 ag: ∀(H:Type) (l:List (DataW H)),ub H (.agg l)=ua H l+1
 nil: ∀(H:Type),ua H []=0
 cons: ∀(H:Type) (x:DataW H) (l:List (DataW H)),ua H (x::l)=ub H x+ua H l
def Hw (w:World):dJ:=fun b=>w.heap[b]?
structure iV (ub: (H:Type)->DataW H->Nat) (P:Program) (T:TypeId) (α:Type) [GT α] [Bk α]:Prop where
 trod: ∀{H:Type} {enc:TypeId×Value->H} {w:World} {base:Nat} {spare:Nat->Bool} {held:Bool} {fuel:Nat} {cs:List Value} {d:DataW H×List MemPlace},
  DataW.trod enc P w base spare held fuel T cs=some d->∃x:α,GT.ok (Hw w) cs x/\bk x<=ub H d.1
 KL: ∀{w:World} {r:Reach} {base:Nat} {v:Value},Value.okWide P w r base T v->v=qX α v.cells.toList
section
variable {ub: (H:Type)->DataW H->Nat} {ua: (H:Type)->List (DataW H)->Nat} {P:Program} {T e:TypeId}
theorem Ev (u:UB ub ua) (ht:P.underlying T=some (.int .i64)):iV ub P T Int where
 trod:=fun h=>by
  obtain⟨n,rfl,rfl,_⟩:=DataW.trod_int ht h
  exact⟨n,rfl,u.pos _ _⟩
 KL:=fun h=>by obtain⟨n,rfl⟩:=okWide_int ht h;rfl
theorem CS (u:UB ub ua) (ht:P.underlying T=some .bool):iV ub P T Bool where
 trod:=fun h=>by
  obtain⟨n,rfl,rfl⟩:=DataW.trod_bool ht h
  exact⟨n,rfl,u.pos _ _⟩
 KL:=fun h=>by obtain⟨n,rfl⟩:=okWide_bool ht h;rfl
theorem Ew (u:UB ub ua) (ht:P.underlying T=some .string):iV ub P T dA where
 trod:=fun h=>by
  obtain⟨s,rfl,rfl,_⟩:=DataW.trod_string ht h
  refine⟨⟨s.data.toList⟩,?_,?_⟩
  ·show [Value.string s]= [Gk.str ⟨s.data.toList⟩]
   cases s;rfl
  ·rw [u.str];exact bM _
 KL:=fun h=>by obtain⟨n,rfl⟩:=okWide_string ht h;rfl
theorem wt {α:Type} {R:Nat->α->Prop}: ∀(n:Nat),(∀i,i<n->∃x,R i x)->∃l:List α,l.length=n/\∀i x,l[i]? =some x->R i x
 | 0,_=>⟨[],rfl,fun i x h=>by simp at h⟩
 | n+1,h=>by
  obtain⟨l,h1,h2⟩:=wt n (fun i hi=>h i (by omega))
  obtain⟨x,hx⟩:=h n (by omega)
  refine⟨l++[x],by simp [h1],fun i y hy=>?_⟩
  by_cases hi:i<n
  ·rw [fO (by omega)] at hy;exact h2 i y hy
  ·have:=(bC.1 hy).1
   rw [dR] at this
   have:i=n:=by simp at this;omega
   subst this
   rw [fz (by omega),h1] at hy
   simp at hy;subst hy;exact hx
theorem zx {H α:Type} [Bk α] (u:UB ub ua): ∀{l:List α} {es:List (DataW H×List MemPlace)},l.length=es.length->
  (∀(i:Nat) (x:α) (y:DataW H×List MemPlace),l[i]? =some x->es[i]? =some y->bk x<=ub H y.1)->bk l<=ua H (es.map (·.1))+1
 | [],[],_,_=>by rw [FZ];omega
 | x::l,y::es,hl,h=>by
  have h1:=h 0 x y rfl rfl
  have h2:=zx (H:=H) u (l:=l) (es:=es) (by simpa using hl) (fun i x y hx hy=>h (i+1) x y (by simpa using hx) (by simpa using hy))
  rw [Aw,dV,u.cons];omega
theorem BR {w:World} {base:Nat} {a:Addr} {n:Nat} {cs:List Value} (h:w.cells? base a n=some cs):At (Hw w) a cs:=by
 intro j v hv
 obtain⟨_,hlen,hc⟩:=World.cells?_some h
 have hj:=(bC.1 hv).1
 have h2:=hc j (by omega)
 rw [hv] at h2
 unfold tY Hw
 unfold World.cell? at h2
 exact h2
theorem oc {α:Type} [GT α] [Bk α] (u:UB ub ua) (he:iV ub P e α) (ht:P.underlying T=some (.slice e):=by kernel_rfl) (hc:P.cellsOf e=GT.sz α:=by kernel_rfl):iV ub P T (List α) where
 trod:=fun{H enc w base spare held fuel cs d} h=>by
  rcases DataW.trod_slice ht h with ⟨rfl,rfl⟩ | ⟨a,len,cap,elems,rest,n,_,rfl,rfl,_,hlc,hcm,hlen,hel,_⟩
  ·exact⟨[],⟨_,rfl,none,0,0,rfl,rfl,bM _,by simp [maxLen],fun i x hx=>by simp at hx⟩,u.pos _ _⟩
  ·have each: ∀i,i<len->∃x:α,(∃c y,GT.ok (Hw w) c x/\At (Hw w) (a.add (i*GT.sz α)) c/\elems[i]? =some y/\bk x<=ub H y.1):=by
    intro i hi
    have h1:=hel i hi
    rw [aJ (by omega:i<elems.length),Option.bind_eq_some_iff] at h1
    obtain⟨c,h2,h3⟩:=h1
    obtain⟨x,h4,h5⟩:=he.trod h3
    refine⟨x,c,_,h4,?_,aJ (by omega),h5⟩
    rw [hc] at h2
    exact BR h2
   obtain⟨l,hl,hr⟩:=wt len each
   refine⟨l,⟨_,rfl,some a,len,cap,rfl,hl.symm,hlc,hcm,fun i x hx=>?_⟩,?_⟩
   ·obtain⟨c,y,h1,h2,_⟩:=hr i x hx
    exact⟨a,c,rfl,h1,h2⟩
   ·have:=zx (H:=H) u (l:=l) (es:=elems) (by omega) (fun i x y hx hy=>by
     obtain⟨c,y',_,_,h3,h4⟩:=hr i x hx
     rw [hy] at h3;injection h3 with h3;subst h3;exact h4)
    rw [u.sl];omega
 KL:=fun h=>by obtain⟨a,n,c,rfl⟩:=okWide_slice ht h;rfl
def DG (ub: (H:Type)->DataW H->Nat) (ua: (H:Type)->List (DataW H)->Nat) (P:Program) (off:Nat) (fs:List Field) (β:Type) [GT β] (m:β->Nat):Prop:=
 ∀{H:Type} {enc:TypeId×Value->H} {w:World} {base:Nat} {spare:Nat->Bool} {held:Bool} {n:Nat} {cs:List Value} {ys:List (DataW H×List MemPlace)},
  (∀(i:Nat) (f:Field),fs[i]? =some f->DataW.trod enc P w base spare held n f.type ((cs.drop f.offset).take (P.cellsOf f.type))=ys[i]?)->ys.length=fs.length->
  cs.length=off+GT.sz β->∃x:β,GT.ok (Hw w) (cs.drop off) x/\m x<=ua H (ys.map (·.1))
theorem mK {β:Type} [GT β] [Bk β] {off:Nat} {f:Field} (u:UB ub ua) (h:iV ub P f.type β) (ho:f.offset=off:=by exact rfl) (hc:P.cellsOf f.type=GT.sz β:=by kernel_rfl):DG ub ua P off [f] β bk:=by
 intro H enc w base spare held n cs ys hf hl hcs
 match ys,hl with
 | [y],_=>
  have h1:=hf 0 f rfl
  rw [ho,hc,oM (by rw [gR];omega)] at h1
  obtain⟨x,h2,h3⟩:=h.trod (d:=y) h1
  exact⟨x,h2,by rw [dV,u.cons];omega⟩
theorem fu {α β:Type} [GT α] [GT β] [Bk α] {off off':Nat} {f:Field} {fs:List Field} {m:β->Nat} (u:UB ub ua) (h:iV ub P f.type α) (hr:DG ub ua P off' fs β m) (ho:f.offset=off:=by exact rfl) (hc:P.cellsOf f.type=GT.sz α:=by kernel_rfl) (hoff:off'=off+GT.sz α:=by exact rfl):DG ub ua P off (f::fs) (α×β) (fun x=>bk x.1+m x.2):=by
 intro H enc w base spare held n cs ys hf hl hcs
 have hsz:GT.sz (α×β)=GT.sz α+GT.sz β:=rfl
 match ys,hl with
 | y::ys,hl=>
  have h1:=hf 0 f rfl
  rw [ho,hc] at h1
  obtain⟨x,h2,h3⟩:=h.trod (d:=y) h1
  obtain⟨x',h4,h5⟩:=hr (n:=n) (cs:=cs) (ys:=ys) (fun i g hg=>hf (i+1) g hg) (by simpa using hl) (by omega)
  refine⟨(x,x'),⟨_,_,?_,h2,h4⟩,?_⟩
  ·rw [hoff,<-List.drop_drop,List.take_append_drop]
  ·rw [dV,u.cons];show bk x+m x'<=_;omega
theorem jY {γ β:Type} [GT β] [Bk γ] {fs:Array Field} {m:β->Nat} (u:UB ub ua) (f:γ->β) (g:β->γ) (hfg: ∀b,f (g b)=b) (ht:P.underlying T=some (.struct fs)) (h:DG ub ua P 0 fs.toList β m) (hm: ∀b,bk (g b)<=m b+1) (hc:P.cellsOf T=GT.sz β:=by kernel_rfl): @iV ub P T γ (GT.via f) _:=
 @iV.mk ub P T γ (GT.via f) _
  (fun{H enc w base spare held fuel cs d} hd=>by
   obtain⟨xs,n,_,rfl,hl,hlen,hf⟩:=DataW.trod_struct ht hd
   obtain⟨b,h1,h2⟩:=h (n:=n) (cs:=cs) (ys:=xs) (fun i g hg=>hf i g (by rw [<-Array.getElem?_toList];exact hg)) (by rw [hlen];simp) (by omega)
   refine⟨g b,?_,?_⟩
   ·show GT.ok (Hw w) cs (f (g b))
    rw [hfg];exact h1
   ·rw [u.ag];have:=hm b;omega)
  (fun hv=>by
   obtain⟨cs,rfl,_⟩:=okWide_struct ht hv
   cases cs;rfl)
theorem iV.arg {H:Type} {enc:TypeId×Value->H} {w:World} {base:Nat} {spare:Nat->Bool} {held:Bool} {r:Reach} {b0:Nat} {v:Value} {d:DataW H} {ps:List MemPlace} {α:Type} [GT α] [Bk α] (o:iV ub P T α)
  (hv:Value.okWide P w r b0 T v) (hd:DataW.Trod enc P w base spare held T v d ps): ∃x:α,ti (Hw w) v x/\bk x<=ub H d:=by
 obtain⟨fuel,hf⟩:=hd
 obtain⟨x,h1,h2⟩:=o.trod hf
 exact⟨x,⟨_,o.KL hv,h1⟩,h2⟩
theorem iV.Md {H:Type} {enc:TypeId×Value->H} {w:World} {base:Nat} {spare:Nat->Bool} {held:Bool} {r:Reach} {b0:Nat} {v:Value} {d:DataW H} {ps:List MemPlace} {α:Type} [Sc α] [Bk α] (o:iV ub P T α)
  (hv:Value.okWide P w r b0 T v) (hd:DataW.Trod enc P w base spare held T v d ps): ∃x:α,v=Sc.toV x/\bk x<=ub H d:=by
 obtain⟨x,h1,h2⟩:=o.arg hv hd
 exact⟨x,zW.1 h1,h2⟩
end
theorem Calls.fin {P:Program} {f:FuncId} {args:Array Value} {w:World} {R Q:Value->World->Prop} (h:Calls P f args w (gI R)) (k: ∀v w',R v w'->Q v w'):
  Calls P f args w (fun e W'=>∃v,e = .returned v/\Q v W'):=Calls.mono h fun _ w' ⟨v,e,hr⟩=>⟨v,e,k v w' hr⟩
def jZ (W:World):HP:=⟨fun M h=>hle (Hw W) M/\h=oE,fun k ⟨a,b⟩=>⟨D0 a k,b⟩⟩
theorem Holds.begin (W:World):Holds W W [jZ W]:=by
 refine⟨Hw W,fun _=>oE,⟨rfl,rfl,rfl,bM _,fun b o h=>h,fun i Pr hq=>?_,fun _ _ _ _ h=>(by cases h),fun _ _ _ _ h=>(by cases h),fun _ _ _ _ _ _ _ h=>(by cases h)⟩⟩
 match i,hq with
 | 0,hq=>simp at hq;subst hq;exact⟨E0 _,rfl⟩
theorem Holds.Ic {α:Type} [GT α] {W:World} {V:List HP} {v:Value} {x:α} (h:Holds W W (V++[jZ W])) (hv:Gk.ti (Hw W) v x):Holds W W (rd v x::(V++[jZ W])):=
 h.yF fun M hs g=>by
  have h1:=(g.sat V.length (jZ W) (by simp)).1
  exact⟨hv.mono h1,rfl⟩
theorem Holds.kept {E W w:World} {V:List HP} (h:Holds E w (V++[jZ W])) (he:E=W):Below W.heap.size W w:=by
 subst he
 obtain⟨M,hs,g⟩:=h
 have h1:=(g.sat V.length (jZ E) (by simp)).1
 have h2: ∀k o,E.heap[k]? =some o->w.heap[k]? =some o:=fun k o ho=>g.im k o (h1 k o ho)
 refine⟨g.os,g.tape,g.out,?_,fun k hk=>?_⟩
 ·by_cases h0:E.heap.size=0
  ·omega
  ·have h3:=h2 (E.heap.size - 1) _ (fN (by omega))
   have:=(Array.getElem?_eq_some_iff.1 h3).1
   omega
 ·rw [fN hk];exact h2 k _ (fN hk)
section
variable {H:Type} {enc:TypeId×Value->H} {P:Program}
theorem Ex {f:Func} {s:ChangeSpec} {apart fresh handsOn again:Bool} {W W':World} {args:Array Value} {v:Value} {ds gs:List (DataW H)} {before pa pv:List MemPlace}
  (hW:DataW.Whole enc P f.params.toList s.vars apart W args.toList ds gs before)
  (hres: ∀(b:Nat) (sp:Nat->Bool) (hd:Bool),DataW.TrodAll enc P W' b sp hd f.resultTypes.toList (v.resultList f.resultTypes.size) (s.fn H (ds++gs)).results [])
  (hargs: ∀sp:Nat->Bool,(∀p∈before,sp p.block=true)->DataW.TrodAll enc P W' 0 sp true f.params.toList args.toList (s.fn H (ds++gs)).args pa)
  (hvars: ∀sp:Nat->Bool,(∀p∈before,sp p.block=true)->DataW.TrodVars enc P W' sp s.vars (s.fn H (ds++gs)).vars pv)
  (hps:before=pa++pv) (hb:Below W.heap.size W W')
  (hok: ∀(j:Nat) (t:TypeId) (r:Value),f.resultTypes[j]? =some t->(v.resultList f.resultTypes.size)[j]? =some r->Value.okWide P W' .any 0 t r):
  s.post enc P f apart fresh handsOn again W args v W':=by
 have hlt: ∀p∈before,p.block<W.heap.size:=fun p hp=>hW.lt p hp
 have hold: ∀p∈before,(fun b=>decide (b<W.heap.size)) p.block=true:=fun p hp=>by simpa using hlt p hp
 refine⟨ds,gs,before,[],pa,pv,hW,hres _ _ _,hargs _ hold,hvars _ hold,World.keptBut_mono (fun p hp=>⟨hp,?_⟩) (hb.frame (· ∈before)),fun _=>?_⟩
 ·rw [hps,cS] at hp
  exact Or.inr hp
 ·obtain⟨_,_,_,_,_,hz,hn⟩:=hW
  refine⟨hok,_,_,([]++pa)++pv,⟨[]++pa,pv,trodAll_append (hargs _ (fun _ _=>rfl)) (hres _ _ _),hvars _ (fun _ _=>rfl),rfl,?_,?_⟩,?_⟩
  ·intro b off hp
   have hin:MemPlace.cell b off∈before:=by rw [hps];simpa using hp
   rw [hb.frozen (hlt _ hin)]
   exact hz b off hin
  ·intro ha
   have:=hn ha
   rw [hps] at this
   simpa using this
  ·intro p hp _
   rw [hps]
   simpa using hp
theorem s9 {W W':World} (hl:laidOutB P=true) (hb:Below W.heap.size W W') {sp:Nat->Bool}: ∀{ts:List TypeId} {vs:List Value} {ds:List (DataW H)} {ps:List MemPlace},
  (∀t∈ts,P.readableRec t=true/\t<P.types.size)->DataW.TrodAll enc P W 0 (fun _=>true) true ts vs ds ps->(∀p∈ps,p.block<W.heap.size)->(∀p∈ps,sp p.block=true)->DataW.TrodAll enc P W' 0 sp true ts vs ds ps
 | [],_,_,_,_,h,_,_=>by
  obtain⟨rfl,rfl,rfl⟩:=trodAll_nil h
  rfl
 | t::ts,_,_,_,ht,h,hlt,hsp=>by
  obtain⟨v,vs,d,ds,p,q,rfl,rfl,rfl,h1,h2⟩:=trodAll_cons h
  refine⟨p,q,?_,s9 hl hb (fun t h=>ht t (by simp [h])) h2 (fun x hx=>hlt x (by simp [hx])) (fun x hx=>hsp x (by simp [hx])),rfl⟩
  exact WideElems.Trod_stays hl (ht t (by simp)).1 (ht t (by simp)).2 h1 (fun x hx=>hb.same (hlt x (by simp [hx]))) (fun x hx=>hsp x (by simp [hx]))
end
end Go.Gk
namespace Go.Gk
open Go
instance:Bk aI:=⟨fun x=>bk x.X0+bk x.Y0+bk x.X1+bk x.Y1+1,fun _=>by omega⟩
theorem Hu (x:aI):bk x=bk x.X0+bk x.Y0+bk x.X1+bk x.Y1+1:=rfl
instance:Bk eV:=⟨fun x=>bk x.X+bk x.Y+1,fun _=>by omega⟩
theorem F5 (x:eV):bk x=bk x.X+bk x.Y+1:=rfl
instance:Bk bW:=⟨fun x=>bk x.At+bk x.fy+bk x.bU+bk x.To+bk x.ik+1,fun _=>by omega⟩
theorem Hv (x:bW):bk x=bk x.At+bk x.fy+bk x.bU+bk x.To+bk x.ik+1:=rfl
instance:Bk cU:=⟨fun x=>bk x.Part+bk x.fW+bk x.cX+bk x.At+1,fun _=>by omega⟩
theorem DH (x:cU):bk x=bk x.Part+bk x.fW+bk x.cX+bk x.At+1:=rfl
instance:Bk gU:=⟨fun x=>bk x.aL+bk x.dF+bk x.aV+bk x.bH+1,fun _=>by omega⟩
theorem F6 (x:gU):bk x=bk x.aL+bk x.dF+bk x.aV+bk x.bH+1:=rfl
instance:Bk fW:=⟨fun x=>bk x.Part+bk x.fW+1,fun _=>by omega⟩
theorem I1 (x:fW):bk x=bk x.Part+bk x.fW+1:=rfl
instance:Bk Test:=⟨fun x=>bk x.A+bk x.B+bk x.Joined+1,fun _=>by omega⟩
theorem Hx (x:Test):bk x=bk x.A+bk x.B+bk x.Joined+1:=rfl
instance:Bk aA:=⟨fun x=>bk x.Y0+bk x.Y1+bk x.Xs+1,fun _=>by omega⟩
instance:Bk aH:=⟨fun x=>bk x.cX+bk x.Set+bk x.iZ+1,fun _=>by omega⟩
instance:Bk cI:=⟨fun x=>bk x.m9+bk x.aV+bk x.gW+1,fun _=>by omega⟩
instance:Bk dQ:=⟨fun x=>bk x.bW+bk x.Number+1,fun _=>by omega⟩
instance:Bk aT:=⟨fun x=>bk x.Open+bk x.dQ+bk x.A+bk x.B+1,fun _=>by omega⟩
instance:Bk pZ:=⟨fun x=>bk x.A+bk x.B+bk x.iv+bk x.bU+bk x.To+1,fun _=>by omega⟩
instance:Bk bL:=⟨fun x=>bk x.ug+bk x.mz+1,fun _=>by omega⟩
instance:Bk Touch:=⟨fun x=>bk x.Test+bk x.IB+bk x.Fm+1,fun _=>by omega⟩
end Go.Gk
namespace Go.Gk
open Go Go.Sort
section
variable {α:Type}
theorem wu {β:Type} (a:Array β) {n:Nat} (h:a.size=n):a.extract 0 n=a:=by subst h;exact Array.extract_size
theorem I2 {φ:α->α->Option Int} {l:List α} (cf:α->α->Int) (hφ: ∀x∈l,∀y∈l,φ x y=some (cf x y)) (h1: ∀x∈l,¬cf x x<0)
  (h2: ∀x∈l,∀y∈l,∀z∈l,cf x y<0->cf y z<0->cf x z<0) (h3: ∀x∈l,∀y∈l,∀z∈l,¬cf x y<0->¬cf y z<0->¬cf x z<0):SWO (GX (Bo φ l)):=by
 have hm: ∀i:Fin l.length,l[i]∈l:=fun i=>cP i.isLt
 have e: ∀i j:Fin l.length,Bo φ l i j=cf l[i] l[j]:=fun i j=>by unfold Bo;rw [hφ _ (hm i) _ (hm j)];rfl
 refine⟨fun x=>?_,fun x y z=>?_,fun x y z=>?_⟩
 ·simp only [GX,e,decide_eq_false_iff_not];exact h1 _ (hm _)
 ·simp only [GX,e,decide_eq_true_iff];exact h2 _ (hm _) _ (hm _) _ (hm _)
 ·simp only [GX,e,decide_eq_false_iff_not];exact h3 _ (hm _) _ (hm _) _ (hm _)
theorem xU {φ:α->α->Option Int} {l:List α} (cf:α->α->Int) (hφ: ∀x∈l,∀y∈l,φ x y=some (cf x y)) (h1: ∀x∈l,¬cf x x<0)
  (h2: ∀x∈l,∀y∈l,∀z∈l,cf x y<0->cf y z<0->cf x z<0) (h3: ∀x∈l,∀y∈l,∀z∈l,¬cf x y<0->¬cf y z<0->¬cf x z<0) (hl:l.length<4611686018427387904):
  ∃m,ue φ l=some m/\m.Perm l/\m.Pairwise (fun x y=>¬cf y x<0):=by
 have hO:=I2 cf hφ h1 h2 h3
 have hm: ∀i:Fin l.length,l[i]∈l:=fun i=>cP i.isLt
 have hc: (∀i j:Fin l.length,∃c,φ l[i] l[j]=some c):=fun i j=>⟨_,hφ _ (hm i) _ (hm j)⟩
 refine⟨Dr φ l,by unfold ue;rw [aC ⟨⟨hc,hO⟩,hl⟩],?_⟩
 unfold Dr
 by_cases hn:0<l.length
 ·rw [dif_pos hn]
  letI inh:Inhabited (Fin l.length):=⟨⟨0,hn⟩⟩
  have hds: (Array.ofFn fun i:Fin l.length=>i).size=l.length:=by simp
  obtain⟨hp,hs⟩:=pdq_sorts (GX (Bo φ l)) hO (Array.ofFn fun i:Fin l.length=>i) 0 l.length (Lib.bitLen l.length) true true (mP _) (by rw [hds];exact bM _) (Or.inl rfl)
  show (List.map (fun i=>l[i]) (pdq (GX (Bo φ l)) (Array.ofFn fun i:Fin l.length=>i) 0 l.length (Lib.bitLen l.length) true true).toList).Perm l/\_
  generalize pdq (GX (Bo φ l)) (Array.ofFn fun i:Fin l.length=>i) 0 l.length (Lib.bitLen l.length) true true=d' at hp hs
  obtain⟨hz,_,hpm⟩:=hp
  have hz':d'.size=l.length:=hz.trans hds
  rw [wu d' hz',wu _ hds] at hpm
  have hof: (Array.ofFn fun i:Fin l.length=>i).toList.map (fun i=>l[i])=l:=by
   rw [Array.toList_ofFn,List.map_ofFn]
   exact List.ofFn_getElem
  refine⟨(hpm.map (fun i=>l[i])).trans (List.Perm.of_eq hof),?_⟩
  rw [List.pairwise_map,mQ]
  intro i j hi hj hij
  rw [Array.length_toList] at hi hj
  have:=hs i j (mP _) hij (by rw [<-hz'];exact hj)
  rw [getElem!_pos d' i hi,getElem!_pos d' j hj] at this
  have hij2:=hφ _ (hm (d'[j])) _ (hm (d'[i]))
  have hij3:Bo φ l d'[j] d'[i]=cf l[d'[j]] l[d'[i]]:=by unfold Bo;rw [hij2];rfl
  unfold GX at this
  rw [decide_eq_false_iff_not,hij3] at this
  exact this
 ·rw [dif_neg hn]
  have:l= []:=List.length_eq_zero_iff.1 (by omega)
  subst this
  exact⟨List.Perm.refl _,kR⟩
theorem zy {φ:α->α->Option Int} {x:α} (h:φ x x=some 0):ue φ [x]=some [x]:=by
 obtain⟨m,h1,h2,_⟩:=xU (φ:=φ) (l:=[x]) (fun _ _=>0) (fun a ha b hb=>by simp at ha hb;rw [ha,hb];exact h) (fun _ _=>by decide) (fun _ _ _ _ _ _ h=>by simp at h) (fun _ _ _ _ _ _ _ _=>by decide) (by simp)
 rw [h1,List.perm_singleton.1 h2]
theorem yS {l:List Int} (h:l.Pairwise (fun x y=>x<=y)) (hl:l.length<4611686018427387904):q9 l=some l:=by
 unfold q9
 rw [aC hl,List.mergeSort_of_pairwise (by simpa using h)]
end
end Go.Gk
namespace Go.Gk
open Go
def BT (l:List Int) (x:Int):Nat:=l.countP (fun a=>decide (a<=x))
def mo (l:List Int) (x:Int):Bool:=BT l x % 2==1
def lP (l:List Int):Prop:=l.Pairwise (· < ·)
theorem AA (x:Int):BT [] x=0:=rfl
theorem lx (a:Int) (l:List Int) (x:Int):BT (a::l) x= (if a<=x then 1 else 0)+BT l x:=by
 unfold BT
 rw [List.countP_cons]
 by_cases h:a<=x <;> simp [h];omega
theorem xV (l m:List Int) (x:Int):BT (l++m) x=BT l x+BT m x:=List.countP_append
theorem DJ {l:List Int} {x:Int} (h: ∀a∈l,a<=x):BT l x=l.length:=by
 unfold BT;rw [List.countP_eq_length];intro a ha;simpa using h a ha
theorem xW {l:List Int} {x:Int} (h: ∀a∈l,x<a):BT l x=0:=by
 unfold BT;rw [List.countP_eq_zero];intro a ha;have:=h a ha;simp;omega
theorem uW {l:List Int} {x:Int}:mo l x=true↔BT l x % 2=1:=by unfold mo;simp
theorem uX {l:List Int} {x:Int} (h: ∀a∈l,x<a):mo l x=false:=by unfold mo;rw [xW h];rfl
theorem lP.head {a:Int} {l:List Int} (h:lP (a::l)): ∀b∈l,a<b:=(List.pairwise_cons.1 h).1
theorem lP.tail {a:Int} {l:List Int} (h:lP (a::l)):lP l:=(List.pairwise_cons.1 h).2
theorem uY {a:Int} {l:List Int} (h:lP (a::l)):mo (a::l) a=true:=by
 rw [uW,lx,aC (Int.le_refl _),xW h.head]
theorem xX: ∀{l m:List Int},lP l->lP m->(∀x,mo l x=mo m x)->l=m
 | [],[],_,_,_=>rfl
 | [],b::m,_,hm,h=>by have:=h b;rw [uY hm] at this;cases this
 | a::l,[],hl,_,h=>by have:=h a;rw [uY hl] at this;cases this
 | a::l,b::m,hl,hm,h=>by
  have hab:a=b:=by
   rcases Int.lt_trichotomy a b with h1 | h1 | h1
   ·have h2:=h a
    rw [uY hl,uX (l:=b::m) (fun c hc=>by
     rcases fQ.1 hc with rfl | hc
     ·exact h1
     ·have:=hm.head c hc;omega)] at h2
    cases h2
   ·exact h1
   ·have h2:=h b
    rw [uY hm,uX (l:=a::l) (fun c hc=>by
     rcases fQ.1 hc with rfl | hc
     ·exact h1
     ·have:=hl.head c hc;omega)] at h2
    cases h2
  subst hab
  rw [xX hl.tail hm.tail (fun x=>?_)]
  by_cases hx:a<=x
  ·have h2:=h x
   unfold mo at h2 ⊢
   rw [lx,lx,aC hx] at h2
   rw [gC] at h2 ⊢
   simp only [beq_iff_eq] at h2 ⊢
   omega
  ·rw [uX (fun c hc=>by have:=hl.head c hc;omega),uX (fun c hc=>by have:=hm.head c hc;omega)]
theorem uZ {l:List Int} {a b:Int} (hl: ∀c∈l,c<a) (he:l.length % 2=0) (hab:a<b) (x:Int):mo (l++[a,b]) x= (mo l x||(decide (a<=x)&&decide (x<b))):=by
 rw [gC,dU,bT,bP,bP,uW,uW,xV,lx,lx,AA]
 by_cases h1:a<=x
 ·have h2:BT l x=l.length:=DJ fun c hc=>by have:=hl c hc;omega
  rw [h2,aC h1]
  by_cases h3:b<=x
  ·rw [aC h3];omega
  ·rw [aD h3];omega
 ·rw [aD h1,aD (by omega)];omega
theorem Ga {l:List Int} {s e a b:Int} (hl: ∀c∈l,c<s) (he:l.length % 2=0) (hs:s<e) (h1:s<=a) (h2:a<=e) (hab:a<b) (x:Int):mo (l++[s,max e b]) x= (mo (l++[s,e]) x||(decide (a<=x)&&decide (x<b))):=by
 rw [uZ hl he (by omega),uZ hl he hs]
 rw [gC]
 simp only [dU,bT,bP]
 constructor
 ·rintro(h | h)
  ·exact .inl (.inl h)
  ·by_cases hx:x<e
   ·exact .inl (.inr ⟨h.1,hx⟩)
   ·exact .inr ⟨by omega,by omega⟩
 ·rintro((h | h) | h)
  ·exact .inl h
  ·exact .inr ⟨h.1,by omega⟩
  ·exact .inr ⟨by omega,by omega⟩
theorem lP.snoc {l:List Int} {a b:Int} (h:lP l) (hl: ∀c∈l,c<a) (hab:a<b):lP (l++[a,b]):=by
 unfold lP
 rw [List.pairwise_append]
 refine⟨h,by simp [hab],fun c hc d hd=>?_⟩
 have:=hl c hc
 simp at hd
 rcases hd with rfl | rfl <;> omega
structure Bd where
 y0:Int
 y1:Int
 xs:List Int
def rowAt:List Bd->Int->List Int
 | [],_=>[]
 | b::s,y=>if b.y0<=y/\y<b.y1 then b.xs else rowAt s y
theorem kM (b:Bd) (s:List Bd) (y:Int):rowAt (b::s) y=if b.y0<=y/\y<b.y1 then b.xs else rowAt s y:=rfl
structure eK (s:List Bd):Prop where
 each: ∀b∈s,b.y0<b.y1/\b.xs≠[]/\lP b.xs/\b.xs.length % 2=0
 ord:s.Pairwise (fun b c=>b.y1<=c.y0/\(b.y1=c.y0->b.xs≠c.xs))
theorem eK.nil:eK []:=⟨fun b h=>by simp at h,kR⟩
theorem eK.tail {b:Bd} {s:List Bd} (h:eK (b::s)):eK s:=⟨fun c hc=>h.each c (jh _ hc),(List.pairwise_cons.1 h.ord).2⟩
theorem j4 {s:List Bd} {y:Int} (h: ∀b∈s,y<b.y0\/b.y1<=y):rowAt s y= []:=by
 induction s with
 | nil=>rfl
 | cons b s ih=>
  unfold rowAt
  have:=h b (by simp)
  rw [aD (by omega)]
  exact ih fun c hc=>h c (jh _ hc)
theorem nK (s t:List Bd) (y:Int):rowAt (s++t) y=if (∃b∈s,b.y0<=y/\y<b.y1) then rowAt s y else rowAt t y:=by
 induction s with
 | nil=>simp
 | cons b s ih=>
  rw [List.cons_append,kM,kM]
  by_cases h:b.y0<=y/\y<b.y1
  ·rw [aC h,aC ⟨b,by simp,h⟩,aC h]
  ·rw [aD h,ih]
   by_cases h2: ∃c∈s,c.y0<=y/\y<c.y1
   ·obtain⟨c,hc,hc2⟩:=h2
    rw [aC ⟨c,hc,hc2⟩,aC ⟨c,jh _ hc,hc2⟩,aD h]
   ·rw [aD h2,aD (show ¬∃c∈b::s,c.y0<=y/\y<c.y1 from ?_)]
    rintro⟨c,hc,hc2⟩
    rcases fQ.1 hc with rfl | hc
    ·exact h hc2
    ·exact h2 ⟨c,hc,hc2⟩
theorem eK.kN {b:Bd} {s:List Bd} {y:Int} (h0:b.y0<=y) (h1:y<b.y1):rowAt (b::s) y=b.xs:=by unfold rowAt;rw [aC ⟨h0,h1⟩]
theorem eK.xY {b:Bd} {s:List Bd} (h:eK (b::s)): ∀c∈s,b.y1<=c.y0:=fun c hc=>((List.pairwise_cons.1 h.ord).1 c hc).1
theorem eK.sw {b:Bd} {s:List Bd} (h:eK (b::s)) {y:Int} (hy:y<b.y0):rowAt (b::s) y= []:=j4 fun c hc=>by
 rcases fQ.1 hc with rfl | hc
 ·exact .inl hy
 ·have:=h.xY c hc;have:=(h.each b (by simp)).1;exact .inl (by omega)
theorem eK.DK {b:Bd} {s:List Bd} (h:eK (b::s)):rowAt (b::s) b.y1≠b.xs:=by
 rw [kM,aD (by omega)]
 cases s with
 | nil=>exact fun e=>(h.each b (by simp)).2.1 e.symm
 | cons c s=>
  have h1:=(List.pairwise_cons.1 h.ord).1 c (by simp)
  by_cases e:b.y1=c.y0
  ·rw [eK.kN (by omega) (by have:=(h.tail.each c (by simp)).1;omega)]
   exact fun h=>h1.2 e h.symm
  ·rw [h.tail.sw (by have:=h1.1;omega)]
   exact fun e=>(h.each b (by simp)).2.1 e.symm
theorem xZ: ∀{s t:List Bd},eK s->eK t->(∀y,rowAt s y=rowAt t y)->s=t
 | [],[],_,_,_=>rfl
 | [],c::t,_,ht,h=>by
  have hc:=ht.each c (by simp)
  have:=h c.y0
  rw [eK.kN (Int.le_refl _) hc.1] at this
  exact absurd this.symm hc.2.1
 | b::s,[],hs,_,h=>by
  have hb:=hs.each b (by simp)
  have:=h b.y0
  rw [eK.kN (Int.le_refl _) hb.1] at this
  exact absurd this hb.2.1
 | b::s,c::t,hs,ht,h=>by
  have hb:=hs.each b (by simp)
  have hc:=ht.each c (by simp)
  have e0:b.y0=c.y0:=by
   rcases Int.lt_trichotomy b.y0 c.y0 with h1 | h1 | h1
   ·have h2:=h b.y0
    rw [eK.kN (Int.le_refl _) hb.1,ht.sw h1] at h2
    exact absurd h2 hb.2.1
   ·exact h1
   ·have h2:=h c.y0
    rw [eK.kN (Int.le_refl _) hc.1,hs.sw h1] at h2
    exact absurd h2.symm hc.2.1
  have ex:b.xs=c.xs:=by
   have h2:=h b.y0
   rw [eK.kN (Int.le_refl _) hb.1,eK.kN (by omega) (by omega)] at h2
   exact h2
  have e1:b.y1=c.y1:=by
   rcases Int.lt_trichotomy b.y1 c.y1 with h1 | h1 | h1
   ·have h2:=h b.y1
    rw [eK.kN (b:=c) (by omega) h1] at h2
    exact absurd (h2.trans ex.symm) hs.DK
   ·exact h1
   ·have h2:=h c.y1
    rw [eK.kN (b:=b) (by omega) h1] at h2
    exact absurd (h2.symm.trans ex) ht.DK
  have ebc:b=c:=by cases b;cases c;simp_all
  subst ebc
  rw [xZ hs.tail ht.tail (fun y=>?_)]
  by_cases hy:b.y1<=y
  ·have h2:=h y
   unfold rowAt at h2
   rw [aD (by omega),aD (by omega)] at h2
   exact h2
  ·rw [j4 (fun d hd=>by have:=hs.xY d hd;exact .inl (by omega)),j4 (fun d hd=>by have:=ht.xY d hd;exact .inl (by omega))]
def u4 (s:List Bd) (x y:Int):Bool:=mo (rowAt s y) x
theorem zz {s:List Bd} (h: ∀b∈s,lP b.xs) (y:Int):lP (rowAt s y):=by
 induction s with
 | nil=>exact kR
 | cons b s ih=>
  unfold rowAt
  split
  ·exact h b (by simp)
  ·exact ih fun c hc=>h c (jh _ hc)
theorem x0 {s t:List Bd} (hs:eK s) (ht:eK t) (h: ∀x y,u4 s x y=u4 t x y):s=t:=
 xZ hs ht fun y=>xX (zz (fun b hb=>(hs.each b hb).2.2.1) y) (zz (fun b hb=>(ht.each b hb).2.2.1) y) fun x=>h x y
def lX (s:List Bd) (b:Bd):List Bd:=
 if b.xs= []\/b.y1<=b.y0 then s else
  match s.getLast? with
  | some c=>if c.y1=b.y0/\c.xs=b.xs then s.dropLast++[⟨c.y0,b.y1,c.xs⟩] else s++[b]
  | none=>[b]
theorem qw {α:Type} {s:List α} {c:α} (h:s.getLast? =some c):s=s.dropLast++[c]:=by
 have hne:s≠[]:=fun e=>by rw [e] at h;cases h
 rw [List.getLast?_eq_some_getLast hne] at h
 injection h with h
 rw [<-h];exact(List.dropLast_concat_getLast hne).symm
theorem vO {s:List Bd} {b:Bd} (hs: ∀c∈s,c.y1<=b.y0) (hg: ∀c∈s,c.y0<c.y1) (hb:b.y1<=b.y0->b.y1=b.y0) (y:Int):rowAt (lX s b) y=if b.y0<=y/\y<b.y1 then b.xs else rowAt s y:=by
 have key: ∀(s:List Bd) (c:Bd),(∀d∈s,d.y1<=c.y0)->rowAt (s++[c]) y=if c.y0<=y/\y<c.y1 then c.xs else rowAt s y:=by
  intro s c h
  rw [nK]
  by_cases h1:c.y0<=y/\y<c.y1
  ·rw [aC h1,aD (by rintro⟨d,hd,hd2⟩;have:=h d hd;omega),eK.kN h1.1 h1.2]
  ·rw [aD h1]
   by_cases h2: ∃d∈s,d.y0<=y/\y<d.y1
   ·rw [aC h2]
   ·rw [aD h2,kM,aD h1]
    refine(show rowAt [] y=_ from (j4 (s:=s) fun d hd=>?_).symm)
    by_cases h3:d.y0<=y
    ·exact .inr (by have: ¬(d.y0<=y/\y<d.y1):=fun h4=>h2 ⟨d,hd,h4⟩;omega)
    ·exact .inl (by omega)
 unfold lX
 by_cases h0:b.xs= []\/b.y1<=b.y0
 ·rw [aC h0]
  by_cases h1:b.y0<=y/\y<b.y1
  ·rw [aC h1]
   rcases h0 with h0 | h0
   ·rw [h0];exact j4 fun c hc=> .inr (by have:=hs c hc;omega)
   ·omega
  ·rw [aD h1]
 ·rw [aD h0]
  cases hl:s.getLast? with
  | none=>
   have:s= []:=by simpa using hl
   subst this
   rfl
  | some c=>
   dsimp only
   have hsp:=qw hl
   have hcm:c∈s:=by rw [hsp];simp
   by_cases h1:c.y1=b.y0/\c.xs=b.xs
   ·rw [aC h1]
    have hd: ∀d∈s.dropLast,d.y1<=c.y0\/True:=fun _ _=> .inr trivial
    rw [nK]
    have hrow:rowAt s y=if (∃d∈s.dropLast,d.y0<=y/\y<d.y1) then rowAt s.dropLast y else (if c.y0<=y/\y<c.y1 then c.xs else []):=by
     conv=>lhs;rw [hsp]
     rw [nK];rfl
    rw [hrow]
    have hcg:=hg c hcm
    by_cases h2: ∃d∈s.dropLast,d.y0<=y/\y<d.y1
    ·obtain⟨d,hd,hd2⟩:=h2
     have:=hs d (List.dropLast_subset _ hd)
     have he: ∃d∈s.dropLast,d.y0<=y/\y<d.y1:=⟨d,hd,hd2⟩
     rw [aC he,aC he,aD (by omega)]
    ·rw [aD h2,aD h2]
     show (if c.y0<=y/\y<b.y1 then c.xs else [])=_
     by_cases h3:b.y0<=y/\y<b.y1
     ·rw [aC h3,aC ⟨by omega,h3.2⟩,h1.2]
     ·rw [aD h3]
      by_cases h4:c.y0<=y/\y<c.y1
      ·rw [aC h4,aC ⟨h4.1,by omega⟩]
      ·rw [aD h4,aD (by omega)]
   ·rw [aD h1]
    exact key s b hs
theorem vP {s:List Bd} {b:Bd} (h:eK s) (hs: ∀c∈s,c.y1<=b.y0) (hb:lP b.xs) (he:b.xs.length % 2=0):eK (lX s b):=by
 unfold lX
 by_cases h0:b.xs= []\/b.y1<=b.y0
 ·rw [aC h0];exact h
 ·rw [aD h0]
  have hbg:b.y0<b.y1/\b.xs≠[]/\lP b.xs/\b.xs.length % 2=0:=⟨by omega,fun e=>h0 (.inl e),hb,he⟩
  cases hl:s.getLast? with
  | none=>exact⟨fun c hc=>by simp at hc;subst hc;exact hbg,List.pairwise_singleton _ _⟩
  | some c=>
   dsimp only
   have hsp:=qw hl
   have hcm:c∈s:=by rw [hsp];simp
   have hc:=h.each c hcm
   have hord:=h.ord
   rw [hsp,List.pairwise_append] at hord
   by_cases h1:c.y1=b.y0/\c.xs=b.xs
   ·rw [aC h1]
    refine⟨fun d hd=>?_,?_⟩
    ·rcases cS.1 hd with hd | hd
     ·exact h.each d (List.dropLast_subset _ hd)
     ·simp at hd;subst hd;exact⟨by show c.y0<b.y1;omega,hc.2⟩
    ·rw [List.pairwise_append]
     refine⟨hord.1,List.pairwise_singleton _ _,fun d hd e he=>?_⟩
     simp at he;subst he
     exact hord.2.2 d hd c (by simp)
   ·rw [aD h1]
    refine⟨fun d hd=>?_,?_⟩
    ·rcases cS.1 hd with hd | hd
     ·exact h.each d hd
     ·simp at hd;subst hd;exact hbg
    ·rw [List.pairwise_append]
     refine⟨h.ord,List.pairwise_singleton _ _,fun d hd e he=>?_⟩
     simp at he;subst he
     refine⟨hs d hd,fun e1 e2=>?_⟩
     rw [hsp] at hd
     rcases cS.1 hd with hd | hd
     ·have h2:=(hord.2.2 d hd c (by simp)).1
      have:=hs c hcm
      omega
     ·simp at hd;subst hd;exact h1 ⟨e1,e2⟩
theorem vQ {s:List Bd} {b:Bd} (hs: ∀c∈s,c.y1<=b.y0) (hb:b.y0<=b.y1): ∀c∈lX s b,c.y1<=b.y1:=by
 intro c hc
 unfold lX at hc
 split at hc
 ·have:=hs c hc;omega
 ·split at hc
  ·split at hc
   ·rcases cS.1 hc with hc | hc
    ·have:=hs c (List.dropLast_subset _ hc);omega
    ·simp at hc;subst hc;exact Int.le_refl _
   ·rcases cS.1 hc with hc | hc
    ·have:=hs c hc;omega
    ·simp at hc;subst hc;exact Int.le_refl _
  ·simp at hc;subst hc;exact Int.le_refl _
end Go.Gk
namespace Go.Gk
open Go
section
variable {N:Nat}
def bR (b:aA):Bd:=⟨b.Y0,b.Y1,b.Xs⟩
def small (a:Int):Prop:= -1099511627776<=a/\a<=1099511627776
structure Cs (r:aI):Prop where
 x:r.X0<r.X1
 y:r.Y0<r.Y1
 s1:small r.X0
 s2:small r.X1
 s3:small r.Y0
 s4:small r.Y1
def CV (l:List aI) (x:Int):Bool:=l.any (fun r=>decide (r.X0<=x)&&decide (x<r.X1))
def wv (l:List aI) (x y:Int):Bool:=l.any (fun r=>(decide (r.X0<=x)&&decide (x<r.X1))&&(decide (r.Y0<=y)&&decide (y<r.Y1)))
theorem x3 {l:List aI} {x:Int}:CV l x=true↔∃r∈l,r.X0<=x/\x<r.X1:=by unfold CV;simp [jQ]
theorem j5 {l:List aI} {x y:Int}:wv l x y=true↔∃r∈l,(r.X0<=x/\x<r.X1)/\r.Y0<=y/\y<r.Y1:=by unfold wv;simp [jQ]
theorem wrap_small {a b:Int} (ha:small a) (hb:small b):IntKind.wrap .i64 (a - b)=a - b:=by unfold small at *;exact fB (by omega) (by omega)
theorem BU {n:Nat} (h:0<n) (hn:n<=4611686018427387904):IntKind.wrap .i64 (((n:Nat):Int) - 1)= ((n - 1:Nat):Int):=lW h hn
structure Mm (out:List Int) (m:List aI) (k:Nat):Prop where
 row: (k=0/\out= [])\/∃A s e,out=A++[s,e]/\lP A/\(∀c∈A,c<s)/\A.length % 2=0/\s<e/\∃j r,j<k/\m[j]? =some r/\s=r.X0
 mo: ∀x,mo out x=CV (m.take k) x
 len:out.length<=2*k
 mem: ∀c∈out,∃r∈m,c=r.X0\/c=r.X1
theorem vR (l:List aI) (r:aI) (x:Int):CV (l++[r]) x= (CV l x||(decide (r.X0<=x)&&decide (x<r.X1))):=by unfold CV;rw [List.any_append];simp
theorem AB {l:List aI} (hl:l.length<=268435456) (hok: ∀r∈l,Cs r): ∃row l',il N l=some (row,l')/\l'.Perm l/\lP row/\row.length % 2=0/\(∀x,mo row x=CV l x)/\row.length<=2*l.length/\∀c∈row,∃r∈l,c=r.X0\/c=r.X1:=by
 unfold il
 obtain⟨m,h1,h2,h3⟩:=xU (φ:=fU N) (l:=l) (fun a b=>a.X0 - b.X0) (fun a ha b hb=>by
  unfold fU;rw [wrap_small (hok a ha).s1 (hok b hb).s1]) (fun a _=>by omega) (fun a _ b _ c _ h1 h2=>by omega) (fun a _ b _ c _ h1 h2=>by omega) (by omega)
 have hml:m.length=l.length:=h2.length_eq
 have hmok: ∀r∈m,Cs r:=fun r hr=>hok r (h2.subset hr)
 rw [h1,aB]
 obtain⟨out,a1,a2⟩:=w8 (m:=m.length) (s:=([]:List Int)) (body:=fun(k32:Nat) (s33: (List Int))=>((idx m (k32:Int)).bind fun x79=>(bif (decide ((IntKind.wrap .i64 ((s33.length:Int) - 1))>=0)) then ((idx s33 (IntKind.wrap .i64 ((s33.length:Int) - 1))).bind fun x86=>some (decide (x79.X0<=x86))) else (some false)).bind fun s84=>(bif s84 then ((idx s33 (IntKind.wrap .i64 ((s33.length:Int) - 1))).bind fun x94=>(idx s33 (IntKind.wrap .i64 ((s33.length:Int) - 1))).bind fun x95=>some (s33.set (Int.toNat (IntKind.wrap .i64 ((s33.length:Int) - 1))) (if x94<x79.X1 then x79.X1 else x94))) else ((app 8 s33 ([x79.X0,x79.X1]: (List Int))).bind fun x97=>some x97)).bind fun s92=>some s92:Option ((List Int))))
  (fun k out=>Mm out m k) (by omega) ⟨.inl ⟨rfl,rfl⟩,fun x=>rfl,by simp,fun c hc=>by cases hc⟩ (fun k out hk ⟨i1,i2,i3,i4⟩=>by
   have hx:m[k]? =some m[k]:=aJ hk
   have hr:=hmok _ (cP hk)
   rw [dD hx,aB]
   have hts:m.take (k+1)=m.take k++[m[k]]:=eM hk
   rcases i1 with ⟨rfl,rfl⟩ | ⟨A,s,e,rfl,hA,hAs,hAe,hse,j,r,hj,hjr,hsr⟩
   ·rw [show decide (IntKind.wrap .i64 (((([]:List Int).length:Nat):Int) - 1)>=0)=false by decide,aS,aB,aS,fF (by simp),aB,aB]
    refine⟨_,rfl, .inr ⟨[],_,_,rfl,kR,fun c hc=>by simp at hc,rfl,hr.x,0,m[0],by omega,hx,rfl⟩,fun x=>?_,by simp,fun c hc=>⟨m[0],cP hk,by simpa using hc⟩⟩
    rw [hts,vR,<-i2 x]
    exact uZ (l:=[]) (fun c hc=>by simp at hc) rfl hr.x x
   ·have hlen: (A++[s,e]).length=A.length+2:=by simp
    have hwp:IntKind.wrap .i64 ((((A++[s,e]).length:Nat):Int) - 1)= ((A.length+1:Nat):Int):=by rw [BU (by omega) (by omega),hlen];rfl
    have hlast: (A++[s,e])[A.length+1]? =some e:=by rw [fz (by omega)];simp
    have hs:s<=m[k].X0:=by
     have:=mQ.1 h3 j k (by have:=(bC.1 hjr).1;omega) hk hj
     rw [hsr,<-(bC.1 hjr).2];omega
    rw [hwp,cE (by omega),aR,dD hlast,aB,aB]
    by_cases hc:m[k].X0<=e
    ·rw [cE hc,aR,aB,aB,aB,bY]
     have lL: (A++[s,e]).set (A.length+1) (if e<m[k].X1 then m[k].X1 else e)=A++[s,max e m[k].X1]:=by
      rw [List.set_append_right _ _ (by omega)]
      have:A.length+1 - A.length=1:=by omega
      rw [this,Int.max_def]
      simp only [List.set_cons_succ,List.set_cons_zero]
      congr 2
      split <;> split <;> simp <;> omega
     rw [lL]
     refine⟨_,rfl, .inr ⟨A,s,_,rfl,hA,hAs,hAe,by omega,j,r,by omega,hjr,hsr⟩,fun x=>?_,by simp at i3 ⊢;omega,fun c hc=>by
      rcases cS.1 hc with h | h
      ·exact i4 c (List.mem_append_left _ h)
      ·simp at h
       rcases h with h | h
       ·exact i4 c (by simp [h])
       ·rw [Int.max_def] at h
        split at h
        ·exact⟨_,cP hk, .inr h⟩
        ·exact i4 c (by simp [h])⟩
     rw [hts,vR,<-i2 x]
     exact Ga hAs hAe hse hs hc hr.x x
    ·rw [bG hc,aS,fF (by rw [hlen];simp;omega),aB,aB]
     have hall: ∀c∈A++[s,e],c<m[k].X0:=fun c hc'=>by
      rcases cS.1 hc' with h | h
      ·have:=hAs c h;omega
      ·simp at h;omega
     refine⟨_,rfl, .inr ⟨A++[s,e],_,_,rfl,hA.snoc hAs hse,hall,by rw [hlen];omega,hr.x,k,m[k],by omega,hx,rfl⟩,fun x=>?_,by simp at i3 ⊢;omega,fun c hc=>by
      rcases cS.1 hc with h | h
      ·exact i4 c h
      ·exact⟨m[k],cP hk,by simpa using h⟩⟩
     rw [hts,vR,<-i2 x]
     exact uZ hall (by rw [hlen];omega) hr.x x)
 rw [a1,aB]
 refine⟨out,m,rfl,h2,?_,?_,fun x=>?_,by rw [<-hml];exact a2.len,fun c hc=>by obtain⟨r,hr,h⟩:=a2.mem c hc;exact⟨r,h2.subset hr,h⟩⟩
 ·rcases a2.row with ⟨_,h⟩ | ⟨A,s,e,rfl,hA,hAs,hAe,hse,_⟩
  ·rw [h];exact kR
  ·exact hA.snoc hAs hse
 ·rcases a2.row with ⟨_,h⟩ | ⟨A,s,e,rfl,hA,hAs,hAe,hse,_⟩
  ·rw [h];rfl
  ·simp;omega
 ·rw [a2.mo x,eD,gC,x3,x3]
  constructor
  ·rintro⟨r,hr,h⟩;exact⟨r,h2.subset hr,h⟩
  ·rintro⟨r,hr,h⟩;exact⟨r,h2.symm.subset hr,h⟩
theorem Ey {l m:List Int} (hl:l.length<=4611686018427387904):kU N l m=some (decide (l=m)):=zw hl
theorem DL {s:List aA} {b:aA} (hs:s.length<=1048576000) (hx: ∀c∈s,c.Xs.length<=1048576000): ∃s',gX N s b=some s'/\s'.map bR=lX (s.map bR) (bR b):=by
 unfold gX lX
 by_cases h0:b.Xs= []\/b.Y1<=b.Y0
 ·have e: ((((b.Xs.length:Nat):Int)==0)||(decide (b.Y1<=b.Y0)))=true:=by
   rw [dU]
   rcases h0 with h | h
   ·left;rw [h];rfl
   ·right;exact cE h
  rw [e,aR,aC (show (bR b).xs= []\/(bR b).y1<=(bR b).y0 from h0)]
  exact⟨s,rfl,rfl⟩
 ·have e: ((((b.Xs.length:Nat):Int)==0)||(decide (b.Y1<=b.Y0)))=false:=by
   rw [Bool.or_eq_false_iff]
   constructor
   ·rw [beq_eq_false_iff_ne];intro h;exact h0 (.inl (List.eq_nil_of_length_eq_zero (by omega)))
   ·exact bG fun h=>h0 (.inr h)
  rw [e,aS,aD (show ¬((bR b).xs= []\/(bR b).y1<=(bR b).y0) from h0)]
  rcases List.eq_nil_or_concat s with rfl | ⟨A,c,hA⟩
  ·rw [show decide (IntKind.wrap .i64 (((([]:List aA).length:Nat):Int) - 1)>=0)=false by decide,aS,aB,aS,fF (by simp),aB]
   exact⟨_,rfl,rfl⟩
  ·rw [List.concat_eq_append] at hA
   subst hA
   have hlen: (A++[c]).length=A.length+1:=by simp
   have hwp:IntKind.wrap .i64 ((((A++[c]).length:Nat):Int) - 1)= ((A.length:Nat):Int):=by rw [BU (by omega) (by omega),hlen];rfl
   have hlast: (A++[c])[A.length]? =some c:=by simp
   rw [hwp,cE (by omega),aR,dD hlast,aB,aB,Ey (by have:=hx c (by simp);omega),aB,aB,bY,fF (by rw [hlen];simp;omega),aB]
   have hl2: ((A++[c]).map bR).getLast? =some (bR c):=by simp
   have hd2: ((A++[c]).map bR).dropLast=A.map bR:=by simp
   rw [hl2,hd2]
   dsimp only
   by_cases h1:c.Y1=b.Y0/\c.Xs=b.Xs
   ·rw [aC (show (bR c).y1= (bR b).y0/\(bR c).xs= (bR b).xs from h1),show (c.Y1==b.Y0)=true by rw [h1.1];simp,aR,cE h1.2,aB,aR]
    refine⟨_,rfl,?_⟩
    rw [List.set_append_right _ _ (bM _),Nat.sub_self]
    simp [bR]
   ·rw [aD (show ¬((bR c).y1= (bR b).y0/\(bR c).xs= (bR b).xs) from h1)]
    have e2: (bif (c.Y1==b.Y0) then (some (decide (c.Xs=b.Xs))) else (some false))=some false:=by
     by_cases h2:c.Y1=b.Y0
     ·rw [show (c.Y1==b.Y0)=true by rw [h2];simp,aR,bG (fun h=>h1 ⟨h2,h⟩)]
     ·rw [show (c.Y1==b.Y0)=false by simpa using h2,aS]
    rw [e2,aB,aS]
    exact⟨_,rfl,by simp⟩
end
end Go.Gk
namespace Go.Gk
open Go
def oX (l:List (Int×Int)):List Int:=l.flatMap fun s=>[s.1,s.2]
def Ez (l:List (Int×Int)) (x:Int):Bool:=l.any fun s=>decide (s.1<=x)&&decide (x<s.2)
theorem mL (s:Int×Int) (l:List (Int×Int)):oX (s::l)=s.1::s.2::oX l:=rfl
theorem EA (l:List (Int×Int)): (oX l).length=2*l.length:=by
 induction l with
 | nil=>rfl
 | cons s l ih=>rw [mL,fI,fI,fI,ih];omega
theorem EB (s:Int×Int) (l:List (Int×Int)) (x:Int):Ez (s::l) x= ((decide (s.1<=x)&&decide (x<s.2))||Ez l x):=rfl
theorem x4 {l:List (Int×Int)} {x:Int}:Ez l x=true↔∃s∈l,s.1<=x/\x<s.2:=by
 unfold Ez;simp
theorem EC {a b:Int} {m:List Int} (h:lP (a::b::m)) (x:Int):mo (a::b::m) x= ((decide (a<=x)&&decide (x<b))||mo m x):=by
 have hab:a<b:=h.head b (by simp)
 have hm:=h.tail.head
 rw [gC,dU,bT,bP,bP,uW,uW,lx,lx]
 by_cases h1:a<=x
 ·rw [aC h1]
  by_cases h2:b<=x
  ·rw [aC h2];omega
  ·rw [aD h2,xW (fun c hc=>by have:=hm c hc;omega)];omega
 ·rw [aD h1,aD (by omega)];omega
theorem u5: ∀{l:List (Int×Int)},lP (oX l)->∀x,mo (oX l) x=Ez l x
 | [],_,x=>rfl
 | s::l,h,x=>by
  rw [mL] at h ⊢
  rw [EC h,EB,u5 h.tail.tail]
end Go.Gk
namespace Go.Gk
open Go
end Go.Gk
namespace Go.Gk
open Go
def Ok {β:Type} (o:Option β) (P:β->Prop):Prop:=∃r,o=some r/\P r
section
variable {α β S R:Type} {P:α->Prop} {Q:β->Prop}
theorem Ok.ret {x:β} (h:Q x):Ok (some x) Q:=⟨x,rfl,h⟩
theorem Ok.of {o:Option β} {x:β} (h:o=some x) (hq:Q x):Ok o Q:=⟨x,h,hq⟩
theorem Ok.mono {o:Option α} {P':α->Prop} (h:Ok o P) (k: ∀x,P x->P' x):Ok o P':=by obtain⟨x,h1,h2⟩:=h;exact⟨x,h1,k x h2⟩
theorem Ok.bind {o:Option α} {f:α->Option β} (h:Ok o P) (k: ∀x,P x->Ok (f x) Q):Ok (o.bind f) Q:=by
 obtain⟨x,h1,h2⟩:=h;rw [h1];exact k x h2
theorem Ok.eq {o:Option α} {f:α->Option β} {x:α} (h:o=some x) (k:Ok (f x) Q):Ok (o.bind f) Q:=by rw [h];exact k
theorem Ok.bif {b:Bool} {x y:Option β} (ht:b=true->Ok x Q) (hf:b=false->Ok y Q):Ok (bif b then x else y) Q:=by
 cases b with
 | true=>exact ht rfl
 | false=>exact hf rfl
theorem Ok.get {o:Option β} {x:β} (h:Ok o (fun r=>r=x)):o=some x:=by obtain⟨r,h1,h2⟩:=h;rw [h1,h2]
def KR (Go:S->Prop) (Rt:R->Prop):Fo S R->Prop | .go s=>Go s | .rt r=>Rt r
def Ie (Nx Br:S->Prop) (Rt:R->Prop):Fl S R->Prop | .nx s=>Nx s | .br s=>Br s | .rt r=>Rt r
theorem Ok.nx {Nx Br:S->Prop} {Rt:R->Prop} {s:S} (h:Nx s):Ok (some (Fl.nx s)) (Ie Nx Br Rt):=⟨_,rfl,h⟩
theorem Ok.br {Nx Br:S->Prop} {Rt:R->Prop} {s:S} (h:Br s):Ok (some (Fl.br s)) (Ie Nx Br Rt):=⟨_,rfl,h⟩
theorem Ok.rt {Nx Br:S->Prop} {Rt:R->Prop} {r:R} (h:Rt r):Ok (some (Fl.rt r:Fl S R)) (Ie Nx Br Rt):=⟨_,rfl,h⟩
theorem Ok.cs {Go:S->Prop} {Rt:R->Prop} {o:Fo S R} {f:S->Option β} {g:R->Option β} (h:KR Go Rt o) (hf: ∀s,Go s->Ok (f s) Q) (hg: ∀r,Rt r->Ok (g r) Q):Ok (o.cs f g) Q:=by
 cases o with
 | go s=>exact hf s h
 | rt r=>exact hg r h
theorem Ok.iL {body:Nat->S->Option S} {m:Nat} {s:S} (Inv:Nat->S->Prop) (hm:m<=4611686018427387904) (h0:Inv 0 s) (h: ∀k s,k<m->Inv k s->Ok (body k s) (Inv (k+1))):Ok (iL m body s) (Inv m):=
 w8 Inv hm h0 h
theorem Ok.pX {body:Nat->S->Option (Fl S R)} {m:Nat} {s:S} (Inv:Nat->S->Prop) {Go:S->Prop} {Rt:R->Prop} (hm:m<=4611686018427387904) (h0:Inv 0 s)
  (h: ∀k s,k<m->Inv k s->Ok (body k s) (Ie (Inv (k+1)) Go Rt)) (hg: ∀s,Inv m s->Go s):Ok (pX m body s) (KR Go Rt):=by
 obtain⟨o,h1,h2⟩:=Hq (R:=R) Inv Go Rt hm h0 (fun k s hk hi=>by
  obtain⟨fl,a1,a2⟩:=h k s hk hi
  exact⟨fl,a1,by cases fl <;> exact a2⟩) hg
 exact⟨o,h1,by cases o <;> exact h2⟩
theorem Ok.nD {body:S->Option (Fl S R)} {N:Nat} {s:S} (Inv:S->Prop) (μ:S->Nat) {Go:S->Prop} {Rt:R->Prop}
  (h: ∀s,Inv s->Ok (body s) (Ie (fun s'=>Inv s'/\μ s'<μ s) Go Rt)) (hi:Inv s) (hn:μ s<N):Ok (nD body N s) (KR Go Rt):=by
 obtain⟨o,h1,h2⟩:=uF (R:=R) Inv μ Go Rt (fun s hi=>by
  obtain⟨fl,a1,a2⟩:=h s hi
  exact⟨fl,a1,by cases fl <;> exact a2⟩) N s hi hn
 exact⟨o,h1,by cases o <;> exact h2⟩
theorem Ok.app {b:Nat} {l ys:List α} {f:List α->Option β} (h: (l.length+ys.length)*b<=140737488355328) (k:Ok (f (l++ys)) Q):Ok ((Go.Gk.app b l ys).bind f) Q:=by rw [fF h];exact k
theorem Ok.idx {l:List α} {i:Nat} {f:α->Option β} (h:i<l.length) (k:Ok (f l[i]) Q):Ok ((Go.Gk.idx l ((i:Nat):Int)).bind f) Q:=by rw [jE l i h];exact k
theorem Ok.ix {l:List α} {i:Nat} {x:α} {f:α->Option β} (h:l[i]? =some x) (k:Ok (f x) Q):Ok ((Go.Gk.idx l ((i:Nat):Int)).bind f) Q:=by rw [dD h];exact k
end
theorem BV {n:Nat} (h:n<=4611686018427387904):IntKind.wrap .i64 ((n:Nat):Int)= ((n:Nat):Int):=fB (by omega) (by omega)
theorem wrap_add {n m:Nat} (h:n+m<=4611686018427387904):IntKind.wrap .i64 (((n:Nat):Int)+ ((m:Nat):Int))= ((n+m:Nat):Int):=by rw [fB (by omega) (by omega)];simp
theorem gx {n:Nat} (h:n+1<=4611686018427387904):IntKind.wrap .i64 (((n:Nat):Int)+1)= ((n+1:Nat):Int):=by rw [fB (by omega) (by omega)];simp
theorem zA {n:Nat} (h:n+2<=4611686018427387904):IntKind.wrap .i64 (((n:Nat):Int)+2)= ((n+2:Nat):Int):=by rw [fB (by omega) (by omega)];simp
theorem eO {α:Type} [DecidableEq α]: ∀{l m:List α},l.Nodup->(∀x∈l,x∈m)->l.length<=m.length
 | [],m,_,_=>mP _
 | a::l,m,hn,hs=>by
  have ha:a∈m:=hs a (by simp)
  have hn':=List.nodup_cons.1 hn
  have:=eO (l:=l) (m:=m.erase a) hn'.2 (fun x hx=>by
   rw [List.mem_erase_of_ne (fun e=>hn'.1 (by rw [<-e];exact hx))]
   exact hs x (jh _ hx))
  rw [List.length_erase_of_mem ha] at this
  have:=List.length_pos_of_mem ha
  simp;omega
section
variable {α:Type} {N:Nat}
def KS (z:α) (N:Nat) (p0:List α) (p1:α->Option Bool):Option (List α):=
 (qu p0 p1).bind fun x31=>bif (x31==(-1)) then (some p0) else ((nD (fun(s33: (List α)×Int×Int)=>(bif (decide (s33.2.2< (s33.1.length:Int))) then ((idx s33.1 s33.2.2).bind fun x54=>(p1 x54).bind fun x58=>(bif (!x58) then ((idx s33.1 s33.2.1).bind fun x63=>some ((s33.1.set (Int.toNat s33.2.1) x54),(IntKind.wrap .i64 (s33.2.1+1)))) else (some (s33.1,s33.2.1))).bind fun s61=>some (.nx (s61.1,s61.2,(IntKind.wrap .i64 (s33.2.2+1))))) else (some (.br (s33.1,s33.2.1,s33.2.2))):Option (Fl ((List α)×Int×Int) Empty))) N (p0,x31,(IntKind.wrap .i64 (x31+1)))).bind fun o67=>o67.cs (fun(s33: (List α)×Int×Int)=>(tV s33.1 s33.2.1 (s33.1.length:Int)).bind fun x64=>(tV (s33.1.take (Int.toNat s33.2.1)++List.replicate (s33.1.length - Int.toNat s33.2.1) z) 0 s33.2.1).bind fun x65=>some x65) (fun r=>r.elim))
theorem Gb {z:α} {l:List α} {φ:α->Option Bool} (p:α->Bool) (hφ: ∀x∈l,φ x=some (p x)) (hl:l.length<=4611686018427387000) (hN:l.length<N):KS z N l φ=some (l.filter (fun x=> !p x)):=by
 unfold KS
 rw [s8 p (by omega) hφ,aB]
 rcases su l p with ⟨h1,h2⟩ | ⟨k,x,h1,h2,h3,h4⟩
 ·rw [h1]
  have:l.filter (fun x=> !p x)=l:=List.filter_eq_self.2 fun a ha=>by rw [h2 a ha];rfl
  rw [this];rfl
 ·rw [h1,show (((k:Nat):Int)== -1)=false by simp,aS]
  have hk:=(bC.1 h2).1
  have hpre: (l.take k).filter (fun x=> !p x)=l.take k:=List.filter_eq_self.2 fun a ha=>by
   obtain⟨j,hj⟩:=gk ha
   have hjk:j<k:=by have:=(bC.1 hj).1;rw [dE] at this;omega
   rw [List.getElem?_take_of_lt hjk] at hj
   rw [h4 j a hjk hj];rfl
  have hst:l.take (k+1)=l.take k++[x]:=by
   rw [eM hk];congr 1
   have:=(bC.1 h2).2;rw [this]
  have hk1:IntKind.wrap .i64 (((k:Nat):Int)+1)= ((k+1:Nat):Int):=by rw [fB (by omega) (by omega)];omega
  rw [hk1]
  obtain⟨o,a1,a2⟩:=uF (S:=(List α)×Int×Int) (R:=Empty) (body:=fun(s33: (List α)×Int×Int)=>(bif (decide (s33.2.2< (s33.1.length:Int))) then ((idx s33.1 s33.2.2).bind fun x54=>(φ x54).bind fun x58=>(bif (!x58) then ((idx s33.1 s33.2.1).bind fun x63=>some ((s33.1.set (Int.toNat s33.2.1) x54),(IntKind.wrap .i64 (s33.2.1+1)))) else (some (s33.1,s33.2.1))).bind fun s61=>some (.nx (s61.1,s61.2,(IntKind.wrap .i64 (s33.2.2+1))))) else (some (.br (s33.1,s33.2.1,s33.2.2))):Option (Fl ((List α)×Int×Int) Empty)))
   (fun s=>∃i j:Nat,s.2.1= ((i:Nat):Int)/\s.2.2= ((j:Nat):Int)/\i<j/\j<=l.length/\s.1.length=l.length/\s.1.take i= (l.take j).filter (fun x=> !p x)/\∀m,j<=m->s.1[m]? =l[m]?)
   (fun s=>l.length - s.2.2.toNat) (fun s=>∃i:Nat,s.2.1= ((i:Nat):Int)/\i<=l.length/\s.1.length=l.length/\s.1.take i=l.filter (fun x=> !p x)) (fun _=>True) (fun s ⟨i,j,e1,e2,hij,hj,hlen,ht,hd⟩=>by
    obtain⟨s,a,b⟩:=s
    dsimp only at e1 e2 hlen ht hd ⊢
    subst e1;subst e2
    by_cases hlt:j<l.length
    ·rw [cE (by rw [hlen];omega),aR]
     have hx:s[j]? =some l[j]:=by rw [hd j (bM _)];exact aJ hlt
     have w1:IntKind.wrap .i64 (((j:Nat):Int)+1)= ((j+1:Nat):Int):=by rw [fB (by omega) (by omega)];omega
     have w2:IntKind.wrap .i64 (((i:Nat):Int)+1)= ((i+1:Nat):Int):=by rw [fB (by omega) (by omega)];omega
     have hs2:l.take (j+1)=l.take j++[l[j]]:=eM hlt
     rw [dD hx,aB,hφ _ (cP hlt),aB,w1]
     cases hp:p l[j] with
     | true=>
      refine⟨.nx (s,((i:Nat):Int),((j+1:Nat):Int)),by rw [lE,aS,aB],⟨i,j+1,rfl,rfl,by omega,by omega,hlen,?_,fun m hm=>hd m (by omega)⟩,?_⟩
      ·rw [hs2,gS,ht];simp [hp]
      ·simp only [bY];omega
     | false=>
      refine⟨.nx (s.set i l[j],((i+1:Nat):Int),((j+1:Nat):Int)),by rw [lF,aR,jE _ _ (by omega),aB,bY,w2,aB],⟨i+1,j+1,rfl,rfl,by omega,by omega,by simp [hlen],?_,fun m hm=>?_⟩,?_⟩
      ·rw [hs2,gS,<-ht]
       have: (s.set i l[j]).take (i+1)=s.take i++[l[j]]:=by
        rw [eM (by simp;omega),List.take_set_of_le (bM _)];simp
       rw [this];simp [hp]
      ·rw [fA,aD (by omega)];exact hd m (by omega)
      ·simp only [bY];omega
    ·rw [bG (by rw [hlen];omega),aS]
     have hje:j=l.length:=by omega
     subst hje
     rw [eD] at ht
     exact⟨.br (s,((i:Nat):Int),((l.length:Nat):Int)),rfl,i,rfl,by omega,hlen,ht⟩)
   N (l,((k:Nat):Int),((k+1:Nat):Int)) ⟨k,k+1,rfl,rfl,by omega,by omega,rfl,by rw [hst,gS,hpre];simp [h3],fun _ _=>rfl⟩ (by simp only [bY];omega)
  rw [a1,aB]
  cases o with
  | rt r=>exact r.elim
  | go s=>
   obtain⟨i,e1,hi,hlen,ht⟩:=a2
   obtain⟨s,a,b⟩:=s
   dsimp only at e1 hlen ht
   subst e1
   simp only [Fo.cs]
   rw [uH _ _ (by omega),aB,bY,uG _ _ (by simp;omega),aB,List.take_append_of_le_length (by simp;omega),List.take_take,Nat.min_self,ht]
end
section
variable {κ ν:Type} [DecidableEq κ]
theorem iK (m:List (κ×ν)) (k k':κ) (x z:ν):dH (nT m k x) k' z=if k'=k then x else dH m k' z:=by
 induction m with
 | nil=>unfold nT dH;by_cases h:k'=k <;> simp [h]
 | cons p m ih=>
  unfold nT
  by_cases h:k=p.1
  ·rw [aC h]
   by_cases h':k'=k
   ·subst h';simp [dH]
   ·simp only [dH,List.find?_cons,aD h',bG h']
    rw [bG (fun e=>h' (e.trans h.symm))]
  ·rw [aD h]
   by_cases h':k'=p.1
   ·have:k'≠k:=fun e=>h (e.symm.trans h')
    simp only [dH,List.find?_cons,cE h',aD this]
   ·unfold dH at ih ⊢
    simp only [List.find?_cons,bG h']
    exact ih
theorem kg (m:List (κ×ν)) (k k':κ) (x:ν):gK (nT m k x) k'= (decide (k'=k)||gK m k'):=by
 induction m with
 | nil=>unfold nT gK;simp
 | cons p m ih=>
  unfold nT
  by_cases h:k=p.1
  ·rw [aC h]
   by_cases h':k'=k
   ·simp [gK,h']
   ·simp only [gK,List.any_cons,bG h',Bool.false_or]
    rw [bG (fun e=>h' (e.trans h.symm)),Bool.false_or]
  ·rw [aD h]
   unfold gK at ih ⊢
   simp only [List.any_cons]
   rw [ih]
   cases decide (k'=p.1) <;> cases decide (k'=k) <;> simp
end
end Go.Gk
namespace Go.Gk
open Go
section
variable {N:Nat}
theorem x5 (l:List Int) (a b:Nat) (h:a+b<l.length):CC l ((a:Nat):Int) ((b:Nat):Int)=some l[a+b]:=by
 unfold CC
 rw [aC (by omega),show ((a:Nat):Int)+ ((b:Nat):Int)= ((a+b:Nat):Int) by omega,jE _ _ h]
theorem lP.Gc {l:List Int} {a:Int} (h:lP l) (hl: ∀c∈l,c<a):lP (l++[a]):=by
 unfold lP
 rw [List.pairwise_append]
 exact⟨h,List.pairwise_singleton _ _,fun c hc d hd=>by simp at hd;subst hd;exact hl c hc⟩
theorem lP.last {l:List Int} {a:Int} (h:lP l) (hl:l.getLast? =some a): ∀c∈l,c<=a:=by
 intro c hc
 have hs:=qw hl
 rw [hs] at h hc
 rcases cS.1 hc with h1 | h1
 ·have:=(List.pairwise_append.1 h).2.2 c h1 a (by simp);omega
 ·simp at h1;omega
theorem AD {l:List Int} (hs:l.Pairwise (fun x y=>x<=y)) (hl:l.length<=4611686018427387000) (hN:l.length<N):
  Ok (fT N l) (fun m=>lP m/\∀c,c∈m↔c∈l):=by
 unfold fT
 refine Ok.bif (fun h2=>Ok.ret ⟨?_,fun c=>Iff.rfl⟩) (fun h2=>?_)
 ·have h2:=of_decide_eq_true h2
  match l,h2 with
  | [],_=>exact kR
  | [a],_=>exact List.pairwise_singleton _ _
  | a::b::l,h2=>simp at h2;omega
 ·have h2:=of_decide_eq_false h2
  have le: ∀(i j:Nat) (x y:Int),i<j->l[i]? =some x->l[j]? =some y->x<=y:=fun i j x y hij hx hy=>by
   have:=mQ.1 hs i j (bC.1 hx).1 (bC.1 hy).1 hij
   rw [(bC.1 hx).2,(bC.1 hy).2] at this;exact this
  refine Ok.bind (Ok.nD (Go:=fun _=>lP l) (Rt:=fun m=>lP m/\∀c,c∈m↔c∈l) (fun s=>∃k:Nat,s= ((k:Nat):Int)/\1<=k/\k<=l.length/\lP (l.take k)) (fun s=>l.length - s.toNat) ?_ ⟨1,rfl,bM _,by omega,?_⟩ (by simp;omega)) ?_
  ·rintro s ⟨k,rfl,hk1,hkl,hinc⟩
   refine Ok.bif (fun h=>?_) (fun h=>Ok.br ?_)
   ·have hk:k<l.length:=by have:=of_decide_eq_true h;omega
    refine Ok.idx hk ?_
    rw [lW hk1 (by omega)]
    refine Ok.idx (by omega) ?_
    refine Ok.bif (fun he=>?_) (fun he=>?_)
    ·have he:l[k]=l[k - 1]:=by simpa using he
     refine Ok.eq (uH l k hkl) ?_
     refine Ok.bind (Ok.nD (Go:=fun s=>∃i:Nat,s.2.1= ((i:Nat):Int)/\i<=l.length/\s.1.length=l.length/\lP (s.1.take i)/\∀c,c∈s.1.take i↔c∈l) (Rt:=fun _=>True)
      (fun s=>∃i j:Nat,s.2.1= ((i:Nat):Int)/\s.2.2= ((j:Nat):Int)/\1<=j/\k+j<=l.length/\i<=k+j - 1/\s.1.length=l.length/\lP (s.1.take i)/\(s.1.take i).getLast? =l[k+j - 1]? /\
       (∀c,c∈s.1.take i↔c∈l.take (k+j))/\∀m,k+j - 1<=m->s.1[m]? =l[m]?) (fun s=>l.length - s.2.2.toNat) ?_ ?_ (by simp;omega)) ?_
     ·rintro⟨u,a,b⟩ ⟨i,j,e1,e2,hj,hjl,hij,hlen,hi,hlast,hmem,hrest⟩
      dsimp only at e1 e2 hlen hi hlast hmem hrest ⊢
      subst e1;subst e2
      rw [bY]
      refine Ok.bif (fun h=>?_) (fun h=>Ok.br ?_)
      ·have hlt:k+j<l.length:=by have:=of_decide_eq_true h;omega
       have hx:u[k+j]'(by omega)=l[k+j]:=by have:=hrest (k+j) (by omega);rw [aJ (by omega),aJ hlt] at this;injection this
       have hy:u[k+ (j - 1)]'(by omega)=l[k+ (j - 1)]:=by have:=hrest (k+ (j - 1)) (by omega);rw [aJ (by omega),aJ (by omega)] at this;injection this
       refine Ok.eq (x5 u k j (by omega)) ?_
       rw [lW hj (by omega)]
       refine Ok.eq (x5 u k (j - 1) (by omega)) ?_
       rw [hx,hy]
       have hts:l.take (k+j+1)=l.take (k+j)++[l[k+j]]:=eM hlt
       have hlast': (u.take i).getLast? =some l[k+ (j - 1)]:=by rw [hlast,show k+j - 1=k+ (j - 1) by omega,aJ (by omega)]
       have hxy:l[k+ (j - 1)]<=l[k+j]:=le (k+ (j - 1)) (k+j) _ _ (by omega) (aJ _) (aJ _)
       refine Ok.bind (P:=fun s'=>s'.1.length=l.length/\∃i':Nat,s'.2= ((i':Nat):Int)/\i'<=k+j/\lP (s'.1.take i')/\(s'.1.take i').getLast? =l[k+j]? /\(∀c,c∈s'.1.take i'↔c∈l.take (k+j+1))/\∀m,k+j<=m->s'.1[m]? =l[m]?) ?_ ?_
       ·refine Ok.bif (fun hne=>?_) (fun hne=>Ok.ret ?_)
        ·have hne:l[k+j]≠l[k+ (j - 1)]:=by simpa using hne
         refine Ok.eq (x5 u k j (by omega)) ?_
         rw [hx]
         refine Ok.idx (by omega) (Ok.ret ⟨by simp [hlen],i+1,?_,by omega,?_⟩)
         ·rw [gx (by omega)]
         ·dsimp only
          rw [bY]
          have ht: (u.set i l[k+j]).take (i+1)=u.take i++[l[k+j]]:=by
           rw [eM (by simp;omega),List.take_set_of_le (bM _)];simp
          rw [ht]
          refine⟨hi.Gc fun c hc=>?_,by simp [aJ hlt],fun c=>?_,fun m hm=>?_⟩
          ·have:=hi.last hlast' c hc;omega
          ·rw [hts,cS,cS,hmem]
          ·rw [fA,aD (by omega)];exact hrest m (by omega)
        ·have he:l[k+j]=l[k+ (j - 1)]:=by simpa using hne
         refine⟨hlen,i,rfl,by omega,hi,?_,fun c=>?_,fun m hm=>hrest m (by omega)⟩
         ·dsimp only;rw [hlast',aJ hlt,he]
         ·rw [hts,cS,<-hmem]
          constructor
          ·exact .inl
          ·rintro(h | h)
           ·exact h
           ·simp at h;subst h
            rw [he];exact List.mem_of_getLast? hlast'
       ·rintro⟨v,a⟩ ⟨g1,i',g2,g3,g4,g5,g6,g7⟩
        dsimp only at g1 g2 g4 g5 g6 g7 ⊢
        refine Ok.nx ⟨⟨i',j+1,g2,?_,by omega,by omega,by omega,g1,g4,?_,g6,fun m hm=>g7 m (by omega)⟩,?_⟩
        ·rw [gx (by omega)]
        ·rw [show k+ (j+1) - 1=k+j by omega];exact g5
        ·rw [gx (by omega)];simp only [bY];omega
      ·have hge:k+j=l.length:=by have:=of_decide_eq_false h;omega
       refine⟨i,rfl,by omega,hlen,hi,fun c=>?_⟩
       rw [hmem,hge,eD]
     ·refine⟨k,1,rfl,rfl,bM _,by omega,by omega,rfl,hinc,?_,fun c=>?_,fun m _=>rfl⟩
      ·dsimp only
       rw [show k+1 - 1=k by omega,aJ hk,he,List.getLast?_eq_getElem?,dE,Nat.min_eq_left hkl,List.getElem?_take_of_lt (by omega),aJ (by omega)]
      ·dsimp only
       rw [eM hk,cS]
       constructor
       ·exact .inl
       ·rintro(h | h)
        ·exact h
        ·simp at h;subst h;rw [he]
         refine gH (i:=k - 1) ?_
         rw [List.getElem?_take_of_lt (by omega),aJ (by omega)]
     ·rintro o ho
      refine Ok.cs ho ?_ (fun r=>r.elim)
      rintro⟨u,a,b⟩ ⟨i,e1,hi,hlen,hinc',hmem⟩
      dsimp only at e1 hlen hinc' hmem ⊢
      subst e1
      refine Ok.eq (uH u i (by omega)) ?_
      rw [bY]
      refine Ok.eq (uG _ i (by simp;omega)) (Ok.rt ?_)
      rw [List.take_append_of_le_length (by simp;omega),List.take_take,Nat.min_self]
      exact⟨hinc',hmem⟩
    ·have he:l[k]≠l[k - 1]:=by simpa using he
     refine Ok.nx ⟨⟨k+1,by rw [gx (by omega)],by omega,by omega,?_⟩,by rw [gx (by omega)];simp only [bY];omega⟩
     rw [eM hk]
     refine hinc.Gc fun c hc=>?_
     have hlast: (l.take k).getLast? =some l[k - 1]:=by
      rw [List.getLast?_eq_getElem?,dE,Nat.min_eq_left hkl,List.getElem?_take_of_lt (by omega),aJ (by omega)]
     have h3:=hinc.last hlast c hc
     have h4:=le (k - 1) k _ _ (by omega) (aJ (by omega:k - 1<l.length)) (aJ hk)
     omega
   ·have hge:k=l.length:=by have:=of_decide_eq_false h;omega
    subst hge;rw [eD] at hinc;exact hinc
  ·match l,h2 with
   | [],h2=>simp at h2
   | a::l,_=>exact List.pairwise_singleton _ _
  ·rintro o ho
   exact Ok.cs ho (fun s h=>Ok.ret ⟨h,fun c=>Iff.rfl⟩) (fun r h=>Ok.ret h)
def pN (l:List aI):List Int:=l.flatMap fun r=>[r.X0,r.X1]
def ly (l:List aI):List Int:=l.flatMap fun r=>[r.Y0,r.Y1]
theorem pO {l:List aI} {c:Int}:c∈pN l↔∃r∈l,c=r.X0\/c=r.X1:=by unfold pN;simp [List.mem_flatMap]
theorem kO {l:List aI} {c:Int}:c∈ly l↔∃r∈l,c=r.Y0\/c=r.Y1:=by unfold ly;simp [List.mem_flatMap]
theorem lz (l:List aI): (pN l).length=2*l.length:=by
 induction l with
 | nil=>rfl
 | cons r l ih=>unfold pN at *;simp [List.flatMap_cons,ih];omega
theorem jO (l:List aI): (ly l).length=2*l.length:=by
 induction l with
 | nil=>rfl
 | cons r l ih=>unfold ly at *;simp [List.flatMap_cons,ih];omega
def tW (X Y:List Int) (s:List Bd):Prop:=∀b∈s,b.y0∈Y/\b.y1∈Y/\∀c∈b.xs,c∈X
theorem tW.push {X Y:List Int} {s:List Bd} {b:Bd} (h:tW X Y s) (h0:b.y0∈Y) (h1:b.y1∈Y) (h2: ∀c∈b.xs,c∈X):tW X Y (lX s b):=by
 intro c hc
 unfold lX at hc
 split at hc
 ·exact h c hc
 ·split at hc
  ·rename_i d hd
   have hdm:d∈s:=List.mem_of_getLast? hd
   split at hc
   ·rcases cS.1 hc with hc | hc
    ·exact h c (List.dropLast_subset _ hc)
    ·simp at hc;subst hc;exact⟨(h d hdm).1,h1,(h d hdm).2.2⟩
   ·rcases cS.1 hc with hc | hc
    ·exact h c hc
    ·simp at hc;subst hc;exact⟨h0,h1,h2⟩
  ·simp at hc;subst hc;exact⟨h0,h1,h2⟩
theorem lP.nodup {l:List Int} (h:lP l):l.Nodup:=List.Pairwise.imp (fun h=>by omega) h
theorem tW.row {X Y:List Int} {s:List Bd} (h:tW X Y s) (hc:eK s) {b:Bd} (hb:b∈s):b.xs.length<=X.length:=eO (hc.each b hb).2.2.1.nodup (h b hb).2.2
theorem tW.len {X Y:List Int} {s:List Bd} (h:tW X Y s) (hc:eK s):s.length<=Y.length:=by
 have hn: (s.map Bd.y0).Nodup:=by
  unfold List.Nodup
  rw [List.pairwise_map]
  refine List.Pairwise.imp_of_mem (fun{a b} ha hb hab=>?_) hc.ord
  have:=(hc.each a ha).1
  have:=hab.1
  omega
 have:=eO hn (m:=Y) (fun x hx=>by
  obtain⟨b,hb,rfl⟩:=cT.1 hx
  exact(h b hb).1)
 rwa [eY] at this
theorem tW.mono {X Y X' Y':List Int} {s:List Bd} (h:tW X Y s) (hx: ∀c∈X,c∈X') (hy: ∀c∈Y,c∈Y'):tW X' Y' s:=fun b hb=>⟨hy _ (h b hb).1,hy _ (h b hb).2.1,fun c hc=>hx c ((h b hb).2.2 c hc)⟩
theorem lP.lt {l:List Int} (h:lP l) {i j:Nat} {x y:Int} (hij:i<j) (hx:l[i]? =some x) (hy:l[j]? =some y):x<y:=by
 have:=mQ.1 h i j (bC.1 hx).1 (bC.1 hy).1 hij
 rw [(bC.1 hx).2,(bC.1 hy).2] at this;exact this
theorem lP.next {l:List Int} (h:lP l) {k:Nat} {x y c:Int} (hx:l[k]? =some x) (hy:l[k+1]? =some y) (hc:c∈l) (hxc:x<c):y<=c:=by
 obtain⟨j,hj⟩:=gk hc
 rcases Nat.lt_trichotomy j (k+1) with h1 | h1 | h1
 ·exfalso
  by_cases e:j=k
  ·subst e;rw [hx] at hj;injection hj with hj;omega
  ·have:=h.lt (show j<k by omega) hj hx;omega
 ·subst h1;rw [hy] at hj;injection hj with hj;omega
 ·have:=h.lt h1 hy hj;omega
theorem tF {l:List aI} {φ:aI->Option Bool} (p:aI->Bool) (hφ: ∀x∈l,φ x=some (p x)) (hl:l.length<=4611686018427387000) (hN:l.length<N):gr N l φ=some (l.filter (fun x=> !p x)):=
 Gb (z:=(⟨0,0,0,0⟩:aI)) p hφ hl hN
theorem yT {l:List aI} (hl:l.length<=268435456):g9 N l=some l:=by
 unfold g9;rw [fF (by simp;omega),aB,List.nil_append]
structure KT (l m:List aI) (ys:List Int) (k:Nat) (out:List aA) (now:List aI) (nx:Nat):Prop where
 can:eK (out.map bR)
 top: ∀c∈out,∀y,ys[k]? =some y->c.Y1<=y
 cover: ∀x y,u4 (out.map bR) x y= (wv l x y&&decide (∀a,ys[k]? =some a->y<a))
 lim:tW (pN l) (ly l) (out.map bR)
 MP: ∀r∈now,r∈m.take nx
 MQ: ∀r∈m.take nx,∀y,ys[k]? =some y->y<r.Y1->r∈now
 len:now.length<=nx
 Mn:nx<=m.length
 rest: ∀(j:Nat) r y,nx<=j->m[j]? =some r->ys[k]? =some y->y<=r.Y0
 low: ∀r∈now,∀y,ys[k]? =some y->r.Y0<=y
structure oY (l:List aI) (s:List aA):Prop where
 can:eK (s.map bR)
 cover: ∀x y,u4 (s.map bR) x y=wv l x y
 lim:tW (pN l) (ly l) (s.map bR)
theorem qx {l:List aI} (hl:l.length<=134217728) (hok: ∀r∈l,Cs r) (hN:4294967296<=N):Ok (fY N l) (oY l):=by
 unfold fY
 refine Ok.eq (yT (by omega)) ?_
 obtain⟨m,h1,h2,h3⟩:=xU (φ:=iM N) (l:=l) (fun a b=>a.Y0 - b.Y0) (fun a ha b hb=>by
  unfold iM;rw [wrap_small (hok a ha).s3 (hok b hb).s3]) (fun a _=>by omega) (fun a _ b _ c _ h1 h2=>by omega) (fun a _ b _ c _ h1 h2=>by omega) (by omega)
 refine Ok.eq h1 ?_
 have hml:m.length=l.length:=h2.length_eq
 have hmem: ∀r,r∈m↔r∈l:=fun r=>h2.mem_iff
 refine Ok.bind (Ok.iL (fun k s=>s=ly (m.take k)) (by omega) rfl (fun k s hk e=>?_)) ?_
 ·subst e
  refine Ok.idx hk (Ok.app ?_ (Ok.ret ?_))
  ·rw [jO];simp;omega
  ·rw [eM hk]
   unfold ly;rw [List.flatMap_append];rfl
 rintro s rfl
 rw [eD]
 have hgs:q9 (ly m)=some ((ly m).mergeSort (fun x y=>decide (x<=y))):=by unfold q9;rw [aC (by rw [jO];omega)]
 refine Ok.eq hgs ?_
 have hsp: ((ly m).mergeSort (fun x y=>decide (x<=y))).Pairwise (fun x y=>x<=y):=by
  have:=List.pairwise_mergeSort (le:=fun(x y:Int)=>decide (x<=y)) (fun a b c h1 h2=>by simp at *;omega) (fun a b=>by simp;omega) (ly m)
  exact List.Pairwise.imp (fun h=>by simpa using h) this
 have hsm: ∀c,c∈(ly m).mergeSort (fun x y=>decide (x<=y))↔c∈ly m:=fun c=>List.mem_mergeSort
 have hsl: ((ly m).mergeSort (fun x y=>decide (x<=y))).length=2*m.length:=by rw [List.length_mergeSort,jO]
 generalize (ly m).mergeSort (fun x y=>decide (x<=y))=sy at hsp hsm hsl
 refine Ok.bind (AD (N:=N) hsp (by omega) (by omega)) ?_
 rintro ys ⟨hy,hym⟩
 have hyl:ys.length<=2*m.length:=by
  have:=eO hy.nodup (m:=sy) (fun c hc=>(hym c).1 hc)
  omega
 have y0m: ∀r∈m,r.Y0∈ys:=fun r hr=>(hym _).2 ((hsm _).2 (kO.2 ⟨r,hr, .inl rfl⟩))
 have y1m: ∀r∈m,r.Y1∈ys:=fun r hr=>(hym _).2 ((hsm _).2 (kO.2 ⟨r,hr, .inr rfl⟩))
 have yml: ∀c∈ys,c∈ly l:=fun c hc=>by
  obtain⟨r,hr,h⟩:=kO.1 ((hsm _).1 ((hym _).1 hc))
  exact kO.2 ⟨r,(hmem r).1 hr,h⟩
 refine Ok.bind (Ok.nD (Go:=fun s=>oY l s.1) (Rt:=fun _=>True) (fun s=>∃k nx:Nat,s.2.2.2= ((k:Nat):Int)/\s.2.2.1= ((nx:Nat):Int)/\(k<ys.length\/k=0)/\KT l m ys k s.1 s.2.1 nx) (fun s=>ys.length - s.2.2.2.toNat) ?_ ?_ (by simp;omega)) ?_
 ·rintro⟨out,now,a,b⟩ ⟨k,nx,e1,e2,hk,I⟩
  dsimp only at e1 e2 I ⊢
  subst e1;subst e2
  rw [gx (by omega)]
  refine Ok.bif (fun h=>?_) (fun h=>Ok.br ?_)
  ·have hk1:k+1<ys.length:=by have:=of_decide_eq_true h;omega
   have hyk:ys[k]? =some ys[k]:=aJ _
   have hyk1:ys[k+1]? =some ys[k+1]:=aJ hk1
   have hlt:=hy.lt (Nat.lt_succ_self k) hyk hyk1
   have hcov:=I.cover
   simp only [hyk,Option.some.injEq,forall_eq'] at hcov
   refine Ok.eq (tF (fun r=>decide (r.Y1<=ys[k])) (fun r _=>by unfold mb;rw [jE ys k (by omega),aB]) (by have:=I.len;have:=I.Mn;omega) (by have:=I.len;have:=I.Mn;omega)) ?_
   have hfl:=jC (fun r:aI=> !decide (r.Y1<=ys[k])) now
   have hIl:=I.len
   have hIn:=I.Mn
   refine Ok.bind (Ok.nD (Go:=fun s=>∃nx':Nat,s.2= ((nx':Nat):Int)/\nx'<=m.length/\s.1.length<=nx'/\(∀r∈s.1,r∈m.take nx')/\(∀r∈m.take nx',ys[k]<r.Y1->r∈s.1)/\(∀r∈s.1,r.Y0<=ys[k]/\ys[k]<r.Y1)/\(∀(j:Nat) r,nx'<=j->m[j]? =some r->ys[k]<r.Y0)) (Rt:=fun _=>True)
    (fun s=>∃nx':Nat,s.2= ((nx':Nat):Int)/\nx<=nx'/\nx'<=m.length/\s.1.length<=nx'/\(∀r∈s.1,r∈m.take nx')/\(∀r∈m.take nx',ys[k]<r.Y1->r∈s.1)/\(∀r∈s.1,r.Y0<=ys[k]/\ys[k]<r.Y1)) (fun s=>m.length - s.2.toNat) ?_ ?_ (by simp;omega)) ?_
   ·rintro⟨nw,b⟩ ⟨nx',e1,g0,g1,g2,g3,g4,g5⟩
    dsimp only at e1 g2 g3 g4 g5 ⊢
    subst e1
    refine Ok.bind (P:=fun b=>b=true↔∃h:nx'<m.length,m[nx'].Y0<=ys[k]) ?_ ?_
    ·refine Ok.bif (fun h=>?_) (fun h=>Ok.ret ?_)
     ·have hlt:nx'<m.length:=by have:=of_decide_eq_true h;omega
      refine Ok.idx hlt (Ok.idx (by omega) (Ok.ret ?_))
      rw [bP];exact⟨fun h=>⟨hlt,h⟩,fun⟨_,h⟩=>h⟩
     ·have:=of_decide_eq_false h
      constructor
      ·intro h;cases h
      ·rintro⟨h,_⟩;omega
    ·intro bb hbb
     refine Ok.bif (fun h=>?_) (fun h=>Ok.br ?_)
     ·obtain⟨hlt,h0⟩:=hbb.1 h
      have hts:m.take (nx'+1)=m.take nx'++[m[nx']]:=eM hlt
      refine Ok.idx hlt (Ok.app (by simp;omega) (Ok.nx ⟨⟨nx'+1,by rw [gx (by omega)],by omega,by omega,by simp;omega,fun r hr=>?_,fun r hr hr2=>?_,fun r hr=>?_⟩,by rw [gx (by omega)];simp only [bY];omega⟩))
      ·rw [hts]
       rcases cS.1 hr with h | h
       ·exact List.mem_append_left _ (g3 r h)
       ·exact List.mem_append_right _ h
      ·rw [hts] at hr
       rcases cS.1 hr with h | h
       ·exact List.mem_append_left _ (g4 r h hr2)
       ·exact List.mem_append_right _ h
      ·rcases cS.1 hr with h | h
       ·exact g5 r h
       ·simp at h;subst h
        refine⟨h0,?_⟩
        have:=(hok m[nx'] ((hmem _).1 (cP hlt))).y
        have:=I.rest nx' _ ys[k] g0 (aJ hlt) hyk
        omega
     ·refine⟨nx',rfl,g1,g2,g3,g4,g5,fun j r hj hr=>?_⟩
      have hjl:=(bC.1 hr).1
      have hlt:nx'<m.length:=by omega
      have h0: ¬m[nx'].Y0<=ys[k]:=fun h0=>by rw [hbb.2 ⟨hlt,h0⟩] at h;cases h
      by_cases e:nx'=j
      ·subst e;rw [aJ hlt] at hr;injection hr with hr;subst hr;omega
      ·have:=mQ.1 h3 nx' j hlt hjl (by omega)
       have hr':=(bC.1 hr).2
       rw [hr'] at this;omega
   ·refine⟨nx,rfl,bM _,hIn,by dsimp only;omega,fun r hr=>I.MP r (iA.1 hr).1,fun r hr h=>iA.2 ⟨I.MQ r hr ys[k] hyk h,by simpa using h⟩,fun r hr=>?_⟩
    have hr:=iA.1 hr
    have hr2:ys[k]<r.Y1:=by simpa using hr.2
    exact⟨I.low r hr.1 ys[k] hyk,hr2⟩
   ·rintro o ho
    refine Ok.cs ho ?_ (fun r=>r.elim)
    rintro⟨nw,b⟩ ⟨nx',e1,g1,g2,g3,g4,g5,g6⟩
    dsimp only at e1 g2 g3 g4 g5 ⊢
    subst e1
    refine Ok.idx (by omega) (Ok.idx hk1 ?_)
    have hnm: ∀r∈nw,r∈l:=fun r hr=>(hmem r).1 (List.take_subset _ _ (g3 r hr))
    obtain⟨row,nw',s1,s2,s3,s4,s5,s6,s7⟩:=AB (N:=N) (l:=nw) (by omega) (fun r hr=>hok r (hnm r hr))
    refine Ok.eq s1 ?_
    have hlimx: ∀c∈row,c∈pN l:=fun c hc=>by
     obtain⟨r,hr,h⟩:=s7 c hc
     exact pO.2 ⟨r,hnm r hr,h⟩
    have hol:out.length<=2*l.length:=by have:=I.lim.len I.can;rw [jO,eY] at this;exact this
    have hox: ∀c∈out,c.Xs.length<=2*l.length:=fun c hc=>by
     have:=I.lim.row I.can (b:=bR c) (cT.2 ⟨c,hc,rfl⟩)
     rw [lz] at this;exact this
    obtain⟨out',p1,p2⟩:=DL (N:=N) (s:=out) (b:=⟨ys[k],ys[k+1],row⟩) (by omega) (fun c hc=>by have:=hox c hc;omega)
    refine Ok.eq p1 ?_
    have htop: ∀c∈out.map bR,c.y1<=(bR ⟨ys[k],ys[k+1],row⟩).y0:=fun c hc=>by
     obtain⟨d,hd,rfl⟩:=cT.1 hc
     exact I.top d hd ys[k] hyk
    have hcan:=vP I.can htop s3 s4
    refine Ok.nx ⟨⟨k+1,nx',rfl,rfl, .inl hk1,⟨by dsimp only;rw [p2];exact hcan,fun c hc y hy1=>?_,fun x y=>?_,?_,fun r hr=>g3 r (s2.subset hr),fun r hr y hy1 h=>?_,by rw [s2.length_eq];exact g2,g1,fun j r y hj hr hy1=>?_,fun r hr y hy1=>?_⟩⟩,by simp only [bY];omega⟩
    ·rw [hyk1] at hy1;injection hy1 with hy1;subst hy1
     have hm':bR c∈lX (out.map bR) (bR ⟨ys[k],ys[k+1],row⟩):=by rw [<-p2];exact cT.2 ⟨c,hc,rfl⟩
     exact vQ htop (by show ys[k]<=ys[k+1];omega) _ hm'
    ·simp only [hyk1,Option.some.injEq,forall_eq']
     unfold u4
     rw [p2,vO htop (fun c hc=>(I.can.each c hc).1) (fun h=>absurd h (by show ¬ys[k+1]<=ys[k];omega))]
     by_cases hyy:ys[k]<=y/\y<ys[k+1]
     ·rw [aC (show (bR ⟨ys[k],ys[k+1],row⟩).y0<=y/\y< (bR ⟨ys[k],ys[k+1],row⟩).y1 from hyy),cE hyy.2,Bool.and_true]
      show mo row x=_
      rw [s5,gC,x3,j5]
      constructor
      ·rintro⟨r,hr,h⟩
       have hrm:=List.take_subset _ _ (g3 r hr)
       have h5:=g5 r hr
       have:=hy.next hyk hyk1 (y1m r hrm) h5.2
       exact⟨r,hnm r hr,h,by omega,by omega⟩
      ·rintro⟨r,hr,h,h7,h8⟩
       have hrm:=(hmem r).2 hr
       have h9:r.Y0<=ys[k]:=by
        by_cases h10:r.Y0<=ys[k]
        ·exact h10
        ·have:=hy.next hyk hyk1 (y0m r hrm) (by omega);omega
       have h11:r∈m.take nx':=by
        obtain⟨j,hj⟩:=gk hrm
        by_cases h12:j<nx'
        ·exact gH (i:=j) (by rw [List.getElem?_take_of_lt h12];exact hj)
        ·have:=g6 j r (by omega) hj;omega
       exact⟨r,g4 r h11 (by omega),h⟩
     ·rw [aD (show ¬((bR ⟨ys[k],ys[k+1],row⟩).y0<=y/\y< (bR ⟨ys[k],ys[k+1],row⟩).y1) from hyy)]
      show u4 (out.map bR) x y=_
      rw [hcov]
      by_cases h1:y<ys[k]
      ·rw [cE h1,cE (show y<ys[k+1] by omega)]
      ·rw [bG h1,bG (show ¬y<ys[k+1] by omega)]
    ·show tW (pN l) (ly l) (out'.map bR)
     rw [p2]
     exact I.lim.push (yml _ (cP _)) (yml _ (cP _)) hlimx
    ·rw [hyk1] at hy1;injection hy1 with hy1;subst hy1
     exact s2.symm.subset (g4 r hr (by omega))
    ·rw [hyk1] at hy1;injection hy1 with hy1;subst hy1
     exact hy.next hyk hyk1 (y0m r (gH hr)) (g6 j r hj hr)
    ·rw [hyk1] at hy1;injection hy1 with hy1;subst hy1
     have:=(g5 r (s2.subset hr)).1;omega
  ·have hge: ¬k+1<ys.length:=by have:=of_decide_eq_false h;omega
   refine⟨I.can,fun x y=>?_,I.lim⟩
   rw [I.cover]
   by_cases hyn:ys= []
   ·have:wv l x y=false:=by
     rw [<-oL,j5]
     rintro⟨r,hr,_⟩
     have:=y0m r ((hmem r).2 hr)
     rw [hyn] at this;cases this
    rw [this];rfl
   ·have hkl:k<ys.length:=by
     rcases hk with h | h
     ·exact h
     ·subst h;exact List.length_pos_iff.2 hyn
    rw [aJ hkl]
    simp only [Option.some.injEq,forall_eq']
    cases hc:wv l x y with
    | false=>rfl
    | true=>
     obtain⟨r,hr,_,h7,h8⟩:=j5.1 hc
     have:=y1m r ((hmem r).2 hr)
     obtain⟨j,hj⟩:=gk this
     have hjl:=(bC.1 hj).1
     have:r.Y1<=ys[k]:=by
      by_cases e:j=k
      ·subst e;rw [aJ hkl] at hj;injection hj with hj;omega
      ·have:=hy.lt (show j<k by omega) hj (aJ hkl);omega
     rw [cE (show y<ys[k] by omega)];rfl
 ·refine⟨0,0,rfl,rfl, .inr rfl,?_⟩
  show KT l m ys 0 [] [] 0
  refine⟨eK.nil,fun c hc=>(by cases hc),fun x y=>?_,fun b hb=>(by cases hb),fun r hr=>(by cases hr),fun r hr=>(by rw [List.take_zero] at hr;cases hr),bM _,mP _,fun j r y _ hr hy0=>?_,fun r hr=>(by cases hr)⟩
  ·show false=_
   symm
   rw [Bool.and_eq_false_iff]
   cases hc:wv l x y with
   | false=>exact .inl rfl
   | true=>
    right
    obtain⟨r,hr,_,h7,h8⟩:=j5.1 hc
    have hr0:=y0m r ((hmem r).2 hr)
    have hpos:0<ys.length:=List.length_pos_of_mem hr0
    rw [decide_eq_false_iff_not]
    intro h
    have h:=h ys[0] (aJ hpos)
    obtain⟨j,hj⟩:=gk hr0
    by_cases e:j=0
    ·subst e;rw [aJ hpos] at hj;injection hj with hj;omega
    ·have:=hy.lt (show 0<j by omega) (aJ hpos) hj;omega
  ·obtain⟨j',hj'⟩:=gk (y0m r (gH hr))
   by_cases e:j'=0
   ·subst e;rw [hy0] at hj';injection hj' with hj';omega
   ·have:=hy.lt (show 0<j' by omega) hy0 hj';omega
 ·rintro o ho
  refine Ok.cs ho (fun s h=>Ok.ret h) (fun r=>r.elim)
end
end Go.Gk
namespace Go.Gk
open Go
section
variable {N:Nat}
def zB:List Int->List (Int×Int)
 | a::b::l=>(a,b)::zB l
 | _=>[]
theorem xc: ∀(xs:List Int),(zB xs).length=xs.length / 2
 | []=>rfl
 | [a]=>by simp [zB]
 | a::b::l=>by unfold zB;rw [fI,xc l];simp only [fI];omega
theorem u6: ∀(xs:List Int) (j:Nat) (h:2*j+1<xs.length),(zB xs)[j]? =some (xs[2*j],xs[2*j+1])
 | [],j,h=>by simp at h
 | [a],j,h=>by simp at h
 | a::b::l,0,h=>rfl
 | a::b::l,j+1,h=>by
  have:=u6 l j (by simp at h;omega)
  unfold zB
  rw [List.getElem?_cons_succ,this]
  have e1: (a::b::l)[2* (j+1)]=l[2*j]'(by simp at h;omega):=by simp [show 2* (j+1)=2*j+1+1 by omega]
  have e2: (a::b::l)[2* (j+1)+1]=l[2*j+1]'(by simp at h;omega):=by simp [show 2* (j+1)+1=2*j+1+1+1 by omega]
  rw [e1,e2]
theorem u7: ∀{xs:List Int},xs.length % 2=0->oX (zB xs)=xs
 | [],_=>rfl
 | [a],h=>by simp at h
 | a::b::l,h=>by unfold zB;rw [mL,u7 (by simp at h;omega)]
theorem HA {xs:List Int} (h:lP xs) (he:xs.length % 2=0) (x:Int):mo xs x=Ez (zB xs) x:=by
 have:=u5 (l:=zB xs) (by rw [u7 he];exact h) x
 rwa [u7 he] at this
theorem AE {xs:List Int}: ∀p∈zB xs,p.1∈xs/\p.2∈xs:=by
 intro p hp
 obtain⟨j,hj⟩:=gk hp
 have hjl:=(bC.1 hj).1
 rw [xc] at hjl
 rw [u6 xs j (by omega)] at hj
 injection hj with hj;subst hj
 exact⟨cP _,cP _⟩
theorem CW {xs:List Int} (h:lP xs): ∀p∈zB xs,p.1<p.2:=by
 intro p hp
 obtain⟨j,hj⟩:=gk hp
 have hjl:=(bC.1 hj).1
 rw [xc] at hjl
 rw [u6 xs j (by omega)] at hj
 injection hj with hj;subst hj
 exact h.lt (show 2*j<2*j+1 by omega) (aJ _) (aJ _)
def lY (b:aA):List aI:=(zB b.Xs).map fun p=>⟨p.1,b.Y0,p.2,b.Y1⟩
def aN (s:List aA):List aI:=s.flatMap lY
theorem lZ (b:aA) (s:List aA):aN (b::s)=lY b++aN s:=rfl
theorem k8 (b:aA): (lY b).length=b.Xs.length / 2:=by unfold lY;rw [eY,xc]
theorem lA (s t:List aA):aN (s++t)=aN s++aN t:=List.flatMap_append
theorem vS (s:List aA) (k:Nat): (aN (s.take k)).length<=(aN s).length:=by
 conv=>rhs;rw [<-List.take_append_drop k s,lA,dR]
 omega
theorem x6 {s:List aA} {A B:Nat} (h1:s.length<=A) (h2: ∀b∈s,b.Xs.length<=B): (aN s).length<=A*B:=by
 induction s generalizing A with
 | nil=>simp [aN]
 | cons b s ih=>
  rw [lZ,dR,k8]
  simp at h1
  obtain⟨A',rfl⟩: ∃A',A=A'+1:=⟨A - 1,by omega⟩
  have:=ih (A:=A') (by omega) (fun c hc=>h2 c (jh _ hc))
  have:=h2 b (by simp)
  rw [Nat.add_mul];omega
theorem x8 {s:List aA} (he: ∀b∈s,b.Xs.length % 2=0) (h1:s.length<=1099511627776) (h2: ∀b∈s,b.Xs.length<=1099511627776/\b.Xs.length<N) (h3: (aN s).length<=1099511627776):iq N s=some (aN s):=by
 refine Ok.get ?_
 unfold iq
 refine Ok.bind (Ok.iL (fun k t=>t=aN (s.take k)) (by omega) rfl (fun k t hk e=>?_)) (fun t e=>Ok.ret (by rw [e,eD]))
 subst e
 refine Ok.idx hk ?_
 have hm:=cP hk
 generalize hb:s[k]=b at hm ⊢
 have heb:=he b hm
 have hbl:=h2 b hm
 have hts:aN (s.take (k+1))=aN (s.take k)++lY b:=by
  rw [eM hk,lA,hb];simp [aN]
 have hle:=vS s (k+1)
 rw [hts,dR,k8] at hle
 refine Ok.bind (Ok.nD (Go:=fun s'=>s'.1=aN (s.take (k+1))) (Rt:=fun _=>True) (fun s'=>∃j:Nat,s'.2= ((2*j:Nat):Int)/\2*j<=b.Xs.length/\s'.1=aN (s.take k)++(lY b).take j) (fun s'=>b.Xs.length - s'.2.toNat) ?_ ⟨0,rfl,by omega,by simp⟩ (by simp;omega)) ?_
 ·rintro⟨acc,i⟩ ⟨j,e1,hj,e2⟩
  dsimp only at e1 e2 ⊢
  subst e1;subst e2
  refine Ok.bif (fun h=>?_) (fun h=>Ok.br ?_)
  ·have hlt:2*j+1<b.Xs.length:=by have:=of_decide_eq_true h;omega
   refine Ok.idx (by omega) ?_
   rw [gx (by omega)]
   refine Ok.idx hlt (Ok.app ?_ (Ok.nx ⟨⟨j+1,?_,by omega,?_⟩,?_⟩))
   ·simp;rw [k8];omega
   ·rw [zA (by omega)];congr 1
   ·rw [jg]
    congr 1
    have hg: (lY b)[j]? =some ⟨b.Xs[2*j],b.Y0,b.Xs[2*j+1],b.Y1⟩:=by
     unfold lY;rw [fP,u6 _ _ hlt];rfl
    have hjl:=(bC.1 hg).1
    rw [eM hjl,(bC.1 hg).2]
   ·rw [zA (by omega)];simp only [bY];omega
  ·have hge:2*j=b.Xs.length:=by have:=of_decide_eq_false h;omega
   show aN (s.take k)++(lY b).take j=_
   rw [hts,oM (l:=lY b) (by rw [k8];omega)]
 ·rintro o ho
  exact Ok.cs ho (fun s' h=>Ok.ret h) (fun r=>r.elim)
theorem HB {s:List aA} (h1:s.length<=1099511627776) (h2: ∀b∈s,b.Xs.length<=1099511627776) (h3: (aN s).length<=1099511627776):kC N s=some (((aN s).length:Nat):Int):=by
 refine Ok.get ?_
 unfold kC
 refine Ok.bind (Ok.iL (fun k t=>t= (((aN (s.take k)).length:Nat):Int)) (by omega) rfl (fun k t hk e=>?_)) (fun t e=>Ok.ret (by rw [e,eD]))
 subst e
 refine Ok.idx hk (Ok.ret ?_)
 have hm:=cP hk
 have hbl:=h2 _ hm
 have hts:aN (s.take (k+1))=aN (s.take k)++lY s[k]:=by
  rw [eM hk,lA];simp [aN]
 have hle:=vS s (k+1)
 rw [hts,dR,k8] at hle
 have e:Int.tdiv ((s[k].Xs.length:Nat):Int) 2= ((s[k].Xs.length / 2:Nat):Int):=by
  rw [show (2:Int)= ((2:Nat):Int) by rfl,<-Int.ofNat_tdiv]
 rw [e,BV (by omega),wrap_add (by omega),hts,dR,k8]
theorem CX (l m:List aI) (x y:Int):wv (l++m) x y= (wv l x y||wv m x y):=List.any_append
theorem Gd {b:aA} (h:lP b.Xs) (he:b.Xs.length % 2=0) (x y:Int):wv (lY b) x y= (mo b.Xs x&&(decide (b.Y0<=y)&&decide (y<b.Y1))):=by
 rw [HA h he,gC,j5,bT,x4,bT,bP,bP]
 unfold lY
 constructor
 ·rintro⟨r,hr,h1,h2⟩
  obtain⟨p,hp,rfl⟩:=cT.1 hr
  exact⟨⟨p,hp,h1⟩,h2⟩
 ·rintro⟨⟨p,hp,h1⟩,h2⟩
  exact⟨_,cT.2 ⟨p,hp,rfl⟩,h1,h2⟩
theorem sA: ∀{s:List aA},eK (s.map bR)->∀x y,wv (aN s) x y=u4 (s.map bR) x y
 | [],_,x,y=>rfl
 | b::s,h,x,y=>by
  rw [lZ,CX,sA h.tail x y]
  have hb:=h.each (bR b) (by simp)
  rw [Gd hb.2.2.1 hb.2.2.2]
  unfold u4
  rw [dV,kM]
  by_cases hy:b.Y0<=y/\y<b.Y1
  ·rw [aC (show (bR b).y0<=y/\y< (bR b).y1 from hy),j4 (fun c hc=> .inl (by have:=h.xY c hc;have e: (bR b).y1=b.Y1:=rfl;omega)),cE hy.1,cE hy.2]
   show (mo b.Xs x&&true||false)=mo b.Xs x
   simp
  ·rw [aD (show ¬((bR b).y0<=y/\y< (bR b).y1) from hy)]
   have: (decide (b.Y0<=y)&&decide (y<b.Y1))=false:=by rw [Bool.and_eq_false_iff,decide_eq_false_iff_not,decide_eq_false_iff_not];omega
   rw [this];simp
theorem nR {s:List aA} {r:aI} (h:r∈aN s): ∃b∈s,∃p∈zB b.Xs,r= ⟨p.1,b.Y0,p.2,b.Y1⟩:=by
 unfold aN lY at h
 obtain⟨b,hb,h⟩:=List.mem_flatMap.1 h
 obtain⟨p,hp,rfl⟩:=cT.1 h
 exact⟨b,hb,p,hp,rfl⟩
theorem x9 {s:List aA} {X Y:List Int} (h:eK (s.map bR)) (hl:tW X Y (s.map bR)) (hx: ∀c∈X,small c) (hy: ∀c∈Y,small c): ∀r∈aN s,Cs r/\(r.X0∈X/\r.X1∈X)/\r.Y0∈Y/\r.Y1∈Y:=by
 intro r hr
 obtain⟨b,hb,p,hp,rfl⟩:=nR hr
 have hm:bR b∈s.map bR:=cT.2 ⟨b,hb,rfl⟩
 have hc:=h.each _ hm
 have hll:=hl _ hm
 have h1:=AE p hp
 have h2:=hll.2.2 p.1 h1.1
 have h3:=hll.2.2 p.2 h1.2
 exact⟨⟨CW hc.2.2.1 p hp,hc.1,hx _ h2,hx _ h3,hy _ hll.1,hy _ hll.2.1⟩,⟨h2,h3⟩,hll.1,hll.2.1⟩
theorem tG {l:List Int} {x:Int} (h: ∀c∈l,c<=x):mo l x= (l.length % 2==1):=by unfold mo;rw [DJ h]
theorem vT {l:List Int} {a x:Int} (h:x<a):mo (l++[a]) x=mo l x:=by unfold mo;rw [xV,lx,aD (by omega),AA];rfl
def ED (l:List Int):Bool:=l.length % 2==1
theorem ya (l:List Int) (a:Int):ED (l++[a]) = !ED l:=by
 unfold ED
 rw [dR,gC,Bool.not_eq_true',beq_iff_eq,beq_eq_false_iff_ne]
 simp;omega
structure BW (jZ:Bool->Bool->Bool) (a b a' b' out:List Int) (inA inB is:Bool) (pa pb:List Int):Prop where
 ea:a=pa++a'
 eb:b=pb++b'
 oa:inA=ED pa
 ob:inB=ED pb
 oo:is=ED out
 ok:is=jZ inA inB
 low: ∀c,(c∈pa\/c∈pb\/c∈out)->∀d,(d∈a'\/d∈b')->c<d
 inc:lP out
 KU: ∀x,(∀d,(d∈a'\/d∈b')->x<d)->mo out x=jZ (mo pa x) (mo pb x)
 mem: ∀c∈out,c∈pa\/c∈pb
 len:out.length<=pa.length+pb.length
theorem BW.step {jZ:Bool->Bool->Bool} {a b a' b' out:List Int} {inA inB is:Bool} {pa pb:List Int} (I:BW jZ a b a' b' out inA inB is pa pb) (ha:lP a) (hb:lP b) (x:Int) (ta tb:List Int) (wa wb:Bool)
  (h1:a'= (if wa then x::ta else ta)) (h2:b'= (if wb then x::tb else tb)) (hw:wa=true\/wb=true) (hx: ∀d,(d∈ta\/d∈tb)->x<d):
  BW jZ a b ta tb (if jZ (inA ^^ wa) (inB ^^ wb)=is then out else out++[x]) (inA ^^ wa) (inB ^^ wb) (jZ (inA ^^ wa) (inB ^^ wb)) (if wa then pa++[x] else pa) (if wb then pb++[x] else pb):=by
 have hxm:x∈a'\/x∈b':=by
  rcases hw with h | h
  ·left;rw [h1,aC h];simp
  ·right;rw [h2,aC h];simp
 have hsub: ∀d,(d∈ta\/d∈tb)->d∈a'\/d∈b':=fun d hd=>by
  rcases hd with h | h
  ·left;rw [h1];split
   ·exact jh _ h
   ·exact h
  ·right;rw [h2];split
   ·exact jh _ h
   ·exact h
 have hlow: ∀c,(c∈pa\/c∈pb\/c∈out)->c<x:=fun c hc=>I.low c hc x hxm
 have hpa: ∀c∈(if wa then pa++[x] else pa),c∈pa\/(wa=true/\c=x):=fun c hc=>by
  split at hc
  ·rename_i h
   rcases cS.1 hc with h' | h'
   ·exact .inl h'
   ·simp at h';exact .inr ⟨h,h'⟩
  ·exact .inl hc
 have hpb: ∀c∈(if wb then pb++[x] else pb),c∈pb\/(wb=true/\c=x):=fun c hc=>by
  split at hc
  ·rename_i h
   rcases cS.1 hc with h' | h'
   ·exact .inl h'
   ·simp at h';exact .inr ⟨h,h'⟩
  ·exact .inl hc
 have hout: ∀c∈(if jZ (inA ^^ wa) (inB ^^ wb)=is then out else out++[x]),c∈out\/c=x:=fun c hc=>by
  split at hc
  ·exact .inl hc
  ·rcases cS.1 hc with h' | h'
   ·exact .inl h'
   ·simp at h';exact .inr h'
 have ooA: (inA ^^ wa)=ED (if wa then pa++[x] else pa):=by
  rw [I.oa];cases wa <;> simp [ya]
 have ooB: (inB ^^ wb)=ED (if wb then pb++[x] else pb):=by
  rw [I.ob];cases wb <;> simp [ya]
 have ooO:jZ (inA ^^ wa) (inB ^^ wb)=ED (if jZ (inA ^^ wa) (inB ^^ wb)=is then out else out++[x]):=by
  split
  ·rename_i h;rw [h];exact I.oo
  ·rename_i h
   rw [ya,<-I.oo]
   cases hk:jZ (inA ^^ wa) (inB ^^ wb) <;> cases his:is <;> simp_all
 refine⟨?_,?_,ooA,ooB,ooO,rfl,?_,?_,?_,?_,?_⟩
 ·rw [I.ea,h1];split <;> simp
 ·rw [I.eb,h2];split <;> simp
 ·intro c hc d hd
  have hd':=hx d hd
  have hdd:=hsub d hd
  rcases hc with h | h | h
  ·rcases hpa c h with h' | ⟨_,rfl⟩
   ·exact I.low c (.inl h') d hdd
   ·exact hd'
  ·rcases hpb c h with h' | ⟨_,rfl⟩
   ·exact I.low c (.inr (.inl h')) d hdd
   ·exact hd'
  ·rcases hout c h with h' | rfl
   ·exact I.low c (.inr (.inr h')) d hdd
   ·exact hd'
 ·split
  ·exact I.inc
  ·exact I.inc.Gc fun c hc=>hlow c (.inr (.inr hc))
 ·intro y hy
  by_cases hxy:y<x
  ·have e1:mo (if wa then pa++[x] else pa) y=mo pa y:=by split;exact vT hxy;rfl
   have e2:mo (if wb then pb++[x] else pb) y=mo pb y:=by split;exact vT hxy;rfl
   have e3:mo (if jZ (inA ^^ wa) (inB ^^ wb)=is then out else out++[x]) y=mo out y:=by split;rfl;exact vT hxy
   rw [e1,e2,e3]
   refine I.KU y fun d hd=>?_
   have:x<=d:=by
    rcases hd with h | h
    ·rw [h1] at h
     split at h
     ·rcases fQ.1 h with rfl | h
      ·exact Int.le_refl _
      ·have:=hx d (.inl h);omega
     ·have:=hx d (.inl h);omega
    ·rw [h2] at h
     split at h
     ·rcases fQ.1 h with rfl | h
      ·exact Int.le_refl _
      ·have:=hx d (.inr h);omega
     ·have:=hx d (.inr h);omega
   omega
  ·rw [tG (l:=if wa then pa++[x] else pa),tG (l:=if wb then pb++[x] else pb),tG]
   ·have e1:=ooA;have e2:=ooB;have e3:=ooO
    unfold ED at e1 e2 e3
    rw [<-e1,<-e2,<-e3]
   ·intro c hc
    rcases hout c hc with h | rfl
    ·have:=hlow c (.inr (.inr h));omega
    ·omega
   ·intro c hc
    rcases hpb c hc with h | ⟨_,rfl⟩
    ·have:=hlow c (.inr (.inl h));omega
    ·omega
   ·intro c hc
    rcases hpa c hc with h | ⟨_,rfl⟩
    ·have:=hlow c (.inl h);omega
    ·omega
 ·intro c hc
  have m1: ∀c,c∈pa->c∈(if wa then pa++[x] else pa):=fun c h=>by split;exact List.mem_append_left _ h;exact h
  have m2: ∀c,c∈pb->c∈(if wb then pb++[x] else pb):=fun c h=>by split;exact List.mem_append_left _ h;exact h
  rcases hout c hc with h | rfl
  ·rcases I.mem c h with h | h
   ·exact .inl (m1 c h)
   ·exact .inr (m2 c h)
  ·rcases hw with h | h
   ·left;rw [aC h];simp
   ·right;rw [aC h];simp
 ·have:=I.len
  have h3: (if wa then pa++[x] else pa).length+ (if wb then pb++[x] else pb).length>=pa.length+pb.length+1:=by
   rcases hw with h | h
   ·subst h;cases wb <;> simp <;> omega
   ·subst h;cases wa <;> simp <;> omega
  split
  ·omega
  ·simp at h3 ⊢;omega
end
end Go.Gk
namespace Go.Gk
open Go
section
variable {N:Nat}
theorem iz (x:Int) (l:List Int):idx (x::l) 0=some x:=rfl
theorem pP {α:Type} (x:α) (l:List α):tV (x::l) 1 (((x::l).length:Nat):Int)=some l:=uH (x::l) 1 (by simp)
theorem jt {α:Type} (x:α) (l:List α):decide ((((x::l).length:Nat):Int)>0)=true:=cE (by simp)
theorem sB {α:Type} (x:α) (l:List α): ((((x::l).length:Nat):Int)==0)=false:=by rw [beq_eq_false_iff_ne];simp;omega
theorem CY {a b:List Int} (ha:lP a) (hb:lP b) (h:a≠[]\/b≠[]): ∃x ta tb wa wb,a= (if wa then x::ta else ta)/\b= (if wb then x::tb else tb)/\(wa=true\/wb=true)/\(∀d,(d∈ta\/d∈tb)->x<d):=by
 match a,b,ha,hb,h with
 | [],[],_,_,h=>rcases h with h | h <;> exact absurd rfl h
 | x::ta,[],ha,_,_=>exact⟨x,ta,[],true,false,rfl,rfl, .inl rfl,fun d hd=>by rcases hd with h | h;exact ha.head d h;cases h⟩
 | [],y::tb,_,hb,_=>exact⟨y,[],tb,false,true,rfl,rfl, .inr rfl,fun d hd=>by rcases hd with h | h;cases h;exact hb.head d h⟩
 | x::ta,y::tb,ha,hb,_=>
  rcases Int.lt_trichotomy x y with h | h | h
  ·refine⟨x,ta,y::tb,true,false,rfl,rfl, .inl rfl,fun d hd=>?_⟩
   rcases hd with h1 | h1
   ·exact ha.head d h1
   ·rcases fQ.1 h1 with rfl | h1
    ·exact h
    ·have:=hb.head d h1;omega
  ·subst h
   exact⟨x,ta,tb,true,true,rfl,rfl, .inl rfl,fun d hd=>by rcases hd with h | h;exact ha.head d h;exact hb.head d h⟩
  ·refine⟨y,x::ta,tb,false,true,rfl,rfl, .inr rfl,fun d hd=>?_⟩
   rcases hd with h1 | h1
   ·rcases fQ.1 h1 with rfl | h1
    ·exact h
    ·have:=ha.head d h1;omega
   ·exact hb.head d h1
theorem EE {φ:Bool->Bool->Option Bool} {jZ:Bool->Bool->Bool} (hφ: ∀p q,φ p q=some (jZ p q)) (hk:jZ false false=false) {a b:List Int} (ha:lP a) (hb:lP b) (hae:a.length % 2=0) (hbe:b.length % 2=0)
  (jk:a.length<=1099511627776) (hbl:b.length<=1099511627776) (hN:a.length+b.length<N):
  Ok (nU N a b φ) (fun m=>lP m/\m.length % 2=0/\(∀x,mo m x=jZ (mo a x) (mo b x))/\∀c∈m,c∈a\/c∈b):=by
 unfold nU
 refine Ok.bind (Ok.nD (Go:=fun s=>lP s.2.2.1/\s.2.2.1.length % 2=0/\(∀x,mo s.2.2.1 x=jZ (mo a x) (mo b x))/\∀c∈s.2.2.1,c∈a\/c∈b) (Rt:=fun _=>True)
  (fun s=>∃pa pb,BW jZ a b s.1 s.2.1 s.2.2.1 s.2.2.2.1 s.2.2.2.2.1 s.2.2.2.2.2 pa pb) (fun s=>s.1.length+s.2.1.length) ?_ ?_ hN) ?_
 ·rintro⟨a',b',out,inA,inB,is⟩ ⟨pa,pb,I⟩
  dsimp only at I ⊢
  have ha':lP a':=by have:=ha;rw [I.ea] at this;exact(List.pairwise_append.1 this).2.1
  have hb':lP b':=by have:=hb;rw [I.eb] at this;exact(List.pairwise_append.1 this).2.1
  have hle:pa.length+a'.length=a.length:=by rw [I.ea];simp
  have hlb:pb.length+b'.length=b.length:=by rw [I.eb];simp
  have hlo:=I.len
  by_cases hne:a'≠[]\/b'≠[]
  ·obtain⟨x,ta,tb,wa,wb,h1,h2,hw,hx⟩:=CY ha' hb' hne
   have J:=I.step ha hb x ta tb wa wb h1 h2 hw hx
   have fin: ∀(sa sb:List Int×Bool),sa= (ta,inA ^^ wa)->sb= (tb,inB ^^ wb)->
     Ok ((φ sa.2 sb.2).bind fun x220=>(bif (x220 != is) then ((app 8 out ([x]: (List Int))).bind fun x227=>some (x227,x220)) else (some (out,is))).bind fun s224=>some (Fl.nx (sa.1,sb.1,s224.1,sa.2,sb.2,s224.2)))
      (Ie (fun s':List Int×List Int×List Int×Bool×Bool×Bool=>(∃pa pb,BW jZ a b s'.1 s'.2.1 s'.2.2.1 s'.2.2.2.1 s'.2.2.2.2.1 s'.2.2.2.2.2 pa pb)/\s'.1.length+s'.2.1.length<a'.length+b'.length) (fun s=>lP s.2.2.1/\s.2.2.1.length % 2=0/\(∀x,mo s.2.2.1 x=jZ (mo a x) (mo b x))/\∀c∈s.2.2.1,c∈a\/c∈b) (fun _:Empty=>True)):=by
    rintro _ _ rfl rfl
    refine Ok.eq (hφ _ _) ?_
    have hlt:ta.length+tb.length<a'.length+b'.length:=by
     rw [h1,h2]
     rcases hw with h | h
     ·subst h;cases wb <;> simp <;> omega
     ·subst h;cases wa <;> simp <;> omega
    by_cases he:jZ (inA ^^ wa) (inB ^^ wb)=is
    ·rw [aC he] at J
     refine Ok.eq (x:=(out,is)) (by rw [he,show (is != is)=false by simp,aS]) ?_
     rw [he] at J
     exact Ok.nx ⟨⟨_,_,J⟩,hlt⟩
    ·rw [aD he] at J
     refine Ok.eq (x:=(out++[x],jZ (inA ^^ wa) (inB ^^ wb))) (by rw [show (jZ (inA ^^ wa) (inB ^^ wb) != is)=true by simp [he],aR,fF (by simp;omega),aB]) (Ok.nx ⟨⟨_,_,J⟩,hlt⟩)
   rcases hw with rfl | rfl
   ·rw [aC rfl] at h1
    subst h1
    refine Ok.eq (x:=true) (by rw [jt,aR]) ?_
    rw [aR]
    have hle2: (bif (((b'.length:Nat):Int)==0) then (some true) else (bif (decide ((((x::ta).length:Nat):Int)>0)) then ((idx (x::ta) 0).bind fun x181=>(idx b' 0).bind fun x183=>some (decide (x181<=x183))) else (some false)))=some true:=by
     cases b' with
     | nil=>rfl
     | cons y b''=>
      rw [sB,aS,jt,aR,iz,aB,iz,aB]
      have:x<=y:=by
       cases wb with
       | true=>simp at h2;omega
       | false=>have:=hx y (.inr (by simp at h2;rw [<-h2];simp));omega
      rw [cE this]
    refine Ok.eq hle2 ?_
    rw [aR]
    refine Ok.eq (x:=x) (by rw [iz,aB]) ?_
    refine Ok.eq (x:=true) (by rw [jt,aR,iz,aB];simp) ?_
    refine Ok.eq (x:=(ta,!inA)) (by rw [aR,pP,aB]) ?_
    cases wb with
    | true=>
     rw [aC rfl] at h2
     subst h2
     refine Ok.eq (x:=true) (by rw [jt,aR,iz,aB];simp) ?_
     refine Ok.eq (x:=(tb,!inB)) (by rw [aR,pP,aB]) ?_
     exact fin _ _ (by simp) (by simp)
    | false=>
     have h2:b'=tb:=h2
     subst h2
     refine Ok.eq (x:=false) ?_ ?_
     ·cases b' with
      | nil=>rfl
      | cons y b''=>
       have:=hx y (.inr (by simp))
       rw [jt,aR,iz,aB,show (y==x)=false by rw [beq_eq_false_iff_ne];omega]
     ·refine Ok.eq (x:=(b',inB)) (by rw [aS]) ?_
      exact fin _ _ (by simp) (by simp)
   ·cases wa with
    | true=>
     rw [aC rfl] at h1 h2
     subst h1;subst h2
     refine Ok.eq (x:=true) (by rw [jt,aR]) ?_
     rw [aR]
     refine Ok.eq (x:=true) (by rw [sB,aS,jt,aR,iz,aB,iz,aB];simp) ?_
     rw [aR]
     refine Ok.eq (x:=x) (by rw [iz,aB]) ?_
     refine Ok.eq (x:=true) (by rw [jt,aR,iz,aB];simp) ?_
     refine Ok.eq (x:=(ta,!inA)) (by rw [aR,pP,aB]) ?_
     refine Ok.eq (x:=true) (by rw [jt,aR,iz,aB];simp) ?_
     refine Ok.eq (x:=(tb,!inB)) (by rw [aR,pP,aB]) ?_
     exact fin _ _ (by simp) (by simp)
    | false=>
     have h1:a'=ta:=h1
     rw [aC rfl] at h2
     subst h1;subst h2
     refine Ok.eq (x:=true) (by rw [jt,Ht];simp) ?_
     rw [aR]
     refine Ok.eq (x:=false) ?_ ?_
     ·rw [sB,aS]
      cases a' with
      | nil=>rfl
      | cons y a''=>
       have:=hx y (.inl (by simp))
       rw [jt,aR,iz,aB,iz,aB,bG (by omega)]
     ·rw [aS]
      refine Ok.eq (x:=x) (by rw [iz,aB]) ?_
      refine Ok.eq (x:=false) ?_ ?_
      ·cases a' with
       | nil=>rfl
       | cons y a''=>
        have:=hx y (.inl (by simp))
        rw [jt,aR,iz,aB,show (y==x)=false by rw [beq_eq_false_iff_ne];omega]
      ·refine Ok.eq (x:=(a',inA)) (by rw [aS]) ?_
       refine Ok.eq (x:=true) (by rw [jt,aR,iz,aB];simp) ?_
       refine Ok.eq (x:=(tb,!inB)) (by rw [aR,pP,aB]) ?_
       exact fin _ _ (by simp) (by simp)
  ·have ea:a'= []:=Classical.byContradiction fun h=>hne (.inl h)
   have eb:b'= []:=Classical.byContradiction fun h=>hne (.inr h)
   subst ea;subst eb
   refine Ok.eq (x:=false) rfl ?_
   refine Ok.br ⟨I.inc,?_,fun x=>?_,fun c hc=>?_⟩
   ·have h1:=I.ea;have h2:=I.eb
    rw [kl] at h1 h2
    have h3:ED out=false:=by
     rw [<-I.oo,I.ok,I.oa,I.ob,<-h1,<-h2]
     unfold ED;rw [hae,hbe];exact hk
    unfold ED at h3
    rw [beq_eq_false_iff_ne] at h3
    dsimp only;omega
   ·have:=I.KU x (fun d hd=>by rcases hd with h | h <;> cases h)
    have h1:=I.ea;have h2:=I.eb
    rw [kl] at h1 h2
    rw [h1,h2];exact this
   ·have h1:=I.ea;have h2:=I.eb
    rw [kl] at h1 h2
    rw [h1,h2];exact I.mem c hc
 ·exact⟨[],[],rfl,rfl,rfl,rfl,rfl,hk.symm,fun c hc=>(by rcases hc with h | h | h <;> cases h),kR,fun x _=>hk.symm,fun c hc=>(by cases hc),bM _⟩
 ·rintro o ho
  exact Ok.cs ho (fun s h=>Ok.ret h) (fun r=>r.elim)
theorem eK.app {s t:List Bd} (h:eK (s++t)):eK t:=⟨fun b hb=>h.each b (List.mem_append_right _ hb),(List.pairwise_append.1 h.ord).2.1⟩
theorem eK.low {b:Bd} {s:List Bd} (h:eK (b::s)): ∀c∈b::s,b.y0<=c.y0:=fun c hc=>by
 rcases fQ.1 hc with rfl | hc
 ·exact Int.le_refl _
 ·have:=h.xY c hc;have:=(h.each b (by simp)).1;omega
theorem eK.high {s:List Bd} {b:Bd} (h:eK (s++[b])): ∀c∈s++[b],c.y1<=b.y1:=fun c hc=>by
 rcases cS.1 hc with hc | hc
 ·have:=((List.pairwise_append.1 h.ord).2.2 c hc b (by simp)).1
  have:=(h.each b (by simp)).1;omega
 ·simp at hc;subst hc;exact Int.le_refl _
def Ct (s:List aA) (y e:Int):List Int×Int:=match s with
 | []=>([],e)
 | b::_=>if y<b.Y0 then ([],if b.Y0<e then b.Y0 else e) else (b.Xs,if b.Y1<e then b.Y1 else e)
theorem Ge {α:Type} (x:α) (l:List α):idx (x::l) 0=some x:=rfl
theorem Ig (s:List aA) (y e:Int):kX N s y e=some (Ct s y e):=by
 unfold kX Ct
 cases s with
 | nil=>rfl
 | cons b s=>
  dsimp only
  rw [sB,aS,Ge,aB,aB,aB,aB]
  by_cases h:y<b.Y0
  ·rw [cE h,aR,aC h]
  ·rw [bG h,aS,aD h]
theorem DM {s:List aA} {y e:Int} {X Y:List Int} (hc:eK (s.map bR)) (hl:tW X Y (s.map bR)) (hh: ∀b t,s=b::t->y<b.Y1) (hy:y<e):
  y< (Ct s y e).2/\(Ct s y e).2<=e/\(∀y',y<=y'->y'< (Ct s y e).2->rowAt (s.map bR) y'= (Ct s y e).1)/\lP (Ct s y e).1/\(Ct s y e).1.length % 2=0/\((Ct s y e).2=e\/(Ct s y e).2∈Y)/\∀c∈(Ct s y e).1,c∈X:=by
 cases s with
 | nil=>exact⟨hy,Int.le_refl _,fun y' _ _=>rfl,kR,rfl, .inl rfl,fun c hc=>(by cases hc)⟩
 | cons b t=>
  have hb:=hc.each (bR b) (by simp)
  have hlb:=hl (bR b) (by simp)
  have h1:=hh b t rfl
  unfold Ct
  dsimp only
  by_cases h:y<b.Y0
  ·rw [aC h]
   dsimp only
   refine⟨by split <;> omega,by split <;> omega,fun y' h2 h3=>?_,kR,rfl,?_,fun c hc=>(by cases hc)⟩
   ·exact hc.sw (by show y'<b.Y0;split at h3 <;> omega)
   ·split
    ·exact .inr hlb.1
    ·exact .inl rfl
  ·rw [aD h]
   dsimp only
   refine⟨by split <;> omega,by split <;> omega,fun y' h2 h3=>?_,hb.2.2.1,hb.2.2.2,?_,hlb.2.2⟩
   ·exact eK.kN (b:=bR b) (by show b.Y0<=y';omega) (by show y'<b.Y1;split at h3 <;> omega)
   ·split
    ·exact .inr hlb.2.1
    ·exact .inl rfl
theorem zC {y:Int} {a:List aA} (hN:a.length<N) {body:List aA->Option (Fl (List aA) Empty)}
  (hb:body=fun(s373: (List aA))=>((bif (decide ((s373.length:Int)>0)) then ((idx s373 0).bind fun x407=>some (decide (x407.Y1<=y))) else (some false)).bind fun s405=>bif s405 then ((tV s373 1 (s373.length:Int)).bind fun x410=>some (.nx x410)) else (some (.br s373)):Option (Fl ((List aA)) Empty))):
  Ok (nD body N a) (KR (fun a'=>∃p,a=p++a'/\(∀c∈p,c.Y1<=y)/\∀b t,a'=b::t->y<b.Y1) (fun _=>True)):=by
 subst hb
 refine Ok.nD (fun a'=>∃p,a=p++a'/\∀c∈p,c.Y1<=y) List.length ?_ ⟨[],rfl,fun c hc=>(by cases hc)⟩ hN
 rintro a' ⟨p,e,hp⟩
 cases a' with
 | nil=>exact Ok.eq (x:=false) rfl (Ok.br ⟨p,e,hp,fun b t h=>(by cases h)⟩)
 | cons b t=>
  refine Ok.eq (x:=decide (b.Y1<=y)) (by rw [jt,aR,Ge,aB]) ?_
  refine Ok.bif (fun h=>?_) (fun h=>Ok.br ⟨p,e,hp,fun b' t' h'=>?_⟩)
  ·have h:=of_decide_eq_true h
   refine Ok.eq (pP b t) (Ok.nx ⟨⟨p++[b],by rw [e];simp,fun c hc=>?_⟩,by simp⟩)
   rcases cS.1 hc with hc | hc
   ·exact hp c hc
   ·simp at hc;subst hc;exact h
  ·have h:=of_decide_eq_false h
   injection h' with h1 h2;subst h1;omega
theorem BX {p a':List Bd} {y y':Int} (hp: ∀c∈p,c.y1<=y) (h:y<=y'):rowAt (p++a') y'=rowAt a' y':=by
 rw [nK,aD]
 rintro⟨b,hb,h1⟩
 have:=hp b hb;omega
structure AF (jZ:Bool->Bool->Bool) (X Y:List Int) (a b s:List aA):Prop where
 can:eK (s.map bR)
 cover: ∀x y,u4 (s.map bR) x y=jZ (u4 (a.map bR) x y) (u4 (b.map bR) x y)
 lim:tW X Y (s.map bR)
theorem yb {s:List aA} (hs:s≠[]) (hl:s.length<=1099511627776) (hc:eK (s.map bR)): ∃f l,idx s 0=some f/\idx s (IntKind.wrap .i64 (((s.length:Nat):Int) - 1))=some l/\f∈s/\l∈s/\∀c∈s,f.Y0<=c.Y0/\c.Y1<=l.Y1:=by
 cases s with
 | nil=>exact absurd rfl hs
 | cons f t=>
  rw [lW (by simp) (by omega)]
  have hlt: (f::t).length - 1< (f::t).length:=by simp
  refine⟨f,(f::t)[(f::t).length - 1],rfl,jE _ _ hlt,by simp,cP _,fun c hcm=>⟨?_,?_⟩⟩
  ·exact hc.low (bR c) (cT.2 ⟨c,hcm,rfl⟩)
  ·have e: (f::t)= (f::t).dropLast++[(f::t)[(f::t).length - 1]]:=by
    have:=List.dropLast_concat_getLast (show f::t≠[] by simp)
    rw [<-List.getLast_eq_getElem (h:=by simp)];exact this.symm
   generalize (f::t)[(f::t).length - 1]=l at e
   have hc2:=hc
   rw [e,eB] at hc2
   have hm:bR c∈(List.map bR (f::t).dropLast++[bR l]):=by
    have:bR c∈(f::t).map bR:=cT.2 ⟨c,hcm,rfl⟩
    rw [e,eB] at this;exact this
   exact eK.high hc2 (bR c) hm
theorem CZ {φ:Bool->Bool->Option Bool} {jZ:Bool->Bool->Bool} (hφ: ∀p q,φ p q=some (jZ p q)) (hk:jZ false false=false) {a b:List aA} {X Y:List Int} (ca:eK (a.map bR)) (cb:eK (b.map bR))
  (la:tW X Y (a.map bR)) (lb:tW X Y (b.map bR)) (hX:X.length<=1048576000) (hY:Y.length<=1048576000) (hs: ∀c∈Y,small c) (hN:4398046511104<=N):Ok (mV N a b φ) (AF jZ X Y a b):=by
 have jk:a.length<=Y.length:=by have:=la.len ca;rwa [eY] at this
 have hbl:b.length<=Y.length:=by have:=lb.len cb;rwa [eY] at this
 unfold mV
 rw [wrap_add (by omega)]
 refine Ok.bif (fun h=>Ok.ret ?_) (fun h=>?_)
 ·have h:a.length+b.length=0:=by have:=beq_iff_eq.1 h;omega
  have e1:a= []:=List.eq_nil_of_length_eq_zero (by omega)
  have e2:b= []:=List.eq_nil_of_length_eq_zero (by omega)
  subst e1;subst e2
  exact⟨eK.nil,fun x y=>hk.symm,fun c hc=>(by cases hc)⟩
 have h0:a≠[]\/b≠[]:=by
  rw [beq_eq_false_iff_ne] at h
  by_cases e:a= []
  ·right;intro e2;subst e;subst e2;exact h rfl
  ·exact .inl e
 refine Ok.bind (Ok.iL (fun k s=>match k with | 0=>True | 1=>a= []\/((∀c∈a,s.1<=c.Y0/\c.Y1<=s.2)/\s.1∈Y/\s.2∈Y) | _=>((∀c∈a,s.1<=c.Y0/\c.Y1<=s.2)/\(∀c∈b,s.1<=c.Y0/\c.Y1<=s.2)/\s.1∈Y/\s.2∈Y)) (by simp) trivial (fun k s hk hI=>?_)) ?_
 ·obtain⟨y,e⟩:=s
  have hk:k=0\/k=1:=by simp at hk;omega
  rcases hk with rfl | rfl
  ·refine Ok.ix (x:=a) rfl ?_
   by_cases ea:a= []
   ·subst ea
    exact Ok.eq (x:=(y,e)) rfl (Ok.ret (.inl rfl))
   ·obtain⟨f,l,f1,f2,f3,f4,f5⟩:=yb ea (by omega) ca
    have hpos:decide (((a.length:Nat):Int)>0)=true:=cE (by have:=List.length_pos_iff.2 ea;omega)
    refine Ok.eq (x:=(f.Y0,l.Y1)) ?_ (Ok.ret (.inr ⟨f5,(la _ (cT.2 ⟨f,f3,rfl⟩)).1,(la _ (cT.2 ⟨l,f4,rfl⟩)).2.1⟩))
    rw [hpos,aR]
    show ((some true).bind _)=_
    rw [aB,aR,f1,aB,f2,aB,aB,aB,aB]
    simp
  ·refine Ok.ix (x:=b) rfl ?_
   have hI:a= []\/((∀c∈a,y<=c.Y0/\c.Y1<=e)/\y∈Y/\e∈Y):=hI
   by_cases eb:b= []
   ·subst eb
    refine Ok.eq (x:=(y,e)) rfl (Ok.ret ?_)
    rcases hI with h | ⟨h1,h2,h3⟩
    ·rcases h0 with h' | h'
     ·exact absurd h h'
     ·exact absurd rfl h'
    ·exact⟨h1,fun c hc=>(by cases hc),h2,h3⟩
   ·obtain⟨f,l,f1,f2,f3,f4,f5⟩:=yb eb (by omega) cb
    have hpos:decide (((b.length:Nat):Int)>0)=true:=cE (by have:=List.length_pos_iff.2 eb;omega)
    have g1:f.Y0∈Y:=(lb _ (cT.2 ⟨f,f3,rfl⟩)).1
    have g2:l.Y1∈Y:=(lb _ (cT.2 ⟨l,f4,rfl⟩)).2.1
    by_cases ea:a= []
    ·subst ea
     refine Ok.eq (x:=(f.Y0,l.Y1)) ?_ (Ok.ret ⟨fun c hc=>(by cases hc),f5,g1,g2⟩)
     rw [hpos,aR]
     show ((some true).bind _)=_
     rw [aB,aR,f1,aB,f2,aB,aB,aB,aB]
     simp
    ·obtain⟨h1,h2,h3⟩:=hI.resolve_left ea
     refine Ok.eq (x:=(if f.Y0<y then f.Y0 else y,if e<l.Y1 then l.Y1 else e)) ?_ (Ok.ret ⟨fun c hc=>?_,fun c hc=>?_,?_,?_⟩)
     ·rw [hpos,aR]
      have ez: (((a.length:Nat):Int)==0)=false:=by rw [beq_eq_false_iff_ne];have:=List.length_pos_iff.2 ea;omega
      rw [ez]
      show ((some false).bind _)=_
      rw [aB,aS,aB,f1,aB,f2,aB]
     ·have:=h1 c hc;dsimp only;split <;> split <;> omega
     ·have:=f5 c hc;dsimp only;split <;> split <;> omega
     ·dsimp only;split
      ·exact g1
      ·exact h2
     ·dsimp only;split
      ·exact g2
      ·exact h3
 ·rintro⟨y0,e0⟩ hI
  have hI: (∀c∈a,y0<=c.Y0/\c.Y1<=e0)/\(∀c∈b,y0<=c.Y0/\c.Y1<=e0)/\y0∈Y/\e0∈Y:=hI
  obtain⟨ia,ib,iy,ie⟩:=hI
  have sy:=hs _ iy
  have se:=hs _ ie
  unfold small at sy se
  dsimp only
  refine Ok.bind (Ok.nD (Go:=fun s=>AF jZ X Y a b s.2.2.1) (Rt:=fun _=>True)
   (fun s=>∃pa pb,a=pa++s.1/\b=pb++s.2.1/\(∀c∈pa,c.Y1<=s.2.2.2)/\(∀c∈pb,c.Y1<=s.2.2.2)/\y0<=s.2.2.2/\s.2.2.2<=max y0 e0/\s.2.2.2∈Y/\eK (s.2.2.1.map bR)/\tW X Y (s.2.2.1.map bR)/\(∀c∈s.2.2.1,c.Y1<=s.2.2.2)/\
    ∀x y,u4 (s.2.2.1.map bR) x y= (jZ (u4 (a.map bR) x y) (u4 (b.map bR) x y)&&decide (y<s.2.2.2)))
   (fun s=>(e0 - s.2.2.2).toNat) ?_ ?_ (by dsimp only;omega)) ?_
  ·rintro⟨a',b',out,y⟩ ⟨pa,pb,ea,eb,hpa,hpb,hy0,hye,hyY,hcan,hlim,htop,hcov⟩
   dsimp only at ea eb hpa hpb hy0 hye hyY hcan hlim htop hcov ⊢
   refine Ok.bif (fun h=>?_) (fun h=>Ok.br ?_)
   ·have hlt:y<e0:=of_decide_eq_true h
    have hsl: ∀(p s t:List aA),t=p++s->s.length<=t.length:=fun p s t e=>by rw [e];simp
    have hal':=hsl _ _ _ ea
    have hbl':=hsl _ _ _ eb
    refine Ok.bind (zC (y:=y) (a:=a') (by omega) rfl) (fun o ho=>Ok.cs ho ?_ (fun r=>r.elim))
    rintro a2 ⟨qa,ea2,hqa,hha⟩
    refine Ok.bind (zC (y:=y) (a:=b') (by omega) rfl) (fun o ho=>Ok.cs ho ?_ (fun r=>r.elim))
    rintro b2 ⟨qb,eb2,hqb,hhb⟩
    have ea3:a= (pa++qa)++a2:=by rw [ea,ea2];simp
    have eb3:b= (pb++qb)++b2:=by rw [eb,eb2];simp
    have hPa: ∀c∈pa++qa,c.Y1<=y:=fun c hc=>by rcases cS.1 hc with h | h;exact hpa c h;exact hqa c h
    have hPb: ∀c∈pb++qb,c.Y1<=y:=fun c hc=>by rcases cS.1 hc with h | h;exact hpb c h;exact hqb c h
    have ca2:eK (a2.map bR):=by have:=ca;rw [ea3,eB] at this;exact this.app
    have cb2:eK (b2.map bR):=by have:=cb;rw [eb3,eB] at this;exact this.app
    have la2:tW X Y (a2.map bR):=fun c hc=>la c (by rw [ea3,eB];exact List.mem_append_right _ hc)
    have lb2:tW X Y (b2.map bR):=fun c hc=>lb c (by rw [eb3,eB];exact List.mem_append_right _ hc)
    refine Ok.eq (Ig a2 y e0) (Ok.eq (Ig b2 y e0) ?_)
    obtain⟨a1,a3,a4,a5,a6,a7,a8⟩:=DM ca2 la2 hha hlt
    obtain⟨b1,b3,b4,b5,b6,b7,b8⟩:=DM cb2 lb2 hhb hlt
    have hal2: (Ct a2 y e0).1.length<=X.length:=eO a5.nodup a8
    have hbl2: (Ct b2 y e0).1.length<=X.length:=eO b5.nodup b8
    generalize Ct a2 y e0=pa2 at *
    generalize Ct b2 y e0=pb2 at *
    obtain⟨xa,n⟩:=pa2
    obtain⟨xb,m⟩:=pb2
    dsimp only at *
    refine Ok.bind (EE hφ hk a5 b5 a6 b6 (by omega) (by omega) (by omega)) ?_
    rintro row ⟨r1,r2,r3,r4⟩
    have hnx: ∃nx,nx= (if m<n then m else n)/\y<nx/\nx<=e0/\nx<=n/\nx<=m/\nx∈Y:=by
     refine⟨_,rfl,by split <;> omega,by split <;> omega,by split <;> omega,by split <;> omega,?_⟩
     split
     ·rcases b7 with h | h
      ·rw [h];exact ie
      ·exact h
     ·rcases a7 with h | h
      ·rw [h];exact ie
      ·exact h
    obtain⟨nx,hnx,n1,n2,n3,n4,n5⟩:=hnx
    rw [<-hnx]
    have hol:out.length<=Y.length:=by have:=hlim.len hcan;rwa [eY] at this
    obtain⟨out',p1,p2⟩:=DL (N:=N) (s:=out) (b:=⟨y,nx,row⟩) (by omega) (fun c hc=>by
     have:=hlim.row hcan (b:=bR c) (cT.2 ⟨c,hc,rfl⟩)
     have e: (bR c).xs=c.Xs:=rfl
     rw [e] at this;omega)
    refine Ok.eq p1 ?_
    have htop': ∀c∈out.map bR,c.y1<=(bR ⟨y,nx,row⟩).y0:=fun c hc=>by
     obtain⟨d,hd,rfl⟩:=cT.1 hc
     exact htop d hd
    refine Ok.nx ⟨⟨pa++qa,pb++qb,ea3,eb3,fun c hc=>by have:=hPa c hc;dsimp only;omega,fun c hc=>by have:=hPb c hc;dsimp only;omega,by dsimp only;omega,by dsimp only;omega,n5,by dsimp only;rw [p2];exact vP hcan htop' r1 r2,?_,fun c hc=>?_,fun x y'=>?_⟩,by dsimp only;omega⟩
    ·dsimp only;rw [p2]
     refine hlim.push hyY n5 (fun c hc=>?_)
     rcases r4 c hc with h | h
     ·exact a8 c h
     ·exact b8 c h
    ·have hm':bR c∈lX (out.map bR) (bR ⟨y,nx,row⟩):=by rw [<-p2];exact cT.2 ⟨c,hc,rfl⟩
     exact vQ htop' (by show y<=nx;omega) _ hm'
    ·show mo (rowAt (out'.map bR) y') x=_
     rw [p2,vO htop' (fun c hc=>(hcan.each c hc).1) (fun h=>absurd h (by show ¬nx<=y;omega))]
     by_cases hyy:y<=y'/\y'<nx
     ·rw [aC (show (bR ⟨y,nx,row⟩).y0<=y'/\y'< (bR ⟨y,nx,row⟩).y1 from hyy),cE hyy.2,Bool.and_true]
      show mo row x=_
      have mp: ∀p q:List aA,(∀c∈p++q,c.Y1<=y)->∀c∈(p++q).map bR,c.y1<=y:=fun p q h c hc=>by
       obtain⟨d,hd,rfl⟩:=cT.1 hc
       exact h d hd
      have q1:u4 (a.map bR) x y'=mo xa x:=by
       unfold u4
       rw [ea3,eB,BX (mp _ _ hPa) hyy.1,a4 y' hyy.1 (by omega)]
      have q2:u4 (b.map bR) x y'=mo xb x:=by
       unfold u4
       rw [eb3,eB,BX (mp _ _ hPb) hyy.1,b4 y' hyy.1 (by omega)]
      rw [r3,q1,q2]
     ·rw [aD (show ¬((bR ⟨y,nx,row⟩).y0<=y'/\y'< (bR ⟨y,nx,row⟩).y1) from hyy)]
      show u4 (out.map bR) x y'=_
      rw [hcov]
      by_cases h1:y'<y
      ·rw [cE h1,cE (show y'<nx by omega)]
      ·rw [bG h1,bG (show ¬y'<nx by omega)]
   ·have hge:e0<=y:=by have:=of_decide_eq_false h;omega
    refine⟨hcan,fun x y'=>?_,hlim⟩
    dsimp only
    rw [hcov]
    by_cases h1:y'<y
    ·rw [cE h1,Bool.and_true]
    ·have z: ∀s:List aA,(∀c∈s,y0<=c.Y0/\c.Y1<=e0)->u4 (s.map bR) x y'=false:=fun s h=>by
      unfold u4
      rw [j4 fun c hc=>?_]
      ·rfl
      ·obtain⟨d,hd,rfl⟩:=cT.1 hc
       exact .inr (by have:=(h d hd).2;show d.Y1<=y';omega)
     rw [z a ia,z b ib,hk];rfl
  ·refine⟨[],[],rfl,rfl,fun c hc=>(by cases hc),fun c hc=>(by cases hc),Int.le_refl _,by dsimp only;omega,iy,eK.nil,fun c hc=>(by cases hc),fun c hc=>(by cases hc),fun x y=>?_⟩
   dsimp only
   show false=_
   by_cases h1:y<y0
   ·have z: ∀s:List aA,(∀c∈s,y0<=c.Y0/\c.Y1<=e0)->u4 (s.map bR) x y=false:=fun s h=>by
     unfold u4
     rw [j4 fun c hc=>?_]
     ·rfl
     ·obtain⟨d,hd,rfl⟩:=cT.1 hc
      exact .inl (by have:=(h d hd).1;show y<d.Y0;omega)
    rw [z a ia,z b ib,hk];rfl
   ·rw [bG h1,Bool.and_false]
  ·rintro o ho
   exact Ok.cs ho (fun s h=>Ok.ret h) (fun r=>r.elim)
theorem EF {a b:List aA} {X Y:List Int} (ca:eK (a.map bR)) (cb:eK (b.map bR)) (la:tW X Y (a.map bR)) (lb:tW X Y (b.map bR)) (hX:X.length<=1048576000) (hY:Y.length<=1048576000) (hs: ∀c∈Y,small c) (hN:4398046511104<=N):
  Ok (jL N a b) (AF (fun p q=>p&& !q) X Y a b):=by
 unfold jL
 exact Ok.bind (CZ (jZ:=fun p q=>p&& !q) (fun p q=>rfl) rfl ca cb la lb hX hY hs hN) (fun s h=>Ok.ret h)
end
end Go.Gk
namespace Go.Gk
open Go
section
variable {N:Nat}
structure UF (n:Nat) (up:List Int) (r:Nat->Nat):Prop where
 len:up.length=n
 rt: ∀i,i<n->∃u:Nat,up[i]? =some ((u:Nat):Int)/\u<=i/\r u=r i/\(u=i↔r i=i)
theorem UF.le {n:Nat} {up:List Int} {r:Nat->Nat} (h:UF n up r): ∀i,i<n->r i<=i:=by
 intro i
 induction i using Nat.strongRecOn with
 | ind i ih=>
  intro hi
  obtain⟨u,_,h2,h3,h4⟩:=h.rt i hi
  by_cases e:u=i
  ·rw [h4.1 e];exact bM _
  ·rw [<-h3];have:=ih u (by omega) (by omega);omega
theorem UF.rr {n:Nat} {up:List Int} {r:Nat->Nat} (h:UF n up r): ∀i,i<n->r (r i)=r i:=by
 intro i
 induction i using Nat.strongRecOn with
 | ind i ih=>
  intro hi
  obtain⟨u,_,h2,h3,h4⟩:=h.rt i hi
  by_cases e:u=i
  ·rw [h4.1 e,h4.1 e]
  ·rw [<-h3];exact ih u (by omega) (by omega)
theorem lK {l:List Int} {j:Nat} {v:Int} {i:Nat} (hj:j<l.length): (l.set j v)[i]? =if i=j then some v else l[i]? :=by
 rw [fA]
 by_cases e:j=i
 ·rw [aC e,aC e.symm,aC hj]
 ·rw [aD e,aD (fun h=>e h.symm)]
theorem UF.init (n:Nat) (up:List Int) (h1:up.length=n) (h2: ∀i,i<n->up[i]? =some ((i:Nat):Int)):UF n up (fun i=>i):=
 ⟨h1,fun i hi=>⟨i,h2 i hi,bM _,rfl,by simp⟩⟩
theorem rM {n:Nat} (hn:n<=1048576000): ∃up,iG N ((n:Nat):Int)=some up/\UF n up (fun i=>i):=by
 unfold iG
 rw [qt 0 (by omega),aB]
 have h0: (List.replicate n (0:Int)).length=n:=by simp
 obtain⟨s',h1,h2⟩:=w8 (m:=(List.replicate n (0:Int)).length) (s:=List.replicate n (0:Int)) (body:=fun(k34:Nat) (s35: (List Int))=>((idx s35 (k34:Int)).bind fun x38=>some (s35.set (Int.toNat (k34:Int)) (k34:Int)):Option ((List Int))))
  (fun k s=>s.length=n/\∀i,i<k->s[i]? =some ((i:Nat):Int)) (by omega) ⟨h0,fun i hi=>by omega⟩ (fun k s hk ⟨hs,hi⟩=>by
   refine⟨s.set k ((k:Nat):Int),?_,by simp [hs],fun i hi'=>?_⟩
   ·rw [jE _ _ (by omega),aB,bY]
   ·rw [lK (by omega)]
    split
    ·rename_i e;rw [e]
    ·exact hi i (by omega))
 rw [h1,aB]
 exact⟨s',rfl,UF.init n s' h2.1 (fun i hi=>h2.2 i (by omega))⟩
theorem nn {n:Nat} {up:List Int} {r:Nat->Nat} (h:UF n up r) {i:Nat} (hi:i<n) (hn:n<N): ∃up',dO N up ((i:Nat):Int)=some (((r i:Nat):Int),up')/\UF n up' r:=by
 unfold dO
 obtain⟨o,h1,h2⟩:=uF (R:=Empty) (body:=fun(s32: (List Int)×Int)=>((idx s32.1 s32.2).bind fun x43=>bif (x43 != s32.2) then ((idx s32.1 s32.2).bind fun x44=>(idx s32.1 x44).bind fun x45=>(idx s32.1 s32.2).bind fun x46=>(idx (s32.1.set (Int.toNat s32.2) x45) s32.2).bind fun x47=>some (.nx ((s32.1.set (Int.toNat s32.2) x45),x47))) else (some (.br (s32.1,s32.2))):Option (Fl ((List Int)×Int) Empty)))
  (fun s=>UF n s.1 r/\∃j:Nat,s.2= ((j:Nat):Int)/\j<n/\r j=r i) (fun s=>s.2.toNat) (fun s=>s.2= ((r i:Nat):Int)/\UF n s.1 r) (fun _=>True) (fun s ⟨hu,j,hj,hjn,hr⟩=>by
   obtain⟨l,y⟩:=s
   dsimp only at hu hj ⊢
   subst hj
   obtain⟨u,a1,a2,a3,a4⟩:=hu.rt j hjn
   rw [dD a1,aB]
   by_cases e:u=j
   ·subst e
    refine⟨.br (l,((u:Nat):Int)),by rw [show (((u:Nat):Int) != ((u:Nat):Int))=false by simp,aS],?_,hu⟩
    show ((u:Nat):Int)=_
    rw [<-hr,a4.1 rfl]
   ·obtain⟨v,b1,b2,b3,b4⟩:=hu.rt u (by omega)
    have hl:=hu.len
    refine⟨.nx (l.set j ((v:Nat):Int),((v:Nat):Int)),by
     rw [show (((u:Nat):Int) != ((j:Nat):Int))=true by simp;omega,aR,aB,dD b1,aB,aB,bY,
      dD (x:=((v:Nat):Int)) (by rw [lK (by omega),aC rfl]),aB],⟨⟨by simp [hl],fun k hk=>?_⟩,v,rfl,by omega,?_⟩,?_⟩
    ·rw [lK (by omega)]
     by_cases e2:k=j
     ·subst e2
      rw [aC rfl]
      refine⟨v,rfl,by omega,by rw [b3,a3],?_⟩
      constructor
      ·intro h;omega
      ·intro h;exact absurd (a4.2 h) e
     ·rw [aD e2];exact hu.rt k hk
    ·rw [b3,a3,hr]
    ·simp only [bY];omega)
  N (up,((i:Nat):Int)) ⟨h,i,rfl,hi,rfl⟩ (by simp only [bY];omega)
 rw [h1,aB]
 cases o with
 | go s'=>exact⟨s'.1,by rw [<-h2.1];rfl,h2.2⟩
 | rt r=>exact r.elim
def my (r:Nat->Nat) (a b:Nat):Nat->Nat:=fun x=>if r x=max a b then min a b else r x
theorem Gf (a b:Nat): (if ((a:Nat):Int)< ((b:Nat):Int) then ((b:Nat):Int) else ((a:Nat):Int))= ((max a b:Nat):Int):=by
 rw [Nat.max_def];split <;> split <;> omega
theorem Gg (a b:Nat): (if ((b:Nat):Int)< ((a:Nat):Int) then ((b:Nat):Int) else ((a:Nat):Int))= ((min a b:Nat):Int):=by
 rw [Nat.min_def];split <;> split <;> omega
theorem DN {n:Nat} {up:List Int} {r:Nat->Nat} (h:UF n up r) {i k:Nat} (hi:i<n) (hk:k<n) (hn:n<N):
  ∃up',dI N up ((i:Nat):Int) ((k:Nat):Int)=some up'/\UF n up' (my r (r i) (r k)):=by
 obtain⟨u1,a1,a2⟩:=nn h hi hn
 obtain⟨u2,b1,b2⟩:=nn a2 hk hn
 have hri:=h.le i hi
 have hrk:=h.le k hk
 have rri:=h.rr i hi
 have rrk:=h.rr k hk
 unfold dI
 rw [a1,aB,b1,aB]
 dsimp only
 rw [Gf,Gg]
 have hm:max (r i) (r k)<n:=by omega
 have hl:=b2.len
 rw [jE _ _ (by omega),aB,bY]
 refine⟨_,rfl,by simp [hl],fun x hx=>?_⟩
 have rmax:r (max (r i) (r k))=max (r i) (r k):=by rcases Nat.le_total (r i) (r k) with e | e <;> simp [Nat.max_def] <;> split <;> omega
 have rmin:r (min (r i) (r k))=min (r i) (r k):=by rcases Nat.le_total (r i) (r k) with e | e <;> simp [Nat.min_def] <;> split <;> omega
 rw [lK (by omega)]
 by_cases e:x=max (r i) (r k)
 ·subst e
  rw [aC rfl]
  refine⟨min (r i) (r k),rfl,by omega,?_,?_⟩
  ·unfold my;rw [rmin,rmax,aC rfl];split <;> rfl
  ·unfold my;rw [rmax,aC rfl]
 ·rw [aD e]
  obtain⟨u,c1,c2,c3,c4⟩:=b2.rt x hx
  refine⟨u,c1,c2,?_,?_⟩
  ·unfold my;rw [c3]
  ·unfold my
   split
   ·rename_i e2
    constructor
    ·intro hu;have:=c4.1 hu;omega
    ·intro hu
     have h1:=b2.le x hx
     have:min (r i) (r k)=max (r i) (r k)\/x<max (r i) (r k):=by omega
     have h3:x=max (r i) (r k):=by omega
     exact absurd h3 e
   ·exact c4
def mM (r:Nat->Nat) (E:List (Nat×Nat)):Prop:=∀p∈E,r p.1=r p.2
def vU (n:Nat) (r:Nat->Nat) (E:List (Nat×Nat)):Prop:=∀S:Nat->Prop,(∀p∈E,S p.1↔S p.2)->∀i j,i<n->j<n->r i=r j->S i->S j
theorem mM.join {r:Nat->Nat} {E:List (Nat×Nat)} (h:mM r E) (i k:Nat) (_h2:r (r i)=r i):mM (my r (r i) (r k)) (E++[(i,k)]):=fun p hp=>by
 rcases cS.1 hp with hp | hp
 ·unfold my;rw [h p hp]
 ·simp at hp;subst hp
  unfold my
  dsimp only
  split <;> split <;> omega
theorem vU.join {n:Nat} {r:Nat->Nat} {E:List (Nat×Nat)} (h:vU n r E) {i k:Nat} (hi:i<n) (hk:k<n):vU n (my r (r i) (r k)) (E++[(i,k)]):=fun S hS x y hx hy hr hSx=>by
 have hE: ∀p∈E,S p.1↔S p.2:=fun p hp=>hS p (List.mem_append_left _ hp)
 have hik:S i↔S k:=hS (i,k) (by simp)
 have key:=h S hE
 unfold my at hr
 by_cases h1:r x=r y
 ·exact key x y hx hy h1 hSx
 ·have: (r x=r i/\r y=r k)\/(r x=r k/\r y=r i):=by
   split at hr <;> split at hr <;> omega
  rcases this with ⟨e1,e2⟩ | ⟨e1,e2⟩
  ·exact key k y hk hy e2.symm (hik.1 (key x i hx hi e1 hSx))
  ·exact key i y hi hy e2.symm (hik.2 (key x k hx hk e1 hSx))
theorem vU.id (n:Nat):vU n (fun i=>i) []:=fun S _ i j _ _ h hs=>by
 have h:i=j:=h
 subst h;exact hs
theorem mM.id:mM (fun i=>i) []:=fun p hp=>by simp at hp
def bX (n:Nat) (r:Nat->Nat):List Nat:=(List.range n).filter (fun k=>decide (r k=k))
def cls (n:Nat) (r:Nat->Nat) (k:Nat):List Nat:=(List.range n).filter (fun i=>decide (r i=k))
theorem jz (n:Nat) (r:Nat->Nat):bX (n+1) r=if r n=n then bX n r++[n] else bX n r:=by
 unfold bX
 rw [List.range_succ,gS]
 by_cases h:r n=n
 ·rw [aC h];simp [h]
 ·rw [aD h];simp [h]
theorem rN (n:Nat) (r:Nat->Nat) (k:Nat):cls (n+1) r k=if r n=k then cls n r k++[n] else cls n r k:=by
 unfold cls
 rw [List.range_succ,gS]
 by_cases h:r n=k
 ·rw [aC h];simp [h]
 ·rw [aD h];simp [h]
theorem mN (n:Nat) (r:Nat->Nat): (bX n r).length<=n:=by
 have:=jC (fun k=>decide (r k=k)) (List.range n)
 rw [List.length_range] at this;exact this
theorem AG (n:Nat) (r:Nat->Nat) (k:Nat): (cls n r k).length<=n:=by
 have:=jC (fun i=>decide (r i=k)) (List.range n)
 rw [List.length_range] at this;exact this
theorem ig {n k:Nat} {r:Nat->Nat}:k∈bX n r↔k<n/\r k=k:=by unfold bX;simp
theorem l3 (n:Nat) (r:Nat->Nat): (bX n r).Nodup:=List.Nodup.sublist List.filter_sublist List.nodup_range
def ou (n:Nat) (r:Nat->Nat):List (List Int):=(bX n r).map (fun k=>(cls n r k).map (fun i=>((i:Nat):Int)))
theorem DO {n k:Nat} {r:Nat->Nat} (h: ∀i,i<n->r i<=i) (hk:n<=k):cls n r k= []:=by
 unfold cls
 rw [List.filter_eq_nil_iff]
 intro i hi
 have h1:=jf.1 hi
 have:=h i h1
 simp;omega
theorem rO {α β:Type} (f g:α->β) (l:List α) (j:Nat) (a:α) (hn:l.Nodup) (hj:l[j]? =some a) (hf: ∀b,b∈l->b≠a->f b=g b): (l.map f).set j (g a)=l.map g:=by
 apply List.ext_getElem?
 intro i
 have hjl:=(bC.1 hj).1
 rw [fA,eY,fP,fP]
 by_cases e:j=i
 ·subst e;rw [aC rfl,aC hjl,hj];rfl
 ·rw [aD e]
  cases hb:l[i]? with
  | none=>rfl
  | some b=>
   have hne:b≠a:=fun he=>by
    subst he
    have hil:=(bC.1 hb).1
    exact e ((List.getElem_inj hn).1 (by rw [(bC.1 hb).2,(bC.1 hj).2]) |>.symm)
   show some (f b)=some (g b)
   rw [hf b (gH hb) hne]
def KW (n:Nat) (r:Nat->Nat) (m:List (Int×Int)):Prop:=∀(j k:Nat),(bX n r)[j]? =some k->dH m ((k:Nat):Int) 0= ((j:Nat):Int)
theorem HC {n:Nat} {up:List Int} {r:Nat->Nat} (h:UF n up r) (hn:n<N) (hn2:n<=1048576000): ∃up',iP N up=some (ou n r,up')/\UF n up' r:=by
 unfold iP
 have hlen:=h.len
 have hle:=h.le
 have hrr:=h.rr
 obtain⟨s',h1,h2⟩:=w8 (m:=up.length) (s:=(up,([]: (List (List Int))),([]: (List (Int×Int)))))
  (body:=fun(k32:Nat) (s33: (List Int)×(List (List Int))×(List (Int×Int)))=>((dO N s33.1 (k32:Int)).bind fun x117=>(bif (x117.1==(k32:Int)) then ((app 24 s33.2.1 [([]: (List Int))]).bind fun x126=>some (x126,(nT s33.2.2 (k32:Int) (s33.2.1.length:Int)))) else (some (s33.2.1,s33.2.2))).bind fun s122=>(idx s122.1 (dH s122.2 x117.1 (0:Int))).bind fun x128=>(app 8 x128 ([(k32:Int)]: (List Int))).bind fun x134=>(idx s122.1 (dH s122.2 x117.1 (0:Int))).bind fun x136=>some (x117.2,(s122.1.set (Int.toNat (dH s122.2 x117.1 (0:Int))) x134),s122.2):Option ((List Int)×(List (List Int))×(List (Int×Int)))))
  (fun k s=>UF n s.1 r/\s.2.1=ou k r/\KW k r s.2.2) (by omega) ⟨h,rfl,fun j k hj=>by simp [bX] at hj⟩ (fun k s hk ⟨hu,hs,hm⟩=>by
   obtain⟨l,ss,m⟩:=s
   dsimp only at hu hs hm ⊢
   subst hs
   rw [hlen] at hk
   obtain⟨u',a1,a2⟩:=nn hu hk hn
   rw [a1,aB]
   dsimp only
   have hhl:=mN k r
   have hsl: (ou k r).length= (bX k r).length:=by unfold ou;simp
   have hrk:=hle k hk
   by_cases e:r k=k
   ·
    rw [show (((r k:Nat):Int)==((k:Nat):Int))=true by rw [e];simp,aR,fF (by rw [hsl];simp;omega),aB,aB]
    dsimp only
    rw [e,iK,aC rfl,hsl]
    have hi: (ou k r++[([]:List Int)])[(bX k r).length]? =some []:=by rw [<-hsl,fz (bM _),Nat.sub_self];rfl
    rw [dD hi,aB,fF (by simp),aB,aB,bY]
    refine⟨_,rfl,a2,?_,fun j q hj=>?_⟩
    ·dsimp only
     rw [<-hsl,List.set_append_right _ _ (bM _),Nat.sub_self]
     unfold ou
     rw [jz,aC e,eB]
     congr 1
     ·apply List.map_congr_left
      intro a ha
      have:=(ig.1 ha).1
      rw [rN,aD (by omega)]
     ·simp only [List.set_cons_zero,dV,List.map_nil,List.nil_append]
      rw [rN,aC e,DO (fun i hi=>hle i (by omega)) (bM _)];rfl
    ·dsimp only
     rw [jz,aC e] at hj
     rw [iK]
     by_cases e2:j< (bX k r).length
     ·rw [fO e2] at hj
      have:=(ig.1 (gH hj)).1
      rw [aD (by omega)];exact hm j q hj
     ·rw [fz (by omega)] at hj
      have hj0:j - (bX k r).length=0:=by
       have:=(bC.1 hj).1;simp at this;omega
      rw [hj0] at hj;simp at hj;subst hj
      rw [aC rfl];congr 1;omega
   ·rw [show (((r k:Nat):Int)==((k:Nat):Int))=false by simp;omega,aS,aB]
    dsimp only
    have hh:r k∈bX k r:=ig.2 ⟨by omega,hrr k hk⟩
    obtain⟨j,hj⟩:=gk hh
    rw [hm j (r k) hj]
    have hcl:=AG k r (r k)
    have hi: (ou k r)[j]? =some ((cls k r (r k)).map (fun i=>((i:Nat):Int))):=by unfold ou;rw [fP,hj];rfl
    rw [dD hi,aB,fF (by simp;omega),aB,aB,bY]
    refine⟨_,rfl,a2,?_,fun j' q hj'=>?_⟩
    ·unfold ou
     rw [jz,aD e]
     have:=rO (fun a=>(cls k r a).map (fun i=>((i:Nat):Int))) (fun a=>(cls (k+1) r a).map (fun i=>((i:Nat):Int))) (bX k r) j (r k) (l3 k r) hj (fun b hb hne=>by
      rw [rN,aD (fun h=>hne h.symm)])
     rw [rN,aC rfl,eB] at this
     exact this
    ·rw [jz,aD e] at hj';exact hm j' q hj')
 rw [h1,aB]
 obtain⟨l,ss,m⟩:=s'
 dsimp only at h2
 rw [hlen] at h2
 refine⟨l,?_,h2.1⟩
 rw [<-h2.2.1]
end
end Go.Gk
namespace Go.Gk
open Go
section
variable {N:Nat}
theorem AH {n:Nat} {up:List Int} {r:Nat->Nat} (h:UF n up r) {i:Nat} (hi:i<n) (hn:n<N): ∃up',eI N ((i:Nat):Int) up=some (((r i:Nat):Int),up')/\UF n up' r:=by
 unfold eI
 have:=Ok.bind (β:=Int×List Int) (Q:=fun x=>x.1= ((r i:Nat):Int)/\UF n x.2 r) (Ok.nD (body:=fun(s32:Int×(List Int))=>((idx s32.2 s32.1).bind fun x43=>bif (x43 != s32.1) then ((idx s32.2 s32.1).bind fun x44=>(idx s32.2 x44).bind fun x45=>(idx s32.2 s32.1).bind fun x46=>(idx (s32.2.set (Int.toNat s32.1) x45) s32.1).bind fun x47=>some (.nx (x47,(s32.2.set (Int.toNat s32.1) x45)))) else (some (.br (s32.1,s32.2))):Option (Fl (Int×(List Int)) Empty)))
  (N:=N) (s:=(((i:Nat):Int),up)) (Go:=fun s=>s.1= ((r i:Nat):Int)/\UF n s.2 r) (Rt:=fun _=>True) (fun s=>UF n s.2 r/\∃j:Nat,s.1= ((j:Nat):Int)/\j<n/\r j=r i) (fun s=>s.1.toNat) (by
   rintro⟨y,l⟩ ⟨hu,j,hj,hjn,hr⟩
   dsimp only at hu hj ⊢
   subst hj
   obtain⟨u,a1,a2,a3,a4⟩:=hu.rt j hjn
   refine Ok.ix a1 ?_
   by_cases e:u=j
   ·subst e
    rw [show (((u:Nat):Int) != ((u:Nat):Int))=false by simp,aS]
    refine Ok.br ⟨?_,hu⟩
    show ((u:Nat):Int)=_
    rw [<-hr,a4.1 rfl]
   ·obtain⟨v,b1,b2,b3,b4⟩:=hu.rt u (by omega)
    have hl:=hu.len
    rw [show (((u:Nat):Int) != ((j:Nat):Int))=true by simp;omega,aR]
    refine Ok.ix a1 (Ok.ix b1 (Ok.ix a1 (Ok.ix (x:=((v:Nat):Int)) (by rw [bY,lK (by omega),aC rfl]) (Ok.nx ⟨⟨⟨by simp [hl],fun k hk=>?_⟩,v,rfl,by omega,?_⟩,?_⟩))))
    ·rw [bY,lK (by omega)]
     by_cases e2:k=j
     ·subst e2
      rw [aC rfl]
      refine⟨v,rfl,by omega,by rw [b3,a3],?_⟩
      constructor
      ·intro h;omega
      ·intro h;exact absurd (a4.2 h) e
     ·rw [aD e2];exact hu.rt k hk
    ·rw [b3,a3,hr]
    ·simp only [bY];omega)
  ⟨h,i,rfl,hi,rfl⟩ (by simp only [bY];omega))
  (fun o ho=>Ok.cs (f:=fun(s32:Int×(List Int))=>some (s32.1,s32.2)) (g:=fun r:Empty=>r.elim) ho (fun s h=>Ok.ret h) (fun r=>r.elim))
 obtain⟨⟨x,up'⟩,h1,h2,h3⟩:=this
 exact⟨up',by rw [<-h2];exact h1,h3⟩
theorem Gh {n:Nat} {up:List Int} {r:Nat->Nat} (h:UF n up r) {i k:Nat} (hi:i<n) (hk:k<n) {f:List Int->Option (List Int)} (hn:n<N):
  ∃up',((eI N ((i:Nat):Int) up).bind fun x840=>(eI N ((k:Nat):Int) x840.2).bind fun x842=>(idx x842.2 (if x840.1<x842.1 then x842.1 else x840.1)).bind fun x844=>some (x842.2.set (Int.toNat (if x840.1<x842.1 then x842.1 else x840.1)) (if x842.1<x840.1 then x842.1 else x840.1)))=some up'/\UF n up' (my r (r i) (r k)):=by
 obtain⟨u1,a1,a2⟩:=AH h hi hn
 obtain⟨u2,b1,b2⟩:=AH a2 hk hn
 obtain⟨v1,c1,c2⟩:=nn h hi hn
 have hri:=h.le i hi
 have hrk:=h.le k hk
 have rri:=h.rr i hi
 have rrk:=h.rr k hk
 rw [a1,aB,b1,aB]
 dsimp only
 rw [Gf,Gg]
 have hm:max (r i) (r k)<n:=by omega
 have hl:=b2.len
 rw [jE _ _ (by omega),aB,bY]
 refine⟨_,rfl,by simp [hl],fun x hx=>?_⟩
 have rmax:r (max (r i) (r k))=max (r i) (r k):=by rcases Nat.le_total (r i) (r k) with e | e <;> simp [Nat.max_def] <;> split <;> omega
 have rmin:r (min (r i) (r k))=min (r i) (r k):=by rcases Nat.le_total (r i) (r k) with e | e <;> simp [Nat.min_def] <;> split <;> omega
 rw [lK (by omega)]
 by_cases e:x=max (r i) (r k)
 ·subst e
  rw [aC rfl]
  refine⟨min (r i) (r k),rfl,by omega,?_,?_⟩
  ·unfold my;rw [rmin,rmax,aC rfl];split <;> rfl
  ·unfold my;rw [rmax,aC rfl]
 ·rw [aD e]
  obtain⟨u,c1,c2,c3,c4⟩:=b2.rt x hx
  refine⟨u,c1,c2,?_,?_⟩
  ·unfold my;rw [c3]
  ·unfold my
   split
   ·rename_i e2
    constructor
    ·intro hu;have:=c4.1 hu;omega
    ·intro hu
     have h1:=b2.le x hx
     have h3:x=max (r i) (r k):=by omega
     exact absurd h3 e
   ·exact c4
def gG (s:List aA) (k:Nat):Nat:=(aN (s.take k)).length
theorem vV {s:List aA} {k:Nat} (h:k<s.length):gG s (k+1)=gG s k+s[k].Xs.length / 2:=by
 unfold gG
 rw [eM h,lA,dR]
 show _+ (aN [s[k]]).length=_
 rw [show aN [s[k]]=lY s[k] by simp [aN],k8]
theorem vW {s:List aA} {k m:Nat} (h:k<=m):gG s k<=gG s m:=by
 unfold gG
 have:=vS (s.take m) k
 rwa [List.take_take,Nat.min_eq_left h] at this
theorem BZ (s:List aA):gG s s.length= (aN s).length:=by unfold gG;rw [eD]
theorem HD {s:List aA} {k t:Nat} (h:k<s.length) (ht:2*t+1<s[k].Xs.length): (aN s)[gG s k+t]? =some ⟨s[k].Xs[2*t],s[k].Y0,s[k].Xs[2*t+1],s[k].Y1⟩:=by
 have e:aN s=aN (s.take k)++(lY s[k]++aN (s.drop (k+1))):=by
  conv=>lhs;rw [<-List.take_append_drop k s,r6 h]
  rw [lA,lZ]
 rw [e]
 unfold gG
 rw [fz (by omega),Nat.add_sub_cancel_left,fO (by rw [k8];omega)]
 unfold lY
 rw [fP,u6 _ _ ht];rfl
theorem DQ {s:List aA} {i:Nat} (h:i< (aN s).length): ∃k,k<s.length/\gG s k<=i/\i<gG s (k+1):=by
 have key: ∀m,m<=s.length->i<gG s m->∃k,k<m/\gG s k<=i/\i<gG s (k+1):=by
  intro m
  induction m with
  | zero=>intro _ h;unfold gG at h;simp [aN] at h
  | succ m ih=>
   intro hm hi
   by_cases h1:i<gG s m
   ·obtain⟨k,hk,h2⟩:=ih (by omega) h1
    exact⟨k,by omega,h2⟩
   ·exact⟨m,by omega,by omega,hi⟩
 exact key s.length (bM _) (by rw [BZ];exact h)
def I3 (a c:aI):Prop:=a.Y1=c.Y0/\a.X0<c.X1/\c.X0<a.X1
def EG (all:List aI) (i j:Nat):Prop:=∃a c,all[i]? =some a/\all[j]? =some c/\I3 a c
theorem sC {s:List aA} (he: ∀b∈s,b.Xs.length % 2=0) {k i:Nat} (hk:k<s.length) (h1:gG s k<=i) (h2:i<gG s (k+1)): ∃t,i=gG s k+t/\∃h:2*t+1<s[k].Xs.length,(aN s)[i]? =some ⟨s[k].Xs[2*t],s[k].Y0,s[k].Xs[2*t+1],s[k].Y1⟩:=by
 rw [vV hk] at h2
 have:=he _ (cP hk)
 refine⟨i - gG s k,by omega,by omega,?_⟩
 have h3:=HD (t:=i - gG s k) hk (by omega)
 rwa [show gG s k+ (i - gG s k)=i by omega] at h3
theorem yc {s:List aA} (hc:eK (s.map bR)) {p q:Nat} (hp:p<s.length) (hq:q<s.length) (h:p<q):s[p].Y1<=s[q].Y0:=by
 have:=mQ.1 hc.ord p q (by simp;omega) (by simp;omega) h
 simp only [List.getElem_map] at this
 exact this.1
theorem yd {s:List aA} (hc:eK (s.map bR)) {p:Nat} (hp:p<s.length):s[p].Y0<s[p].Y1:=(hc.each (bR s[p]) (cT.2 ⟨_,cP hp,rfl⟩)).1
theorem pQ {s:List aA} (hc:eK (s.map bR)): ∀b∈s,b.Xs.length % 2=0:=fun b hb=>(hc.each (bR b) (cT.2 ⟨b,hb,rfl⟩)).2.2.2
theorem DR {s:List aA} (hc:eK (s.map bR)): ∀b∈s,lP b.Xs:=fun b hb=>(hc.each (bR b) (cT.2 ⟨b,hb,rfl⟩)).2.2.1
theorem B0 {s:List aA} (hc:eK (s.map bR)) {i j q:Nat} (hq:q<s.length) (h1:gG s q<=j) (h2:j<gG s (q+1)) (ht:EG (aN s) i j): ∃hq0:0<q,s[q - 1].Y1=s[q].Y0/\gG s (q - 1)<=i/\i<gG s q:=by
 obtain⟨a,c,ha,hb,e1,e2,e3⟩:=ht
 obtain⟨t,e4,ht,hj⟩:=sC (pQ hc) hq h1 h2
 rw [hj] at hb;injection hb with hb;subst hb
 have hil:=(bC.1 ha).1
 obtain⟨p,hp,p1,p2⟩:=DQ hil
 obtain⟨u,e5,hu,hi⟩:=sC (pQ hc) hp p1 p2
 rw [hi] at ha;injection ha with ha;subst ha
 have e1:s[p].Y1=s[q].Y0:=e1
 have hpp:=yd hc hp
 have hqq:=yd hc hq
 have hpq:p+1=q:=by
  rcases Nat.lt_trichotomy p q with h | h | h
  ·by_cases h':p+1=q
   ·exact h'
   ·have h3:=yc hc hp (show p+1<s.length by omega) (by omega)
    have h4:=yc hc (show p+1<s.length by omega) hq (by omega)
    have h5:=yd hc (show p+1<s.length by omega)
    omega
  ·subst h;omega
  ·have:=yc hc hq hp h;omega
 subst hpq
 exact⟨by omega,e1,p1,p2⟩
structure PJ (all:List aI) (n:Nat) (up:List Int) (r:Nat->Nat) (E:List (Nat×Nat)):Prop where
 uf:UF n up r
 co:mM r E
 fi:vU n r E
 so: ∀p∈E,EG all p.1 p.2
theorem PJ.join {all:List aI} {n:Nat} {up up':List Int} {r:Nat->Nat} {E:List (Nat×Nat)} (h:PJ all n up r E) {i j:Nat} (hi:i<n) (hj:j<n) (hu:UF n up' (my r (r i) (r j))) (ht:EG all i j):PJ all n up' (my r (r i) (r j)) (E++[(i,j)]):=
 ⟨hu,h.co.join i j (h.uf.rr i hi),h.fi.join hi hj,fun p hp=>by
  rcases cS.1 hp with hp | hp
  ·exact h.so p hp
  ·simp at hp;subst hp;exact ht⟩
structure Joined (all:List aI) (r:Nat->Nat):Prop where
 le: ∀i,i<all.length->r i<=i
 rr: ∀i,i<all.length->r (r i)=r i
 co: ∀i j,EG all i j->r i=r j
 fi: ∀S:Nat->Prop,(∀i j,EG all i j->(S i↔S j))->∀i j,i<all.length->j<all.length->r i=r j->S i->S j
def l6 (all:List aI) (n:Nat) (r:Nat->Nat) (h:Nat):List aI:=(cls n r h).filterMap (fun i=>all[i]?)
theorem ye (all:List aI) (n:Nat) (r:Nat->Nat) (h:Nat): (l6 all n r h).length<=n:=by
 have h1:=List.length_filterMap_le (fun i=>all[i]?) (cls n r h)
 have h2:=AG n r h
 unfold l6;omega
theorem sD {all:List aI} {n:Nat} {r:Nat->Nat} (h:Nat) {x:aI} (hx:all[n]? =some x):l6 all (n+1) r h=if r n=h then l6 all n r h++[x] else l6 all n r h:=by
 unfold l6
 rw [rN]
 split
 ·rw [List.filterMap_append];simp [hx]
 ·rfl
theorem m6 {all:List aI} {n:Nat} {r:Nat->Nat} {h:Nat} {x:aI}:x∈l6 all n r h↔∃i,i<n/\r i=h/\all[i]? =some x:=by
 unfold l6 cls
 rw [List.mem_filterMap]
 constructor
 ·rintro⟨i,hi,h⟩
  have:=iA.1 hi
  exact⟨i,jf.1 this.1,by simpa using this.2,h⟩
 ·rintro⟨i,h1,h2,h3⟩
  exact⟨i,iA.2 ⟨jf.2 h1,by simpa using h2⟩,h3⟩
structure qy (s:List aA) (r:Nat->Nat) (ps:List (List aA)):Prop where
 join:Joined (aN s) r
 len:ps.length= (bX (aN s).length r).length
 each: ∀(j h:Nat) (p:List aA),(bX (aN s).length r)[j]? =some h->ps[j]? =some p->oY (l6 (aN s) (aN s).length r h) p
def Mo (n:Nat) (r:Nat->Nat) (m:List (Int×Int)):Prop:=(∀(j k:Nat),(bX n r)[j]? =some k->dH m ((k:Nat):Int) 0= ((j:Nat):Int))/\∀k:Nat,gK m ((k:Nat):Int)=decide (k∈bX n r)
theorem C0 {s:List aA} {X Y:List Int} (hc:eK (s.map bR)) (hl:tW X Y (s.map bR)) (hX: ∀c∈X,small c) (hY: ∀c∈Y,small c) (h1:s.length<=1073741824) (h2: ∀b∈s,b.Xs.length<=1073741824) (h3: (aN s).length<=134217728) (hN:4398046511104<=N):
  Ok (j8 N s) (fun ps=>∃r,qy s r ps):=by
 unfold j8
 have hev:=pQ hc
 have hinc:=DR hc
 refine Ok.eq (x8 hev (by omega) (fun b hb=>by have:=h2 b hb;omega) (by omega)) ?_
 have hok:=x9 hc hl hX hY
 have hall:gG s s.length= (aN s).length:=BZ s
 generalize hn: (aN s).length=n at *
 refine Ok.eq (qt 0 (by omega)) ?_
 rw [show ((List.replicate n (0:Int)).length)=n by simp]
 refine Ok.bind (Ok.iL (fun k up=>up.length=n/\∀i,i<k->up[i]? =some ((i:Nat):Int)) (by omega) ⟨by simp,fun i hi=>by omega⟩ (fun k up hk hI=>?_)) ?_
 ·obtain⟨hs,hi⟩:=hI
  refine Ok.idx (by omega) (Ok.ret ⟨by simp [hs],fun i hi'=>?_⟩)
  rw [bY,lK (by omega)]
  split
  ·rename_i e;rw [e]
  ·exact hi i (by omega)
 rintro up0 ⟨hu1,hu2⟩
 refine Ok.bind (Ok.iL (fun k st=>st.2.1= ((gG s k:Nat):Int)/\(0<k->st.2.2= ((gG s (k - 1):Nat):Int))/\∃r E,PJ (aN s) n st.1 r E/\∀q,q<k->∀i j,gG s q<=j->j<gG s (q+1)->EG (aN s) i j->(i,j)∈E) (by omega)
  ⟨rfl,fun h=>by omega,_,_,⟨UF.init n up0 hu1 hu2,mM.id,vU.id n,fun p hp=>(by cases hp)⟩,fun q hq=>by omega⟩ (fun k st hk hI=>?_)) ?_
 ·obtain⟨up,a,b⟩:=st
  obtain⟨e1,e2,r,E,hP,hE⟩:=hI
  dsimp only at e1 e2 hP ⊢
  subst e1
  refine Ok.idx hk ?_
  have hoff:=vV hk
  have hoffle:gG s (k+1)<=n:=by rw [<-hall];exact vW hk
  have hkm:=cP hk
  have hlen:IntKind.wrap .i64 (Int.tdiv ((s[k].Xs.length:Nat):Int) 2)= ((s[k].Xs.length / 2:Nat):Int):=by
   have:=h2 _ hkm
   rw [show (2:Int)= ((2:Nat):Int) by rfl,<-Int.ofNat_tdiv,BV (by omega)]
  rw [hlen,wrap_add (by omega),<-hoff]
  refine Ok.bind (P:=fun c=>c=true↔∃h0:0<k,s[k - 1].Y1=s[k].Y0) ?_ (fun c hcc=>?_)
  ·refine Ok.bif (fun h=>?_) (fun h=>Ok.ret ?_)
   ·have hpos:0<k:=by have:=of_decide_eq_true h;omega
    rw [lW hpos (by omega)]
    refine Ok.idx (by omega) (Ok.ret ?_)
    rw [beq_iff_eq]
    exact⟨fun h=>⟨hpos,h⟩,fun⟨_,h⟩=>h⟩
   ·have:=of_decide_eq_false h
    constructor
    ·intro h;cases h
    ·rintro⟨h0,_⟩;omega
  refine Ok.bind (P:=fun up'=>∃r E,PJ (aN s) n up' r E/\∀q,q<k+1->∀i j,gG s q<=j->j<gG s (q+1)->EG (aN s) i j->(i,j)∈E) ?_ (fun up' hI=>Ok.ret ⟨rfl,fun _=>rfl,hI⟩)
  refine Ok.bif (fun h=>?_) (fun h=>Ok.ret ⟨r,E,hP,fun q hq i j q1 q2 ht=>?_⟩)
  ·obtain⟨hpos,hyy⟩:=hcc.1 h
   rw [e2 hpos]
   have hoffp:=vV (show k - 1<s.length by omega)
   rw [show k - 1+1=k by omega] at hoffp
   refine Ok.bind (Ok.nD (Go:=fun st=>∃r E,PJ (aN s) n st.1 r E/\∀q,q<k+1->∀i j,gG s q<=j->j<gG s (q+1)->EG (aN s) i j->(i,j)∈E) (Rt:=fun _=>True)
    (fun st=>∃i j:Nat,st.2.1= ((i:Nat):Int)/\st.2.2= ((j:Nat):Int)/\gG s (k - 1)<=i/\i<=gG s k/\gG s k<=j/\j<=gG s (k+1)/\∃r E,PJ (aN s) n st.1 r E/\(∀q,q<k->∀i j,gG s q<=j->j<gG s (q+1)->EG (aN s) i j->(i,j)∈E)/\
     ∀i' j',gG s (k - 1)<=i'->i'<gG s k->gG s k<=j'->j'<gG s (k+1)->(i'<i\/j'<j)->EG (aN s) i' j'->(i',j')∈E)
    (fun st=>(n - st.2.1.toNat)+ (n - st.2.2.toNat)) ?_ ?_ (by simp only [bY];omega)) (fun o ho=>Ok.cs ho (fun st h=>Ok.ret h) (fun r=>r.elim))
   ·rintro⟨up,a,b⟩ ⟨i,j,e3,e4,i1,i2,j1,j2,r,E,hP,hE,hE2⟩
    dsimp only at e3 e4 hP ⊢
    subst e3;subst e4
    refine Ok.bif (fun h=>?_) (fun h=>Ok.br ?_)
    ·rw [bT,bP,bP] at h
     have hi:i<gG s k:=by omega
     have hj:j<gG s (k+1):=by omega
     obtain⟨t,et,_,hri⟩:=sC hev (show k - 1<s.length by omega) i1 (by rw [show k - 1+1=k by omega];exact hi)
     obtain⟨u,eu,_,hrj⟩:=sC hev hk j1 hj
     have xi:=hinc _ (cP (show k - 1<s.length by omega))
     have xj:=hinc _ hkm
     have farI: ∀i' a,i<i'->i'<gG s k->(aN s)[i']? =some a->s[k - 1].Xs[2*t+1]<a.X0:=fun i' a h4 h5 h6=>by
      obtain⟨t',et',ht',hr'⟩:=sC hev (show k - 1<s.length by omega) (show gG s (k - 1)<=i' by omega) (by rw [show k - 1+1=k by omega];exact h5)
      rw [hr'] at h6;injection h6 with h6;subst h6
      exact xi.lt (show 2*t+1<2*t' by omega) (aJ _) (aJ _)
     have farJ: ∀j' a,j<j'->j'<gG s (k+1)->(aN s)[j']? =some a->s[k].Xs[2*u+1]<a.X0:=fun j' a h4 h5 h6=>by
      obtain⟨u',eu',hu',hr'⟩:=sC hev hk (show gG s k<=j' by omega) h5
      rw [hr'] at h6;injection h6 with h6;subst h6
      exact xj.lt (show 2*u+1<2*u' by omega) (aJ _) (aJ _)
     refine Ok.bind (P:=fun c=>c=true↔EG (aN s) i j) ?_ (fun c hct=>?_)
     ·refine Ok.ix hri (Ok.ix hrj (Ok.bif (fun h=>Ok.ix hrj (Ok.ix hri (Ok.ret ?_))) (fun h=>Ok.ret ?_)))
      ·rw [bP] at h ⊢
       constructor
       ·intro h';exact⟨_,_,hri,hrj,hyy,h,h'⟩
       ·rintro⟨a,c,ha,hc',_,_,h'⟩
        rw [hri] at ha;injection ha with ha;subst ha
        rw [hrj] at hc';injection hc' with hc';subst hc'
        exact h'
      ·constructor
       ·intro h;cases h
       ·rintro⟨a,c,ha,hc',_,h',_⟩
        rw [hri] at ha;injection ha with ha;subst ha
        rw [hrj] at hc';injection hc' with hc';subst hc'
        rw [decide_eq_false_iff_not] at h;exact absurd h' h
     refine Ok.bind (P:=fun up'=>∃r E',PJ (aN s) n up' r E'/\(∀p∈E,p∈E')/\(EG (aN s) i j->(i,j)∈E')) ?_ ?_
     ·refine Ok.bif (fun h=>?_) (fun h=>Ok.ret ⟨r,E,hP,fun p hp=>hp,fun ht=>by rw [hct.2 ht] at h;cases h⟩)
      obtain⟨up',u1,u2⟩:=Gh (N:=N) (f:=fun x=>some x) hP.uf (i:=i) (k:=j) (by omega) (by omega) (by omega)
      refine⟨up',u1,_,_,hP.join (by omega) (by omega) u2 (hct.1 h),fun p hp=>List.mem_append_left _ hp,fun _=>by simp⟩
     ·rintro up' ⟨r',E',hP',hsub,hij⟩
      refine Ok.ix hri (Ok.ix hrj ?_)
      dsimp only
      by_cases hx:s[k - 1].Xs[2*t+1]<s[k].Xs[2*u+1]
      ·rw [cE hx,aR]
       refine Ok.eq (x:=(((i+1:Nat):Int),((j:Nat):Int))) (by rw [gx (by omega)]) (Ok.nx ⟨⟨i+1,j,rfl,rfl,by omega,by omega,j1,j2,r',E',hP',fun q hq i j q1 q2 ht=>hsub _ (hE q hq i j q1 q2 ht),fun i' j' g1 g2 g3 g4 g5 ht=>?_⟩,by simp only [bY];omega⟩)
       by_cases h5:i'<i\/j'<j
       ·exact hsub _ (hE2 i' j' g1 g2 g3 g4 h5 ht)
       ·have:i'=i:=by omega
        subst this
        by_cases h6:j'=j
        ·subst h6;exact hij ht
        ·exfalso
         obtain⟨a,c,ha,hc',_,_,h'⟩:=ht
         rw [hri] at ha;injection ha with ha;subst ha
         have:=farJ j' c (by omega) g4 hc'
         dsimp only at h';omega
      ·rw [bG hx,aS]
       refine Ok.eq (x:=(((i:Nat):Int),((j+1:Nat):Int))) (by rw [gx (by omega)]) (Ok.nx ⟨⟨i,j+1,rfl,rfl,i1,i2,by omega,by omega,r',E',hP',fun q hq i j q1 q2 ht=>hsub _ (hE q hq i j q1 q2 ht),fun i' j' g1 g2 g3 g4 g5 ht=>?_⟩,by simp only [bY];omega⟩)
       by_cases h5:i'<i\/j'<j
       ·exact hsub _ (hE2 i' j' g1 g2 g3 g4 h5 ht)
       ·have:j'=j:=by omega
        subst this
        by_cases h6:i'=i
        ·subst h6;exact hij ht
        ·exfalso
         obtain⟨a,c,ha,hc',_,h',_⟩:=ht
         rw [hrj] at hc';injection hc' with hc';subst hc'
         have:=farI i' a (by omega) g2 ha
         dsimp only at h';omega
    ·refine⟨r,E,hP,fun q hq i' j' q1 q2 ht=>?_⟩
     by_cases hqk:q<k
     ·exact hE q hqk i' j' q1 q2 ht
     ·have:q=k:=by omega
      subst this
      obtain⟨_,_,g1,g2⟩:=B0 hc hk q1 q2 ht
      refine hE2 i' j' g1 g2 q1 q2 ?_ ht
      rw [Bool.and_eq_false_iff,decide_eq_false_iff_not,decide_eq_false_iff_not] at h
      omega
   ·exact⟨gG s (k - 1),gG s k,rfl,rfl,bM _,vW (by omega),bM _,vW (by omega),r,E,hP,hE,fun i' j' g1 g2 g3 g4 g5=>by omega⟩
  ·by_cases hqk:q<k
   ·exact hE q hqk i j q1 q2 ht
   ·have:q=k:=by omega
    subst this
    obtain⟨g0,g1,_⟩:=B0 hc hk q1 q2 ht
    rw [hcc.2 ⟨g0,g1⟩] at h;cases h
 ·rintro⟨up,a,b⟩ ⟨_,_,r,E,hP,hE⟩
  dsimp only at hP ⊢
  have hEq: ∀i j,EG (aN s) i j->(i,j)∈E:=fun i j ht=>by
   have hjl:j< (aN s).length:=by obtain⟨a,c,_,hb,_⟩:=ht;exact(bC.1 hb).1
   obtain⟨q,hq,q1,q2⟩:=DQ hjl
   exact hE q hq i j q1 q2 ht
  have hJ:Joined (aN s) r:=⟨by rw [hn];exact hP.uf.le,by rw [hn];exact hP.uf.rr,fun i j ht=>hP.co (i,j) (hEq i j ht),fun S hS i j hi hj=>by
   rw [hn] at hi hj
   exact hP.fi S (fun p hp=>hS p.1 p.2 (hP.so p hp)) i j hi hj⟩
  refine Ok.bind (Ok.iL (fun k st=>UF n st.1 r/\Mo k r st.2.1/\st.2.2= (bX k r).map (l6 (aN s) k r)) (by omega) ⟨hP.uf,⟨fun j k hj=>by simp [bX] at hj,fun k=>rfl⟩,rfl⟩ (fun k st hk hI=>?_)) ?_
  ·obtain⟨l,m,ls⟩:=st
   obtain⟨hu,⟨hm1,hm2⟩,hs⟩:=hI
   dsimp only at hu hm1 hm2 hs ⊢
   subst hs
   have hkx: (aN s)[k]? =some ((aN s)[k]'(by omega)):=aJ (by omega)
   refine Ok.ix hkx ?_
   obtain⟨u',a1,a2⟩:=AH (N:=N) hu hk (by omega)
   refine Ok.eq a1 ?_
   dsimp only
   have hhl:=mN k r
   have hrk:=hP.uf.le k hk
   have hrr:=hP.uf.rr k hk
   have hcl:=ye (aN s) k r (r k)
   have hmap: ((bX k r).map (l6 (aN s) k r)).length= (bX k r).length:=by simp
   rw [hm2]
   by_cases e:r k=k
   ·have hnot:r k∉bX k r:=fun h=>by have:=(ig.1 h).1;omega
    refine Ok.eq (x:=(nT m ((r k:Nat):Int) (((bX k r).length:Nat):Int),(bX k r).map (l6 (aN s) k r)++[([]:List aI)],(((bX k r).length:Nat):Int))) ?_ ?_
    ·rw [bG hnot,lF,aR,fF (by simp;omega),aB,hmap]
    ·dsimp only
     have hi: ((bX k r).map (l6 (aN s) k r)++[([]:List aI)])[(bX k r).length]? =some []:=by rw [<-hmap,fz (bM _),Nat.sub_self];rfl
     refine Ok.ix hi (Ok.app (by simp) (Ok.ix hi (Ok.ret ⟨a2,⟨fun j q hj=>?_,fun q=>?_⟩,?_⟩)))
     ·dsimp only
      rw [jz,aC e] at hj
      rw [iK]
      by_cases e2:j< (bX k r).length
      ·rw [fO e2] at hj
       have:=(ig.1 (gH hj)).1
       rw [aD (by omega)];exact hm1 j q hj
      ·rw [fz (by omega)] at hj
       have hj0:j - (bX k r).length=0:=by
        have:=(bC.1 hj).1;simp at this;omega
       rw [hj0] at hj;simp at hj;subst hj
       rw [aC (by rw [e])];congr 1;omega
     ·dsimp only
      rw [kg,hm2,jz,aC e,gC]
      rw [dU,bP,bP,bP,cS,tX,e]
      constructor
      ·rintro(h | h)
       ·exact .inr (by omega)
       ·exact .inl h
      ·rintro(h | h)
       ·exact .inr h
       ·exact .inl (by omega)
     ·dsimp only
      rw [bY,<-hmap,List.set_append_right _ _ (bM _),Nat.sub_self,jz,aC e,eB]
      congr 1
      ·apply List.map_congr_left
       intro a ha
       have:=(ig.1 ha).1
       rw [sD a hkx,aD (by omega)]
      ·simp only [List.set_cons_zero,dV,List.map_nil,List.nil_append]
       rw [sD k hkx,aC e]
       have:l6 (aN s) k r k= []:=by unfold l6;rw [DO (fun i hi=>hP.uf.le i (by omega)) (bM _)];rfl
       rw [this];rfl
   ·have hh:r k∈bX k r:=ig.2 ⟨by omega,hrr⟩
    obtain⟨j,hj⟩:=gk hh
    refine Ok.eq (x:=(m,(bX k r).map (l6 (aN s) k r),((j:Nat):Int))) ?_ ?_
    ·rw [cE hh,lE,aS,hm1 j (r k) hj]
    ·dsimp only
     have hi: ((bX k r).map (l6 (aN s) k r))[j]? =some (l6 (aN s) k r (r k)):=by rw [fP,hj];rfl
     refine Ok.ix hi (Ok.app (by simp;omega) (Ok.ix hi (Ok.ret ⟨a2,⟨fun j' q hj'=>?_,fun q=>?_⟩,?_⟩)))
     ·rw [jz,aD e] at hj';exact hm1 j' q hj'
     ·rw [jz,aD e];exact hm2 q
     ·dsimp only
      rw [bY,jz,aD e]
      have:=rO (l6 (aN s) k r) (l6 (aN s) (k+1) r) (bX k r) j (r k) (l3 k r) hj (fun b hb hne=>by
       rw [sD b hkx,aD (fun h=>hne h.symm)])
      rw [sD (r k) hkx,aC rfl] at this
      exact this
  ·rintro⟨l,m,ls⟩ ⟨_,_,hs⟩
   dsimp only at hs ⊢
   subst hs
   have hhl:=mN n r
   refine Ok.bind (Ok.iL (fun k ps=>ps.length=k/\∀(j h:Nat) (p:List aA),j<k->(bX n r)[j]? =some h->ps[j]? =some p->oY (l6 (aN s) n r h) p) (by simp;omega) ⟨rfl,fun j h p hj=>by omega⟩ (fun k ps hk hI=>?_)) ?_
   ·obtain⟨hp1,hp2⟩:=hI
    have hk':k< (bX n r).length:=by simpa using hk
    refine Ok.ix (x:=l6 (aN s) n r (bX n r)[k]) (by rw [fP,aJ hk'];rfl) ?_
    have hcl:=ye (aN s) n r (bX n r)[k]
    refine Ok.bind (qx (N:=N) (by omega) (fun x hx=>?_) (by omega)) ?_
    ·obtain⟨i,_,_,h⟩:=m6.1 hx
     exact(hok x (gH h)).1
    ·intro p hp
     refine Ok.app (by rw [hp1];simp;omega) (Ok.ret ⟨by simp [hp1],fun j h q hj hh hq=>?_⟩)
     by_cases hjk:j<k
     ·rw [fO (by omega)] at hq
      exact hp2 j h q hjk hh hq
     ·have:j=k:=by omega
      subst this
      rw [fz (by omega),hp1,Nat.sub_self] at hq
      simp at hq;subst hq
      rw [aJ hk'] at hh;injection hh with hh;subst hh
      exact hp
   ·rintro ps ⟨hp1,hp2⟩
    refine Ok.ret ⟨r,hJ,?_,fun j h p hh hp=>?_⟩
    ·rw [hp1,hn];simp
    ·rw [hn] at hh ⊢
     exact hp2 j h p (by have:=(bC.1 hp).1;omega) hh hp
end
end Go.Gk
namespace Go.Gk
open Go
section
variable {N:Nat}
theorem mT {n:Int} (h: -9223372036854775808<=n/\n<=9223372036854775807):IntKind.wrap .i64 n=n:=by rw [IntKind.wrap_i64];omega
def ij (n lo hi:Int):Bool:=decide (n>=lo)&&decide (n<=hi)
def ov (n:Int):Bool:=ij n (-1000000) 1000000
def tf (p:eV):Bool:=ov p.X&&ov p.Y
def cZ (r:aI):Bool:=ov r.X0&&(ov r.Y0&&(ov r.X1&&ov r.Y1))
theorem yf (n:Int):jT N n=some (ov n):=rfl
theorem wx (p:eV):iE N p=some (tf p):=by
 unfold iE tf
 rw [yf,aB,yf]
 cases ov p.X <;> rfl
theorem yg (r:aI):kT N r=some (cZ r):=by
 unfold kT cZ
 simp only [yf,aB]
 cases ov r.X0 <;> cases ov r.Y0 <;> cases ov r.X1 <;> rfl
theorem B1 {a b:Int} (h:a≠b):fT (N+4) [a,b]=some [a,b]:=by
 have e: (b==a)=false:=by rw [beq_eq_false_iff_ne];exact fun e=>h e.symm
 have w1:IntKind.wrap .i64 ((1:Int) - 1)=0:=by decide
 have w2:IntKind.wrap .i64 ((1:Int)+1)=2:=by decide
 unfold fT
 have e1:idx [a,b] 1=some b:=rfl
 have e2:idx [a,b] 0=some a:=rfl
 have l2: (([a,b]:List Int).length:Int)=2:=rfl
 rw [l2,show decide ((2:Int)<2)=false by decide,aS]
 rw [nD.eq_def]
 dsimp only
 rw [show decide ((1:Int)<2)=true by decide,aR,e1,aB,w1,e2,aB,e,aS,aB,w2]
 dsimp only
 rw [nD.eq_def]
 dsimp only
 rw [show decide ((2:Int)<2)=false by decide,aS,aB]
 rfl
theorem Ih (x:Int):IntKind.wrap .i64 (x - x)=0:=by rw [Int.sub_self];decide
theorem EH {r:aI} (hx:r.X0<r.X1) (hy:r.Y0<r.Y1):fY (N+16) [r]=some [⟨r.Y0,r.Y1,[r.X0,r.X1]⟩]:=by
 have s1:ue (iM (N+16)) [r]=some [r]:=zy (by unfold iM;rw [Ih])
 have s2:ue (fU (N+16)) [r]=some [r]:=zy (by unfold fU;rw [Ih])
 have s3:q9 [r.Y0,r.Y1]=some [r.Y0,r.Y1]:=yS (by simp;omega) (by simp)
 have c1:g9 (N+16) [r]=some [r]:=rfl
 have f1: ∀φ,gr (N+16) [] φ=some []:=fun φ=>rfl
 have st:il (N+16) [r]=some ([r.X0,r.X1],[r]):=by
  unfold il
  rw [s2,aB]
  rfl
 have pu: ∀b:aA,b.Xs= [r.X0,r.X1]->b.Y0<b.Y1->gX (N+16) [] b=some [b]:=fun b h1 h2=>by
  unfold gX
  rw [h1,bG (show ¬b.Y1<=b.Y0 by omega)]
  rfl
 unfold fY
 rw [c1,aB,s1,aB]
 have ys: (iL ([r]:List aI).length (fun(k35:Nat) (s36: (List Int))=>((idx [r] (k35:Int)).bind fun x54=>(app 8 s36 ([x54.Y0,x54.Y1]: (List Int))).bind fun x58=>some x58:Option ((List Int)))) ([]: (List Int)))=some [r.Y0,r.Y1]:=rfl
 rw [ys,aB,s3,aB,B1 (N:=N+12) (by omega),aB]
 have l2: (([r.Y0,r.Y1]:List Int).length:Int)=2:=rfl
 have l1: (([r]:List aI).length:Int)=1:=rfl
 have w1:IntKind.wrap .i64 ((0:Int)+1)=1:=by decide
 have w2:IntKind.wrap .i64 ((1:Int)+1)=2:=by decide
 have i0:idx [r.Y0,r.Y1] 0=some r.Y0:=rfl
 have i1:idx [r.Y0,r.Y1] 1=some r.Y1:=rfl
 have j0:idx [r] 0=some r:=rfl
 have a1:app 32 ([]:List aI) [r]=some [r]:=rfl
 rw [l2,l1]
 rw [nD.eq_def]
 dsimp only
 rw [w1,show decide ((1:Int)<2)=true by decide,aR,f1,aB]
 rw [nD.eq_def]
 dsimp only
 rw [show decide ((0:Int)<1)=true by decide,aR,j0,aB,i0,aB,aB,show decide (r.Y0<=r.Y0)=true by simp,aR,aB,a1,aB,w1,aB]
 dsimp only
 rw [nD.eq_def]
 dsimp only
 rw [show decide ((1:Int)<1)=false by decide,aS,aB,aS,aB,aB]
 unfold Fo.cs
 dsimp only
 rw [aB,i1,aB,st,aB,pu _ rfl hy,aB,aB]
 dsimp only
 rw [nD.eq_def]
 dsimp only
 rw [w2,show decide ((2:Int)<2)=false by decide,aS,aB]
 rfl
theorem Gi {r:aI} (hx:r.X0<r.X1):kA N [⟨r.Y0,r.Y1,[r.X0,r.X1]⟩]=some (cZ r):=by
 have ar:kV N [⟨r.Y0,r.Y1,[r.X0,r.X1]⟩]=some r:=by
  have e1: (if r.X0<r.X0 then r.X0 else r.X0)=r.X0:=by split <;> rfl
  have e2: (if r.X1<r.X1 then r.X1 else r.X1)=r.X1:=by split <;> rfl
  show some ({X0:=(if r.X0<r.X0 then r.X0 else r.X0),Y0:=r.Y0,X1:=(if r.X1<r.X1 then r.X1 else r.X1),Y1:=r.Y1}:aI)=some r
  rw [e1,e2]
 unfold kA
 rw [ar,aB,yg]
 rfl
def xd (b:bW):aI:=⟨b.At.X - b.fy / 2,b.At.Y - b.fy / 2,b.At.X - b.fy / 2+b.fy,b.At.Y - b.fy / 2+b.fy⟩
def rP (b:bW):Bool:=ij b.fy 1 10000&&tf b.At
def mU (b:bW):aI×Int:=if rP b&&cZ (xd b) then (xd b,0) else (⟨0,0,0,0⟩,1)
theorem rQ {b:bW} (h:rP b=true): (1<=b.fy/\b.fy<=10000)/\(-1000000<=b.At.X/\b.At.X<=1000000)/\(-1000000<=b.At.Y/\b.At.Y<=1000000):=by
 simp only [rP,ij,tf,ov,bT,decide_eq_true_iff] at h
 omega
theorem l4 {b:bW} (h:rP b=true):fw N b=some (xd b):=by
 obtain⟨h1,h2,h3⟩:=rQ h
 have t:Int.tdiv b.fy 2=b.fy / 2:=Int.tdiv_eq_ediv_of_nonneg (by omega)
 unfold fw xd
 rw [t,mT (n:=b.fy / 2) (by omega),mT (n:=b.At.X - b.fy / 2) (by omega),mT (n:=b.At.Y - b.fy / 2) (by omega),mT (by omega),mT (by omega)]
theorem vX {b:bW}:kd (N+16) b=some (mU b):=by
 have e0:gm (N+16) b.fy 1 10000=some (ij b.fy 1 10000):=rfl
 have e1: (bif (!(ij b.fy 1 10000)) then (some true) else (some (!(tf b.At))))=some (!rP b):=by unfold rP;cases ij b.fy 1 10000 <;> rfl
 unfold kd mU
 rw [e0,aB,wx,aB,e1,aB]
 cases hf:rP b with
 | false=>rfl
 | true=>
  obtain⟨h1,h2,h3⟩:=rQ hf
  have hx: (xd b).X0< (xd b).X1:=by simp only [xd];omega
  have hy: (xd b).Y0< (xd b).Y1:=by simp only [xd];omega
  rw [lE,aS,l4 hf,aB,EH hx hy,aB,Gi hx,aB]
  cases cZ (xd b) <;> rfl
end
end Go.Gk
namespace Go.Gk
open Go
section
variable {N:Nat}
def I4 (c:UInt8):Bool:=
 ((((decide (((c.toNat:Nat):Int)<65))||(decide (((c.toNat:Nat):Int)>90)))&&((decide (((c.toNat:Nat):Int)<97))||(decide (((c.toNat:Nat):Int)>122))))&&((decide (((c.toNat:Nat):Int)<48))||(decide (((c.toNat:Nat):Int)>57))))&&decide (Lib.indexByte [95,43,45,35] c<0)
def isWord (s:dA):Bool:= !s.cR.any I4&&(decide (1<=s.cR.length)&&decide (s.cR.length<=40))
theorem u9 (s:dA) (c:UInt8):hQ N s ((c.toNat:Nat):Int)=some (Lib.indexByte s.cR c):=by
 show some (Lib.indexByte s.cR (Int.toNat ((c.toNat:Nat):Int)).toUInt8)=_
 rw [bY];simp
theorem C1 {R:Type} (b1:Bool) (c:UInt8) (r:R):
  ((bif b1 then ((hQ N (⟨[95,43,45,35]⟩) ((c.toNat:Nat):Int)).bind fun x14=>some (decide (x14<0))) else (some false)).bind fun s12=>bif s12 then (some (.rt r)) else (some (.nx ())):Option (Fl Unit R))=some (if (b1&&decide (Lib.indexByte [95,43,45,35] c<0))=true then .rt r else .nx ()):=by
 rw [u9,aB]
 cases b1
 ·rfl
 ·rw [aR,aB,Bool.true_and]
  cases decide (Lib.indexByte [95,43,45,35] c<0) <;> rfl
theorem oZ {s:dA} (h:s.cR.length<=1048576):gY N s=some (isWord s):=by
 unfold gY
 rw [Hs I4 false (by omega) (fun k x hx=>by
  have hk:=(bC.1 hx).1
  have e:D4 s ((k:Nat):Int)=some x:=by rw [FX s k hk,<-aJ hk,hx]
  rw [e,aB]
  exact C1 (R:=Bool) _ x false),aB]
 unfold isWord
 cases s.cR.any I4
 ·simp only [Fo.cs,lF,Bool.true_and,Bool.false_eq_true,if_false,Option.some.injEq]
  rw [gC,bT,bT]
  simp only [bP]
  omega
 ·simp [Fo.cs]
def cutAt (c:UInt8):List UInt8->List (List UInt8)
 | []=>[[]]
 | b::l=>if b==c then []::cutAt c l else match cutAt c l with | h::t=>(b::h)::t | []=>[[b]]
theorem yh {c:UInt8}: ∀{l:List UInt8},c∉l->cutAt c l= [l]
 | [],_=>rfl
 | b::l,h=>by
  unfold cutAt
  have hb: (b==c)=false:=by rw [beq_eq_false_iff_ne];rintro rfl;exact h (by simp)
  rw [hb,yh (fun h'=>h (by simp [h']))];rfl
theorem B2 {c:UInt8}: ∀{a b:List UInt8},c∉a->cutAt c (a++c::b)=a::cutAt c b
 | [],b,_=>by rw [List.nil_append];show (if (c==c)=true then _ else _)=_;simp
 | x::a,b,h=>by
  have hb: (x==c)=false:=by rw [beq_eq_false_iff_ne];rintro rfl;exact h (by simp)
  have ih:=B2 (c:=c) (a:=a) (b:=b) (fun h'=>h (by simp [h']))
  show (if (x==c)=true then []::cutAt c (a++c::b) else match cutAt c (a++c::b) with | h::t=>(x::h)::t | []=>[[x]])=_
  rw [hb,ih];rfl
theorem rR: ∀(l:List UInt8) (c:UInt8),(Lib.indexByte l c = -1/\c∉l)\/∃a b,l=a++c::b/\c∉a/\Lib.indexByte l c= ((a.length:Nat):Int)
 | [],c=> .inl ⟨rfl,by simp⟩
 | x::l,c=>by
  unfold Lib.indexByte
  by_cases hx:x=c
  ·subst hx;exact .inr ⟨[],l,rfl,by simp,by simp⟩
  ·have hb: (x==c)=false:=by rw [beq_eq_false_iff_ne];exact hx
   rcases rR l c with ⟨h1,h2⟩ | ⟨a,b,h1,h2,h3⟩
   ·left;rw [hb,h1];refine⟨by simp,?_⟩;simp [h2];exact fun h=>hx h.symm
   ·right
    refine⟨x::a,b,by rw [h1];rfl,by simp [h2];exact fun h=>hx h.symm,?_⟩
    rw [hb,h3]
    have: (((a.length:Nat):Int)== -1)=false:=by rw [beq_eq_false_iff_ne];omega
    rw [this];simp
theorem Gj (s:dA) (c:UInt8):ke N s ⟨[c]⟩=some (Lib.indexByte s.cR c):=by
 show (jo N s ⟨[c]⟩).bind _=_
 unfold jo
 by_cases h:dA.Cv ⟨[c]⟩ s=true
 ·have:s= ⟨[c]⟩:=(Hr.1 h).symm
  subst this
  rw [h];simp [Lib.indexByte]
 ·rw [oL] at h
  rw [h]
  show ((gF N s ((c.toNat:Nat):Int)).bind _).bind _=_
  have:=u9 (N:=N) s c
  simp only [hQ] at this
  rw [this];rfl
theorem Gl (s:dA) (c:UInt8):ll N s ⟨[c]⟩=some ((s.cR.count c:Nat):Int):=by
 unfold ll
 show (some _:Option Int)=_
 simp [Lib.countByte]
theorem EI {s:dA} {k:Nat} (h:k<=s.cR.length):tl s 0 ((k:Nat):Int)=some ⟨s.cR.take k⟩:=by
 unfold tl;rw [aC ⟨by omega,by omega,by omega⟩]
 simp only [Int.toNat_zero,List.drop_zero,Int.sub_zero,bY]
theorem EJ {s:dA} {k:Nat} (h:k<=s.cR.length):tl s ((k:Nat):Int) ((s.cR.length:Nat):Int)=some ⟨s.cR.drop k⟩:=by
 unfold tl;rw [aC ⟨by omega,by omega,by omega⟩]
 simp only [bY]
 rw [oM];rw [gR];omega
def qz (s:dA) (c:UInt8):List dA:=(cutAt c s.cR).map dA.mk
theorem Gm {s:dA} (c:UInt8) (h:s.cR.length<=1048576) (hN:4194304<=N):ln N s ⟨[c]⟩=some (qz s c):=by
 have hc:s.cR.count c<=s.cR.length:=List.count_le_length
 unfold ln kW
 rw [show ((-1:Int)==0)=false by decide,aS,show dA.Cv ⟨[c]⟩ ⟨[]⟩=false by simp [dA.Cv],aS,Gl,aB]
 rw [fB (x:=((s.cR.count c:Nat):Int)+1) (by omega) (by omega),show decide ((-1:Int)<0)=true by decide,aR,aB]
 rw [fB (x:=((s.cR.length:Nat):Int)+1) (by omega) (by omega)]
 have e1: (if ((s.cR.length:Nat):Int)+1< ((s.cR.count c:Nat):Int)+1 then ((s.cR.length:Nat):Int)+1 else ((s.cR.count c:Nat):Int)+1)= ((s.cR.count c+1:Nat):Int):=by
  rw [aD (by omega)];omega
 rw [e1,qt _ (by omega),aB]
 rw [fB (x:=((s.cR.count c+1:Nat):Int) - 1) (by omega) (by omega)]
 have key:=uF (S:=dA×List dA×Int) (R:=Empty) (body:=(fun(s7:dA×(List dA)×Int)=>(bif (decide (s7.2.2< ((s.cR.count c+1:Nat):Int) - 1)) then ((ke N s7.1 ⟨[c]⟩).bind fun x23=>bif (decide (x23<0)) then (some (.br (s7.1,s7.2.1,s7.2.2))) else ((tl s7.1 0 (IntKind.wrap .i64 (x23+0))).bind fun x24=>(idx s7.2.1 s7.2.2).bind fun x25=>(tl s7.1 (IntKind.wrap .i64 (x23+ (((⟨[c]⟩:dA).cR.length:Nat):Int))) ((s7.1.cR.length:Nat):Int)).bind fun x27=>some (.nx (x27,(s7.2.1.set (Int.toNat s7.2.2) x24),(IntKind.wrap .i64 (s7.2.2+1)))))) else (some (.br (s7.1,s7.2.1,s7.2.2))):Option (Fl (dA×(List dA)×Int) Empty))))
  (fun st=>∃ws:List (List UInt8),st.2.2= ((ws.length:Nat):Int)/\cutAt c s.cR=ws++cutAt c st.1.cR/\ws.length+st.1.cR.count c=s.cR.count c/\st.1.cR.length<=s.cR.length/\st.2.1=ws.map dA.mk++List.replicate (s.cR.count c+1 - ws.length) ⟨[]⟩)
  (fun st=>s.cR.count c+1 - st.2.2.toNat)
  (fun st=>∃ws:List (List UInt8),st.2.2= ((ws.length:Nat):Int)/\cutAt c s.cR=ws++[st.1.cR]/\ws.length=s.cR.count c/\st.2.1=ws.map dA.mk++[⟨[]⟩])
  (fun _=>True) (by
   rintro⟨r,arr,i⟩ ⟨ws,h1,h2,h3,h4,h5⟩
   simp only at h1 h2 h3 h4 h5
   subst h1 h5
   by_cases hlt:ws.length<s.cR.count c
   ·have hd:decide (((ws.length:Nat):Int)< ((s.cR.count c+1:Nat):Int) - 1)=true:=by rw [bP];omega
    simp only [hd,aR,Gj,aB]
    rcases rR r.cR c with ⟨_,hn⟩ | ⟨a,b,hr,ha,hi⟩
    ·rw [List.count_eq_zero_of_not_mem hn] at h3;omega
    ·have hrl:r.cR.length=a.length+ (b.length+1):=by rw [hr];simp
     rw [hi,bG (by omega),aS]
     rw [show ((a.length:Nat):Int)+0= ((a.length:Nat):Int) by omega,fB (x:=((a.length:Nat):Int)) (by omega) (by omega),EI (by omega),aB]
     rw [jE _ _ (by simp;omega),aB]
     rw [show ((a.length:Nat):Int)+ (((⟨[c]⟩:dA).cR.length:Nat):Int)= ((a.length+1:Nat):Int) by simp,fB (x:=((a.length+1:Nat):Int)) (by omega) (by omega),EJ (by omega),aB]
     refine⟨_,rfl,⟨ws++[a],?_,?_,?_,?_,?_⟩,?_⟩
     ·simp only;rw [fB (by omega) (by omega)];simp
     ·simp only
      rw [h2,hr,B2 ha];simp
     ·simp only
      rw [hr] at h3 ⊢
      simp [List.count_eq_zero_of_not_mem ha] at h3 ⊢;omega
     ·simp;omega
     ·simp only [bY]
      rw [List.set_append_right _ _ (by simp)]
      simp only [eY,Nat.sub_self]
      obtain⟨d,hd'⟩: ∃d,s.cR.count c+1 - ws.length=d+1:=⟨s.cR.count c - ws.length,by omega⟩
      rw [hd',List.replicate_succ,List.set_cons_zero,show s.cR.count c+1 - (ws++[a]).length=d by simp;omega]
      simp [hr]
     ·simp only;rw [fB (by omega) (by omega)];omega
   ·have hd:decide (((ws.length:Nat):Int)< ((s.cR.count c+1:Nat):Int) - 1)=false:=by rw [decide_eq_false_iff_not];omega
    simp only [hd,aS]
    refine⟨_,rfl,ws,rfl,?_,by omega,?_⟩
    ·have h0:r.cR.count c=0:=by omega
     rw [h2,yh (List.count_eq_zero.1 h0)]
    ·rw [show s.cR.count c+1 - ws.length=1 by omega];rfl)
  N (s,List.replicate (s.cR.count c+1) ⟨[]⟩,0) ⟨[],rfl,rfl,by simp,bM _,by simp⟩ (by simp only;omega)
 obtain⟨o,ho,hgo⟩:=key
 rw [ho,aB]
 cases o with
 | rt r=>exact r.elim
 | go st=>
  obtain⟨r,arr,i⟩:=st
  obtain⟨ws,h1,h2,h3,h4⟩:=hgo
  simp only at h1 h2 h3 h4
  subst h1 h4
  simp only [Fo.cs]
  rw [jE _ _ (by simp),aB,fB (by omega) (by omega)]
  rw [show ((ws.length:Nat):Int)+1= ((ws.length+1:Nat):Int) by omega,uG _ _ (by simp),aB,aB]
  unfold qz
  rw [h2]
  rw [bY,List.set_append_right _ _ (by simp),oM (by simp)]
  simp
def ph (s:dA):Bool:=decide (s.cR.length<=200)&&(qz s 47).all isWord
theorem sE {c:UInt8}: ∀{l x:List UInt8},x∈cutAt c l->x.length<=l.length
 | [],x,h=>by simp [cutAt] at h;subst h;simp
 | b::l,x,h=>by
  unfold cutAt at h
  split at h
  ·rcases fQ.1 h with h | h
   ·subst h;simp
   ·have:=sE h;simp;omega
  ·split at h
   ·rename_i t e
    rcases fQ.1 h with h | h
    ·subst h;have:=sE (c:=c) (l:=l) (by rw [e];exact List.mem_cons_self);simp;omega
    ·have:=sE (c:=c) (l:=l) (by rw [e];exact jh _ h);simp;omega
   ·simp at h;subst h;simp
theorem zD (c:UInt8): ∀(l:List UInt8),(cutAt c l).length<=l.length+1
 | []=>by simp [cutAt]
 | b::l=>by
  have:=zD c l
  unfold cutAt
  split
  ·simp;omega
  ·split
   ·rename_i e;rw [e] at this;simp at this ⊢;omega
   ·simp
theorem EK {s x:dA} {c:UInt8} (h:x∈qz s c):x.cR.length<=s.cR.length:=by
 obtain⟨y,hy,rfl⟩:=cT.1 h
 exact sE hy
theorem EL (s:dA) (c:UInt8): (qz s c).length<=s.cR.length+1:=by unfold qz;rw [eY];exact zD c _
theorem va {s:dA} (h:s.cR.length<=1048576) (hN:4194304<=N):kB N s=some (ph s):=by
 unfold kB ph
 by_cases hl:s.cR.length<=200
 ·rw [cE (by omega),aR,Gm 47 h hN,aB]
  have e:=pG (l:=qz s 47) (φ:=gv N) (fun x=> !isWord x) (by have:=EL s 47;omega) (fun x hx=>by
   unfold gv
   rw [oZ (by have:=EK hx;omega)];rfl)
  have e2:gu N (qz s 47) (gv N)=o8 (qz s 47) (gv N):=rfl
  rw [e2,e,aB,aB,cE hl,Bool.true_and]
  congr 1
  rw [gC]
  simp
 ·rw [bG (by omega),aS,aB,bG hl,Bool.false_and]
end
end Go.Gk
namespace Go.Gk
open Go Classical
section
variable {N:Nat}
theorem Gn {a b:aA} (h:bR a=bR b):a=b:=by cases a;cases b;unfold bR at h;simp at h;obtain⟨h1,h2,h3⟩:=h;subst h1;subst h2;subst h3;rfl
theorem vc: ∀{s t:List aA},s.map bR=t.map bR->s=t
 | [],[],_=>rfl
 | [],_::_,h=>by cases h
 | _::_,[],h=>by cases h
 | a::s,b::t,h=>by
  rw [dV,dV] at h
  injection h with h1 h2
  rw [Gn h1,vc h2]
theorem B3 {s t:List aA} (hs:eK (s.map bR)) (ht:eK (t.map bR)) (h: ∀x y,u4 (s.map bR) x y=u4 (t.map bR) x y):s=t:=vc (x0 hs ht h)
theorem oY.unique {l:List aI} {s t:List aA} (hs:oY l s) (ht:oY l t):s=t:=B3 hs.can ht.can fun x y=>by rw [hs.cover,ht.cover]
theorem oY.Gp {l:List aI} {s:List aA} (h:oY l s):s.length<=2*l.length/\(∀b∈s,b.Xs.length<=2*l.length)/\(aN s).length<=2*l.length* (2*l.length):=by
 have h1:s.length<=2*l.length:=by have:=h.lim.len h.can;rwa [eY,jO] at this
 have h2: ∀b∈s,b.Xs.length<=2*l.length:=fun b hb=>by
  have:=h.lim.row h.can (b:=bR b) (cT.2 ⟨b,hb,rfl⟩)
  rwa [lz] at this
 exact⟨h1,h2,x6 h1 h2⟩
theorem sF {n:Int} (h:ov n=true): -1000000<=n/\n<=1000000:=by
 unfold ov ij at h
 rw [bT,bP,bP] at h;omega
theorem gZ {r:aI} (h:cZ r=true): (-1000000<=r.X0/\r.X0<=1000000)/\(-1000000<=r.Y0/\r.Y0<=1000000)/\(-1000000<=r.X1/\r.X1<=1000000)/\(-1000000<=r.Y1/\r.Y1<=1000000):=by
 unfold cZ at h
 simp only [bT] at h
 exact⟨sF h.1,sF h.2.1,sF h.2.2.1,sF h.2.2.2⟩
theorem yi {r:aI} (h: (-1000000<=r.X0/\r.X0<=1000000)/\(-1000000<=r.Y0/\r.Y0<=1000000)/\(-1000000<=r.X1/\r.X1<=1000000)/\(-1000000<=r.Y1/\r.Y1<=1000000)):cZ r=true:=by
 unfold cZ ov ij
 simp only [bT,bP]
 omega
theorem Gq {r:aI} (h:cZ r=true) (hx:r.X0<r.X1) (hy:r.Y0<r.Y1):Cs r:=by
 have:=gZ h
 refine⟨hx,hy,?_,?_,?_,?_⟩ <;> unfold small <;> omega
def nL (r:aI):Option Int:=if cZ r=true then (if r.X1<=r.X0\/r.Y1<=r.Y0 then some 13 else none) else some 1
def lB (l:List aI):Int:=if 2000<l.length then 2 else (l.findSome? nL).getD 0
theorem yU {l:List aI} (hl:l.length<=4611686018427387904):jH N l=some (lB l):=by
 unfold jH lB
 by_cases h:2000<l.length
 ·rw [cE (by omega),aR,aC h]
 ·rw [bG (by omega),aS,aD h,uI nL hl (fun k x hx=>by
   rw [dD hx,aB,yg,aB]
   unfold nL
   cases hr:cZ x with
   | false=>rfl
   | true=>
    rw [lE,aS,aC rfl]
    by_cases h2:x.X1<=x.X0\/x.Y1<=x.Y0
    ·rw [aC h2,show (decide (x.X1<=x.X0)||decide (x.Y1<=x.Y0))=true by rw [dU,bP,bP];exact h2];rfl
    ·rw [aD h2,show (decide (x.X1<=x.X0)||decide (x.Y1<=x.Y0))=false by rw [<-oL,dU,bP,bP];exact h2];rfl),aB]
  cases l.findSome? nL <;> rfl
theorem vd {r:aI}:nL r=none↔cZ r=true/\r.X0<r.X1/\r.Y0<r.Y1:=by
 unfold nL
 by_cases h:cZ r=true
 ·rw [aC h]
  by_cases h2:r.X1<=r.X0\/r.Y1<=r.Y0
  ·rw [aC h2]
   constructor
   ·intro h;cases h
   ·rintro⟨_,h3,h4⟩;omega
  ·rw [aD h2]
   exact⟨fun _=>⟨h,by omega,by omega⟩,fun _=>rfl⟩
 ·rw [aD h]
  constructor
  ·intro h;cases h
  ·rintro⟨h3,_⟩;exact absurd h3 h
theorem B4 {r:aI} {e:Int} (h:nL r=some e):e≠0:=by
 unfold nL at h
 split at h
 ·split at h
  ·injection h with h;omega
  ·cases h
 ·injection h with h;omega
theorem pj {l:List aI}:lB l=0↔l.length<=2000/\∀r∈l,cZ r=true/\r.X0<r.X1/\r.Y0<r.Y1:=by
 unfold lB
 by_cases h:2000<l.length
 ·rw [aC h];constructor
  ·intro h;omega
  ·intro h;omega
 ·rw [aD h]
  cases hf:l.findSome? nL with
  | none=>
   rw [List.findSome?_eq_none_iff] at hf
   exact⟨fun _=>⟨by omega,fun r hr=>vd.1 (hf r hr)⟩,fun _=>rfl⟩
  | some e=>
   obtain⟨r,hr,he⟩:=List.exists_of_findSome?_eq_some hf
   constructor
   ·intro h0;exact absurd h0 (B4 he)
   ·rintro⟨_,h2⟩
    rw [vd.2 (h2 r hr)] at he;cases he
def KX (l:List aI):Prop:=∀(k:Nat) a b,l[k]? =some a->l[k+1]? =some b->¬(b.Y0<a.Y0\/(b.Y0=a.Y0/\b.X0<=a.X0))
def AJ (l:List aI):Prop:=∃s,oY l s/\aN s=l
noncomputable def ja (l:List aI):Int:=if lB l≠0 then lB l else if KX l then (if AJ l then 0 else 3) else 8
theorem C2 {l:List aI} (h:lB l=0):l.length<=2000/\∀r∈l,Cs r:=⟨(pj.1 h).1,fun r hr=>by have:=(pj.1 h).2 r hr;exact Gq this.1 this.2.1 this.2.2⟩
theorem C3 {l m:List aI} (hl:l.length<=4611686018427387904):jl N l m=some (decide (l=m)):=by
 have:=zw (l:=l) (m:=m) hl
 unfold CR at this
 unfold jl
 rw [show (decide (l=m)) = @decide (l=m) (instDecidableEqList l m) from decide_eq_decide.2 Iff.rfl]
 exact this
theorem rS {l:List aI} (hl:l.length<=1073741824) (hN:4398046511104<=N):hG N l=some (ja l):=by
 refine Ok.get ?_
 unfold hG
 refine Ok.eq (yU (by omega)) ?_
 unfold ja
 refine Ok.bif (fun h=>Ok.ret ?_) (fun h=>?_)
 ·rw [aC (by simpa using h)]
 ·have h0:lB l=0:=by simpa using h
  rw [aD (by simpa using h0)]
  obtain⟨hlen,hok⟩:=C2 h0
  refine Ok.bind (Ok.nD (Go:=fun _=>KX l) (Rt:=fun r=>r=8/\¬KX l) (fun s=>∃k:Nat,s= ((k:Nat):Int)/\1<=k/\∀(j:Nat) a b,j+1<k->l[j]? =some a->l[j+1]? =some b->¬(b.Y0<a.Y0\/(b.Y0=a.Y0/\b.X0<=a.X0))) (fun s=>l.length - s.toNat) ?_ ⟨1,rfl,bM _,fun j a b hj=>by omega⟩ (by simp;omega)) ?_
  ·rintro s ⟨k,rfl,hk,hI⟩
   refine Ok.bif (fun h=>?_) (fun h=>Ok.br fun j a b ha hb=>hI j a b ?_ ha hb)
   ·have hk2:k<l.length:=by have:=of_decide_eq_true h;omega
    rw [lW hk (by omega)]
    refine Ok.idx (by omega) (Ok.idx hk2 (Ok.bif (fun hb=>Ok.rt ⟨rfl,fun hu=>?_⟩) (fun hb=>Ok.nx ⟨⟨k+1,by rw [gx (by omega)],by omega,fun j a b hj ha hb'=>?_⟩,by rw [gx (by omega)];simp only [bY];omega⟩)))
    ·refine hu (k - 1) l[k - 1] l[k] (aJ _) (by rw [show k - 1+1=k by omega];exact aJ _) ?_
     rw [dU,bT,bP,bP,beq_iff_eq] at hb;exact hb
    ·by_cases e:j+1<k
     ·exact hI j a b e ha hb'
     ·have:j+1=k:=by omega
      subst this
      rw [aJ (by omega)] at ha hb'
      injection ha with ha;injection hb' with hb'
      subst ha;subst hb'
      rw [<-oL,dU,bT,bP,bP,beq_iff_eq] at hb;exact hb
   ·have:=of_decide_eq_false h
    have:=(bC.1 hb).1;omega
  ·rintro o ho
   refine Ok.cs ho (fun s hu=>?_) (fun r hr=>Ok.ret (by rw [hr.1,aD hr.2]))
   rw [aC hu]
   refine Ok.bind (qx (N:=N) (by omega) hok (by omega)) ?_
   intro s hs
   obtain⟨z1,z2,z3⟩:=hs.Gp
   have z4:2*l.length* (2*l.length)<=4000*4000:=Nat.mul_le_mul (by omega) (by omega)
   refine Ok.eq (x8 (pQ hs.can) (by omega) (fun b hb=>by have:=z2 b hb;omega) (by omega)) (Ok.eq (C3 (by omega)) ?_)
   have hiff:AJ l↔aN s=l:=⟨fun⟨t,h1,h2⟩=>by rw [hs.unique h1];exact h2,fun h=>⟨s,hs,h⟩⟩
   refine Ok.bif (fun h=>Ok.ret ?_) (fun h=>Ok.ret ?_)
   ·have h: ¬aN s=l:=by simpa using h
    rw [aD (fun h'=>h (hiff.1 h'))]
   ·have h:aN s=l:=by simpa using h
    rw [aC (hiff.2 h)]
theorem o0 {l:List aI}:ja l=0↔lB l=0/\KX l/\AJ l:=by
 unfold ja
 by_cases h:lB l=0
 ·rw [aD (by simpa using h)]
  by_cases h2:KX l
  ·rw [aC h2]
   by_cases h3:AJ l
   ·rw [aC h3];exact⟨fun _=>⟨h,h2,h3⟩,fun _=>rfl⟩
   ·rw [aD h3];constructor
    ·intro h;omega
    ·rintro⟨_,_,h4⟩;exact absurd h4 h3
  ·rw [aD h2];constructor
   ·intro h;omega
   ·rintro⟨_,h4,_⟩;exact absurd h4 h2
 ·rw [aC h]
  constructor
  ·intro h2;exact absurd h2 h
  ·rintro⟨h2,_⟩;exact absurd h2 h
theorem tH (n lo hi:Int):gm N n lo hi=some (ij n lo hi):=rfl
theorem EM {b:bW} (hN:16<=N):kd N b=some (mU b):=by
 have:=vX (N:=N - 16) (b:=b)
 rwa [show N - 16+16=N by omega] at this
def o1 (n:Nat) (b:bW):Option Int:=if (mU b).2≠0 then some (mU b).2 else if ij b.bU 0 (((n:Nat):Int) - 1)=true/\ij b.To b.bU (((n:Nat):Int) - 1)=true then none else some 1
def lC (a:gU):Int:=if 500<a.aV.length then 2 else (a.aV.findSome? (o1 a.aL.length)).getD 0
theorem yV {a:gU} (h1:a.aL.length<=4611686018427387904) (h2:a.aV.length<=4611686018427387904) (hN:16<=N):jm N a=some (lC a):=by
 unfold jm lC
 by_cases h:500<a.aV.length
 ·rw [cE (by omega),aR,aC h]
 ·have hw:IntKind.wrap .i64 (((a.aL.length:Nat):Int) - 1)= ((a.aL.length:Nat):Int) - 1:=fB (by omega) (by omega)
  rw [bG (by omega),aS,aD h,uI (o1 a.aL.length) h2 (fun k x hx=>by
   rw [dD hx,aB,EM hN,aB]
   unfold o1
   by_cases h0: (mU x).2=0
   ·rw [aD (by simpa using h0),h0,show ((0:Int) != 0)=false by rfl,aS,hw,tH,aB,tH,aB]
    cases h3:ij x.bU 0 (((a.aL.length:Nat):Int) - 1) <;> cases h4:ij x.To x.bU (((a.aL.length:Nat):Int) - 1) <;> rfl
   ·rw [aC h0,show ((mU x).2 != 0)=true by simpa using h0];rfl),aB]
  cases a.aV.findSome? (o1 a.aL.length) <;> rfl
theorem B5 {b:bW} (h: (mU b).2=0):rP b=true/\cZ (xd b)=true:=by
 unfold mU at h
 split at h
 ·rename_i h';rwa [bT] at h'
 ·cases h
theorem po {a:gU} (h:lC a=0):a.aV.length<=500/\∀b∈a.aV,rP b=true/\cZ (xd b)=true/\0<=b.bU/\b.bU<=b.To/\b.To< ((a.aL.length:Nat):Int):=by
 unfold lC at h
 split at h
 ·omega
 ·refine⟨by omega,fun b hb=>?_⟩
  have hn:o1 a.aL.length b=none:=by
   cases hf:a.aV.findSome? (o1 a.aL.length) with
   | none=>exact List.findSome?_eq_none_iff.1 hf b hb
   | some e=>
    rw [hf] at h
    obtain⟨c,hc,he⟩:=List.exists_of_findSome?_eq_some hf
    have h:e=0:=h
    subst h
    unfold o1 at he
    split at he
    ·rename_i h';injection he with he;exact absurd he h'
    ·split at he
     ·cases he
     ·injection he with he;omega
  unfold o1 at hn
  split at hn
  ·cases hn
  ·rename_i h0
   split at hn
   ·rename_i h1
    have h0: (mU b).2=0:=by simpa using h0
    have:=B5 h0
    unfold ij at h1
    simp only [bT,bP] at h1
    exact⟨this.1,this.2,by omega,by omega,by omega⟩
   ·cases hn
theorem KY {b:bW} (h1:rP b=true) (h2:cZ (xd b)=true):Cs (xd b):=by
 have hf:=rQ h1
 refine Gq h2 ?_ ?_
 ·show b.At.X - b.fy / 2<b.At.X - b.fy / 2+b.fy;omega
 ·show b.At.Y - b.fy / 2<b.At.Y - b.fy / 2+b.fy;omega
def gD (p q:fW):Int:=if Lib.compareBytes p.Part.cR q.Part.cR≠0 then Lib.compareBytes p.Part.cR q.Part.cR else Lib.compareBytes p.fW.cR q.fW.cR
theorem kb (p q:fW):dK N p q=some (gD p q):=by
 unfold dK gD
 show (bif (Lib.compareBytes p.Part.cR q.Part.cR != 0) then _ else _)=_
 by_cases h:Lib.compareBytes p.Part.cR q.Part.cR=0
 ·rw [h,aD (by simp)];rfl
 ·rw [aC h,show (Lib.compareBytes p.Part.cR q.Part.cR != 0)=true by simpa using h];rfl
def kP (l:cU):fW:=⟨l.Part,l.fW⟩
theorem vY (l:cU):jU N l=some (kP l):=rfl
def k9 (a:gU) (k:Nat):Option Int:=(a.bH[k]?).bind fun x=>
 if (ph x.Part&&isWord x.fW)=true then
  if (ij x.cX 0 (((a.aL.length:Nat):Int) - 1)&&tf x.At)=true then
   if 0<k/\(∃y,a.bH[k - 1]? =some y/\gD (kP x) (kP y)<=0) then some 8 else none
  else some 1
 else some 5
noncomputable def kQ (a:gU):Int:=if 1000<a.bH.length then 2 else (mW a.bH.length (k9 a)).getD 0
end
end Go.Gk
namespace Go.Gk
open Go Classical
section
variable {N:Nat}
def yj (a:gU):Prop:=∀x∈a.bH,x.Part.cR.length<=1048576/\x.fW.cR.length<=1048576
theorem yW {a:gU} (h1:a.aL.length<=1073741824) (h2:a.bH.length<=1073741824) (h3:yj a) (hN:4194304<=N):jq N a=some (kQ a):=by
 unfold jq kQ
 by_cases h:1000<a.bH.length
 ·rw [cE (by omega),aR,aC h]
 ·have hw:IntKind.wrap .i64 (((a.aL.length:Nat):Int) - 1)= ((a.aL.length:Nat):Int) - 1:=fB (by omega) (by omega)
  rw [bG (by omega),aS,aD h,mh (k9 a) (by omega) (fun k hk _=>by
   have hx:a.bH[k]? =some a.bH[k]:=aJ hk
   have hs:=h3 _ (cP hk)
   rw [dD hx,aB,va hs.1 hN,aB]
   have hle:k9 a k= (if (ph a.bH[k].Part&&isWord a.bH[k].fW)=true then
     if (ij a.bH[k].cX 0 (((a.aL.length:Nat):Int) - 1)&&tf a.bH[k].At)=true then
      if 0<k/\(∃y,a.bH[k - 1]? =some y/\gD (kP a.bH[k]) (kP y)<=0) then some 8 else none
     else some 1
    else some 5):=by unfold k9;rw [hx];rfl
   rw [hle]
   have e1: ((bif (!ph a.bH[k].Part) then (some true) else ((gY N a.bH[k].fW).bind fun x225=>some (!x225))):Option Bool)=some (!(ph a.bH[k].Part&&isWord a.bH[k].fW)):=by
    rw [oZ hs.2,aB]
    cases ph a.bH[k].Part <;> rfl
   have e2: ((gm N a.bH[k].cX 0 (IntKind.wrap .i64 (((a.aL.length:Nat):Int) - 1))).bind fun x318=>bif (!x318) then (some true) else ((iE N a.bH[k].At).bind fun x321=>some (!x321)))=some (!(ij a.bH[k].cX 0 (((a.aL.length:Nat):Int) - 1)&&tf a.bH[k].At)):=by
    rw [hw,tH,aB,wx,aB]
    cases ij a.bH[k].cX 0 (((a.aL.length:Nat):Int) - 1) <;> rfl
   show ((bif (!ph a.bH[k].Part) then (some true) else ((gY N a.bH[k].fW).bind fun x225=>some (!x225))):Option Bool).bind _=_
   rw [e1,aB]
   cases h4: (ph a.bH[k].Part&&isWord a.bH[k].fW) with
   | false=>rfl
   | true=>
    rw [lE,aS,aC rfl]
    show (((gm N a.bH[k].cX 0 (IntKind.wrap .i64 (((a.aL.length:Nat):Int) - 1))).bind fun x318=>bif (!x318) then (some true) else ((iE N a.bH[k].At).bind fun x321=>some (!x321)))).bind _=_
    rw [e2,aB]
    cases h5: (ij a.bH[k].cX 0 (((a.aL.length:Nat):Int) - 1)&&tf a.bH[k].At) with
    | false=>rfl
    | true=>
     rw [lE,aS,aC rfl]
     by_cases h0:0<k
     ·rw [cE (by omega),aR,lW h0 (by omega),jE _ _ (by omega:k - 1<a.bH.length)]
      simp only [vY,aB,kb]
      by_cases h6:gD (kP a.bH[k]) (kP a.bH[k - 1])<=0
      ·rw [cE h6,aC ⟨h0,_,aJ (by omega:k - 1<a.bH.length),h6⟩];rfl
      ·rw [bG h6,aD (by
        rintro⟨_,y,hy,h7⟩
        rw [aJ (by omega:k - 1<a.bH.length)] at hy;injection hy with hy
        rw [<-hy] at h7;exact h6 h7)];rfl
     ·rw [bG (by omega),aD (fun h=>h0 h.1)];rfl),aB]
  cases mW a.bH.length (k9 a) <;> rfl
def lD (b:bW) (k:Int):Bool:=decide (b.bU<=k)&&decide (k<=b.To)
theorem yk (b:bW) (k:Int):jK N b k=some (lD b k):=rfl
def m7 (bs:List bW) (k:Int):List aI:=(bs.filter (fun b=>lD b k)).map xd
structure mO (bs:List bW):Prop where
 len:bs.length<=500
 ok: ∀b∈bs,rP b=true/\cZ (xd b)=true
structure sG (r hs:List aI) (s:List aA):Prop where
 can:eK (s.map bR)
 cover: ∀x y,u4 (s.map bR) x y= (wv r x y&& !wv hs x y)
 lim:tW (pN r++pN hs) (ly r++ly hs) (s.map bR)
theorem zF {bs:List bW} (h:mO bs) (k:Int): (m7 bs k).length<=500:=by
 unfold m7
 rw [eY]
 have:=jC (fun b=>lD b k) bs
 have:=h.len;omega
theorem ve {bs:List bW} (h:mO bs) (k:Int): ∀r∈m7 bs k,Cs r/\cZ r=true:=by
 intro r hr
 unfold m7 at hr
 obtain⟨b,hb,rfl⟩:=cT.1 hr
 have:=h.ok b (iA.1 hb).1
 exact⟨KY this.1 this.2,this.2⟩
theorem sG.small {r hs:List aI} {s:List aA} (h:sG r hs s) (h1: ∀x∈r,Cs x) (h2: ∀x∈hs,Cs x): (∀c∈pN r++pN hs,small c)/\∀c∈ly r++ly hs,small c:=by
 constructor
 ·intro c hc
  rcases cS.1 hc with h | h
  ·obtain⟨x,hx,rfl | rfl⟩:=pO.1 h
   ·exact(h1 x hx).s1
   ·exact(h1 x hx).s2
  ·obtain⟨x,hx,rfl | rfl⟩:=pO.1 h
   ·exact(h2 x hx).s1
   ·exact(h2 x hx).s2
 ·intro c hc
  rcases cS.1 hc with h | h
  ·obtain⟨x,hx,rfl | rfl⟩:=kO.1 h
   ·exact(h1 x hx).s3
   ·exact(h1 x hx).s4
  ·obtain⟨x,hx,rfl | rfl⟩:=kO.1 h
   ·exact(h2 x hx).s3
   ·exact(h2 x hx).s4
theorem vZ {s:List aA} {X Y:List Int} {A:Nat} (hc:eK (s.map bR)) (h:tW X Y (s.map bR)) (hX:X.length<=A) (hY:Y.length<=A):s.length<=A/\(∀b∈s,b.Xs.length<=A)/\(aN s).length<=A*A:=by
 have h1:s.length<=A:=by have:=h.len hc;rw [eY] at this;omega
 have h2: ∀b∈s,b.Xs.length<=A:=fun b hb=>by
  have:=h.row hc (b:=bR b) (cT.2 ⟨b,hb,rfl⟩)
  have e: (bR b).xs=b.Xs:=rfl
  rw [e] at this;omega
 exact⟨h1,h2,x6 h1 h2⟩
theorem yX {r hs:List aI} (h1:r.length<=2000) (h2: ∀x∈r,Cs x) (h3:hs.length<=500) (h4: ∀x∈hs,Cs x) (hN:4398046511104<=N) {β:Type} {f:List aA->Option β} {Q:β->Prop} (k: ∀s,sG r hs s->Ok (f s) Q):
  Ok ((fY N r).bind fun x378=>(fY N hs).bind fun x380=>(jL N x378 x380).bind f) Q:=by
 refine Ok.bind (qx (N:=N) (by omega) h2 (by omega)) (fun s hs1=>?_)
 refine Ok.bind (qx (N:=N) (by omega) h4 (by omega)) (fun t ht=>?_)
 have hz: ∀c∈ly r++ly hs,small c:=by
  intro c hc
  rcases cS.1 hc with h | h
  ·obtain⟨x,hx,rfl | rfl⟩:=kO.1 h
   ·exact(h2 x hx).s3
   ·exact(h2 x hx).s4
  ·obtain⟨x,hx,rfl | rfl⟩:=kO.1 h
   ·exact(h4 x hx).s3
   ·exact(h4 x hx).s4
 refine Ok.bind (EF (X:=pN r++pN hs) (Y:=ly r++ly hs) hs1.can ht.can (hs1.lim.mono (fun c h=>List.mem_append_left _ h) (fun c h=>List.mem_append_left _ h)) (ht.lim.mono (fun c h=>List.mem_append_right _ h) (fun c h=>List.mem_append_right _ h))
  (by rw [dR,lz,lz];omega) (by rw [dR,jO,jO];omega) hz hN) (fun u hu=>?_)
 exact k u ⟨hu.can,fun x y=>by rw [hu.cover,hs1.cover,ht.cover],hu.lim⟩
def bJ:Nat->List (List (List aA))->List aH
 | _,[]=>[]
 | k,ps::r=>ps.map (fun p=>⟨((k:Nat):Int),p,aN p⟩)++bJ (k+1) r
theorem tI (ps:List (List aA)): ∀(r:List (List (List aA))) (k:Nat),bJ k (r++[ps])=bJ k r++ps.map (fun p=>⟨((k+r.length:Nat):Int),p,aN p⟩)
 | [],k=>by unfold bJ;simp [bJ]
 | q::r,k=>by
  show _++bJ (k+1) (r++[ps])= (_++bJ (k+1) r)++_
  rw [tI ps r (k+1),jg]
  congr 3
  simp only [fI]
  rw [show k+ (r.length+1)=k+1+r.length by omega]
theorem yl {s p:List aA} {ps:List (List aA)} {r:Nat->Nat} {X Y:List Int} (h:qy s r ps) (hc:eK (s.map bR)) (hl:tW X Y (s.map bR)) (hX: ∀c∈X,small c) (hY: ∀c∈Y,small c) (hp:p∈ps):
  ∃j k:Nat,ps[j]? =some p/\(bX (aN s).length r)[j]? =some k/\oY (l6 (aN s) (aN s).length r k) p/\tW X Y (p.map bR):=by
 obtain⟨j,hj⟩:=gk hp
 have hjl:=(bC.1 hj).1
 rw [h.len] at hjl
 have hh: (bX (aN s).length r)[j]? =some (bX (aN s).length r)[j]:=aJ hjl
 have hs:=h.each j _ p hh hj
 refine⟨j,_,hj,hh,hs,hs.lim.mono (fun c hcx=>?_) (fun c hcx=>?_)⟩
 ·obtain⟨x,hx,hxc⟩:=pO.1 hcx
  obtain⟨i,_,_,hi⟩:=m6.1 hx
  have:=x9 hc hl hX hY x (gH hi)
  rcases hxc with rfl | rfl
  ·exact this.2.1.1
  ·exact this.2.1.2
 ·obtain⟨x,hx,hxc⟩:=kO.1 hcx
  obtain⟨i,_,_,hi⟩:=m6.1 hx
  have:=x9 hc hl hX hY x (gH hi)
  rcases hxc with rfl | rfl
  ·exact this.2.2.1
  ·exact this.2.2.2
structure tJ (cs:List (List aI)) (bs:List bW) (k:Nat) (jB:List (List aA)) (cJ:List (List (List aA))):Prop where
 len:jB.length=k
 AK:cJ.length=k
 dr: ∀(i:Nat) r s,i<k->cs[i]? =some r->jB[i]? =some s->sG r (m7 bs ((i:Nat):Int)) s
 pt: ∀(i:Nat) s ps,i<k->jB[i]? =some s->cJ[i]? =some ps->∃u,qy s u ps
 yY: (bJ 0 cJ).length<=k*25000000
theorem qy.yY {s:List aA} {u:Nat->Nat} {ps:List (List aA)} (h:qy s u ps):ps.length<=(aN s).length:=by
 rw [h.len];exact mN _ _
theorem C4 {cs:List (List aI)} {bs:List bW} (hcs:cs.length<=16) (hc: ∀r∈cs,r.length<=2000/\∀x∈r,Cs x) (hb:mO bs) (hN:4398046511104<=N):
  Ok (iN N cs bs [] []) (fun x=>∃cJ,tJ cs bs cs.length x.2.1 cJ/\x.2.2=bJ 0 cJ/\(x.1=true↔(∀s∈x.2.1,(aN s).length<=2000)/\x.2.2.length<=2000)):=by
 unfold iN
 refine Ok.bind (P:=fun(st:List (List aA)×List aH×Bool)=>∃cJ,tJ cs bs cs.length st.1 cJ/\st.2.1=bJ 0 cJ/\(st.2.2=true↔∀s∈st.1,(aN s).length<=2000)) (Ok.iL (fun(k:Nat) (st:List (List aA)×List aH×Bool)=>∃cJ,tJ cs bs k st.1 cJ/\st.2.1=bJ 0 cJ/\(st.2.2=true↔∀s∈st.1,(aN s).length<=2000)) (by omega)
  ⟨[],⟨rfl,rfl,fun i r s hi=>by omega,fun i s ps hi=>by omega,by simp [bJ]⟩,rfl,by simp⟩ (fun k st hk hI=>?_)) ?_
 ·obtain⟨jB,pcs,okk⟩:=st
  obtain⟨cJ,D,e1,e2⟩:=hI
  dsimp only at D e1 e2 ⊢
  subst e1
  have hkx:cs[k]? =some cs[k]:=aJ hk
  obtain⟨hr1,hr2⟩:=hc _ (cP hk)
  refine Ok.ix hkx ?_
  refine Ok.bind (P:=fun t=>t=m7 bs ((k:Nat):Int)) (Ok.mono (Ok.iL (fun j t=>t=m7 (bs.take j) ((k:Nat):Int)) (by have:=hb.len;omega) rfl (fun j t hj e=>?_)) (fun t e=>by rw [e,eD])) (fun t e=>?_)
  ·subst e
   refine Ok.idx hj (Ok.eq (yk _ _) ?_)
   have hts:bs.take (j+1)=bs.take j++[bs[j]]:=eM hj
   have hgb:=hb.ok _ (cP hj)
   have hl: (m7 (bs.take j) ((k:Nat):Int)).length<=500:=by
    unfold m7
    rw [eY]
    have:=jC (fun b=>lD b ((k:Nat):Int)) (bs.take j)
    rw [dE] at this
    have:=hb.len;omega
   cases ht:lD bs[j] ((k:Nat):Int) with
   | false=>
    rw [aS]
    refine Ok.eq rfl (Ok.ret ?_)
    unfold m7
    rw [hts,gS];simp [ht]
   | true=>
    rw [aR]
    refine Ok.eq (x:=m7 (bs.take j) ((k:Nat):Int)++[xd bs[j]]) (by rw [l4 hgb.1,aB,fF (by simp;omega),aB]) (Ok.ret ?_)
    unfold m7
    rw [hts,gS,eB];simp [ht]
  ·subst e
   have hho:=ve hb ((k:Nat):Int)
   have hhl:=zF hb ((k:Nat):Int)
   refine yX hr1 hr2 hhl (fun x hx=>(hho x hx).1) hN (fun s hs=>?_)
   obtain⟨sx,sy⟩:=hs.small hr2 (fun x hx=>(hho x hx).1)
   obtain⟨z1,z2,z3⟩:=vZ (A:=5000) hs.can hs.lim (by rw [dR,lz,lz];omega) (by rw [dR,jO,jO];omega)
   have hmany:=HB (N:=N) (s:=s) (by omega) (fun b hb=>by have:=z2 b hb;omega) (by omega)
   refine Ok.eq (x:=(okk&&decide ((aN s).length<=2000),s)) ?_ ?_
   ·cases okk with
    | false=>rfl
    | true=>
     rw [aR,hmany,aB,Bool.true_and]
     rw [show decide ((((aN s).length:Nat):Int)<=2000)=decide ((aN s).length<=2000) from decide_eq_decide.2 (by omega)]
   dsimp only
   refine Ok.app (by rw [D.len];simp;omega) ?_
   refine Ok.bind (C0 (N:=N) hs.can hs.lim sx sy (by omega) (fun b hb=>by have:=z2 b hb;omega) (by omega) hN) ?_
   rintro ps ⟨u,hu⟩
   have hfew:=hu.yY
   have hk16:k*25000000<=16*25000000:=Nat.mul_le_mul_right _ (by omega)
   have hDf:=D.yY
   refine Ok.bind (P:=fun t=>t=bJ 0 cJ++ps.map (fun p=>(⟨((k:Nat):Int),p,aN p⟩:aH))) (Ok.mono (Ok.iL (fun j t=>t=bJ 0 cJ++(ps.take j).map (fun p=>(⟨((k:Nat):Int),p,aN p⟩:aH))) (by omega) (by simp) (fun j t hj e=>?_)) (fun t e=>by rw [e,eD])) (fun t e=>Ok.ret ?_)
   ·subst e
    have hjx:ps[j]? =some ps[j]:=aJ hj
    refine Ok.ix hjx ?_
    obtain⟨_,_,_,_,lL,hpl⟩:=yl hu hs.can hs.lim sx sy (cP hj)
    obtain⟨y1,y2,y3⟩:=vZ (A:=5000) lL.can hpl (by rw [dR,lz,lz];omega) (by rw [dR,jO,jO];omega)
    refine Ok.eq (x8 (pQ lL.can) (by omega) (fun b hb=>by have:=y2 b hb;omega) (by omega)) (Ok.app ?_ (Ok.ret ?_))
    ·simp only [dR,eY,dE,List.length_singleton];omega
    ·rw [eM hj,eB,jg];rfl
   ·subst e
    refine⟨cJ++[ps],⟨by simp [D.len],by simp [D.AK],fun i r s' hi hr hs'=>?_,fun i s' ps' hi hs' hps'=>?_,?_⟩,?_,?_⟩
    ·dsimp only at hs'
     by_cases hik:i<k
     ·rw [fO (by rw [D.len];exact hik)] at hs'
      exact D.dr i r s' hik hr hs'
     ·have:i=k:=by omega
      subst this
      rw [fz (by rw [D.len];omega),D.len,Nat.sub_self] at hs'
      simp at hs';subst hs'
      rw [hkx] at hr;injection hr with hr;subst hr
      exact hs
    ·dsimp only at hs'
     by_cases hik:i<k
     ·rw [fO (by rw [D.len];exact hik)] at hs'
      rw [fO (by rw [D.AK];exact hik)] at hps'
      exact D.pt i s' ps' hik hs' hps'
     ·have:i=k:=by omega
      subst this
      rw [fz (by rw [D.len];omega),D.len,Nat.sub_self] at hs'
      rw [fz (by rw [D.AK];omega),D.AK,Nat.sub_self] at hps'
      simp at hs' hps';subst hs';subst hps'
      exact⟨u,hu⟩
    ·rw [tI,dR,eY];omega
    ·dsimp only
     rw [tI,D.AK,gj]
    ·dsimp only
     rw [bT,e2,bP]
     constructor
     ·rintro⟨h1,h2⟩ s' hs'
      rcases cS.1 hs' with h | h
      ·exact h1 s' h
      ·simp at h;subst h;exact h2
     ·intro h
      exact⟨fun s' hs'=>h s' (List.mem_append_left _ hs'),h s (by simp)⟩
 ·rintro⟨jB,pcs,okk⟩ ⟨cJ,D,e1,e2⟩
  dsimp only at D e1 e2 ⊢
  subst e1
  refine Ok.bind (P:=fun b=>b=true↔(∀s∈jB,(aN s).length<=2000)/\(bJ 0 cJ).length<=2000) (Ok.bif (fun h=>Ok.ret ?_) (fun h=>Ok.ret ?_)) (fun b hb=>Ok.ret ⟨cJ,D,rfl,hb⟩)
  ·rw [bP]
   constructor
   ·intro h';exact⟨e2.1 h,by omega⟩
   ·rintro⟨_,h'⟩;omega
  ·constructor
   ·intro h';cases h'
   ·rintro⟨h',_⟩;rw [e2.2 h'] at h;cases h
end
end Go.Gk
namespace Go.Gk
open Go Classical
section
variable {N:Nat}
section
variable {α:Type}
def rT (P:α->Bool) (l:List α) (n:Nat):List Nat:=(List.range n).filter (fun k=>(l[k]?).any P)
theorem C5 {P:α->Bool} {l:List α} {n:Nat} {x:α} (h:l[n]? =some x):rT P l (n+1)=if P x=true then rT P l n++[n] else rT P l n:=by
 unfold rT
 rw [List.range_succ,gS]
 by_cases hp:P x=true
 ·rw [aC hp];simp [h,hp]
 ·rw [aD hp];simp [h,hp]
theorem zG (P:α->Bool) (l:List α) (n:Nat): (rT P l n).length<=n:=by
 have:=jC (fun k=>(l[k]?).any P) (List.range n)
 rw [List.length_range] at this;exact this
theorem EN {P:α->Bool} {l:List α} {n k:Nat}:k∈rT P l n↔k<n/\(l[k]?).any P=true:=by unfold rT;simp
theorem vf {β:Type} {l:List α} (P:α->Bool) (g:Nat->β):mW l.length (fun k=>(l[k]?).bind fun x=>if P x=true then some (g k) else none)= (l.findIdx? P).map g:=by
 cases h:l.findIdx? P with
 | none=>
  rw [List.findIdx?_eq_none_iff] at h
  refine gO.2 fun k hk=>?_
  rw [aJ hk]
  have:=h _ (cP hk)
  simp [this]
 | some j=>
  obtain⟨hj,hp,hn⟩:=List.findIdx?_eq_some_iff_getElem.1 h
  refine iI.2 ⟨j,hj,by rw [aJ hj];simp [hp],fun i hi=>?_⟩
  rw [aJ (by omega)]
  have:=hn i hi
  simp [this]
end
def ints (l:List Nat):List Int:=l.map fun i=>((i:Nat):Int)
theorem rU (l m:List Nat):ints (l++m)=ints l++ints m:=eB
theorem ml (l:List Nat): (ints l).length=l.length:=eY _
theorem ym {l:List Nat} {x:Int}:x∈ints l↔∃i∈l,x= ((i:Nat):Int):=by
 unfold ints;rw [cT]
 constructor
 ·rintro⟨i,h1,h2⟩;exact⟨i,h1,h2.symm⟩
 ·rintro⟨i,h1,h2⟩;exact⟨i,h1,h2.symm⟩
def DS (p0 p1:aI):Bool:=((((decide (p0.X0<p1.X1))&&(decide (p1.X0<p0.X1)))&&((p0.Y1==p1.Y0)||(p1.Y1==p0.Y0)))||(((decide (p0.Y0<p1.Y1))&&(decide (p1.Y0<p0.Y1)))&&((p0.X1==p1.X0)||(p1.X1==p0.X0))))
def mm (b:bW) (p:aH):Bool:=b.ik&&(lD b p.cX&&p.iZ.any (fun r=>DS r (xd b)))
def eP (bs:List bW) (pcs:List aH):List (List Int):=bs.map fun b=>ints (rT (mm b) pcs pcs.length)
theorem o4 {l:List aI} {φ:aI->Option Bool} (p:aI->Bool) (hl:l.length<=4611686018427387904) (h: ∀x∈l,φ x=some (p x)):fL N l φ=some (l.any p):=
 pG p hl h
theorem Gr {bs:List bW} {pcs:List aH} (hb:mO bs) (hp:pcs.length<=1073741824) (hr: ∀p∈pcs,p.iZ.length<=1073741824):iO N bs pcs []=some (eP bs pcs):=by
 refine Ok.get ?_
 have hbl:=hb.len
 unfold iO
 refine Ok.bind (Ok.iL (fun k st=>st=eP (bs.take k) pcs) (by omega) rfl (fun k st hk e=>?_)) (fun st e=>Ok.ret (by rw [e,eD]))
 subst e
 have hg:=hb.ok _ (cP hk)
 refine Ok.idx hk ?_
 refine Ok.bind (P:=fun t=>t=ints (rT (mm bs[k]) pcs pcs.length)) (Ok.iL (fun j t=>t=ints (rT (mm bs[k]) pcs j)) (by omega) rfl (fun j t hj e=>?_)) (fun t e=>?_)
 ·subst e
  have hjx:pcs[j]? =some pcs[j]:=aJ hj
  have hl:=zG (mm bs[k]) pcs j
  refine Ok.ix hjx ?_
  refine Ok.eq (x:=mm bs[k] pcs[j]) ?_ ?_
  ·unfold mm
   cases bs[k].ik with
   | false=>rfl
   | true=>
    rw [aR,yk,aB,Bool.true_and]
    cases lD bs[k] pcs[j].cX with
    | false=>rfl
    | true=>
     rw [aR,o4 (fun r=>DS r (xd bs[k])) (by have:=hr _ (cP hj);omega) (fun r _=>by
      unfold iY;rw [l4 hg.1];rfl),aB,Bool.true_and]
  ·rw [C5 hjx]
   cases ht:mm bs[k] pcs[j] with
   | false=>rw [aS,aD (by simp)];exact Ok.eq rfl (Ok.ret rfl)
   | true=>
    rw [aR,aC rfl]
    refine Ok.eq (x:=ints (rT (mm bs[k]) pcs j)++[((j:Nat):Int)]) (by rw [fF (by rw [ml];simp;omega),aB]) (Ok.ret ?_)
    rw [rU];rfl
 ·subst e
  refine Ok.app ?_ (Ok.ret ?_)
  ·unfold eP;simp;omega
  ·unfold eP
   rw [eM hk,eB];rfl
def B6 (r:List aI) (p:eV):Bool:=r.any (fun x=>decide (p.X>=x.X0)&&(decide (p.X<x.X1)&&(decide (p.Y>=x.Y0)&&decide (p.Y<x.Y1))))
theorem vg {r:List aI} {p:eV} (hl:r.length<=4611686018427387904):je N r p=some (B6 r p):=by
 unfold je
 rw [o4 (fun x=>decide (p.X>=x.X0)&&(decide (p.X<x.X1)&&(decide (p.Y>=x.Y0)&&decide (p.Y<x.Y1)))) hl (fun x _=>by
  unfold jV
  cases decide (p.X>=x.X0) <;> cases decide (p.X<x.X1) <;> cases decide (p.Y>=x.Y0) <;> rfl)];rfl
def tK (l:cU) (b:bW):Bool:=b.ik&&(lD b l.cX&&B6 [xd b] l.At)
def vh (l:cU) (p:aH):Bool:=(p.cX==l.cX)&&B6 p.iZ l.At
def np (bs:List bW) (pcs:List aH) (l:cU):Option dQ:=match bs.findIdx? (tK l) with
 | some k=>some ⟨true,((k:Nat):Int)⟩
 | none=>(pcs.findIdx? (vh l)).map fun k=>⟨false,((k:Nat):Int)⟩
theorem Gs {bs:List bW} {pcs:List aH} (hb:mO bs) (hp:pcs.length<=1073741824) (hr: ∀p∈pcs,p.iZ.length<=1073741824) (l:cU):
  iQ N bs pcs l=some ((np bs pcs l).getD ⟨false,0⟩,(np bs pcs l).isSome):=by
 have hbl:=hb.len
 unfold iQ
 rw [mh (fun k=>(bs[k]?).bind fun x=>if tK l x=true then some ((⟨true,((k:Nat):Int)⟩:dQ),true) else none) (by omega) (fun k hk _=>by
  have hkx:bs[k]? =some bs[k]:=aJ hk
  have hg:=hb.ok _ (cP hk)
  rw [dD hkx,aB,hkx,l4 hg.1,aB,aB,vg (by simp)]
  unfold tK
  cases bs[k].ik with
  | false=>rfl
  | true=>
   show (((bif lD bs[k] l.cX then _ else _:Option Bool)).bind _)=_
   cases lD bs[k] l.cX with
   | false=>rfl
   | true=>
    cases B6 [xd bs[k]] l.At <;> rfl),aB,vf (tK l) (fun k=>((⟨true,((k:Nat):Int)⟩:dQ),true))]
 unfold np
 cases bs.findIdx? (tK l) with
 | some k=>rfl
 | none=>
  show ((pX pcs.length _ ()).bind _)=_
  rw [mh (fun k=>(pcs[k]?).bind fun x=>if vh l x=true then some ((⟨false,((k:Nat):Int)⟩:dQ),true) else none) (by omega) (fun k hk _=>by
   have hkx:pcs[k]? =some pcs[k]:=aJ hk
   rw [dD hkx,aB,hkx,aB,vg (by have:=hr _ (cP hk);omega)]
   unfold vh
   cases pcs[k].cX==l.cX with
   | false=>rfl
   | true=>cases B6 pcs[k].iZ l.At <;> rfl),aB,vf (vh l) (fun k=>((⟨false,((k:Nat):Int)⟩:dQ),true))]
  cases pcs.findIdx? (vh l) <;> rfl
def Lk (n:Nat) (tch:List (List Int)) (i j:Nat):Prop:=∃(k:Nat) (l:List Int),tch[k]? =some l/\((i:Nat):Int)∈l/\j=n+k
structure yZ (n m:Nat) (tch:List (List Int)) (r:Nat->Nat):Prop where
 le: ∀i,i<n+m->r i<=i
 rr: ∀i,i<n+m->r (r i)=r i
 co: ∀i j,Lk n tch i j->r i=r j
 fi: ∀S:Nat->Prop,(∀i j,Lk n tch i j->(S i↔S j))->∀i j,i<n+m->j<n+m->r i=r j->S i->S j
theorem zH {n m:Nat} {tch:List (List Int)} (hm:tch.length=m) (ht: ∀l∈tch,l.length<=1073741824/\∀x∈l,∃i:Nat,i<n/\x= ((i:Nat):Int)) (hn:n<=1073741824) (hm2:m<=1073741824) {up:List Int} (hu:UF (n+m) up (fun i=>i)) (hN:4398046511104<=N):
  Ok (iL tch.length (fun(k34:Nat) (s35: (List Int))=>((idx tch (k34:Int)).bind fun x89=>(iL x89.length (fun(k92:Nat) (s93: (List Int))=>((idx x89 (k92:Int)).bind fun x107=>(dI N s93 x107 (IntKind.wrap .i64 ((n:Int)+ (k34:Int)))).bind fun x109=>some x109:Option ((List Int)))) s35).bind fun s93=>some s93:Option ((List Int)))) up)
   (fun up'=>∃r,UF (n+m) up' r/\yZ n m tch r):=by
 have base:Ok (iL tch.length (fun(k34:Nat) (s35: (List Int))=>((idx tch (k34:Int)).bind fun x89=>(iL x89.length (fun(k92:Nat) (s93: (List Int))=>((idx x89 (k92:Int)).bind fun x107=>(dI N s93 x107 (IntKind.wrap .i64 ((n:Int)+ (k34:Int)))).bind fun x109=>some x109:Option ((List Int)))) s35).bind fun s93=>some s93:Option ((List Int)))) up)
   (fun up'=>∃r E,UF (n+m) up' r/\mM r E/\vU (n+m) r E/\(∀p∈E,Lk n tch p.1 p.2)/\∀(k:Nat) l (i:Nat),k<tch.length->tch[k]? =some l->((i:Nat):Int)∈l->(i,n+k)∈E):=by
  refine Ok.iL (fun q up'=>∃r E,UF (n+m) up' r/\mM r E/\vU (n+m) r E/\(∀p∈E,Lk n tch p.1 p.2)/\∀(k:Nat) l (i:Nat),k<q->tch[k]? =some l->((i:Nat):Int)∈l->(i,n+k)∈E) (by omega)
   ⟨_,_,hu,mM.id,vU.id _,fun p hp=>(by cases hp),fun k l i hk=>by omega⟩ (fun q up' hq hI=>?_)
  obtain⟨r,E,h1,h2,h3,h4,h5⟩:=hI
  have hqx:tch[q]? =some tch[q]:=aJ hq
  obtain⟨hl1,hl2⟩:=ht _ (cP hq)
  refine Ok.ix hqx ?_
  rw [wrap_add (by omega)]
  refine Ok.bind (Ok.iL (fun t up'=>∃r E,UF (n+m) up' r/\mM r E/\vU (n+m) r E/\(∀p∈E,Lk n tch p.1 p.2)/\(∀(k:Nat) l (i:Nat),k<q->tch[k]? =some l->((i:Nat):Int)∈l->(i,n+k)∈E)/\∀i:Nat,((i:Nat):Int)∈tch[q].take t->(i,n+q)∈E) (by omega)
   ⟨r,E,h1,h2,h3,h4,h5,fun i hi=>by simp at hi⟩ (fun t up' htl hI=>?_)) (fun up' hI=>Ok.ret ?_)
  ·obtain⟨r,E,h1,h2,h3,h4,h5,h6⟩:=hI
   refine Ok.idx htl ?_
   obtain⟨i,hi,e⟩:=hl2 _ (cP htl)
   rw [e]
   obtain⟨u2,a1,a2⟩:=DN (N:=N) h1 (i:=i) (k:=n+q) (by omega) (by omega) (by omega)
   refine Ok.eq a1 (Ok.ret ⟨_,_,a2,h2.join i (n+q) (h1.rr i (by omega)),h3.join (by omega) (by omega),fun p hp=>?_,fun k l j hk hl hj=>List.mem_append_left _ (h5 k l j hk hl hj),fun j hj=>?_⟩)
   ·rcases cS.1 hp with hp | hp
    ·exact h4 p hp
    ·simp at hp;subst hp
     exact⟨q,tch[q],hqx,by rw [<-e];exact cP htl,rfl⟩
   ·rw [eM htl,cS] at hj
    rcases hj with hj | hj
    ·exact List.mem_append_left _ (h6 j hj)
    ·rw [tX,e] at hj
     have:j=i:=by omega
     subst this;simp
  ·obtain⟨r,E,h1,h2,h3,h4,h5,h6⟩:=hI
   refine⟨r,E,h1,h2,h3,h4,fun k l i hk hl hi=>?_⟩
   by_cases hkq:k<q
   ·exact h5 k l i hkq hl hi
   ·have:k=q:=by omega
    subst this
    rw [hqx] at hl;injection hl with hl;subst hl
    exact h6 i (by rw [eD];exact hi)
 obtain⟨up',e,r,E,h1,h2,h3,h4,h5⟩:=base
 have hE: ∀i j,Lk n tch i j->(i,j)∈E:=fun i j ⟨k,l,hl,hi,hj⟩=>by
  rw [hj];exact h5 k l i (bC.1 hl).1 hl hi
 exact⟨up',e,r,h1,h1.le,h1.rr,fun i j h=>h2 (i,j) (hE i j h),fun S hS i j hi hj=>h3 S (fun p hp=>hS p.1 p.2 (h4 p hp)) i j hi hj⟩
def vj (bs:List bW) (j:Nat):Bool:=(bs[j]?).any (fun b=>b.ik)
def gP (n:Nat) (c:List Nat):List Nat:=c.filter (fun i=>decide (i<n))
def gB (bs:List bW) (n:Nat) (c:List Nat):List Nat:=(c.filter (fun i=> !decide (i<n)&&vj bs (i - n))).map (fun i=>i - n)
def Gt (bs:List bW) (n:Nat) (c:List Nat):Bool:=decide (0< (gP n c).length+ (gB bs n c).length)
def MD (bs:List bW) (n:Nat) (c:List Nat):cI:=⟨ints (gP n c),ints (gB bs n c),[]⟩
theorem DT (n:Nat) (c:List Nat) (i:Nat):gP n (c++[i])=if i<n then gP n c++[i] else gP n c:=by
 unfold gP;rw [gS];split <;> rename_i h <;> simp [h]
theorem DU (bs:List bW) (n:Nat) (c:List Nat) (i:Nat):gB bs n (c++[i])=if i<n then gB bs n c else if vj bs (i - n)=true then gB bs n c++[i - n] else gB bs n c:=by
 unfold gB;rw [gS,eB]
 split
 ·rename_i h;simp [h]
 ·rename_i h
  split <;> rename_i h2 <;> simp [h,h2]
theorem Gu (n:Nat) (c:List Nat): (gP n c).length<=c.length:=jC _ _
theorem Gv (bs:List bW) (n:Nat) (c:List Nat): (gB bs n c).length<=c.length:=by unfold gB;rw [eY];exact jC _ _
def live (bs:List bW) (n t:Nat) (r:Nat->Nat) (hs:List Nat):List Nat:=hs.filter (fun h=>Gt bs n (cls t r h))
def qA (bs:List bW) (n t:Nat) (r:Nat->Nat) (hs:List Nat):List cI:=(live bs n t r hs).map (fun h=>MD bs n (cls t r h))
theorem EO (bs:List bW) (n t:Nat) (r:Nat->Nat) (hs:List Nat) (h:Nat):live bs n t r (hs++[h])=if Gt bs n (cls t r h)=true then live bs n t r hs++[h] else live bs n t r hs:=by
 unfold live;rw [gS];split <;> rename_i h2 <;> simp [h2]
theorem rV (bs:List bW) (n t:Nat) (r:Nat->Nat) (hs:List Nat): (qA bs n t r hs).length= (live bs n t r hs).length:=by unfold qA;rw [eY]
def gi (bs:List bW) (n t:Nat) (r:Nat->Nat) (h:Nat):Nat:=(live bs n t r ((bX t r).takeWhile (fun x=>decide (x≠h)))).length
theorem tg {l:List Nat} (hn:l.Nodup) {k h:Nat} (hk:l[k]? =some h):l.takeWhile (fun x=>decide (x≠h))=l.take k:=by
 induction l generalizing k with
 | nil=>simp at hk
 | cons a l ih=>
  cases k with
  | zero=>simp at hk;subst hk;simp
  | succ k=>
   have hk:l[k]? =some h:=by simpa using hk
   have hne:a≠h:=fun e=>(List.nodup_cons.1 hn).1 (by rw [e];exact gH hk)
   rw [List.takeWhile_cons,aC (by simpa using hne),List.take_succ_cons,ih (List.nodup_cons.1 hn).2 hk]
theorem qB (bs:List bW) (n t:Nat) (r:Nat->Nat) (hs:List Nat): (live bs n t r hs).length<=hs.length:=jC _ _
theorem B7 {bs:List bW} {n t:Nat} {r:Nat->Nat} {h:Nat} (hh:h∈bX t r) (hne:Gt bs n (cls t r h)=true):gi bs n t r h< (live bs n t r (bX t r)).length/\(live bs n t r (bX t r))[gi bs n t r h]? =some h:=by
 obtain⟨k,hk⟩:=gk hh
 have hkl:=(bC.1 hk).1
 unfold gi
 rw [tg (l3 t r) hk]
 have e:bX t r= (bX t r).take k++h::(bX t r).drop (k+1):=by
  have h1:=(List.take_append_drop k (bX t r)).symm
  rw [r6 hkl,(bC.1 hk).2] at h1;exact h1
 have e2:live bs n t r (bX t r)=live bs n t r ((bX t r).take k)++h::live bs n t r ((bX t r).drop (k+1)):=by
  conv=>lhs;rw [e]
  unfold live
  rw [gS,List.filter_cons,aC hne]
 constructor
 ·rw [e2];simp
 ·rw [e2]
  simp
end
end Go.Gk
namespace Go.Gk
open Go Classical
section
variable {N:Nat}
theorem zI {l:List Nat} (h:l.Nodup) {i j a:Nat} (hi:l[i]? =some a) (hj:l[j]? =some a):i=j:=
 (List.getElem_inj (h₀:=(bC.1 hi).1) (h₁:=(bC.1 hj).1) h).1 (by rw [(bC.1 hi).2,(bC.1 hj).2])
theorem sH {n i k:Nat} {r:Nat->Nat}:i∈cls n r k↔i<n/\r i=k:=by unfold cls;simp
theorem EP (n:Nat) (r:Nat->Nat) (k:Nat): (cls n r k).Nodup:=List.Nodup.sublist List.filter_sublist List.nodup_range
structure KZ (bs:List bW) (n m:Nat) (r:Nat->Nat) (hs:List Nat) (ofP ofB:List Int):Prop where
 lp:ofP.length=n
 lb:ofB.length=m
 pc: ∀i,i<n->r i∈hs->ofP[i]? =some ((gi bs n (n+m) r (r i):Nat):Int)
 bo: ∀j,j<m->r (n+j)∈hs->ofB[j]? =some (if vj bs j=true then ((gi bs n (n+m) r (r (n+j)):Nat):Int) else -1)
theorem B8 {bs:List bW} {n m:Nat} {r:Nat->Nat} (hm:bs.length=m) (hn:n<=1073741824) (hm2:m<=1073741824) {op ob:List Int} (hop:op.length=n) (hob:ob.length=m)
  {body:Nat->List cI×List Int×List Int->Option (List cI×List Int×List Int)}
  (hbody:body= (fun(k123:Nat) (s124: (List cI)×(List Int)×(List Int))=>((idx (ou (n+m) r) (k123:Int)).bind fun x455=>(iL x455.length (fun(k458:Nat) (s459: (List Int)×(List Int)×(List Int)×(List Int))=>((idx x455 (k458:Int)).bind fun x556=>(bif (decide (x556< (n:Int))) then ((idx s459.1 x556).bind fun x580=>(app 8 s459.2.2.1 ([x556]: (List Int))).bind fun x582=>some ((s459.1.set (Int.toNat x556) (s124.1.length:Int)),s459.2.1,x582,s459.2.2.2)) else ((idx bs (IntKind.wrap .i64 (x556 - (n:Int)))).bind fun x584=>(bif x584.ik then ((idx s459.2.1 (IntKind.wrap .i64 (x556 - (n:Int)))).bind fun x594=>(app 8 s459.2.2.2 ([(IntKind.wrap .i64 (x556 - (n:Int)))]: (List Int))).bind fun x596=>some ((s459.2.1.set (Int.toNat (IntKind.wrap .i64 (x556 - (n:Int)))) (s124.1.length:Int)),x596)) else ((idx s459.2.1 (IntKind.wrap .i64 (x556 - (n:Int)))).bind fun x598=>some ((s459.2.1.set (Int.toNat (IntKind.wrap .i64 (x556 - (n:Int)))) (-1)),s459.2.2.2))).bind fun s592=>some (s459.1,s592.1,s459.2.2.1,s592.2))).bind fun s577=>some (s577.1,s577.2.1,s577.2.2.1,s577.2.2.2):Option ((List Int)×(List Int)×(List Int)×(List Int)))) (s124.2.1,s124.2.2,([]: (List Int)),([]: (List Int)))).bind fun s459=>(bif (decide ((IntKind.wrap .i64 ((s459.2.2.1.length:Int)+ (s459.2.2.2.length:Int)))>0)) then ((app 72 s124.1 [(⟨s459.2.2.1,s459.2.2.2,([]: (List fW))⟩:cI)]).bind fun x610=>some x610) else (some s124.1)).bind fun s606=>some (s606,s459.1,s459.2.1):Option ((List cI)×(List Int)×(List Int))))):
  Ok (iL (ou (n+m) r).length body ([],op,ob)) (fun st=>st.1=qA bs n (n+m) r (bX (n+m) r)/\KZ bs n m r (bX (n+m) r) st.2.1 st.2.2):=by
 subst hbody
 have hsl: (ou (n+m) r).length= (bX (n+m) r).length:=by unfold ou;simp
 have hhl:=mN (n+m) r
 refine Ok.mono (Ok.iL (fun(k:Nat) (st:List cI×List Int×List Int)=>st.1=qA bs n (n+m) r ((bX (n+m) r).take k)/\KZ bs n m r ((bX (n+m) r).take k) st.2.1 st.2.2) (by omega) ⟨rfl,hop,hob,fun i hi h=>by simp at h,fun j hj h=>by simp at h⟩ (fun k st hk hI=>?_)) (fun st h=>by rw [hsl,eD] at h;exact h)
 obtain⟨gs,ofP,ofB⟩:=st
 obtain⟨e1,I⟩:=hI
 dsimp only at e1 I ⊢
 subst e1
 rw [hsl] at hk
 have hkx: (bX (n+m) r)[k]? =some (bX (n+m) r)[k]:=aJ hk
 have hts: (bX (n+m) r).take (k+1)= (bX (n+m) r).take k++[(bX (n+m) r)[k]]:=eM hk
 have hgk:gi bs n (n+m) r (bX (n+m) r)[k]= (qA bs n (n+m) r ((bX (n+m) r).take k)).length:=by
  unfold gi;rw [tg (l3 _ _) hkx,rV]
 generalize hh: (bX (n+m) r)[k]=h at *
 have hsx: (ou (n+m) r)[k]? =some (ints (cls (n+m) r h)):=by unfold ou;rw [fP,hkx];rfl
 refine Ok.ix hsx ?_
 have hcl:=AG (n+m) r h
 rw [ml]
 have hgl: (qA bs n (n+m) r ((bX (n+m) r).take k)).length<=n+m:=by
  rw [rV]
  have:=qB bs n (n+m) r ((bX (n+m) r).take k)
  rw [dE] at this;omega
 have hold: ∀i∈cls (n+m) r h,∀i',r i'∈(bX (n+m) r).take k->i≠i':=fun i hi i' hi' e=>by
  subst e
  rw [(sH.1 hi).2] at hi'
  obtain⟨j,hj⟩:=gk hi'
  have hjk:j<k:=by have:=(bC.1 hj).1;rw [dE] at this;omega
  rw [List.getElem?_take_of_lt hjk] at hj
  have:=zI (l3 (n+m) r) hj hkx
  omega
 refine Ok.bind (P:=fun s'=>KZ bs n m r ((bX (n+m) r).take (k+1)) s'.1 s'.2.1/\s'.2.2.1=ints (gP n (cls (n+m) r h))/\s'.2.2.2=ints (gB bs n (cls (n+m) r h))) (Ok.mono (Ok.iL
  (fun(t:Nat) (s':List Int×List Int×List Int×List Int)=>KZ bs n m r ((bX (n+m) r).take k) s'.1 s'.2.1/\s'.2.2.1=ints (gP n ((cls (n+m) r h).take t))/\s'.2.2.2=ints (gB bs n ((cls (n+m) r h).take t))/\
   (∀i∈(cls (n+m) r h).take t,i<n->s'.1[i]? =some ((gi bs n (n+m) r h:Nat):Int))/\∀i∈(cls (n+m) r h).take t,¬i<n->s'.2.1[i - n]? =some (if vj bs (i - n)=true then ((gi bs n (n+m) r h:Nat):Int) else -1)) (by omega)
   ⟨I,rfl,rfl,fun i hi=>by simp at hi,fun i hi=>by simp at hi⟩ (fun t s' ht hI'=>?_)) ?_) ?_
 ·obtain⟨oP,oB,pp,bb⟩:=s'
  obtain⟨J,e2,e3,J1,J2⟩:=hI'
  dsimp only at J e2 e3 J1 J2 ⊢
  subst e2;subst e3
  have htx: (ints (cls (n+m) r h))[t]? =some (((cls (n+m) r h)[t]:Nat):Int):=by unfold ints;rw [fP,aJ ht];rfl
  refine Ok.ix htx ?_
  have htt: (cls (n+m) r h).take (t+1)= (cls (n+m) r h).take t++[(cls (n+m) r h)[t]]:=eM ht
  have hcm:=cP ht
  have hdist: ∀i∈(cls (n+m) r h).take t,i≠(cls (n+m) r h)[t]:=fun i hi e=>by
   obtain⟨j,hj⟩:=gk hi
   have hjt:j<t:=by have:=(bC.1 hj).1;rw [dE] at this;omega
   rw [List.getElem?_take_of_lt hjt] at hj
   have:=zI (EP (n+m) r h) hj (by rw [e];exact aJ ht)
   omega
  generalize (cls (n+m) r h)[t]=c at *
  obtain⟨hc1,hc2⟩:=sH.1 hcm
  have hgp:=Gu n ((cls (n+m) r h).take t)
  have hgb:=Gv bs n ((cls (n+m) r h).take t)
  rw [dE] at hgp hgb
  by_cases hcn:c<n
  ·rw [cE (by omega: ((c:Nat):Int)< ((n:Nat):Int)),aR]
   refine Ok.bind (P:=fun x=>x= (oP.set c ((gi bs n (n+m) r h:Nat):Int),oB,ints (gP n ((cls (n+m) r h).take t))++[((c:Nat):Int)],ints (gB bs n ((cls (n+m) r h).take t)))) ?_ ?_
   ·refine Ok.idx (by rw [J.lp];exact hcn) (Ok.app (by rw [ml];simp;omega) (Ok.ret ?_))
    rw [bY,hgk]
   ·rintro _ rfl
    refine Ok.ret ⟨⟨by simp [J.lp],J.lb,fun i hi hr=>?_,J.bo⟩,?_,?_,fun i hi hin=>?_,fun i hi hin=>?_⟩
    ·dsimp only
     rw [lK (by rw [J.lp];exact hcn),aD (fun e=>hold c hcm i hr e.symm)];exact J.pc i hi hr
    ·dsimp only;rw [htt,DT,aC hcn,rU];rfl
    ·dsimp only;rw [htt,DU,aC hcn]
    ·dsimp only
     rw [lK (by rw [J.lp];exact hcn)]
     split
     ·rfl
     ·rename_i hne
      rw [htt] at hi
      rcases cS.1 hi with hi | hi
      ·exact J1 i hi hin
      ·exact absurd (by simpa using hi) hne
    ·rw [htt] at hi
     rcases cS.1 hi with hi | hi
     ·exact J2 i hi hin
     ·have:i=c:=by simpa using hi
      subst this;exact absurd hcn hin
  ·rw [bG (by omega: ¬((c:Nat):Int)< ((n:Nat):Int)),aS]
   have hw:IntKind.wrap .i64 (((c:Nat):Int) - ((n:Nat):Int))= ((c - n:Nat):Int):=by rw [fB (by omega) (by omega)];omega
   have hcm2:c - n<bs.length:=by omega
   have hpl:vj bs (c - n)=bs[c - n].ik:=by unfold vj;rw [aJ hcm2];rfl
   rw [hw]
   refine Ok.bind (P:=fun x=>x= (oP,oB.set (c - n) (if vj bs (c - n)=true then ((gi bs n (n+m) r h:Nat):Int) else -1),ints (gP n ((cls (n+m) r h).take t)),ints (gB bs n ((cls (n+m) r h).take t++[c])))) ?_ ?_
   ·refine Ok.idx hcm2 ?_
    rw [DU,aD hcn,hpl]
    cases hp:bs[c - n].ik with
    | true=>
     rw [aR,aC rfl,aC rfl]
     refine Ok.eq (x:=(oB.set (c - n) ((gi bs n (n+m) r h:Nat):Int),ints (gB bs n ((cls (n+m) r h).take t)++[c - n]))) ?_ (Ok.ret rfl)
     rw [jE _ _ (by rw [J.lb];omega),aB,fF (by rw [ml];simp;omega),aB,bY,hgk,rU];rfl
    | false=>
     rw [aS,aD (by simp),aD (by simp)]
     refine Ok.eq (x:=(oB.set (c - n) (-1),ints (gB bs n ((cls (n+m) r h).take t)))) ?_ (Ok.ret rfl)
     rw [jE _ _ (by rw [J.lb];omega),aB,bY]
   ·rintro _ rfl
    refine Ok.ret ⟨⟨J.lp,by simp [J.lb],J.pc,fun j hj hr=>?_⟩,?_,?_,fun i hi hin=>?_,fun i hi hin=>?_⟩
    ·dsimp only
     rw [lK (by rw [J.lb];omega),aD (fun e=>hold c hcm (n+j) hr (by omega))];exact J.bo j hj hr
    ·dsimp only;rw [htt,DT,aD hcn]
    ·dsimp only;rw [htt]
    ·rw [htt] at hi
     rcases cS.1 hi with hi | hi
     ·exact J1 i hi hin
     ·have:i=c:=by simpa using hi
      subst this;exact absurd hin hcn
    ·dsimp only
     rw [lK (by rw [J.lb];omega)]
     split
     ·rename_i e;rw [e]
     ·rename_i hne
      rw [htt] at hi
      rcases cS.1 hi with hi | hi
      ·exact J2 i hi hin
      ·exact absurd (by have:i=c:=(by simpa using hi);rw [this]) hne
 ·rintro⟨oP,oB,pp,bb⟩ ⟨J,e2,e3,J1,J2⟩
  dsimp only at J e2 e3 J1 J2 ⊢
  rw [eD] at e2 e3 J1 J2
  refine⟨⟨J.lp,J.lb,fun i hi hr=>?_,fun j hj hr=>?_⟩,e2,e3⟩
  ·rw [hts] at hr
   rcases cS.1 hr with hr | hr
   ·exact J.pc i hi hr
   ·have hr:r i=h:=by simpa using hr
    rw [hr];exact J1 i (sH.2 ⟨by omega,hr⟩) hi
  ·rw [hts] at hr
   rcases cS.1 hr with hr | hr
   ·exact J.bo j hj hr
   ·have hr:r (n+j)=h:=by simpa using hr
    rw [hr]
    have:=J2 (n+j) (sH.2 ⟨by omega,hr⟩) (by omega)
    rwa [Nat.add_sub_cancel_left] at this
 ·rintro⟨oP,oB,pp,bb⟩ ⟨J,e2,e3⟩
  dsimp only at J e2 e3 ⊢
  subst e2;subst e3
  have hgp:=Gu n (cls (n+m) r h)
  have hgb:=Gv bs n (cls (n+m) r h)
  rw [ml,ml,wrap_add (by omega)]
  have hgs:qA bs n (n+m) r ((bX (n+m) r).take (k+1))=if Gt bs n (cls (n+m) r h)=true then qA bs n (n+m) r ((bX (n+m) r).take k)++[MD bs n (cls (n+m) r h)] else qA bs n (n+m) r ((bX (n+m) r).take k):=by
   unfold qA
   rw [hts,EO]
   split
   ·rw [eB];rfl
   ·rfl
  refine Ok.bind (P:=fun x=>x=qA bs n (n+m) r ((bX (n+m) r).take (k+1))) (Ok.bif (fun hb=>?_) (fun hb=>Ok.ret ?_)) (fun x e=>Ok.ret ⟨e,J⟩)
  ·have hne:Gt bs n (cls (n+m) r h)=true:=cE (by have:=of_decide_eq_true hb;omega)
   refine Ok.app (by simp;omega) (Ok.ret ?_)
   rw [hgs,aC hne];rfl
  ·have hne: ¬Gt bs n (cls (n+m) r h)=true:=fun h'=>by
    have h1:=of_decide_eq_true h'
    have h2:=of_decide_eq_false hb
    omega
   rw [hgs,aD hne]
end
end Go.Gk
namespace Go.Gk
open Go Classical
section
variable {N:Nat}
def eX (n:Nat) (h:dQ):Nat:=if h.bW=true then n+h.Number.toNat else h.Number.toNat
structure Gw (bs:List bW) (n m:Nat) (h:dQ):Prop where
 num: ∃k:Nat,h.Number= ((k:Nat):Int)/\(h.bW=true->k<m/\vj bs k=true)/\(h.bW=false->k<n)
theorem C6 {bs:List bW} {pcs:List aH} {l:cU} {h:dQ} (hh:np bs pcs l=some h):Gw bs pcs.length bs.length h:=by
 unfold np at hh
 cases hf:bs.findIdx? (tK l) with
 | some k=>
  rw [hf] at hh
  injection hh with hh;subst hh
  obtain⟨hk,hp,_⟩:=List.findIdx?_eq_some_iff_getElem.1 hf
  refine⟨k,rfl,fun _=>⟨hk,?_⟩,fun h=>by cases h⟩
  unfold tK at hp
  unfold vj
  rw [aJ hk]
  rw [bT] at hp
  exact hp.1
 | none=>
  rw [hf] at hh
  dsimp only at hh
  rw [Option.map_eq_some_iff] at hh
  obtain⟨k,hk,rfl⟩:=hh
  obtain⟨hk,_⟩:=List.findIdx?_eq_some_iff_getElem.1 hk
  exact⟨k,rfl,fun h=>(by cases h),fun _=>hk⟩
def tL (bs:List bW) (pcs:List aH) (r:Nat->Nat) (l:cU):Option Nat:=(np bs pcs l).map fun h=>gi bs pcs.length (pcs.length+bs.length) r (r (eX pcs.length h))
def AY (bs:List bW) (pcs:List aH) (r:Nat->Nat) (l:cU):Int:=match tL bs pcs r l with | some g=>((g:Nat):Int) | none=> -1
def iW (gs:List cI) (lg:cU->Option Nat) (ls:List cU):List cI:=gs.mapIdx (fun g x=>{x with gW:=(ls.filter (fun l=>decide (lg l=some g))).map kP})
theorem j6 {gs:List cI} {lg:cU->Option Nat} {ls:List cU} {g:Nat}: (iW gs lg ls)[g]? = (gs[g]?).map fun x=>{x with gW:=(ls.filter (fun l=>decide (lg l=some g))).map kP}:=by
 unfold iW;rw [List.getElem?_mapIdx]
theorem vk (gs:List cI) (lg:cU->Option Nat) (ls:List cU): (iW gs lg ls).length=gs.length:=by unfold iW;rw [List.length_mapIdx]
theorem y4 {gs:List cI} {lg:cU->Option Nat} {ls:List cU} {l:cU} (h:lg l=none):iW gs lg (ls++[l])=iW gs lg ls:=by
 apply List.ext_getElem?
 intro g
 rw [j6,j6]
 congr 2
 funext x
 rw [gS]
 simp [h]
theorem AL {gs:List cI} {lg:cU->Option Nat} {ls:List cU} {l:cU} {k:Nat} {x:cI} (h:lg l=some k) (hx: (iW gs lg ls)[k]? =some x):
  (iW gs lg ls).set k {x with gW:=x.gW++[kP l]}=iW gs lg (ls++[l]):=by
 apply List.ext_getElem?
 intro g
 have hk:=(bC.1 hx).1
 rw [fA]
 by_cases e:k=g
 ·subst e
  rw [aC rfl,aC hk,j6]
  rw [j6,Option.map_eq_some_iff] at hx
  obtain⟨y,hy,rfl⟩:=hx
  rw [hy,gS]
  simp [h]
 ·rw [aD e,j6,j6]
  congr 2
  funext x
  rw [gS]
  have: ¬(lg l=some g):=by rw [h];intro h';injection h' with h';exact e h'
  simp [this]
theorem Gx {bs:List bW} {n t:Nat} {r:Nat->Nat} {i:Nat} (hi:i<n) (ht:i<t):Gt bs n (cls t r (r i))=true:=by
 unfold Gt
 rw [bP]
 have:i∈gP n (cls t r (r i)):=iA.2 ⟨sH.2 ⟨ht,rfl⟩,by simpa using hi⟩
 have:=List.length_pos_of_mem this
 omega
theorem Gy {bs:List bW} {n t:Nat} {r:Nat->Nat} {j:Nat} (hp:vj bs j=true) (ht:n+j<t):Gt bs n (cls t r (r (n+j)))=true:=by
 unfold Gt
 rw [bP]
 have:j∈gB bs n (cls t r (r (n+j))):=cT.2 ⟨n+j,iA.2 ⟨sH.2 ⟨ht,rfl⟩,by simp [hp]⟩,by omega⟩
 have:=List.length_pos_of_mem this
 omega
structure yn (bs:List bW) (ls:List cU) (pcs:List aH) (r:Nat->Nat) (gs:List cI) (ofP ofB fG:List Int) (fE:List dQ):Prop where
 conn:yZ pcs.length bs.length (eP bs pcs) r
 gs:gs=iW (qA bs pcs.length (pcs.length+bs.length) r (bX (pcs.length+bs.length) r)) (tL bs pcs r) ls
 of:KZ bs pcs.length bs.length r (bX (pcs.length+bs.length) r) ofP ofB
 fG:fG=ls.map (AY bs pcs r)
 fE:fE=ls.map (fun l=>(np bs pcs l).getD ⟨false,0⟩)
theorem yo {bs:List bW} {pcs:List aH} (hp:pcs.length<=1073741824): ∀l∈eP bs pcs,l.length<=1073741824/\∀x∈l,∃i:Nat,i<pcs.length/\x= ((i:Nat):Int):=by
 intro l hl
 unfold eP at hl
 obtain⟨b,_,rfl⟩:=cT.1 hl
 have:=zG (mm b) pcs pcs.length
 refine⟨by rw [ml];omega,fun x hx=>?_⟩
 obtain⟨i,hi,rfl⟩:=ym.1 hx
 exact⟨i,(EN.1 hi).1,rfl⟩
theorem AM {bs:List bW} {ls:List cU} {pcs:List aH} (hb:mO bs) (hp:pcs.length<=1000000000) (hr: ∀p∈pcs,p.iZ.length<=1073741824) (hl:ls.length<=1073741824) (hN:4398046511104<=N):
  Ok (eZ N bs ls pcs (eP bs pcs) [] [] [] []) (fun x=>∃r,yn bs ls pcs r x.1 x.2.1 x.2.2.1 x.2.2.2.1 x.2.2.2.2):=by
 have hbl:=hb.len
 unfold eZ
 rw [wrap_add (by omega)]
 obtain⟨up0,u1,u2⟩:=rM (N:=N) (n:=pcs.length+bs.length) (by omega)
 refine Ok.eq u1 ?_
 refine Ok.bind (zH (n:=pcs.length) (m:=bs.length) (by unfold eP;simp) (yo (by omega)) (by omega) (by omega) u2 hN) ?_
 rintro up1 ⟨r,v1,v2⟩
 refine Ok.eq (qt 0 (by omega)) (Ok.eq (qt 0 (by omega)) ?_)
 obtain⟨up2,w1,_⟩:=HC (N:=N) v1 (by omega) (by omega)
 refine Ok.eq w1 ?_
 refine Ok.bind (B8 (bs:=bs) (n:=pcs.length) (m:=bs.length) (r:=r) rfl (by omega) (by omega) (op:=List.replicate pcs.length 0) (ob:=List.replicate bs.length 0) (by simp) (by simp) rfl) ?_
 rintro⟨gs,ofP,ofB⟩ ⟨e1,I⟩
 dsimp only at e1 I ⊢
 subst e1
 have hgl: (qA bs pcs.length (pcs.length+bs.length) r (bX (pcs.length+bs.length) r)).length<=pcs.length+bs.length:=by
  rw [rV]
  have:=qB bs pcs.length (pcs.length+bs.length) r (bX (pcs.length+bs.length) r)
  have:=mN (pcs.length+bs.length) r
  omega
 refine Ok.bind (Ok.iL (fun(k:Nat) (st:List cI×List Int×List Int×List Int×List dQ)=>st= (iW (qA bs pcs.length (pcs.length+bs.length) r (bX (pcs.length+bs.length) r)) (tL bs pcs r) (ls.take k),ofP,ofB,(ls.take k).map (AY bs pcs r),(ls.take k).map (fun l=>(np bs pcs l).getD ⟨false,0⟩))) (by omega) ?_ (fun k st hk e=>?_)) ?_
 ·congr 1
  unfold iW
  apply List.ext_getElem?
  intro g
  rw [List.getElem?_mapIdx]
  unfold qA
  rw [fP]
  cases (live bs pcs.length (pcs.length+bs.length) r (bX (pcs.length+bs.length) r))[g]? <;> rfl
 ·subst e
  dsimp only
  have hts:ls.take (k+1)=ls.take k++[ls[k]]:=eM hk
  refine Ok.idx hk (Ok.eq (Gs hb (by omega) hr _) ?_)
  dsimp only
  refine Ok.bind (P:=fun x=>x= (iW (qA bs pcs.length (pcs.length+bs.length) r (bX (pcs.length+bs.length) r)) (tL bs pcs r) (ls.take k++[ls[k]]),AY bs pcs r ls[k])) ?_ ?_
  ·cases hh:np bs pcs ls[k] with
   | none=>
    refine Ok.ret ?_
    have h1:tL bs pcs r ls[k]=none:=by unfold tL;rw [hh];rfl
    rw [y4 h1]
    unfold AY;rw [h1]
   | some h=>
    have h1:tL bs pcs r ls[k]=some (gi bs pcs.length (pcs.length+bs.length) r (r (eX pcs.length h))):=by unfold tL;rw [hh];rfl
    have h2:AY bs pcs r ls[k]= ((gi bs pcs.length (pcs.length+bs.length) r (r (eX pcs.length h)):Nat):Int):=by unfold AY;rw [h1]
    obtain⟨q,q1,q2,q3⟩:=(C6 hh).num
    have hix:eX pcs.length h<pcs.length+bs.length/\Gt bs pcs.length (cls (pcs.length+bs.length) r (r (eX pcs.length h)))=true/\fZ N ofP ofB h=some ((gi bs pcs.length (pcs.length+bs.length) r (r (eX pcs.length h)):Nat):Int):=by
     unfold fZ eX
     rw [q1,bY]
     cases hbo:h.bW with
     | true=>
      obtain⟨q4,q5⟩:=q2 hbo
      rw [aR,aC rfl]
      refine⟨by omega,Gy q5 (by omega),?_⟩
      have:=I.bo q q4 (ig.2 ⟨by have:=v2.le (pcs.length+q) (by omega);omega,v2.rr _ (by omega)⟩)
      rw [aC q5] at this
      rw [dD this,aB]
     | false=>
      have q4:=q3 hbo
      rw [aS,aD (by simp)]
      refine⟨by omega,Gx q4 (by omega),?_⟩
      have:=I.pc q q4 (ig.2 ⟨by have:=v2.le q (by omega);omega,v2.rr _ (by omega)⟩)
      rw [dD this,aB]
    obtain⟨i1,i2,i3⟩:=hix
    have hgi:=B7 (r:=r) (t:=pcs.length+bs.length) (bs:=bs) (n:=pcs.length) (h:=r (eX pcs.length h)) (ig.2 ⟨by have:=v2.le _ i1;omega,v2.rr _ i1⟩) i2
    have hgx:gi bs pcs.length (pcs.length+bs.length) r (r (eX pcs.length h))< (iW (qA bs pcs.length (pcs.length+bs.length) r (bX (pcs.length+bs.length) r)) (tL bs pcs r) (ls.take k)).length:=by
     rw [vk,rV];exact hgi.1
    rw [h2]
    dsimp only [Option.getD,Option.isSome]
    rw [aR]
    refine Ok.eq i3 ?_
    generalize gi bs pcs.length (pcs.length+bs.length) r (r (eX pcs.length h))=g at *
    refine Ok.idx hgx (Ok.eq (vY _) ?_)
    have hpl: ((iW (qA bs pcs.length (pcs.length+bs.length) r (bX (pcs.length+bs.length) r)) (tL bs pcs r) (ls.take k))[g]).gW.length<=ls.length:=by
     have:=j6 (gs:=qA bs pcs.length (pcs.length+bs.length) r (bX (pcs.length+bs.length) r)) (lg:=tL bs pcs r) (ls:=ls.take k) (g:=g)
     rw [aJ hgx] at this
     have:=this.symm
     rw [Option.map_eq_some_iff] at this
     obtain⟨y,_,hy⟩:=this
     rw [<-hy,eY]
     have:=jC (fun l=>decide (tL bs pcs r l=some g)) (ls.take k)
     rw [dE] at this;omega
    refine Ok.app (by simp;omega) (Ok.idx hgx (Ok.ret ?_))
    rw [bY]
    congr 1
    exact AL h1 (aJ hgx)
  ·rintro _ rfl
   dsimp only
   refine Ok.app (by simp;omega) (Ok.app (by simp;omega) (Ok.ret ?_))
   rw [hts,eB,eB];rfl
 ·rintro st rfl
  dsimp only
  rw [eD]
  exact Ok.ret ⟨r,v2,rfl,I,rfl,rfl⟩
end
end Go.Gk
