/-
  Helping texts: plain functions and plain laws. No statement of the seed is proved here.
-/
import Derived.Test.YtgeinabdjaknpaaGreatDoorA1
import Derived.ChangeShapes
import Derived.ChangeSame
import Derived.Carry
import Derived.RowKit
import Derived.Test.YtgeinabdjaknpaaGreatDoorA2
set_option linter.unusedVariables false
set_option linter.unusedSimpArgs false
set_option linter.unusedSectionVars false
namespace Go.Gk
open Go
noncomputable section
structure aC where
  X0:Int
  Y0:Int
  X1:Int
  Y1:Int
  deriving DecidableEq,Inhabited
structure bU where
  X:Int
  Y:Int
  deriving DecidableEq,Inhabited
structure bD where
  At:bU
  cD:Int
  bN:Int
  To:Int
  cI:Bool
  deriving DecidableEq,Inhabited
structure cT where
  Part:bS
  fC:bS
  aU:Int
  At:bU
  deriving DecidableEq,Inhabited
structure jQ where
  aJ: (List (List aC))
  bY: (List aC)
  aT: (List bD)
  bH: (List cT)
  deriving DecidableEq,Inhabited
structure aA where
  Y0:Int
  Y1:Int
  Xs: (List Int)
  deriving DecidableEq,Inhabited
structure fC where
  Part:bS
  fC:bS
  deriving DecidableEq,Inhabited
structure aD where
  aU:Int
  Set: (List aA)
  dQ: (List aC)
  deriving DecidableEq,Inhabited
structure bT where
  jR: (List Int)
  aT: (List Int)
  eY: (List fC)
  deriving DecidableEq,Inhabited
structure gk where
  bD:Bool
  Number:Int
  deriving DecidableEq,Inhabited
structure Piece where
  aU:Int
  o5:bU
  o6:Int
  deriving DecidableEq,Inhabited
def l4 (N:Nat) (p0:Int) (p1:Int) (p2:Int):Option (Bool):=
  some ((decide (p0≥p1))&&(decide (p0≤p2)))
def gq (N:Nat) (p0:Int):Option (Bool):=
  (l4 N p0 (-1000000) 1000000).bind fun(j:Bool)=>some j
def hU (N:Nat) (p0:aC):Option (Bool):=
  ((gq N p0.X0).bind fun(j:Bool)=>bif j then ((gq N p0.Y0).bind fun(o:Bool)=>bif o then ((gq N p0.X1).bind fun(aa:Bool)=>bif aa then ((gq N p0.Y1).bind fun(ab:Bool)=>some ab) else (some false)) else (some false)) else (some false)).bind fun(ad:Bool)=>some ad
def eW (N:Nat) (p0: (List aC)):Option (Int):=
  bif (decide ((p0.length:Int)>2000)) then (some 2) else ((nM p0.length (fun(o:Nat) (aa:Unit)=>((idx p0 (o:Int)).bind fun(j:aC)=>(hU N j).bind fun(ab:Bool)=>bif (!ab) then (some (.rt 1)) else (bif ((decide (j.X1≤j.X0))||(decide (j.Y1≤j.Y0))) then (some (.rt 13)) else (some (.nx ()))):Option (Fl (Unit) Int))) ()).bind fun(ad:Fo (Unit) Int)=>ad.cs (fun(aa:Unit)=>some 0) (fun r=>some r))
def eJ (N:Nat) (p0: (List aC)):Option ((List aC)):=
  (app 32 ([]: (List aC)) p0).bind fun(j: (List aC))=>some j
def eZ (N:Nat) (p0:aC) (p1:aC):Option (Int):=
  some (IntKind.wrap .i64 (p0.Y0 - p1.Y0))
def dF (N:Nat) (p0: (List Int)):Option ((List Int)):=
  bif (decide ((p0.length:Int)<2)) then (some p0) else ((itr (fun(o:Int)=>(bif (decide (o< (p0.length:Int))) then ((idx p0 o).bind fun(ab:Int)=>(idx p0 (IntKind.wrap .i64 (o - 1))).bind fun(ad:Int)=>bif (ab==ad) then ((oZ p0 o (p0.length:Int)).bind fun(ak: (List Int))=>(itr (fun(j: (List Int)×Int×Int)=>(bif (decide (j.2.2< (((j.1.length - Int.toNat o):Nat):Int))) then ((wY j.1 o j.2.2).bind fun(ae:Int)=>(wY j.1 o (IntKind.wrap .i64 (j.2.2 - 1))).bind fun(af:Int)=>(bif (ae != af) then ((wY j.1 o j.2.2).bind fun(ag:Int)=>(idx j.1 j.2.1).bind fun(al:Int)=>some ((j.1.set (Int.toNat j.2.1) ag),(IntKind.wrap .i64 (j.2.1+1)))) else (some (j.1,j.2.1))).bind fun(aa: (List Int)×Int)=>some (.nx (aa.1,aa.2,(IntKind.wrap .i64 (j.2.2+1))))) else (some (.br (j.1,j.2.1,j.2.2))):Option (Fl ((List Int)×Int×Int) Empty))) N (p0,o,1)).bind fun(ah:Fo ((List Int)×Int×Int) Empty)=>ah.cs (fun(j: (List Int)×Int×Int)=>(oZ j.1 j.2.1 (j.1.length:Int)).bind fun(an: (List Int))=>(oZ (j.1.take (Int.toNat j.2.1)++List.replicate (j.1.length - Int.toNat j.2.1) (0:Int)) 0 j.2.1).bind fun(ai: (List Int))=>some (.rt ai)) (fun r=>r.elim)) else (some (.nx (IntKind.wrap .i64 (o+1))))) else (some (.br o)):Option (Fl (Int) (List Int)))) N 1).bind fun(aj:Fo (Int) (List Int))=>aj.cs (fun(o:Int)=>some p0) (fun r=>some r))
def i9 (N:Nat) (p0:aC) (p1: (List Int)) (p2:Int):Option (Bool):=
  (idx p1 p2).bind fun(j:Int)=>some (decide (p0.Y1≤j))
def gK (N:Nat) (p0: (List aC)) (p1:aC→Option Bool):Option (Int):=
  (nM p0.length (fun(j:Nat) (o:Unit)=>((idx p0 (j:Int)).bind fun(aa:aC)=>(p1 aa).bind fun(ab:Bool)=>bif ab then (some (.rt (j:Int))) else (some (.nx ())):Option (Fl (Unit) Int))) ()).bind fun(ad:Fo (Unit) Int)=>ad.cs (fun(o:Unit)=>some (-1)) (fun r=>some r)
def fL (N:Nat) (p0: (List aC)) (p1:aC→Option Bool):Option (Int):=
  (nM p0.length (fun(j:Nat) (o:Unit)=>((idx p0 (j:Int)).bind fun(aa:aC)=>(p1 aa).bind fun(ab:Bool)=>bif ab then (some (.rt (j:Int))) else (some (.nx ())):Option (Fl (Unit) Int))) ()).bind fun(ad:Fo (Unit) Int)=>ad.cs (fun(o:Unit)=>some (-1)) (fun r=>some r)
def dR (N:Nat) (p0: (List aC)) (p1:aC→Option Bool):Option ((List aC)):=
  (fL N p0 p1).bind fun(o:Int)=>bif (o==(-1)) then (some p0) else ((itr (fun(j: (List aC)×Int×Int)=>(bif (decide (j.2.2< (j.1.length:Int))) then ((idx j.1 j.2.2).bind fun(aa:aC)=>(p1 aa).bind fun(ad:Bool)=>(bif (!ad) then ((idx j.1 j.2.1).bind fun(ag:aC)=>some ((j.1.set (Int.toNat j.2.1) aa),(IntKind.wrap .i64 (j.2.1+1)))) else (some (j.1,j.2.1))).bind fun(ab: (List aC)×Int)=>some (.nx (ab.1,ab.2,(IntKind.wrap .i64 (j.2.2+1))))) else (some (.br (j.1,j.2.1,j.2.2))):Option (Fl ((List aC)×Int×Int) Empty))) N (p0,o,(IntKind.wrap .i64 (o+1)))).bind fun(ae:Fo ((List aC)×Int×Int) Empty)=>ae.cs (fun(j: (List aC)×Int×Int)=>(oZ j.1 j.2.1 (j.1.length:Int)).bind fun(ah: (List aC))=>(oZ (j.1.take (Int.toNat j.2.1)++List.replicate (j.1.length - Int.toNat j.2.1) (⟨0,0,0,0⟩:aC)) 0 j.2.1).bind fun(af: (List aC))=>some af) (fun r=>r.elim))
def dG (N:Nat) (p0:aC) (p1:aC):Option (Int):=
  some (IntKind.wrap .i64 (p0.X0 - p1.X0))
def eL (N:Nat) (p0: (List aC)):Option ((List Int)×(List aC)):=
  (o4 (dG N) p0).bind fun(aa: (List aC))=>(iz aa.length (fun(ad:Nat) (j: (List Int))=>((idx aa (ad:Int)).bind fun(o:aC)=>(bif (decide ((IntKind.wrap .i64 ((j.length:Int) - 1))≥0)) then ((idx j (IntKind.wrap .i64 ((j.length:Int) - 1))).bind fun(ae:Int)=>some (decide (o.X0≤ae))) else (some false)).bind fun(af:Bool)=>(bif af then ((idx j (IntKind.wrap .i64 ((j.length:Int) - 1))).bind fun(ab:Int)=>(idx j (IntKind.wrap .i64 ((j.length:Int) - 1))).bind fun(ai:Int)=>some (j.set (Int.toNat (IntKind.wrap .i64 ((j.length:Int) - 1))) (if ab<o.X1 then o.X1 else ab))) else ((app 8 j ([o.X0,o.X1]: (List Int))).bind fun(ag: (List Int))=>some ag)).bind fun(ah: (List Int))=>some ah:Option ((List Int)))) ([]: (List Int))).bind fun(j: (List Int))=>some (j,aa)
def hZ (N:Nat) (p0: (List Int)) (p1: (List Int)):Option (Bool):=
  bif ((p0.length:Int) != (p1.length:Int)) then (some false) else ((nM p0.length (fun(j:Nat) (o:Unit)=>((idx p0 (j:Int)).bind fun(aa:Int)=>(idx p1 (j:Int)).bind fun(ab:Int)=>bif (aa != ab) then (some (.rt false)) else (some (.nx ())):Option (Fl (Unit) Bool))) ()).bind fun(ad:Fo (Unit) Bool)=>ad.cs (fun(o:Unit)=>some true) (fun r=>some r))
def eG (N:Nat) (p0: (List aA)) (p1:aA):Option ((List aA)):=
  bif (((p1.Xs.length:Int)==0)||(decide (p1.Y1≤p1.Y0))) then (some p0) else ((bif (decide ((IntKind.wrap .i64 ((p0.length:Int) - 1))≥0)) then ((idx p0 (IntKind.wrap .i64 ((p0.length:Int) - 1))).bind fun(j:aA)=>bif (j.Y1==p1.Y0) then ((idx p0 (IntKind.wrap .i64 ((p0.length:Int) - 1))).bind fun(o:aA)=>(hZ N o.Xs p1.Xs).bind fun(aa:Bool)=>some aa) else (some false)) else (some false)).bind fun(ab:Bool)=>bif ab then ((idx p0 (IntKind.wrap .i64 ((p0.length:Int) - 1))).bind fun(ad:aA)=>some (p0.set (Int.toNat (IntKind.wrap .i64 ((p0.length:Int) - 1))) ({ad with Y1:=p1.Y1}))) else ((app 40 p0 ([p1]: (List aA))).bind fun(ae: (List aA))=>some ae))
def cW (N:Nat) (p0: (List aC)):Option ((List aA)):=
  (eJ N p0).bind fun(ag: (List aC))=>(o4 (eZ N) ag).bind fun(aa: (List aC))=>(iz aa.length (fun(ah:Nat) (ad: (List Int))=>((idx aa (ah:Int)).bind fun(ae:aC)=>(app 8 ad ([ae.Y0,ae.Y1]: (List Int))).bind fun(ai: (List Int))=>some ai:Option ((List Int)))) ([]: (List Int))).bind fun(ad: (List Int))=>(mN ad).bind fun(aj: (List Int))=>(dF N aj).bind fun(ab: (List Int))=>(itr (fun(j: (List aA)×(List aC)×Int×Int)=>(bif (decide ((IntKind.wrap .i64 (j.2.2.2+1))< (ab.length:Int))) then ((dR N j.2.1 (fun y0=>i9 N y0 ab j.2.2.2)).bind fun(ak: (List aC))=>(itr (fun(o: (List aC)×Int)=>((bif (decide (o.2< (aa.length:Int))) then ((idx aa o.2).bind fun(al:aC)=>(idx ab j.2.2.2).bind fun(an:Int)=>some (decide (al.Y0≤an))) else (some false)).bind fun(ao:Bool)=>bif ao then ((idx aa o.2).bind fun(aq:aC)=>(app 32 o.1 ([aq]: (List aC))).bind fun(ar: (List aC))=>some (.nx (ar,(IntKind.wrap .i64 (o.2+1))))) else (some (.br (o.1,o.2))):Option (Fl ((List aC)×Int) Empty))) N (ak,j.2.2.1)).bind fun(au:Fo ((List aC)×Int) Empty)=>au.cs (fun(o: (List aC)×Int)=>(idx ab j.2.2.2).bind fun(av:Int)=>(idx ab (IntKind.wrap .i64 (j.2.2.2+1))).bind fun(aw:Int)=>(eL N o.1).bind fun(af: (List Int)×(List aC))=>(eG N j.1 (⟨av,aw,af.1⟩:aA)).bind fun(ax: (List aA))=>some (.nx (ax,af.2,o.2,(IntKind.wrap .i64 (j.2.2.2+1))))) (fun r=>r.elim)) else (some (.br (j.1,j.2.1,j.2.2.1,j.2.2.2))):Option (Fl ((List aA)×(List aC)×Int×Int) Empty))) N (([]: (List aA)),([]: (List aC)),0,0)).bind fun(ay:Fo ((List aA)×(List aC)×Int×Int) Empty)=>ay.cs (fun(j: (List aA)×(List aC)×Int×Int)=>some j.1) (fun r=>r.elim)
def dE (N:Nat) (p0: (List aA)):Option ((List aC)):=
  (iz p0.length (fun(ab:Nat) (aa: (List aC))=>((idx p0 (ab:Int)).bind fun(o:aA)=>(itr (fun(j: (List aC)×Int)=>(bif (decide (j.2< (o.Xs.length:Int))) then ((idx o.Xs j.2).bind fun(ad:Int)=>(idx o.Xs (IntKind.wrap .i64 (j.2+1))).bind fun(ae:Int)=>(app 32 j.1 ([(⟨ad,o.Y0,ae,o.Y1⟩:aC)]: (List aC))).bind fun(af: (List aC))=>some (.nx (af,(IntKind.wrap .i64 (j.2+2))))) else (some (.br (j.1,j.2))):Option (Fl ((List aC)×Int) Empty))) N (aa,0)).bind fun(ag:Fo ((List aC)×Int) Empty)=>ag.cs (fun(j: (List aC)×Int)=>some j.1) (fun r=>r.elim):Option ((List aC)))) ([]: (List aC))).bind fun(aa: (List aC))=>some aa
def fD (N:Nat) (p0: (List aC)) (p1: (List aC)):Option (Bool):=
  bif ((p0.length:Int) != (p1.length:Int)) then (some false) else ((nM p0.length (fun(j:Nat) (o:Unit)=>((idx p0 (j:Int)).bind fun(aa:aC)=>(idx p1 (j:Int)).bind fun(ab:aC)=>bif (!(decide (aa=ab))) then (some (.rt false)) else (some (.nx ())):Option (Fl (Unit) Bool))) ()).bind fun(ad:Fo (Unit) Bool)=>ad.cs (fun(o:Unit)=>some true) (fun r=>some r))
def dS (N:Nat) (p0: (List aC)):Option (Int):=
  (eW N p0).bind fun(ab:Int)=>bif (ab != 0) then (some ab) else ((itr (fun(j:Int)=>(bif (decide (j< (p0.length:Int))) then ((idx p0 (IntKind.wrap .i64 (j - 1))).bind fun(o:aC)=>(idx p0 j).bind fun(aa:aC)=>bif ((decide (aa.Y0<o.Y0))||((aa.Y0==o.Y0)&&(decide (aa.X0≤o.X0)))) then (some (.rt 8)) else (some (.nx (IntKind.wrap .i64 (j+1))))) else (some (.br j)):Option (Fl (Int) Int))) N 1).bind fun(ad:Fo (Int) Int)=>ad.cs (fun(j:Int)=>(cW N p0).bind fun(ae: (List aA))=>(dE N ae).bind fun(af: (List aC))=>(fD N af p0).bind fun(ag:Bool)=>bif (!ag) then (some 3) else (some 0)) (fun r=>some r))
def dA (N:Nat) (p0:Int) (p1:Int) (p2:Int):Option (Bool):=
  some ((decide (p0≥p1))&&(decide (p0≤p2)))
def eU (N:Nat) (p0:bU):Option (Bool):=
  ((gq N p0.X).bind fun(j:Bool)=>bif j then ((gq N p0.Y).bind fun(o:Bool)=>some o) else (some false)).bind fun(aa:Bool)=>some aa
def cQ (N:Nat) (p0:bD):Option (aC):=
  some (⟨(IntKind.wrap .i64 (p0.At.X - (IntKind.wrap .i64 (Int.tdiv p0.cD 2)))),(IntKind.wrap .i64 (p0.At.Y - (IntKind.wrap .i64 (Int.tdiv p0.cD 2)))),(IntKind.wrap .i64 ((IntKind.wrap .i64 (p0.At.X - (IntKind.wrap .i64 (Int.tdiv p0.cD 2))))+p0.cD)),(IntKind.wrap .i64 ((IntKind.wrap .i64 (p0.At.Y - (IntKind.wrap .i64 (Int.tdiv p0.cD 2))))+p0.cD))⟩:aC)
def ig (N:Nat) (p0: (List aA)):Option (aC):=
  (idx p0 0).bind fun(ad:aA)=>(idx ad.Xs 0).bind fun(ae:Int)=>(idx p0 0).bind fun(af:aA)=>(idx p0 0).bind fun(ag:aA)=>(idx ag.Xs 1).bind fun(ah:Int)=>(idx p0 (IntKind.wrap .i64 ((p0.length:Int) - 1))).bind fun(ai:aA)=>(iz p0.length (fun(aj:Nat) (j:aC)=>((idx p0 (aj:Int)).bind fun(o:aA)=>(idx o.Xs 0).bind fun(aa:Int)=>(idx o.Xs (IntKind.wrap .i64 ((o.Xs.length:Int) - 1))).bind fun(ab:Int)=>some ({{j with X0:=(if aa<j.X0 then aa else j.X0)} with X1:=(if j.X1<ab then ab else j.X1)}):Option (aC))) (⟨ae,af.Y0,ah,ai.Y1⟩:aC)).bind fun(j:aC)=>some j
def gZ (N:Nat) (p0: (List aA)):Option (Bool):=
  (bif ((p0.length:Int)==0) then (some true) else ((ig N p0).bind fun(j:aC)=>(hU N j).bind fun(o:Bool)=>some o)).bind fun(aa:Bool)=>some aa
def fM (N:Nat) (p0:bD):Option (aC×Int):=
  ((dA N p0.cD 1 10000).bind fun(o:Bool)=>bif (!o) then (some true) else ((eU N p0.At).bind fun(aa:Bool)=>some (!aa))).bind fun(ab:Bool)=>bif ab then (some ((⟨0,0,0,0⟩:aC),1)) else ((cQ N p0).bind fun(j:aC)=>(cW N ([j]: (List aC))).bind fun(ad: (List aA))=>(gZ N ad).bind fun(ae:Bool)=>bif (!ae) then (some ((⟨0,0,0,0⟩:aC),1)) else (some (j,0)))
def fE (N:Nat) (p0:jQ):Option (Int):=
  bif (decide ((p0.aT.length:Int)>500)) then (some 2) else ((nM p0.aT.length (fun(aa:Nat) (ab:Unit)=>((idx p0.aT (aa:Int)).bind fun(j:bD)=>(fM N j).bind fun(o:aC×Int)=>bif (o.2 != 0) then (some (.rt o.2)) else (((dA N j.bN 0 (IntKind.wrap .i64 ((p0.aJ.length:Int) - 1))).bind fun(ad:Bool)=>bif (!ad) then (some true) else ((dA N j.To j.bN (IntKind.wrap .i64 ((p0.aJ.length:Int) - 1))).bind fun(ae:Bool)=>some (!ae))).bind fun(af:Bool)=>bif af then (some (.rt 1)) else (some (.nx ()))):Option (Fl (Unit) Int))) ()).bind fun(ag:Fo (Unit) Int)=>ag.cs (fun(ab:Unit)=>some 0) (fun r=>some r))
def dZ (N:Nat) (p0:bS) (p1:Int):Option (Int):=
  some (Lib.indexByte p0.bM (Int.toNat p1).toUInt8)
def fF (N:Nat) (p0:bS) (p1:bS):Option (Int):=
  bif (((p1.bM.length:Int)==0)||(p1.wR p0)) then (some 0) else (bif ((p1.bM.length:Int)==1) then ((yo p1 0).bind fun(j:UInt8)=>(dZ N p0 (j.toNat:Int)).bind fun(o:Int)=>some o) else (bif (decide ((p1.bM.length:Int)≥(p0.bM.length:Int))) then (some (-1)) else (none)))
def gH (N:Nat) (p0:bS) (p1:bS):Option (Int):=
  (fF N p0 p1).bind fun(j:Int)=>some j
def iB (N:Nat) (p0:bS) (p1:bS):Option (Int):=
  bif ((p1.bM.length:Int)==0) then (none) else (bif ((p1.bM.length:Int)==1) then ((yo p1 0).bind fun(aa:UInt8)=>some ((Lib.countByte p0.bM (Int.toNat (aa.toNat:Int)).toUInt8:Nat):Int)) else ((itr (fun(j:bS×Int)=>((gH N j.1 p1).bind fun(o:Int)=>bif (o==(-1)) then (some (.rt j.2)) else ((oz j.1 (IntKind.wrap .i64 (o+ (p1.bM.length:Int))) (j.1.bM.length:Int)).bind fun(ab:bS)=>some (.nx (ab,(IntKind.wrap .i64 (j.2+1))))):Option (Fl (bS×Int) Int))) N (p0,0)).bind fun(ad:Fo (bS×Int) Int)=>ad.cs (fun(j:bS×Int)=>some 0) (fun r=>some r)))
def ij (N:Nat) (p0:bS) (p1:bS) (p2:Int) (p3:Int):Option ((List bS)):=
  bif (p3==0) then (some ([]: (List bS))) else (bif (p1.wR (⟨[]⟩)) then (none) else ((bif (decide (p3<0)) then ((iB N p0 p1).bind fun(ab:Int)=>some (IntKind.wrap .i64 (ab+1))) else (some p3)).bind fun(o:Int)=>(mk 16 (⟨[]⟩:bS) (if (IntKind.wrap .i64 ((p0.bM.length:Int)+1))<o then (IntKind.wrap .i64 ((p0.bM.length:Int)+1)) else o)).bind fun(ad: (List bS))=>(itr (fun(j:bS×(List bS)×Int)=>(bif (decide (j.2.2< (IntKind.wrap .i64 ((if (IntKind.wrap .i64 ((p0.bM.length:Int)+1))<o then (IntKind.wrap .i64 ((p0.bM.length:Int)+1)) else o) - 1)))) then ((gH N j.1 p1).bind fun(aa:Int)=>bif (decide (aa<0)) then (some (.br (j.1,j.2.1,j.2.2))) else ((oz j.1 0 (IntKind.wrap .i64 (aa+p2))).bind fun(ae:bS)=>(idx j.2.1 j.2.2).bind fun(ai:bS)=>(oz j.1 (IntKind.wrap .i64 (aa+ (p1.bM.length:Int))) (j.1.bM.length:Int)).bind fun(af:bS)=>some (.nx (af,(j.2.1.set (Int.toNat j.2.2) ae),(IntKind.wrap .i64 (j.2.2+1)))))) else (some (.br (j.1,j.2.1,j.2.2))):Option (Fl (bS×(List bS)×Int) Empty))) N (p0,ad,0)).bind fun(ag:Fo (bS×(List bS)×Int) Empty)=>ag.cs (fun(j:bS×(List bS)×Int)=>(idx j.2.1 j.2.2).bind fun(aj:bS)=>(oZ (j.2.1.set (Int.toNat j.2.2) j.1) 0 (IntKind.wrap .i64 (j.2.2+1))).bind fun(ah: (List bS))=>some ah) (fun r=>r.elim)))
def iC (N:Nat) (p0:bS) (p1:bS):Option ((List bS)):=
  (ij N p0 p1 0 (-1)).bind fun(j: (List bS))=>some j
def fV (N:Nat) (p0: (List bS)) (p1:bS→Option Bool):Option (Int):=
  (nM p0.length (fun(j:Nat) (o:Unit)=>((idx p0 (j:Int)).bind fun(aa:bS)=>(p1 aa).bind fun(ab:Bool)=>bif ab then (some (.rt (j:Int))) else (some (.nx ())):Option (Fl (Unit) Int))) ()).bind fun(ad:Fo (Unit) Int)=>ad.cs (fun(o:Unit)=>some (-1)) (fun r=>some r)
def dT (N:Nat) (p0: (List bS)) (p1:bS→Option Bool):Option (Bool):=
  (fV N p0 p1).bind fun(j:Int)=>some (decide (j≥0))
def eK (N:Nat) (p0:bS) (p1:Int):Option (Int):=
  (dZ N p0 p1).bind fun(j:Int)=>some j
def eH (N:Nat) (p0:bS):Option (Bool):=
  (nM p0.bM.length (fun(o:Nat) (aa:Unit)=>((yo p0 (o:Int)).bind fun(j:UInt8)=>(bif ((((decide ((j.toNat:Int)<65))||(decide ((j.toNat:Int)>90)))&&((decide ((j.toNat:Int)<97))||(decide ((j.toNat:Int)>122))))&&((decide ((j.toNat:Int)<48))||(decide ((j.toNat:Int)>57)))) then ((eK N (⟨[95,43,45,35]⟩) (j.toNat:Int)).bind fun(ab:Int)=>some (decide (ab<0))) else (some false)).bind fun(ad:Bool)=>bif ad then (some (.rt false)) else (some (.nx ())):Option (Fl (Unit) Bool))) ()).bind fun(ae:Fo (Unit) Bool)=>ae.cs (fun(aa:Unit)=>some ((decide ((p0.bM.length:Int)≥1))&&(decide ((p0.bM.length:Int)≤40)))) (fun r=>some r)
def dU (N:Nat) (p0:bS):Option (Bool):=
  (eH N p0).bind fun(j:Bool)=>some (!j)
def g8 (N:Nat) (p0:bS):Option (Bool):=
  (bif (decide ((p0.bM.length:Int)≤200)) then ((iC N p0 (⟨[47]⟩)).bind fun(j: (List bS))=>(dT N j (dU N)).bind fun(o:Bool)=>some (!o)) else (some false)).bind fun(aa:Bool)=>some aa
def ik (N:Nat) (p0:cT):Option (fC):=
  some (⟨p0.Part,p0.fC⟩:fC)
def gL (N:Nat) (p0:bS) (p1:bS):Option (Int):=
  some (Lib.compareBytes p0.bM p1.bM)
def iL (N:Nat) (p0:bS) (p1:bS):Option (Int):=
  (gL N p0 p1).bind fun(j:Int)=>some j
def eP (N:Nat) (p0:fC) (p1:fC):Option (Int):=
  (iL N p0.Part p1.Part).bind fun(j:Int)=>bif (j != 0) then (some j) else ((iL N p0.fC p1.fC).bind fun(o:Int)=>some o)
def fG (N:Nat) (p0:jQ):Option (Int):=
  bif (decide ((p0.bH.length:Int)>1000)) then (some 2) else ((nM p0.bH.length (fun(o:Nat) (aa:Unit)=>((idx p0.bH (o:Int)).bind fun(j:cT)=>((g8 N j.Part).bind fun(ab:Bool)=>bif (!ab) then (some true) else ((eH N j.fC).bind fun(ad:Bool)=>some (!ad))).bind fun(ae:Bool)=>bif ae then (some (.rt 5)) else (((dA N j.aU 0 (IntKind.wrap .i64 ((p0.aJ.length:Int) - 1))).bind fun(af:Bool)=>bif (!af) then (some true) else ((eU N j.At).bind fun(ag:Bool)=>some (!ag))).bind fun(ah:Bool)=>bif ah then (some (.rt 1)) else ((bif (decide ((o:Int)>0)) then ((ik N j).bind fun(ai:fC)=>(idx p0.bH (IntKind.wrap .i64 ((o:Int) - 1))).bind fun(aj:cT)=>(ik N aj).bind fun(ak:fC)=>(eP N ai ak).bind fun(al:Int)=>some (decide (al≤0))) else (some false)).bind fun(an:Bool)=>bif an then (some (.rt 8)) else (some (.nx ())))):Option (Fl (Unit) Int))) ()).bind fun(ao:Fo (Unit) Int)=>ao.cs (fun(aa:Unit)=>some 0) (fun r=>some r))
def gI (N:Nat) (p0:Int) (p1:Int) (p2:Int) (p3:Int):Option (Int):=
  some (if (if 0< (IntKind.wrap .i64 ((IntKind.wrap .i64 (p2 - p1))+1)) then (IntKind.wrap .i64 ((IntKind.wrap .i64 (p2 - p1))+1)) else 0)< (IntKind.wrap .i64 ((IntKind.wrap .i64 (p0 - p3))+1)) then (IntKind.wrap .i64 ((IntKind.wrap .i64 (p0 - p3))+1)) else (if 0< (IntKind.wrap .i64 ((IntKind.wrap .i64 (p2 - p1))+1)) then (IntKind.wrap .i64 ((IntKind.wrap .i64 (p2 - p1))+1)) else 0))
def lz (N:Nat) (p0:aC) (p1:aC):Option (Int):=
  (gI N p0.X0 p0.X1 p1.X0 p1.X1).bind fun(j:Int)=>(gI N p0.Y0 p0.Y1 p1.Y0 p1.Y1).bind fun(o:Int)=>some (if j<o then o else j)
def fW (N:Nat) (p0:bD) (p1:Int):Option (Bool):=
  some ((decide (p0.bN≤p1))&&(decide (p1≤p0.To)))
def il (N:Nat) (p0: (List aA)) (p1:Int) (p2:Int):Option ((List Int)×Int):=
  bif ((p0.length:Int)==0) then (some (([]: (List Int)),p2)) else ((idx p0 0).bind fun(aa:aA)=>bif (decide (p1<aa.Y0)) then ((idx p0 0).bind fun(j:aA)=>some (([]: (List Int)),(if j.Y0<p2 then j.Y0 else p2))) else ((idx p0 0).bind fun(ab:aA)=>(idx p0 0).bind fun(o:aA)=>some (ab.Xs,(if o.Y1<p2 then o.Y1 else p2))))
def kp (N:Nat) (p0: (List Int)) (p1: (List Int)) (p2:Bool→Bool→Option Bool):Option ((List Int)):=
  (itr (fun(j: (List Int)×(List Int)×(List Int)×Bool×Bool×Bool)=>((bif (decide ((j.1.length:Int)>0)) then (some true) else (some (decide ((j.2.1.length:Int)>0)))).bind fun(af:Bool)=>bif af then ((bif ((j.2.1.length:Int)==0) then (some true) else (bif (decide ((j.1.length:Int)>0)) then ((idx j.1 0).bind fun(ag:Int)=>(idx j.2.1 0).bind fun(ah:Int)=>some (decide (ag≤ah))) else (some false))).bind fun(ai:Bool)=>(bif ai then ((idx j.1 0).bind fun(aj:Int)=>some aj) else ((idx j.2.1 0).bind fun(ak:Int)=>some ak)).bind fun(o:Int)=>(bif (decide ((j.1.length:Int)>0)) then ((idx j.1 0).bind fun(al:Int)=>some (al==o)) else (some false)).bind fun(an:Bool)=>(bif an then ((oZ j.1 1 (j.1.length:Int)).bind fun(ao: (List Int))=>some (ao,(!j.2.2.2.1))) else (some (j.1,j.2.2.2.1))).bind fun(aa: (List Int)×Bool)=>(bif (decide ((j.2.1.length:Int)>0)) then ((idx j.2.1 0).bind fun(aq:Int)=>some (aq==o)) else (some false)).bind fun(ar:Bool)=>(bif ar then ((oZ j.2.1 1 (j.2.1.length:Int)).bind fun(au: (List Int))=>some (au,(!j.2.2.2.2.1))) else (some (j.2.1,j.2.2.2.2.1))).bind fun(ab: (List Int)×Bool)=>(p2 aa.2 ab.2).bind fun(ad:Bool)=>(bif (ad != j.2.2.2.2.2) then ((app 8 j.2.2.1 ([o]: (List Int))).bind fun(av: (List Int))=>some (av,ad)) else (some (j.2.2.1,j.2.2.2.2.2))).bind fun(ae: (List Int)×Bool)=>some (.nx (aa.1,ab.1,ae.1,aa.2,ab.2,ae.2))) else (some (.br (j.1,j.2.1,j.2.2.1,j.2.2.2.1,j.2.2.2.2.1,j.2.2.2.2.2))):Option (Fl ((List Int)×(List Int)×(List Int)×Bool×Bool×Bool) Empty))) N (p0,p1,([]: (List Int)),false,false,false)).bind fun(aw:Fo ((List Int)×(List Int)×(List Int)×Bool×Bool×Bool) Empty)=>aw.cs (fun(j: (List Int)×(List Int)×(List Int)×Bool×Bool×Bool)=>some j.2.2.1) (fun r=>r.elim)
def jG (N:Nat) (p0: (List aA)) (p1: (List aA)) (p2:Bool→Bool→Option Bool):Option ((List aA)):=
  bif ((IntKind.wrap .i64 ((p0.length:Int)+ (p1.length:Int)))==0) then (some ([]: (List aA))) else ((iz (([p0,p1]: (List (List aA))).length) (fun(ah:Nat) (o:Int×Int)=>((idx ([p0,p1]: (List (List aA))) (ah:Int)).bind fun(ad: (List aA))=>(bif (decide ((ad.length:Int)>0)) then ((bif ((ah:Int)==0) then (some true) else (some ((p0.length:Int)==0))).bind fun(al:Bool)=>(bif al then ((idx ad 0).bind fun(an:aA)=>(idx ad (IntKind.wrap .i64 ((ad.length:Int) - 1))).bind fun(ao:aA)=>some (an.Y0,ao.Y1)) else (some (o.1,o.2))).bind fun(ag:Int×Int)=>(idx ad 0).bind fun(ai:aA)=>(idx ad (IntKind.wrap .i64 ((ad.length:Int) - 1))).bind fun(aj:aA)=>some ((if ai.Y0<ag.1 then ai.Y0 else ag.1),(if ag.2<aj.Y1 then aj.Y1 else ag.2))) else (some (o.1,o.2))).bind fun(ak:Int×Int)=>some (ak.1,ak.2):Option (Int×Int))) (0,0)).bind fun(o:Int×Int)=>(itr (fun(j: (List aA)×(List aA)×(List aA)×Int)=>(bif (decide (j.2.2.2<o.2)) then ((itr (fun(aa: (List aA))=>((bif (decide ((aa.length:Int)>0)) then ((idx aa 0).bind fun(aq:aA)=>some (decide (aq.Y1≤j.2.2.2))) else (some false)).bind fun(ar:Bool)=>bif ar then ((oZ aa 1 (aa.length:Int)).bind fun(au: (List aA))=>some (.nx au)) else (some (.br aa)):Option (Fl ((List aA)) Empty))) N j.1).bind fun(av:Fo ((List aA)) Empty)=>av.cs (fun(aa: (List aA))=>(itr (fun(ab: (List aA))=>((bif (decide ((ab.length:Int)>0)) then ((idx ab 0).bind fun(aw:aA)=>some (decide (aw.Y1≤j.2.2.2))) else (some false)).bind fun(ax:Bool)=>bif ax then ((oZ ab 1 (ab.length:Int)).bind fun(ay: (List aA))=>some (.nx ay)) else (some (.br ab)):Option (Fl ((List aA)) Empty))) N j.2.1).bind fun(az:Fo ((List aA)) Empty)=>az.cs (fun(ab: (List aA))=>(il N aa j.2.2.2 o.2).bind fun(ae: (List Int)×Int)=>(il N ab j.2.2.2 o.2).bind fun(af: (List Int)×Int)=>(kp N ae.1 af.1 p2).bind fun(a0: (List Int))=>(eG N j.2.2.1 (⟨j.2.2.2,(if af.2<ae.2 then af.2 else ae.2),a0⟩:aA)).bind fun(a1: (List aA))=>some (.nx (aa,ab,a1,(if af.2<ae.2 then af.2 else ae.2)))) (fun r=>r.elim)) (fun r=>r.elim)) else (some (.br (j.1,j.2.1,j.2.2.1,j.2.2.2))):Option (Fl ((List aA)×(List aA)×(List aA)×Int) Empty))) N (p0,p1,([]: (List aA)),o.1)).bind fun(a2:Fo ((List aA)×(List aA)×(List aA)×Int) Empty)=>a2.cs (fun(j: (List aA)×(List aA)×(List aA)×Int)=>some j.2.2.1) (fun r=>r.elim))
def ja (N:Nat) (p0:Bool) (p1:Bool):Option (Bool):=
  some (p0&&(!p1))
def fX (N:Nat) (p0: (List aA)) (p1: (List aA)):Option ((List aA)):=
  (jG N p0 p1 (ja N)).bind fun(j: (List aA))=>some j
def fY (N:Nat) (p0: (List aA)):Option (Int):=
  (iz p0.length (fun(o:Nat) (j:Int)=>((idx p0 (o:Int)).bind fun(aa:aA)=>some (IntKind.wrap .i64 (j+ (IntKind.wrap .i64 (Int.tdiv (aa.Xs.length:Int) 2)))):Option (Int))) 0).bind fun(j:Int)=>some j
def cJ (N:Nat) (p0:Int) (p1_0: (List Int)):Option (Int×(List Int)):=
  (itr (fun(j:Int×(List Int))=>((idx j.2 j.1).bind fun(aa:Int)=>bif (aa != j.1) then ((idx j.2 j.1).bind fun(ab:Int)=>(idx j.2 ab).bind fun(o:Int)=>(idx j.2 j.1).bind fun(af:Int)=>(idx (j.2.set (Int.toNat j.1) o) j.1).bind fun(ad:Int)=>some (.nx (ad,(j.2.set (Int.toNat j.1) o)))) else (some (.br (j.1,j.2))):Option (Fl (Int×(List Int)) Empty))) N (p0,p1_0)).bind fun(ae:Fo (Int×(List Int)) Empty)=>ae.cs (fun(j:Int×(List Int))=>some (j.1,j.2)) (fun r=>r.elim)
def gA (N:Nat) (p0: (List aA)):Option ((List (List aA))):=
  (dE N p0).bind fun(ab: (List aC))=>(mk 8 (0:Int) (ab.length:Int)).bind fun(an: (List Int))=>(iz an.length (fun(ai:Nat) (ag: (List Int))=>((idx ag (ai:Int)).bind fun(bd:Int)=>some (ag.set (Int.toNat (ai:Int)) (ai:Int)):Option ((List Int)))) an).bind fun(ag: (List Int))=>(iz p0.length (fun(aj:Nat) (aa: (List Int)×Int×Int)=>((idx p0 (aj:Int)).bind fun(ak:aA)=>(bif (decide ((aj:Int)>0)) then ((idx p0 (IntKind.wrap .i64 ((aj:Int) - 1))).bind fun(ar:aA)=>some (ar.Y1==ak.Y0)) else (some false)).bind fun(au:Bool)=>(bif au then ((itr (fun(j: (List Int)×Int×Int)=>(bif ((decide (j.2.1<aa.2.1))&&(decide (j.2.2< (IntKind.wrap .i64 (aa.2.1+ (IntKind.wrap .i64 (Int.tdiv (ak.Xs.length:Int) 2))))))) then (((idx ab j.2.1).bind fun(av:aC)=>(idx ab j.2.2).bind fun(aw:aC)=>bif (decide (av.X0<aw.X1)) then ((idx ab j.2.2).bind fun(ax:aC)=>(idx ab j.2.1).bind fun(ay:aC)=>some (decide (ax.X0<ay.X1))) else (some false)).bind fun(az:Bool)=>(bif az then ((cJ N j.2.1 j.1).bind fun(ae:Int×(List Int))=>(cJ N j.2.2 ae.2).bind fun(ad:Int×(List Int))=>(idx ad.2 (if ae.1<ad.1 then ad.1 else ae.1)).bind fun(bf:Int)=>some (ad.2.set (Int.toNat (if ae.1<ad.1 then ad.1 else ae.1)) (if ad.1<ae.1 then ad.1 else ae.1))) else (some j.1)).bind fun(a0: (List Int))=>(idx ab j.2.1).bind fun(a1:aC)=>(idx ab j.2.2).bind fun(a2:aC)=>(bif (decide (a1.X1<a2.X1)) then (some ((IntKind.wrap .i64 (j.2.1+1)),j.2.2)) else (some (j.2.1,(IntKind.wrap .i64 (j.2.2+1))))).bind fun(ao:Int×Int)=>some (.nx (a0,ao.1,ao.2))) else (some (.br (j.1,j.2.1,j.2.2))):Option (Fl ((List Int)×Int×Int) Empty))) N (aa.1,aa.2.2,aa.2.1)).bind fun(a3:Fo ((List Int)×Int×Int) Empty)=>a3.cs (fun(j: (List Int)×Int×Int)=>some j.1) (fun r=>r.elim)) else (some aa.1)).bind fun(a4: (List Int))=>some (a4,(IntKind.wrap .i64 (aa.2.1+ (IntKind.wrap .i64 (Int.tdiv (ak.Xs.length:Int) 2)))),aa.2.1):Option ((List Int)×Int×Int))) (ag,0,0)).bind fun(aa: (List Int)×Int×Int)=>(iz ab.length (fun(aq:Nat) (o: (List Int)×(List (Int×Int))×(List (List aC)))=>((idx ab (aq:Int)).bind fun(a5:aC)=>(cJ N (aq:Int) o.1).bind fun(ah:Int×(List Int))=>(bif (!(my o.2.1 ah.1)) then ((app 24 o.2.2 [([]: (List aC))]).bind fun(a6: (List (List aC)))=>some ((mput o.2.1 ah.1 (o.2.2.length:Int)),a6,(o.2.2.length:Int))) else (some (o.2.1,o.2.2,(mget o.2.1 ah.1 (0:Int))))).bind fun(af: (List (Int×Int))×(List (List aC))×Int)=>(idx af.2.1 af.2.2).bind fun(a7: (List aC))=>(app 32 a7 ([a5]: (List aC))).bind fun(a8: (List aC))=>(idx af.2.1 af.2.2).bind fun(bg: (List aC))=>some (ah.2,af.1,(af.2.1.set (Int.toNat af.2.2) a8)):Option ((List Int)×(List (Int×Int))×(List (List aC))))) (aa.1,([]: (List (Int×Int))),([]: (List (List aC))))).bind fun(o: (List Int)×(List (Int×Int))×(List (List aC)))=>(iz o.2.2.length (fun(a9:Nat) (al: (List (List aA)))=>((idx o.2.2 (a9:Int)).bind fun(ba: (List aC))=>(cW N ba).bind fun(bb: (List aA))=>(app 24 al ([bb]: (List (List aA)))).bind fun(bc: (List (List aA)))=>some bc:Option ((List (List aA))))) ([]: (List (List aA)))).bind fun(al: (List (List aA)))=>some al
def fe (N:Nat) (p0_0: (List (List aC))) (p0_2: (List bD)) (p0_4: (List (List aA))) (p0_5: (List aD)):Option (Bool×(List (List aA))×(List aD)):=
  (iz p0_0.length (fun(aa:Nat) (j: (List (List aA))×(List aD)×Bool)=>((idx p0_0 (aa:Int)).bind fun(ai: (List aC))=>(iz p0_2.length (fun(aj:Nat) (o: (List aC))=>((idx p0_2 (aj:Int)).bind fun(af:bD)=>(fW N af (aa:Int)).bind fun(ak:Bool)=>(bif ak then ((cQ N af).bind fun(al:aC)=>(app 32 o ([al]: (List aC))).bind fun(an: (List aC))=>some an) else (some o)).bind fun(ao: (List aC))=>some ao:Option ((List aC)))) ([]: (List aC))).bind fun(o: (List aC))=>(cW N ai).bind fun(aq: (List aA))=>(cW N o).bind fun(ar: (List aA))=>(fX N aq ar).bind fun(ab: (List aA))=>(bif j.2.2 then ((fY N ab).bind fun(au:Int)=>some ((decide (au≤2000)),ab)) else (some (false,ab))).bind fun(ad:Bool×(List aA))=>(app 24 j.1 ([ad.2]: (List (List aA)))).bind fun(av: (List (List aA)))=>(gA N ad.2).bind fun(ag: (List (List aA)))=>(iz ag.length (fun(aw:Nat) (ae: (List aD))=>((idx ag (aw:Int)).bind fun(ah: (List aA))=>(dE N ah).bind fun(ax: (List aC))=>(app 56 ae ([(⟨(aa:Int),ah,ax⟩:aD)]: (List aD))).bind fun(ay: (List aD))=>some ay:Option ((List aD)))) j.2.1).bind fun(ae: (List aD))=>some (av,ae,ad.1):Option ((List (List aA))×(List aD)×Bool))) (p0_4,p0_5,true)).bind fun(j: (List (List aA))×(List aD)×Bool)=>(bif j.2.2 then (some (decide ((j.2.1.length:Int)≤2000))) else (some false)).bind fun(az:Bool)=>some (az,j.1,j.2.1)
def lh (N:Nat) (p0:aC) (p1:aC):Option (Bool):=
  some ((((decide (p0.X0<p1.X1))&&(decide (p1.X0<p0.X1)))&&((p0.Y1==p1.Y0)||(p1.Y1==p0.Y0)))||(((decide (p0.Y0<p1.Y1))&&(decide (p1.Y0<p0.Y1)))&&((p0.X1==p1.X0)||(p1.X1==p0.X0))))
def fu (N:Nat) (p0:aC) (p1:bD):Option (Bool):=
  (cQ N p1).bind fun(j:aC)=>(lh N p0 j).bind fun(o:Bool)=>some o
def dB (N:Nat) (p0: (List aC)) (p1:aC→Option Bool):Option (Bool):=
  (gK N p0 p1).bind fun(j:Int)=>some (decide (j≥0))
def ff (N:Nat) (p0_2: (List bD)) (p0_5: (List aD)) (p0_6: (List (List Int))):Option ((List (List Int))):=
  (iz p0_2.length (fun(ae:Nat) (o: (List (List Int)))=>((idx p0_2 (ae:Int)).bind fun(aa:bD)=>(iz p0_5.length (fun(ab:Nat) (j: (List Int))=>((idx p0_5 (ab:Int)).bind fun(ad:aD)=>(bif aa.cI then ((fW N aa ad.aU).bind fun(af:Bool)=>bif af then ((dB N ad.dQ (fun y0=>fu N y0 aa)).bind fun(ag:Bool)=>some ag) else (some false)) else (some false)).bind fun(ah:Bool)=>(bif ah then ((app 8 j ([(ab:Int)]: (List Int))).bind fun(ai: (List Int))=>some ai) else (some j)).bind fun(aj: (List Int))=>some aj:Option ((List Int)))) ([]: (List Int))).bind fun(j: (List Int))=>(app 24 o ([j]: (List (List Int)))).bind fun(ak: (List (List Int)))=>some ak:Option ((List (List Int))))) p0_6).bind fun(o: (List (List Int)))=>some o
def fZ (N:Nat) (p0:Int):Option (((List Int))):=
  (mk 8 (0:Int) p0).bind fun(aa: (List Int))=>(iz aa.length (fun(o:Nat) (j: (List Int))=>((idx j (o:Int)).bind fun(ab:Int)=>some (j.set (Int.toNat (o:Int)) (o:Int)):Option ((List Int)))) aa).bind fun(j: (List Int))=>some j
def cX (N:Nat) (p0_0: (List Int)) (p1:Int):Option (Int×(List Int)):=
  (itr (fun(j: (List Int)×Int)=>((idx j.1 j.2).bind fun(aa:Int)=>bif (aa != j.2) then ((idx j.1 j.2).bind fun(ab:Int)=>(idx j.1 ab).bind fun(o:Int)=>(idx j.1 j.2).bind fun(af:Int)=>(idx (j.1.set (Int.toNat j.2) o) j.2).bind fun(ad:Int)=>some (.nx ((j.1.set (Int.toNat j.2) o),ad))) else (some (.br (j.1,j.2))):Option (Fl ((List Int)×Int) Empty))) N (p0_0,p1)).bind fun(ae:Fo ((List Int)×Int) Empty)=>ae.cs (fun(j: (List Int)×Int)=>some (j.2,j.1)) (fun r=>r.elim)
def dH (N:Nat) (p0_0: (List Int)) (p1:Int) (p2:Int):Option ((List Int)):=
  (cX N p0_0 p1).bind fun(o:Int×(List Int))=>(cX N o.2 p2).bind fun(j:Int×(List Int))=>(idx j.2 (if o.1<j.1 then j.1 else o.1)).bind fun(aa:Int)=>some (j.2.set (Int.toNat (if o.1<j.1 then j.1 else o.1)) (if j.1<o.1 then j.1 else o.1))
def fg (N:Nat) (p0_0: (List Int)):Option ((List (List Int))×(List Int)):=
  (iz p0_0.length (fun(ab:Nat) (j: (List Int)×(List (List Int))×(List (Int×Int)))=>((cX N j.1 (ab:Int)).bind fun(aa:Int×(List Int))=>(bif (aa.1==(ab:Int)) then ((app 24 j.2.1 [([]: (List Int))]).bind fun(ad: (List (List Int)))=>some (ad,(mput j.2.2 (ab:Int) (j.2.1.length:Int)))) else (some (j.2.1,j.2.2))).bind fun(o: (List (List Int))×(List (Int×Int)))=>(idx o.1 (mget o.2 aa.1 (0:Int))).bind fun(ae: (List Int))=>(app 8 ae ([(ab:Int)]: (List Int))).bind fun(af: (List Int))=>(idx o.1 (mget o.2 aa.1 (0:Int))).bind fun(ag: (List Int))=>some (aa.2,(o.1.set (Int.toNat (mget o.2 aa.1 (0:Int))) af),o.2):Option ((List Int)×(List (List Int))×(List (Int×Int))))) (p0_0,([]: (List (List Int))),([]: (List (Int×Int))))).bind fun(j: (List Int)×(List (List Int))×(List (Int×Int)))=>some (j.2.1,j.1)
def gr (N:Nat) (p0:aC) (p1:bU):Option (Bool):=
  (bif (decide (p1.X≥p0.X0)) then (bif (decide (p1.X<p0.X1)) then (bif (decide (p1.Y≥p0.Y0)) then (some (decide (p1.Y<p0.Y1))) else (some false)) else (some false)) else (some false)).bind fun(j:Bool)=>some j
def fy (N:Nat) (p0: (List aC)) (p1:bU):Option (Bool):=
  (dB N p0 (fun y0=>gr N y0 p1)).bind fun(j:Bool)=>some j
def fh (N:Nat) (p0_2: (List bD)) (p0_5: (List aD)) (p1:cT):Option (gk×Bool):=
  (nM p0_2.length (fun(o:Nat) (ad:Unit)=>((idx p0_2 (o:Int)).bind fun(j:bD)=>(bif j.cI then ((fW N j p1.aU).bind fun(ae:Bool)=>bif ae then ((cQ N j).bind fun(af:aC)=>(fy N ([af]: (List aC)) p1.At).bind fun(ag:Bool)=>some ag) else (some false)) else (some false)).bind fun(ah:Bool)=>bif ah then (some (.rt ((⟨true,(o:Int)⟩:gk),true))) else (some (.nx ())):Option (Fl (Unit) (gk×Bool)))) ()).bind fun(ai:Fo (Unit) (gk×Bool))=>ai.cs (fun(ad:Unit)=>(nM p0_5.length (fun(aa:Nat) (aj:Unit)=>((idx p0_5 (aa:Int)).bind fun(ab:aD)=>(bif (ab.aU==p1.aU) then ((fy N ab.dQ p1.At).bind fun(ak:Bool)=>some ak) else (some false)).bind fun(al:Bool)=>bif al then (some (.rt ((⟨false,(aa:Int)⟩:gk),true))) else (some (.nx ())):Option (Fl (Unit) (gk×Bool)))) ()).bind fun(an:Fo (Unit) (gk×Bool))=>an.cs (fun(aj:Unit)=>some ((⟨false,0⟩:gk),false)) (fun r=>some r)) (fun r=>some r)
def dI (N:Nat) (p0_8: (List Int)) (p0_9: (List Int)) (p1:gk):Option (Int):=
  bif p1.bD then ((idx p0_9 p1.Number).bind fun(j:Int)=>some j) else ((idx p0_8 p1.Number).bind fun(o:Int)=>some o)
def cO (N:Nat) (p0_2: (List bD)) (p0_3: (List cT)) (p0_5: (List aD)) (p0_6: (List (List Int))) (p0_8: (List Int)) (p0_9: (List Int)) (p0_10: (List Int)) (p0_11: (List gk)):Option ((List bT)×(List Int)×(List Int)×(List Int)×(List gk)):=
  (fZ N (IntKind.wrap .i64 ((p0_5.length:Int)+ (p0_2.length:Int)))).bind fun(ar: ((List Int)))=>(iz p0_6.length (fun(ai:Nat) (af: (List Int))=>((idx p0_6 (ai:Int)).bind fun(aj: (List Int))=>(iz aj.length (fun(au:Nat) (ag: (List Int))=>((idx aj (au:Int)).bind fun(av:Int)=>(dH N ag av (IntKind.wrap .i64 ((p0_5.length:Int)+ (ai:Int)))).bind fun(aw: (List Int))=>some aw:Option ((List Int)))) af).bind fun(ag: (List Int))=>some ag:Option ((List Int)))) ar).bind fun(af: (List Int))=>(mk 8 (0:Int) (p0_5.length:Int)).bind fun(ax: (List Int))=>(mk 8 (0:Int) (p0_2.length:Int)).bind fun(zG: (List Int))=>(fg N af).bind fun(ak: (List (List Int))×(List Int))=>(iz ak.1.length (fun(ay:Nat) (aa: (List bT)×(List Int)×(List Int))=>((idx ak.1 (ay:Int)).bind fun(al: (List Int))=>(iz al.length (fun(az:Nat) (j: (List Int)×(List Int)×(List Int)×(List Int))=>((idx al (az:Int)).bind fun(ab:Int)=>(bif (decide (ab< (p0_5.length:Int))) then ((idx j.1 ab).bind fun(bc:Int)=>(app 8 j.2.2.1 ([ab]: (List Int))).bind fun(a0: (List Int))=>some ((j.1.set (Int.toNat ab) (aa.1.length:Int)),j.2.1,a0,j.2.2.2)) else ((idx p0_2 (IntKind.wrap .i64 (ab - (p0_5.length:Int)))).bind fun(a1:bD)=>(bif a1.cI then ((idx j.2.1 (IntKind.wrap .i64 (ab - (p0_5.length:Int)))).bind fun(bd:Int)=>(app 8 j.2.2.2 ([(IntKind.wrap .i64 (ab - (p0_5.length:Int)))]: (List Int))).bind fun(a2: (List Int))=>some ((j.2.1.set (Int.toNat (IntKind.wrap .i64 (ab - (p0_5.length:Int)))) (aa.1.length:Int)),a2)) else ((idx j.2.1 (IntKind.wrap .i64 (ab - (p0_5.length:Int)))).bind fun(bf:Int)=>some ((j.2.1.set (Int.toNat (IntKind.wrap .i64 (ab - (p0_5.length:Int)))) (-1)),j.2.2.2))).bind fun(an: (List Int)×(List Int))=>some (j.1,an.1,j.2.2.1,an.2))).bind fun(ad: (List Int)×(List Int)×(List Int)×(List Int))=>some (ad.1,ad.2.1,ad.2.2.1,ad.2.2.2):Option ((List Int)×(List Int)×(List Int)×(List Int)))) (aa.2.1,aa.2.2,([]: (List Int)),([]: (List Int)))).bind fun(j: (List Int)×(List Int)×(List Int)×(List Int))=>(bif (decide ((IntKind.wrap .i64 ((j.2.2.1.length:Int)+ (j.2.2.2.length:Int)))>0)) then ((app 72 aa.1 [(⟨j.2.2.1,j.2.2.2,([]: (List fC))⟩:bT)]).bind fun(a3: (List bT))=>some a3) else (some aa.1)).bind fun(a4: (List bT))=>some (a4,j.1,j.2.1):Option ((List bT)×(List Int)×(List Int)))) (([]: (List bT)),ax,zG)).bind fun(aa: (List bT)×(List Int)×(List Int))=>(iz p0_3.length (fun(a5:Nat) (o: (List bT)×(List Int)×(List Int)×(List Int)×(List gk))=>((idx p0_3 (a5:Int)).bind fun(ao:cT)=>(fh N p0_2 p0_5 ao).bind fun(ah:gk×Bool)=>(bif ah.2 then ((dI N o.2.1 o.2.2.1 ah.1).bind fun(ae:Int)=>(idx o.1 ae).bind fun(a6:bT)=>(ik N ao).bind fun(a7:fC)=>(app 32 a6.eY ([a7]: (List fC))).bind fun(a8: (List fC))=>(idx o.1 ae).bind fun(a9:bT)=>some ((o.1.set (Int.toNat ae) {a9 with eY:=a8}),ae)) else (some (o.1,(-1)))).bind fun(aq: (List bT)×Int)=>(app 8 o.2.2.2.1 ([aq.2]: (List Int))).bind fun(ba: (List Int))=>(app 16 o.2.2.2.2 ([ah.1]: (List gk))).bind fun(bb: (List gk))=>some (aq.1,o.2.1,o.2.2.1,ba,bb):Option ((List bT)×(List Int)×(List Int)×(List Int)×(List gk)))) (aa.1,aa.2.1,aa.2.2,p0_10,p0_11)).bind fun(o: (List bT)×(List Int)×(List Int)×(List Int)×(List gk))=>some (o.1,o.2.1,o.2.2.1,o.2.2.2.1,o.2.2.2.2)
def dX (N:Nat) (p0:jQ):Option (Option ((List (List aC))×(List aC)×(List bD)×(List cT)×(List (List aA))×(List aD)×(List (List Int))×(List bT)×(List Int)×(List Int)×(List Int)×(List gk))×Int):=
  bif ((p0.aJ.length:Int)==0) then (some (none,9)) else (bif (decide ((p0.aJ.length:Int)>16)) then (some (none,2)) else ((nM p0.aJ.length (fun(an:Nat) (aa:Int)=>((idx p0.aJ (an:Int)).bind fun(ae: (List aC))=>(dS N ae).bind fun(af:Int)=>bif (af != 0) then (some (.rt (none,af))) else (some (.nx (IntKind.wrap .i64 (aa+ (ae.length:Int))))):Option (Fl (Int) (Option ((List (List aC))×(List aC)×(List bD)×(List cT)×(List (List aA))×(List aD)×(List (List Int))×(List bT)×(List Int)×(List Int)×(List Int)×(List gk))×Int)))) (p0.bY.length:Int)).bind fun(ao:Fo (Int) (Option ((List (List aC))×(List aC)×(List bD)×(List cT)×(List (List aA))×(List aD)×(List (List Int))×(List bT)×(List Int)×(List Int)×(List Int)×(List gk))×Int))=>ao.cs (fun(aa:Int)=>(dS N p0.bY).bind fun(ag:Int)=>bif (ag != 0) then (some (none,ag)) else (bif (decide (aa>2000)) then (some (none,2)) else ((fE N p0).bind fun(ah:Int)=>bif (ah != 0) then (some (none,ah)) else ((fG N p0).bind fun(ai:Int)=>bif (ai != 0) then (some (none,ai)) else ((nM p0.aT.length (fun(aj:Nat) (aq:Unit)=>((idx p0.aT (aj:Int)).bind fun(ab:bD)=>(oZ p0.aT 0 (aj:Int)).bind fun(ak: (List bD))=>(nM ak.length (fun(ar:Nat) (au:Unit)=>((idx ak (ar:Int)).bind fun(ad:bD)=>(bif ((decide (ab.bN≤ad.To))&&(decide (ad.bN≤ab.To))) then ((cQ N ab).bind fun(av:aC)=>(cQ N ad).bind fun(aw:aC)=>(lz N av aw).bind fun(ax:Int)=>some (ax==0)) else (some false)).bind fun(ay:Bool)=>bif ay then (some (.rt (none,12))) else (some (.nx ())):Option (Fl (Unit) (Option ((List (List aC))×(List aC)×(List bD)×(List cT)×(List (List aA))×(List aD)×(List (List Int))×(List bT)×(List Int)×(List Int)×(List Int)×(List gk))×Int)))) ()).bind fun(az:Fo (Unit) (Option ((List (List aC))×(List aC)×(List bD)×(List cT)×(List (List aA))×(List aD)×(List (List Int))×(List bT)×(List Int)×(List Int)×(List Int)×(List gk))×Int))=>az.cs (fun(au:Unit)=>some (.nx ())) (fun r=>some (.rt r)):Option (Fl (Unit) (Option ((List (List aC))×(List aC)×(List bD)×(List cT)×(List (List aA))×(List aD)×(List (List Int))×(List bT)×(List Int)×(List Int)×(List Int)×(List gk))×Int)))) ()).bind fun(a0:Fo (Unit) (Option ((List (List aC))×(List aC)×(List bD)×(List cT)×(List (List aA))×(List aD)×(List (List Int))×(List bT)×(List Int)×(List Int)×(List Int)×(List gk))×Int))=>a0.cs (fun(aq:Unit)=>(fe N p0.aJ p0.aT ([]: (List (List aA))) ([]: (List aD))).bind fun(j:Bool×(List (List aA))×(List aD))=>bif (!j.1) then (some (none,2)) else ((ff N p0.aT j.2.2 ([]: (List (List Int)))).bind fun(al: (List (List Int)))=>(cO N p0.aT p0.bH j.2.2 al ([]: (List Int)) ([]: (List Int)) ([]: (List Int)) ([]: (List gk))).bind fun(o: (List bT)×(List Int)×(List Int)×(List Int)×(List gk))=>some (some (p0.aJ,p0.bY,p0.aT,p0.bH,j.2.1,j.2.2,al,o.1,o.2.1,o.2.2.1,o.2.2.2.1,o.2.2.2.2),0))) (fun r=>some r)))))) (fun r=>some r)))
def fj (N:Nat) (p0:jQ):Option ((List (List aC))×Int):=
  (dX N p0).bind fun(j:Option ((List (List aC))×(List aC)×(List bD)×(List cT)×(List (List aA))×(List aD)×(List (List Int))×(List bT)×(List Int)×(List Int)×(List Int)×(List gk))×Int)=>Bb j.1 (bif (j.2 != 0) then (some (([]: (List (List aC))),j.2)) else (none)) (fun(aa: ((List (List aC))×(List aC)×(List bD)×(List cT)×(List (List aA))×(List aD)×(List (List Int))×(List bT)×(List Int)×(List Int)×(List Int)×(List gk)))=>bif (j.2 != 0) then (some (([]: (List (List aC))),j.2)) else ((iz aa.2.2.2.2.1.length (fun(ab:Nat) (o: (List (List aC)))=>((idx aa.2.2.2.2.1 (ab:Int)).bind fun(ad: (List aA))=>(dE N ad).bind fun(ae: (List aC))=>(app 24 o ([ae]: (List (List aC)))).bind fun(af: (List (List aC)))=>some af:Option ((List (List aC))))) ([]: (List (List aC)))).bind fun(o: (List (List aC)))=>some (o,0)))
def cM (N:Nat):Option (Bool):=
  (fM N (⟨⟨0,0⟩,2,0,0,false⟩:bD)).bind fun(j:aC×Int)=>(bif (j.2==0) then (some (decide (j.1= (⟨(-1),(-1),1,1⟩:aC)))) else (some false)).bind fun(o:Bool)=>some o
def gC (N:Nat) (p0: (List aA)):Option (bU):=
  (idx p0 0).bind fun(j:aA)=>(idx j.Xs 0).bind fun(o:Int)=>(idx p0 0).bind fun(aa:aA)=>some (⟨o,aa.Y0⟩:bU)
def iq (N:Nat) (p0: (List aC)):Option (Int):=
  (iz p0.length (fun(aa:Nat) (o:Int)=>((idx p0 (aa:Int)).bind fun(j:aC)=>some (IntKind.wrap .i64 (o+ (IntKind.wrap .i64 ((IntKind.wrap .i64 (j.X1 - j.X0))* (IntKind.wrap .i64 (j.Y1 - j.Y0)))))):Option (Int))) 0).bind fun(o:Int)=>some o
def iD (N:Nat) (p0:jQ):Option ((List Piece)×Int):=
  (dX N p0).bind fun(j:Option ((List (List aC))×(List aC)×(List bD)×(List cT)×(List (List aA))×(List aD)×(List (List Int))×(List bT)×(List Int)×(List Int)×(List Int)×(List gk))×Int)=>Bb j.1 (bif (j.2 != 0) then (some (([]: (List Piece)),j.2)) else (none)) (fun(ab: ((List (List aC))×(List aC)×(List bD)×(List cT)×(List (List aA))×(List aD)×(List (List Int))×(List bT)×(List Int)×(List Int)×(List Int)×(List gk)))=>bif (j.2 != 0) then (some (([]: (List Piece)),j.2)) else ((iz ab.2.2.2.2.2.1.length (fun(ad:Nat) (o: (List Piece))=>((idx ab.2.2.2.2.2.1 (ad:Int)).bind fun(aa:aD)=>(gC N aa.Set).bind fun(ae:bU)=>(iq N aa.dQ).bind fun(af:Int)=>(app 32 o ([(⟨aa.aU,ae,af⟩:Piece)]: (List Piece))).bind fun(ag: (List Piece))=>some ag:Option ((List Piece)))) ([]: (List Piece))).bind fun(o: (List Piece))=>some (o,0)))
def fk (N:Nat) (p0:jQ) (p1:Int):Option ((List aC)×Int):=
  (dX N p0).bind fun(j:Option ((List (List aC))×(List aC)×(List bD)×(List cT)×(List (List aA))×(List aD)×(List (List Int))×(List bT)×(List Int)×(List Int)×(List Int)×(List gk))×Int)=>Bb j.1 (bif (j.2 != 0) then (some (([]: (List aC)),j.2)) else (none)) (fun(o: ((List (List aC))×(List aC)×(List bD)×(List cT)×(List (List aA))×(List aD)×(List (List Int))×(List bT)×(List Int)×(List Int)×(List Int)×(List gk)))=>bif (j.2 != 0) then (some (([]: (List aC)),j.2)) else ((dA N p1 0 (IntKind.wrap .i64 ((o.2.2.2.2.2.1.length:Int) - 1))).bind fun(aa:Bool)=>bif (!aa) then (some (([]: (List aC)),9)) else ((idx o.2.2.2.2.2.1 p1).bind fun(ab:aD)=>some (ab.dQ,0))))
def jw (N:Nat) (p0: (List aC)):Option (Int×Int):=
  (dS N p0).bind fun(j:Int)=>bif (j != 0) then (some (0,j)) else ((iq N p0).bind fun(o:Int)=>some (o,0))
def jc (N:Nat) (p0: (List aA)):Option ((List aC)×Int):=
  (fY N p0).bind fun(j:Int)=>bif (decide (j>2000)) then (some (([]: (List aC)),2)) else ((dE N p0).bind fun(o: (List aC))=>some (o,0))
def jd (N:Nat) (p0: (List aC)):Option ((List aC)×Int):=
  (eW N p0).bind fun(j:Int)=>bif (j != 0) then (some (([]: (List aC)),j)) else ((cW N p0).bind fun(aa: (List aA))=>(jc N aa).bind fun(o: (List aC)×Int)=>some (o.1,o.2))
def dJ (N:Nat) (p0: (List aC)) (p1: (List aC)):Option (Bool):=
  bif ((p0.length:Int) != (p1.length:Int)) then (some false) else ((itr (fun(j:Int)=>(bif (decide (j< (p0.length:Int))) then ((idx p0 j).bind fun(o:aC)=>(idx p1 j).bind fun(aa:aC)=>bif (!(decide (o=aa))) then (some (.rt false)) else (some (.nx (IntKind.wrap .i64 (j+1))))) else (some (.br j)):Option (Fl (Int) Bool))) N 0).bind fun(ab:Fo (Int) Bool)=>ab.cs (fun(j:Int)=>some true) (fun r=>some r))
def cY (N:Nat) (p0:jQ) (p1:Int):Option (Bool):=
  (fj N p0).bind fun(o: (List (List aC))×Int)=>(bif ((o.2 != 0)||(decide (p1<0))) then (some true) else (some (decide (p1≥(o.1.length:Int))))).bind fun(ag:Bool)=>bif ag then ((bif (o.2==0) then ((cM N).bind fun(ah:Bool)=>some ah) else (bif ((o.1.length:Int)==0) then ((cM N).bind fun(ai:Bool)=>some ai) else (some false))).bind fun(aj:Bool)=>some aj) else ((iD N p0).bind fun(aa: (List Piece)×Int)=>bif (aa.2 != 0) then (some false) else ((itr (fun(j: (List aC)×Int×Int)=>(bif (decide (j.2.2< (aa.1.length:Int))) then ((idx aa.1 j.2.2).bind fun(ak:Piece)=>bif (ak.aU != p1) then (some (.nx (j.1,j.2.1,(IntKind.wrap .i64 (j.2.2+1))))) else ((fk N p0 j.2.2).bind fun(ab: (List aC)×Int)=>(jw N ab.1).bind fun(ad:Int×Int)=>(bif ((ab.2 != 0)||(ad.2 != 0)) then (some true) else ((idx aa.1 j.2.2).bind fun(al:Piece)=>some (ad.1 != al.o6))).bind fun(an:Bool)=>bif an then (some (.rt false)) else ((app 32 j.1 ab.1).bind fun(ao: (List aC))=>some (.nx (ao,(IntKind.wrap .i64 (j.2.1+ad.1)),(IntKind.wrap .i64 (j.2.2+1))))))) else (some (.br (j.1,j.2.1,j.2.2))):Option (Fl ((List aC)×Int×Int) Bool))) N (([]: (List aC)),0,0)).bind fun(aq:Fo ((List aC)×Int×Int) Bool)=>aq.cs (fun(j: (List aC)×Int×Int)=>(jd N j.1).bind fun(ae: (List aC)×Int)=>(idx o.1 p1).bind fun(ar: (List aC))=>(jw N ar).bind fun(af:Int×Int)=>(bif (ae.2==0) then ((idx o.1 p1).bind fun(au: (List aC))=>(dJ N ae.1 au).bind fun(av:Bool)=>bif ((av&&(af.2==0))&&(af.1==j.2.1)) then ((cM N).bind fun(aw:Bool)=>some aw) else (some false)) else (some false)).bind fun(ax:Bool)=>some ax) (fun r=>some r)))
end
end Go.Gk
namespace Go.Gk
open Go
def rB {R:Type} (m:Nat) (e:Nat→Option R):Option R:=(List.range m).findSome? e
theorem kj {R:Type} {m:Nat} {e:Nat→Option R}:rB m e=none↔∀k,k<m→e k=none:=by
  simp [rB]
theorem lG {R:Type} {m:Nat} {e:Nat→Option R} {r:R}:rB m e=some r↔∃k,k<m∧e k=some r∧∀j,j<k→e j=none:=by
  constructor
  · intro h
    obtain⟨l1,a,l2,hl,ha,hn⟩:=List.findSome?_eq_some_iff.1 h
    have hlen:l1.length<m:=by have:=congrArg List.length hl;simp at this;omega
    have hget: ∀i,i<l1.length→l1[i]? =some i:=fun i hi=>by
      have:=congrArg (·[i]?) hl
      simp only [List.getElem?_append_left hi,List.getElem?_range (show i<m by omega)] at this
      exact this.symm
    have hat:a=l1.length:=by
      have:=congrArg (·[l1.length]?) hl
      simp [List.getElem?_range hlen] at this
      exact this.symm
    refine⟨a,by omega,ha,fun j hj=>hn j ?_⟩
    exact List.mem_of_getElem? (hget j (by omega))
  · rintro⟨k,hk,he,hn⟩
    refine List.findSome?_eq_some_iff.2 ⟨List.range k,k,(List.range (m - k - 1)).map (· + (k+1)),?_,he,fun x hx=>hn x (List.mem_range.1 hx)⟩
    refine List.ext_getElem? fun i=>?_
    by_cases h1:i<k
    · rw [List.getElem?_append_left (by simpa using h1),List.getElem?_range (by omega),List.getElem?_range h1]
    · rw [List.getElem?_append_right (by simpa using h1),List.length_range]
      by_cases h2:i=k
      · subst h2;simp [List.getElem?_range hk]
      · obtain⟨d,rfl⟩: ∃d,i=k+1+d:=⟨i - (k+1),by omega⟩
        rw [show k+1+d - k=d+1 by omega,List.getElem?_cons_succ,List.getElem?_map]
        by_cases h3:k+1+d<m
        · rw [List.getElem?_range h3,List.getElem?_range (by omega)];simp;omega
        · rw [List.getElem?_eq_none (by simp;omega),List.getElem?_eq_none (by simp;omega)];rfl
section
variable {S R:Type}
def rtnx (o:Option R) (s:S):Fl S R:=match o with | some r=> .rt r | none=> .nx s
def xn (o:Option R) (s:S):Fo S R:=match o with | some r=> .rt r | none=> .go s
theorem v8 {body:Nat→S→Option (Fl S R)} (F:Nat→S) (e:Nat→Option R) (m:Nat): ∀(n k:Nat),k+n=m→
    (∀j,k≤j→j<m→(∀i,k≤i→i<j→e i=none)→body j (F j)=some (rtnx (e j) (F (j+1))))→
    ∃o,rngA body n k (F k)=some o∧((∀j,k≤j→j<m→e j=none)∧o = .go (F m)∨∃j r,k≤j∧j<m∧e j=some r∧(∀i,k≤i→i<j→e i=none)∧o = .rt r)
  | 0,k,hk,_=>⟨_,rfl, .inl ⟨fun j h1 h2=>by omega,by rw [show k=m by omega]⟩⟩
  | n+1,k,hk,h=>by
    have hb:=h k (Nat.le_refl _) (by omega) (fun i h1 h2=>by omega)
    unfold rngA
    rw [hb]
    cases hx:e k with
    | some r=>exact⟨_,rfl, .inr ⟨k,r,Nat.le_refl _,by omega,hx,fun i h1 h2=>by omega,rfl⟩⟩
    | none=>
      obtain⟨o,ho,hc⟩:=v8 F e m n (k+1) (by omega) (fun j h1 h2 h3=>h j (by omega) h2 fun i h4 h5=>by
        by_cases h6:i=k
        · subst h6;exact hx
        · exact h3 i (by omega) h5)
      refine⟨o,ho,?_⟩
      rcases hc with ⟨h1,h2⟩ | ⟨j,r,h1,h2,h3,h4,h5⟩
      · refine .inl ⟨fun j h3 h4=>?_,h2⟩
        by_cases h6:j=k
        · subst h6;exact hx
        · exact h1 j (by omega) h4
      · refine .inr ⟨j,r,by omega,h2,h3,fun i h6 h7=>?_,h5⟩
        by_cases h8:i=k
        · subst h8;exact hx
        · exact h4 i (by omega) h7
theorem Bn {body:Nat→S→Option (Fl S R)} {m:Nat} {s:S} (F:Nat→S) (e:Nat→Option R) (hm:m≤4611686018427387904) (hs:F 0=s)
    (h: ∀k,k<m→(∀i,i<k→e i=none)→body k (F k)=some (rtnx (e k) (F (k+1)))):nM m body s=some (xn (rB m e) (F m)):=by
  subst hs
  unfold nM
  rw [if_pos hm]
  obtain⟨o,ho,hc⟩:=v8 F e m m 0 (by omega) (fun j _ h2 h3=>h j h2 fun i hi=>h3 i (Nat.zero_le _) hi)
  rw [ho]
  rcases hc with ⟨h1,h2⟩ | ⟨j,r,_,h2,h3,h4,h5⟩
  · rw [kj.2 fun k hk=>h1 k (Nat.zero_le _) hk,h2];rfl
  · rw [lG.2 ⟨j,h2,h3,fun i hi=>h4 i (Nat.zero_le _) hi⟩,h5];rfl
theorem lH {body:Nat→Unit→Option (Fl Unit R)} {m:Nat} (e:Nat→Option R) (hm:m≤4611686018427387904)
    (h: ∀k,k<m→(∀i,i<k→e i=none)→body k ()=some (rtnx (e k) ())):nM m body ()=some (xn (rB m e) ()):=
  Bn (fun _=>()) e hm rfl h
theorem itr_inv {body:S→Option (Fl S R)} (Inv:S→Prop) (μ:S→Nat) (Go:S→Prop) (Rt:R→Prop)
    (h: ∀s,Inv s→∃fl,body s=some fl∧match fl with | .nx s'=>Inv s'∧μ s'<μ s | .br s'=>Go s' | .rt r=>Rt r):
    ∀(N:Nat) (s:S),Inv s→μ s<N→∃o,itr body N s=some o∧match o with | .go s'=>Go s' | .rt r=>Rt r
  | 0,s,_,hn=>by omega
  | N+1,s,hi,hn=>by
    obtain⟨fl,hb,hf⟩:=h s hi
    unfold itr
    rw [hb]
    cases fl with
    | nx s'=>exact itr_inv Inv μ Go Rt h N s' hf.1 (by have:=hf.2;omega)
    | br s'=>exact⟨_,rfl,hf⟩
    | rt r=>exact⟨_,rfl,hf⟩
theorem v9 {body:Nat→S→Option (Fl S R)} (Inv:Nat→S→Prop) (Go:S→Prop) (Rt:R→Prop) (m:Nat)
    (h: ∀k s,k<m→Inv k s→∃fl,body k s=some fl∧match fl with | .nx s'=>Inv (k+1) s' | .br s'=>Go s' | .rt r=>Rt r) (hg: ∀s,Inv m s→Go s):
    ∀(n k:Nat) (s:S),k+n=m→Inv k s→∃o,rngA body n k s=some o∧match o with | .go s'=>Go s' | .rt r=>Rt r
  | 0,k,s,hk,hi=>⟨_,rfl,hg s (by rw [←hk];exact hi)⟩
  | n+1,k,s,hk,hi=>by
    obtain⟨fl,hb,hf⟩:=h k s (by omega) hi
    unfold rngA
    rw [hb]
    cases fl with
    | nx s'=>exact v9 Inv Go Rt m h hg n (k+1) s' (by omega) hf
    | br s'=>exact⟨_,rfl,hf⟩
    | rt r=>exact⟨_,rfl,hf⟩
theorem Bo {body:Nat→S→Option (Fl S R)} {m:Nat} {s:S} (Inv:Nat→S→Prop) (Go:S→Prop) (Rt:R→Prop) (hm:m≤4611686018427387904) (h0:Inv 0 s)
    (h: ∀k s,k<m→Inv k s→∃fl,body k s=some fl∧match fl with | .nx s'=>Inv (k+1) s' | .br s'=>Go s' | .rt r=>Rt r) (hg: ∀s,Inv m s→Go s):
    ∃o,nM m body s=some o∧match o with | .go s'=>Go s' | .rt r=>Rt r:=by
  unfold nM
  rw [if_pos hm]
  exact v9 Inv Go Rt m h hg m 0 s (by omega) h0
theorem wc {body:Nat→S→Option S} (Inv:Nat→S→Prop) (m:Nat) (h: ∀k s,k<m→Inv k s→∃s',body k s=some s'∧Inv (k+1) s'):
    ∀(n k:Nat) (s:S),k+n=m→Inv k s→∃s',zm body n k s=some s'∧Inv m s'
  | 0,k,s,hk,hi=>⟨_,rfl,by rw [←hk];exact hi⟩
  | n+1,k,s,hk,hi=>by
    obtain⟨s',hb,hf⟩:=h k s (by omega) hi
    unfold zm
    rw [hb]
    exact wc Inv m h n (k+1) s' (by omega) hf
theorem rP {body:Nat→S→Option S} {m:Nat} {s:S} (Inv:Nat→S→Prop) (hm:m≤4611686018427387904) (h0:Inv 0 s)
    (h: ∀k s,k<m→Inv k s→∃s',body k s=some s'∧Inv (k+1) s'): ∃s',iz m body s=some s'∧Inv m s':=by
  unfold iz
  rw [if_pos hm]
  exact wc Inv m h m 0 s (by omega) h0
end
section
variable {α β:Type}
theorem aB (x:α) (f:α→Option β): (some x).bind f=f x:=rfl
theorem fI (l:List α) (k:Nat) (h:k<l.length):idx l ((k:Nat):Int)=some l[k]:=by
  unfold idx;rw [if_pos (by omega),Int.toNat_natCast,List.getElem?_eq_getElem h]
theorem gu {l:List α} {k:Nat} {x:α} (h:l[k]? =some x):idx l ((k:Nat):Int)=some x:=by
  unfold idx;rw [if_pos (by omega),Int.toNat_natCast,h]
theorem Ab (s:bS) (k:Nat) (h:k<s.bM.length):yo s ((k:Nat):Int)=some s.bM[k]:=by
  unfold yo;rw [if_pos (by omega),Int.toNat_natCast,List.getElem?_eq_getElem h]
theorem iT {k:Nat} (h:0<k) (hk:k≤4611686018427387904):IntKind.wrap .i64 (((k:Nat):Int) - 1)= ((k - 1:Nat):Int):=by
  rw [cS (by omega) (by omega)];omega
theorem pr (l:List α) (k:Nat) (h:k≤l.length):oZ l 0 ((k:Nat):Int)=some (l.take k):=by
  unfold oZ;rw [if_pos ⟨by omega,by omega,by omega⟩]
  simp only [Int.toNat_zero,List.drop_zero,Int.sub_zero,Int.toNat_natCast]
theorem pw (l:List α) (k:Nat) (h:k≤l.length):oZ l ((k:Nat):Int) ((l.length:Nat):Int)=some (l.drop k):=by
  unfold oZ;rw [if_pos ⟨by omega,by omega,by omega⟩]
  simp only [Int.toNat_natCast,Option.some.injEq]
  rw [List.take_of_length_le];rw [List.length_drop];omega
theorem fJ {b:Nat} {l ys:List α} (h: (l.length+ys.length)*b≤140737488355328):app b l ys=some (l++ys):=by unfold app;rw [if_pos h]
theorem px {b:Nat} (z:α) {n:Nat} (h:n*b≤140737488355328):mk b z ((n:Nat):Int)=some (List.replicate n z):=by
  unfold mk
  have e: ((n:Nat):Int)* ((b:Nat):Int)= ((n*b:Nat):Int):=(Int.natCast_mul n b).symm
  rw [e]
  generalize n*b=q at h ⊢
  rw [if_pos ⟨by omega,by omega⟩,Int.toNat_natCast]
end
theorem bS.ext' {a b:bS} (h:a.bM=b.bM):a=b:=by cases a;cases b;simp at h;rw [h]
theorem Bp {a b:bS}:a.wR b=true↔a=b:=by
  unfold bS.wR;rw [beq_iff_eq];exact⟨bS.ext',fun h=>by rw [h]⟩
theorem rn: ∀(a:List UInt8),Op.bytesLess a a=false
  | []=>rfl
  | a::l=>by
    unfold Op.bytesLess
    rw [rn l];simp
def bS.lt (a b:bS):Prop:=a.BS b=true
theorem bS.lt_irrefl (a:bS): ¬bS.lt a a:=by unfold bS.lt bS.BS;rw [rn];decide
theorem bS.BL {a b:bS} (h:bS.lt a b):a≠b:=fun e=>by subst e;exact bS.lt_irrefl a h
end Go.Gk
namespace Go.Gk
open Go
class Bk (α:Type) where
  bk:α→Nat
  pos: ∀x,1≤bk x
def bk {α:Type} [Bk α] (x:α):Nat:=Bk.bk x
theorem Ac {α:Type} [Bk α] (x:α):1≤bk x:=Bk.pos x
instance:Bk bS:=⟨fun s=>s.bM.length+1,fun _=>by omega⟩
instance:Bk Int:=⟨fun _=>1,fun _=>by omega⟩
instance:Bk Bool:=⟨fun _=>1,fun _=>by omega⟩
instance {α:Type} [Bk α]:Bk (List α):=⟨fun l=>(l.map bk).sum+1,fun _=>by omega⟩
theorem Ad {α:Type} [Bk α]:bk ([]:List α)=1:=rfl
theorem uT {α:Type} [Bk α] (x:α) (l:List α):bk (x::l)=bk x+bk l:=by
  show (List.map bk (x::l)).sum+1=bk x+ ((List.map bk l).sum+1)
  simp;omega
theorem xo {α:Type} [Bk α]: ∀{l:List α} {x:α},x∈l→bk x+1≤bk l
  | y::l,x,h=>by
    rw [uT]
    rcases List.mem_cons.1 h with h | h
    · subst h;have:=Ac l;omega
    · have:=xo h;omega
theorem qA {α:Type} [Bk α]: ∀(l:List α),l.length+1≤bk l
  | []=>by rw [Ad];simp
  | x::l=>by rw [uT,List.length_cons];have:=qA l;have:=Ac x;omega
theorem Ae (s:bS):bk s=s.bM.length+1:=rfl
section
variable {α R:Type}
theorem yI {l:List α} {e:Nat→Option R} (f:α→Option R) (h: ∀k x,l[k]? =some x→e k=f x):rB l.length e=l.findSome? f:=by
  cases hx:rB l.length e with
  | none=>
    refine(List.findSome?_eq_none_iff.2 fun x hm=>?_).symm
    obtain⟨k,hk⟩:=List.getElem?_of_mem hm
    rw [←h k x hk];exact kj.1 hx k (List.getElem?_eq_some_iff.1 hk).1
  | some r=>
    obtain⟨k,hk,he,hn⟩:=lG.1 hx
    refine(List.findSome?_eq_some_iff.2 ⟨l.take k,l[k],l.drop (k+1),?_,?_,fun y hy=>?_⟩).symm
    · rw [←List.drop_eq_getElem_cons hk,List.take_append_drop]
    · rw [←h k l[k] (List.getElem?_eq_getElem hk)];exact he
    · obtain⟨j,hj⟩:=List.getElem?_of_mem hy
      have hjk:j<k:=by have:=(List.getElem?_eq_some_iff.1 hj).1;rw [List.length_take] at this;omega
      rw [List.getElem?_take_of_lt hjk] at hj
      rw [←h j y hj];exact hn j hjk
theorem uU (l:List α) (p:α→Bool) (r:R):l.findSome? (fun x=>if p x=true then some r else none)=if l.any p=true then some r else none:=by
  induction l with
  | nil=>simp
  | cons x l ih=>
    rw [List.findSome?_cons,List.any_cons]
    cases h:p x <;> simp [ih]
theorem sq {l:List α} {body:Nat→Unit→Option (Fl Unit R)} (f:α→Option R) (hl:l.length≤4611686018427387904)
    (h: ∀k x,l[k]? =some x→body k ()=some (rtnx (f x) ())):nM l.length body ()=some (xn (l.findSome? f) ()):=by
  have h2:=lH (body:=body) (m:=l.length) (fun k=>(l[k]?).bind f) hl (fun k hk _=>by
    rw [h k l[k] (List.getElem?_eq_getElem hk),List.getElem?_eq_getElem hk];rfl)
  rw [h2,yI f (fun k x hx=>by rw [hx];rfl)]
theorem Bq {l:List α} {body:Nat→Unit→Option (Fl Unit R)} (p:α→Bool) (r:R) (hl:l.length≤4611686018427387904)
    (h: ∀k x,l[k]? =some x→body k ()=some (if p x=true then .rt r else .nx ())):nM l.length body ()=some (if l.any p=true then .rt r else .go ()):=by
  rw [sq (fun x=>if p x=true then some r else none) hl (fun k x hx=>by rw [h k x hx];cases p x <;> rfl),uU]
  cases l.any p <;> rfl
end
theorem Bs {β:Type} (b:Bool) (x y:β): (bif b then some x else some y)=some (bif b then x else y):=by cases b <;> rfl
section
variable {α β:Type}
def Dx (l:List α) (p:α→Bool):Int:=match l.findIdx? p with | some k=>((k:Nat):Int) | none=> -1
theorem qB (l:List α) (p:α→Bool): (Dx l p = -1∧∀x∈l,p x=false)∨∃k x,Dx l p= ((k:Nat):Int)∧l[k]? =some x∧p x=true∧∀j y,j<k→l[j]? =some y→p y=false:=by
  unfold Dx
  cases h:l.findIdx? p with
  | none=>exact .inl ⟨rfl,fun x hx=>by have:=List.findIdx?_eq_none_iff.1 h x hx;simpa using this⟩
  | some k=>
    obtain⟨hk,hp,hn⟩:=List.findIdx?_eq_some_iff_getElem.1 h
    refine .inr ⟨k,l[k],rfl,List.getElem?_eq_getElem hk,hp,fun j y hj hy=>?_⟩
    have:=hn j hj
    rw [List.getElem?_eq_getElem (by omega)] at hy
    injection hy with hy
    subst hy;simpa using this
theorem Cq (l:List α) (p:α→Bool):decide (Dx l p≥0)=l.any p:=by
  rcases qB l p with ⟨h,hn⟩ | ⟨k,x,h,hx,hp,_⟩
  · rw [h,List.any_eq_false.2 (fun x hx=>by rw [hn x hx];decide)];decide
  · rw [h,List.any_eq_true.2 ⟨x,List.mem_of_getElem? hx,hp⟩];simp
def ma (p0:List α) (p1:α→Option Bool):Option Int:=
  (nM p0.length (fun(k1:Nat) (_:Unit)=>((idx p0 ((k1:Nat):Int)).bind fun(x7:α)=>(p1 x7).bind fun(x10:Bool)=>bif x10 then (some (.rt ((k1:Nat):Int))) else (some (.nx ())):Option (Fl (Unit) Int))) ()).bind fun(o11:Fo (Unit) Int)=>o11.cs (fun(_:Unit)=>some (-1)) (fun r=>some r)
theorem oh {l:List α} {φ:α→Option Bool} (p:α→Bool) (hl:l.length≤4611686018427387904) (h: ∀x∈l,φ x=some (p x)):ma l φ=some (Dx l p):=by
  unfold ma
  rw [lH (fun k=>(l[k]?).bind fun x=>if p x=true then some ((k:Nat):Int) else none) hl (fun k hk _=>by
    rw [fI l k hk,aB,h _ (List.getElem_mem hk),aB,List.getElem?_eq_getElem hk]
    cases hp:p l[k] <;> simp [rtnx,hp]),aB]
  rcases qB l p with ⟨h1,h2⟩ | ⟨k,x,h1,h2,h3,h4⟩
  · rw [kj.2 (fun k hk=>by rw [List.getElem?_eq_getElem hk];simp [h2 _ (List.getElem_mem hk)])]
    simp [xn,Fo.cs,h1]
  · rw [(lG (r:=((k:Nat):Int))).2 ⟨k,(List.getElem?_eq_some_iff.1 h2).1,by rw [h2];simp [h3],fun j hj=>by
      cases hy:l[j]? with
      | none=>rfl
      | some y=>simp [h4 j y hj hy]⟩]
    simp [xn,Fo.cs,h1]
def ln (p0:List α) (p1:α→Option Bool):Option Bool:=
  (ma p0 p1).bind fun(x1:Int)=>some (decide (x1≥0))
theorem lI {l:List α} {φ:α→Option Bool} (p:α→Bool) (hl:l.length≤4611686018427387904) (h: ∀x∈l,φ x=some (p x)):ln l φ=some (l.any p):=by
  unfold ln
  rw [oh p hl h,aB,Cq]
def xp [DecidableEq α] (p0 p1:List α):Option Bool:=
  bif (((p0.length:Nat):Int) != ((p1.length:Nat):Int)) then (some false) else ((nM p0.length (fun(k1:Nat) (_:Unit)=>((idx p0 ((k1:Nat):Int)).bind fun(x13:α)=>(idx p1 ((k1:Nat):Int)).bind fun(x16:α)=>bif (!(decide (x13=x16))) then (some (.rt false)) else (some (.nx ())):Option (Fl (Unit) Bool))) ()).bind fun(o23:Fo (Unit) Bool)=>o23.cs (fun(_:Unit)=>some true) (fun r=>some r))
theorem tY [DecidableEq α] {l m:List α} (hl:l.length≤4611686018427387904):xp l m=some (decide (l=m)):=by
  unfold xp
  by_cases h:l.length=m.length
  · have e: (((l.length:Nat):Int) != ((m.length:Nat):Int))=false:=by rw [h];simp
    rw [e,cond_false]
    rw [lH (fun k=>if l[k]? =m[k]? then none else some false) hl (fun k hk _=>by
      rw [fI l k hk,aB,fI m k (by omega),aB,List.getElem?_eq_getElem hk,List.getElem?_eq_getElem (by omega:k<m.length)]
      by_cases hx:l[k]=m[k] <;> simp [rtnx,hx]),aB]
    by_cases hx:l=m
    · subst hx;rw [kj.2 (fun k _=>if_pos rfl)];simp [xn,Fo.cs]
    · have: ∃r,rB l.length (fun k=>if l[k]? =m[k]? then none else some false)=some r:=by
        cases hf:rB l.length (fun k=>if l[k]? =m[k]? then none else some false) with
        | some r=>exact⟨r,rfl⟩
        | none=>
          exfalso;refine hx (List.ext_getElem? fun i=>?_)
          by_cases hi:i<l.length
          · have:=kj.1 hf i hi
            by_cases h6:l[i]? =m[i]?
            · exact h6
            · rw [if_neg h6] at this;cases this
          · rw [List.getElem?_eq_none (by omega),List.getElem?_eq_none (by omega)]
      obtain⟨r,hr⟩:=this
      have hr2:r=false:=by
        obtain⟨k,_,hk,_⟩:=lG.1 hr
        split at hk
        · cases hk
        · injection hk with hk;exact hk.symm
      rw [hr,hr2];simp [xn,Fo.cs,hx]
  · have e: (((l.length:Nat):Int) != ((m.length:Nat):Int))=true:=by simp;omega
    rw [e,cond_true,decide_eq_false (fun h'=>h (by rw [h']))]
def Af (key:α→bS) (l:List α):Prop:=∀(i j:Nat) (x y:α),i<j→l[i]? =some x→l[j]? =some y→bS.lt (key x) (key y)
theorem Af.inj {key:α→bS} {l:List α} (h:Af key l) {i j:Nat} {x y:α} (hx:l[i]? =some x) (hy:l[j]? =some y) (e:key x=key y):i=j:=by
  rcases Nat.lt_trichotomy i j with h1 | h1 | h1
  · exact absurd e (bS.BL (h i j x y h1 hx hy))
  · exact h1
  · exact absurd e.symm (bS.BL (h j i y x h1 hy hx))
end
end Go.Gk
namespace Go.Gk
open Go Go.ChangeShapes Go.WideShapes Go.RowKit
structure UB (ub: (H:Type)→DataW H→Nat) (ua: (H:Type)→List (DataW H)→Nat):Prop where
  str: ∀(H:Type) (b:List UInt8),ub H (.lit (.string b))=b.length+1
  pos: ∀(H:Type) (d:DataW H),1≤ub H d
  sl: ∀(H:Type) (e s:List (DataW H)),ub H (.slice e s)=ua H e+ua H s+1
  ag: ∀(H:Type) (l:List (DataW H)),ub H (.agg l)=ua H l+1
  nil: ∀(H:Type),ua H []=0
  cons: ∀(H:Type) (x:DataW H) (l:List (DataW H)),ua H (x::l)=ub H x+ua H l
def Hw (w:World):bZ:=fun b=>w.heap[b]?
structure f9 (ub: (H:Type)→DataW H→Nat) (P:Program) (T:TypeId) (α:Type) [GT α] [Bk α]:Prop where
  trod: ∀{H:Type} {enc:TypeId×Value→H} {w:World} {base:Nat} {spare:Nat→Bool} {held:Bool} {fuel:Nat} {cs:List Value} {d:DataW H×List MemPlace},
    DataW.trod enc P w base spare held fuel T cs=some d→∃x:α,GT.ok (Hw w) cs x∧bk x≤ub H d.1
  Dy: ∀{w:World} {r:Reach} {base:Nat} {v:Value},Value.okWide P w r base T v→v=qi α v.cells.toList
section
variable {ub: (H:Type)→DataW H→Nat} {ua: (H:Type)→List (DataW H)→Nat} {P:Program} {T e:TypeId}
theorem yJ (u:UB ub ua) (ht:P.underlying T=some (.int .i64)):f9 ub P T Int where
  trod:=fun h=>by
    obtain⟨n,rfl,rfl,_⟩:=DataW.trod_int ht h
    exact⟨n,rfl,u.pos _ _⟩
  Dy:=fun h=>by obtain⟨n,rfl⟩:=okWide_int ht h;rfl
theorem xq (u:UB ub ua) (ht:P.underlying T=some .bool):f9 ub P T Bool where
  trod:=fun h=>by
    obtain⟨n,rfl,rfl⟩:=DataW.trod_bool ht h
    exact⟨n,rfl,u.pos _ _⟩
  Dy:=fun h=>by obtain⟨n,rfl⟩:=okWide_bool ht h;rfl
theorem yK (u:UB ub ua) (ht:P.underlying T=some .string):f9 ub P T bS where
  trod:=fun h=>by
    obtain⟨s,rfl,rfl,_⟩:=DataW.trod_string ht h
    refine⟨⟨s.data.toList⟩,?_,?_⟩
    · show [Value.string s]= [Gk.str ⟨s.data.toList⟩]
      cases s;rfl
    · rw [u.str];exact Nat.le_refl _
  Dy:=fun h=>by obtain⟨n,rfl⟩:=okWide_string ht h;rfl
theorem rp {α:Type} {R:Nat→α→Prop}: ∀(n:Nat),(∀i,i<n→∃x,R i x)→∃l:List α,l.length=n∧∀i x,l[i]? =some x→R i x
  | 0,_=>⟨[],rfl,fun i x h=>by simp at h⟩
  | n+1,h=>by
    obtain⟨l,h1,h2⟩:=rp n (fun i hi=>h i (by omega))
    obtain⟨x,hx⟩:=h n (by omega)
    refine⟨l++[x],by simp [h1],fun i y hy=>?_⟩
    by_cases hi:i<n
    · rw [List.getElem?_append_left (by omega)] at hy;exact h2 i y hy
    · have:=(List.getElem?_eq_some_iff.1 hy).1
      rw [List.length_append] at this
      have:i=n:=by simp at this;omega
      subst this
      rw [List.getElem?_append_right (by omega),h1] at hy
      simp at hy;subst hy;exact hx
theorem tZ {H:Type} {α:Type} [Bk α] (u:UB ub ua): ∀{l:List α} {es:List (DataW H×List MemPlace)},l.length=es.length→
    (∀(i:Nat) (x:α) (y:DataW H×List MemPlace),l[i]? =some x→es[i]? =some y→bk x≤ub H y.1)→bk l≤ua H (es.map (·.1))+1
  | [],[],_,_=>by rw [Ad];omega
  | x::l,y::es,hl,h=>by
    have h1:=h 0 x y rfl rfl
    have h2:=tZ (H:=H) u (l:=l) (es:=es) (by simpa using hl) (fun i x y hx hy=>h (i+1) x y (by simpa using hx) (by simpa using hy))
    rw [uT,List.map_cons,u.cons];omega
theorem we {w:World} {base:Nat} {a:Addr} {n:Nat} {cs:List Value} (h:w.cells? base a n=some cs):At (Hw w) a cs:=by
  intro j v hv
  obtain⟨_,hlen,hc⟩:=World.cells?_some h
  have hj:=(List.getElem?_eq_some_iff.1 hv).1
  have h2:=hc j (by omega)
  rw [hv] at h2
  unfold cellM Hw
  unfold World.cell? at h2
  exact h2
theorem mb {α:Type} [GT α] [Bk α] (u:UB ub ua) (ht:P.underlying T=some (.slice e)) (hc:P.cellsOf e=GT.sz α) (he:f9 ub P e α):f9 ub P T (List α) where
  trod:=fun{H enc w base spare held fuel cs d} h=>by
    rcases DataW.trod_slice ht h with ⟨rfl,rfl⟩ | ⟨a,len,cap,elems,rest,n,_,rfl,rfl,_,hlc,hcm,hlen,hel,_⟩
    · exact⟨[],⟨_,rfl,none,0,0,rfl,rfl,Nat.le_refl _,by simp [maxLen],fun i x hx=>by simp at hx⟩,u.pos _ _⟩
    · have each: ∀i,i<len→∃x:α,(∃c y,GT.ok (Hw w) c x∧At (Hw w) (a.add (i*GT.sz α)) c∧elems[i]? =some y∧bk x≤ub H y.1):=by
        intro i hi
        have h1:=hel i hi
        rw [List.getElem?_eq_getElem (by omega:i<elems.length),Option.bind_eq_some_iff] at h1
        obtain⟨c,h2,h3⟩:=h1
        obtain⟨x,h4,h5⟩:=he.trod h3
        refine⟨x,c,_,h4,?_,List.getElem?_eq_getElem (by omega),h5⟩
        rw [hc] at h2
        exact we h2
      obtain⟨l,hl,hr⟩:=rp len each
      refine⟨l,⟨_,rfl,some a,len,cap,rfl,hl.symm,hlc,hcm,fun i x hx=>?_⟩,?_⟩
      · obtain⟨c,y,h1,h2,_⟩:=hr i x hx
        exact⟨a,c,rfl,h1,h2⟩
      · have:=tZ (H:=H) u (l:=l) (es:=elems) (by omega) (fun i x y hx hy=>by
          obtain⟨c,y',_,_,h3,h4⟩:=hr i x hx
          rw [hy] at h3;injection h3 with h3;subst h3;exact h4)
        rw [u.sl];omega
  Dy:=fun h=>by obtain⟨a,n,c,rfl⟩:=okWide_slice ht h;rfl
def xW (ub: (H:Type)→DataW H→Nat) (ua: (H:Type)→List (DataW H)→Nat) (P:Program) (off:Nat) (fs:List Field) (β:Type) [GT β] (m:β→Nat):Prop:=
  ∀{H:Type} {enc:TypeId×Value→H} {w:World} {base:Nat} {spare:Nat→Bool} {held:Bool} {n:Nat} {cs:List Value} {ys:List (DataW H×List MemPlace)},
    (∀(i:Nat) (f:Field),fs[i]? =some f→DataW.trod enc P w base spare held n f.type ((cs.drop f.offset).take (P.cellsOf f.type))=ys[i]?)→ys.length=fs.length→
    cs.length=off+GT.sz β→∃x:β,GT.ok (Hw w) (cs.drop off) x∧m x≤ua H (ys.map (·.1))
theorem lJ {β:Type} [GT β] [Bk β] {off:Nat} {f:Field} (u:UB ub ua) (h:f9 ub P f.type β) (ho:f.offset=off) (hc:P.cellsOf f.type=GT.sz β):xW ub ua P off [f] β bk:=by
  intro H enc w base spare held n cs ys hf hl hcs
  match ys,hl with
  | [y],_=>
    have h1:=hf 0 f rfl
    rw [ho,hc,List.take_of_length_le (by rw [List.length_drop];omega)] at h1
    obtain⟨x,h2,h3⟩:=h.trod (d:=y) h1
    exact⟨x,h2,by rw [List.map_cons,u.cons];omega⟩
theorem dV {α β:Type} [GT α] [GT β] [Bk α] {off off':Nat} {f:Field} {fs:List Field} {m:β→Nat} (u:UB ub ua) (h:f9 ub P f.type α) (ho:f.offset=off) (hc:P.cellsOf f.type=GT.sz α)
    (hoff:off'=off+GT.sz α) (hr:xW ub ua P off' fs β m):xW ub ua P off (f::fs) (α×β) (fun x=>bk x.1+m x.2):=by
  intro H enc w base spare held n cs ys hf hl hcs
  have hsz:GT.sz (α×β)=GT.sz α+GT.sz β:=rfl
  match ys,hl with
  | y::ys,hl=>
    have h1:=hf 0 f rfl
    rw [ho,hc] at h1
    obtain⟨x,h2,h3⟩:=h.trod (d:=y) h1
    obtain⟨x',h4,h5⟩:=hr (n:=n) (cs:=cs) (ys:=ys) (fun i g hg=>hf (i+1) g hg) (by simpa using hl) (by omega)
    refine⟨(x,x'),⟨_,_,?_,h2,h4⟩,?_⟩
    · rw [hoff,←List.drop_drop,List.take_append_drop]
    · rw [List.map_cons,u.cons];show bk x+m x'≤_;omega
theorem jg {γ β:Type} [GT β] [Bk γ] {fs:Array Field} {m:β→Nat} (u:UB ub ua) (f:γ→β) (g:β→γ) (hfg: ∀b,f (g b)=b) (ht:P.underlying T=some (.struct fs)) (hc:P.cellsOf T=GT.sz β)
    (h:xW ub ua P 0 fs.toList β m) (hm: ∀b,bk (g b)≤m b+1): @f9 ub P T γ (GT.via f) _:=
  @f9.mk ub P T γ (GT.via f) _
    (fun{H enc w base spare held fuel cs d} hd=>by
      obtain⟨xs,n,_,rfl,hl,hlen,hf⟩:=DataW.trod_struct ht hd
      obtain⟨b,h1,h2⟩:=h (n:=n) (cs:=cs) (ys:=xs) (fun i g hg=>hf i g (by rw [←Array.getElem?_toList];exact hg)) (by rw [hlen];simp) (by omega)
      refine⟨g b,?_,?_⟩
      · show GT.ok (Hw w) cs (f (g b))
        rw [hfg];exact h1
      · rw [u.ag];have:=hm b;omega)
    (fun hv=>by
      obtain⟨cs,rfl,_⟩:=okWide_struct ht hv
      cases cs;rfl)
theorem f9.arg {H:Type} {enc:TypeId×Value→H} {w:World} {base:Nat} {spare:Nat→Bool} {held:Bool} {r:Reach} {b0:Nat} {v:Value} {d:DataW H} {ps:List MemPlace} {α:Type} [GT α] [Bk α] (o:f9 ub P T α)
    (hv:Value.okWide P w r b0 T v) (hd:DataW.Trod enc P w base spare held T v d ps): ∃x:α,ox (Hw w) v x∧bk x≤ub H d:=by
  obtain⟨fuel,hf⟩:=hd
  obtain⟨x,h1,h2⟩:=o.trod hf
  exact⟨x,⟨_,o.Dy hv,h1⟩,h2⟩
theorem f9.E7 {H:Type} {enc:TypeId×Value→H} {w:World} {base:Nat} {spare:Nat→Bool} {held:Bool} {r:Reach} {b0:Nat} {v:Value} {d:DataW H} {ps:List MemPlace} {α:Type} [Sc α] [Bk α] (o:f9 ub P T α)
    (hv:Value.okWide P w r b0 T v) (hd:DataW.Trod enc P w base spare held T v d ps): ∃x:α,v=Sc.toV x∧bk x≤ub H d:=by
  obtain⟨x,h1,h2⟩:=o.arg hv hd
  exact⟨x,ui.1 h1,h2⟩
end
theorem Calls.fin {P:Program} {f:FuncId} {args:Array Value} {w:World} {R Q:Value→World→Prop} (h:Calls P f args w (fw R)) (k: ∀v w',R v w'→Q v w'):
    Calls P f args w (fun e W'=>∃v,e = .returned v∧Q v W'):=Calls.mono h fun _ w' ⟨v,e,hr⟩=>⟨v,e,k v w' hr⟩
def gv (W:World):HP:=⟨fun M h=>hle (Hw W) M∧h=ld,fun k ⟨a,b⟩=>⟨yk a k,b⟩⟩
theorem Holds.begin (W:World):Holds W W [gv W]:=by
  refine⟨Hw W,fun _=>ld,⟨rfl,rfl,rfl,Nat.le_refl _,fun b o h=>h,fun i Pr hq=>?_,fun _ _ _ _ h=>(by cases h),fun _ _ _ _ h=>(by cases h),fun _ _ _ _ _ _ _ h=>(by cases h)⟩⟩
  match i,hq with
  | 0,hq=>simp at hq;subst hq;exact⟨zj _,rfl⟩
theorem Holds.Dz {α:Type} [GT α] {W:World} {Γ:List HP} {v:Value} {x:α} (h:Holds W W (Γ++[gv W])) (hv:Gk.ox (Hw W) v x):Holds W W (rd v x::(Γ++[gv W])):=
  h.tu fun M hs g=>by
    have h1:=(g.sat Γ.length (gv W) (by simp)).1
    exact⟨hv.mono h1,rfl⟩
theorem Holds.kept {E W w:World} {Γ:List HP} (h:Holds E w (Γ++[gv W])) (he:E=W):Below W.heap.size W w:=by
  subst he
  obtain⟨M,hs,g⟩:=h
  have h1:=(g.sat Γ.length (gv E) (by simp)).1
  have h2: ∀k o,E.heap[k]? =some o→w.heap[k]? =some o:=fun k o ho=>g.im k o (h1 k o ho)
  refine⟨g.os,g.tape,g.out,?_,fun k hk=>?_⟩
  · by_cases h0:E.heap.size=0
    · omega
    · have h3:=h2 (E.heap.size - 1) _ (Array.getElem?_eq_getElem (by omega))
      have:=(Array.getElem?_eq_some_iff.1 h3).1
      omega
  · rw [Array.getElem?_eq_getElem hk];exact h2 k _ (Array.getElem?_eq_getElem hk)
section
variable {H:Type} {enc:TypeId×Value→H} {P:Program}
theorem yL {f:Func} {s:ChangeSpec} {apart fresh handsOn again:Bool} {W W':World} {args:Array Value} {v:Value} {ds gs:List (DataW H)} {before pa pv:List MemPlace}
    (hW:DataW.Whole enc P f.params.toList s.vars apart W args.toList ds gs before)
    (hres: ∀(b:Nat) (sp:Nat→Bool) (hd:Bool),DataW.TrodAll enc P W' b sp hd f.resultTypes.toList (v.resultList f.resultTypes.size) (s.fn H (ds++gs)).results [])
    (hargs: ∀sp:Nat→Bool,(∀p∈before,sp p.block=true)→DataW.TrodAll enc P W' 0 sp true f.params.toList args.toList (s.fn H (ds++gs)).args pa)
    (hvars: ∀sp:Nat→Bool,(∀p∈before,sp p.block=true)→DataW.TrodVars enc P W' sp s.vars (s.fn H (ds++gs)).vars pv)
    (hps:before=pa++pv) (hb:Below W.heap.size W W')
    (hok: ∀(j:Nat) (t:TypeId) (r:Value),f.resultTypes[j]? =some t→(v.resultList f.resultTypes.size)[j]? =some r→Value.okWide P W' .any 0 t r):
    s.post enc P f apart fresh handsOn again W args v W':=by
  have hlt: ∀p∈before,p.block<W.heap.size:=fun p hp=>hW.lt p hp
  have hold: ∀p∈before,(fun b=>decide (b<W.heap.size)) p.block=true:=fun p hp=>by simpa using hlt p hp
  refine⟨ds,gs,before,[],pa,pv,hW,hres _ _ _,hargs _ hold,hvars _ hold,World.keptBut_mono (fun p hp=>⟨hp,?_⟩) (hb.frame (· ∈before)),fun _=>?_⟩
  · rw [hps,List.mem_append] at hp
    exact Or.inr hp
  · obtain⟨_,_,_,_,_,hz,hn⟩:=hW
    refine⟨hok,_,_,([]++pa)++pv,⟨[]++pa,pv,trodAll_append (hargs _ (fun _ _=>rfl)) (hres _ _ _),hvars _ (fun _ _=>rfl),rfl,?_,?_⟩,?_⟩
    · intro b off hp
      have hin:MemPlace.cell b off∈before:=by rw [hps];simpa using hp
      rw [hb.frozen (hlt _ hin)]
      exact hz b off hin
    · intro ha
      have:=hn ha
      rw [hps] at this
      simpa using this
    · intro p hp _
      rw [hps]
      simpa using hp
theorem oj {W W':World} (hl:laidOutB P=true) (hb:Below W.heap.size W W') {sp:Nat→Bool}: ∀{ts:List TypeId} {vs:List Value} {ds:List (DataW H)} {ps:List MemPlace},
    (∀t∈ts,P.readableRec t=true∧t<P.types.size)→DataW.TrodAll enc P W 0 (fun _=>true) true ts vs ds ps→(∀p∈ps,p.block<W.heap.size)→(∀p∈ps,sp p.block=true)→DataW.TrodAll enc P W' 0 sp true ts vs ds ps
  | [],_,_,_,_,h,_,_=>by
    obtain⟨rfl,rfl,rfl⟩:=trodAll_nil h
    rfl
  | t::ts,_,_,_,ht,h,hlt,hsp=>by
    obtain⟨v,vs,d,ds,p,q,rfl,rfl,rfl,h1,h2⟩:=trodAll_cons h
    refine⟨p,q,?_,oj hl hb (fun t h=>ht t (by simp [h])) h2 (fun x hx=>hlt x (by simp [hx])) (fun x hx=>hsp x (by simp [hx])),rfl⟩
    exact WideElems.Trod_stays hl (ht t (by simp)).1 (ht t (by simp)).2 h1 (fun x hx=>hb.same (hlt x (by simp [hx]))) (fun x hx=>hsp x (by simp [hx]))
end
end Go.Gk
namespace Go.Gk
open Go
instance:Bk aC:=⟨fun x=>bk x.X0+bk x.Y0+bk x.X1+bk x.Y1+1,fun _=>by omega⟩
theorem Bt (x:aC):bk x=bk x.X0+bk x.Y0+bk x.X1+bk x.Y1+1:=rfl
instance:Bk bU:=⟨fun x=>bk x.X+bk x.Y+1,fun _=>by omega⟩
theorem Ag (x:bU):bk x=bk x.X+bk x.Y+1:=rfl
instance:Bk bD:=⟨fun x=>bk x.At+bk x.cD+bk x.bN+bk x.To+bk x.cI+1,fun _=>by omega⟩
theorem Bu (x:bD):bk x=bk x.At+bk x.cD+bk x.bN+bk x.To+bk x.cI+1:=rfl
instance:Bk cT:=⟨fun x=>bk x.Part+bk x.fC+bk x.aU+bk x.At+1,fun _=>by omega⟩
theorem xX (x:cT):bk x=bk x.Part+bk x.fC+bk x.aU+bk x.At+1:=rfl
instance:Bk jQ:=⟨fun x=>bk x.aJ+bk x.bY+bk x.aT+bk x.bH+1,fun _=>by omega⟩
theorem Ah (x:jQ):bk x=bk x.aJ+bk x.bY+bk x.aT+bk x.bH+1:=rfl
instance:Bk aA:=⟨fun x=>bk x.Y0+bk x.Y1+bk x.Xs+1,fun _=>by omega⟩
instance:Bk fC:=⟨fun x=>bk x.Part+bk x.fC+1,fun _=>by omega⟩
instance:Bk aD:=⟨fun x=>bk x.aU+bk x.Set+bk x.dQ+1,fun _=>by omega⟩
instance:Bk bT:=⟨fun x=>bk x.jR+bk x.aT+bk x.eY+1,fun _=>by omega⟩
instance:Bk gk:=⟨fun x=>bk x.bD+bk x.Number+1,fun _=>by omega⟩
instance:Bk Piece:=⟨fun x=>bk x.aU+bk x.o5+bk x.o6+1,fun _=>by omega⟩
end Go.Gk
namespace Go.Gk
open Go Go.Proofs Go.Sort
section
variable {α:Type}
theorem rq {β:Type} (a:Array β) {n:Nat} (h:a.size=n):a.extract 0 n=a:=by subst h;exact Array.extract_size
theorem Cr {φ:α→α→Option Int} {l:List α} (cf:α→α→Int) (hφ: ∀x∈l,∀y∈l,φ x y=some (cf x y)) (h1: ∀x∈l,¬cf x x<0)
    (h2: ∀x∈l,∀y∈l,∀z∈l,cf x y<0→cf y z<0→cf x z<0) (h3: ∀x∈l,∀y∈l,∀z∈l,¬cf x y<0→¬cf y z<0→¬cf x z<0):SWO (ltOf (wM φ l)):=by
  have hm: ∀i:Fin l.length,l[i]∈l:=fun i=>List.getElem_mem i.isLt
  have e: ∀i j:Fin l.length,wM φ l i j=cf l[i] l[j]:=fun i j=>by unfold wM;rw [hφ _ (hm i) _ (hm j)];rfl
  refine⟨fun x=>?_,fun x y z=>?_,fun x y z=>?_⟩
  · simp only [ltOf,e,decide_eq_false_iff_not];exact h1 _ (hm _)
  · simp only [ltOf,e,decide_eq_true_iff];exact h2 _ (hm _) _ (hm _) _ (hm _)
  · simp only [ltOf,e,decide_eq_false_iff_not];exact h3 _ (hm _) _ (hm _) _ (hm _)
theorem sF {φ:α→α→Option Int} {l:List α} (cf:α→α→Int) (hφ: ∀x∈l,∀y∈l,φ x y=some (cf x y)) (h1: ∀x∈l,¬cf x x<0)
    (h2: ∀x∈l,∀y∈l,∀z∈l,cf x y<0→cf y z<0→cf x z<0) (h3: ∀x∈l,∀y∈l,∀z∈l,¬cf x y<0→¬cf y z<0→¬cf x z<0) (hl:l.length<4611686018427387904):
    ∃m,o4 φ l=some m∧m.Perm l∧m.Pairwise (fun x y=>¬cf y x<0):=by
  have hO:=Cr cf hφ h1 h2 h3
  have hm: ∀i:Fin l.length,l[i]∈l:=fun i=>List.getElem_mem i.isLt
  have hc: (∀i j:Fin l.length,∃c,φ l[i] l[j]=some c):=fun i j=>⟨_,hφ _ (hm i) _ (hm j)⟩
  refine⟨xP φ l,by unfold o4;rw [if_pos ⟨⟨hc,hO⟩,hl⟩],?_⟩
  unfold xP
  by_cases hn:0<l.length
  · rw [dif_pos hn]
    letI inh:Inhabited (Fin l.length):=⟨⟨0,hn⟩⟩
    have hds: (Array.ofFn fun i:Fin l.length=>i).size=l.length:=by simp
    obtain⟨hp,hs⟩:=pdq_sorts (ltOf (wM φ l)) hO (Array.ofFn fun i:Fin l.length=>i) 0 l.length (Lib.bitLen l.length) true true (Nat.zero_le _) (by rw [hds];exact Nat.le_refl _) (Or.inl rfl)
    show (List.map (fun i=>l[i]) (pdq (ltOf (wM φ l)) (Array.ofFn fun i:Fin l.length=>i) 0 l.length (Lib.bitLen l.length) true true).toList).Perm l∧_
    generalize pdq (ltOf (wM φ l)) (Array.ofFn fun i:Fin l.length=>i) 0 l.length (Lib.bitLen l.length) true true=d' at hp hs
    obtain⟨hz,_,hpm⟩:=hp
    have hz':d'.size=l.length:=hz.trans hds
    rw [rq d' hz',rq _ hds] at hpm
    have hof: (Array.ofFn fun i:Fin l.length=>i).toList.map (fun i=>l[i])=l:=by
      rw [Array.toList_ofFn,List.map_ofFn]
      exact List.ofFn_getElem
    refine⟨(hpm.map (fun i=>l[i])).trans (List.Perm.of_eq hof),?_⟩
    rw [List.pairwise_map,List.pairwise_iff_getElem]
    intro i j hi hj hij
    rw [Array.length_toList] at hi hj
    have:=hs i j (Nat.zero_le _) hij (by rw [←hz'];exact hj)
    rw [getElem!_pos d' i hi,getElem!_pos d' j hj] at this
    have hij2:=hφ _ (hm (d'[j])) _ (hm (d'[i]))
    have hij3:wM φ l d'[j] d'[i]=cf l[d'[j]] l[d'[i]]:=by unfold wM;rw [hij2];rfl
    unfold ltOf at this
    rw [decide_eq_false_iff_not,hij3] at this
    exact this
  · rw [dif_neg hn]
    have:l= []:=List.length_eq_zero_iff.1 (by omega)
    subst this
    exact⟨List.Perm.refl _,List.Pairwise.nil⟩
theorem t4 {φ:α→α→Option Int} {x:α} (h:φ x x=some 0):o4 φ [x]=some [x]:=by
  obtain⟨m,h1,h2,_⟩:=sF (φ:=φ) (l:=[x]) (fun _ _=>0) (fun a ha b hb=>by simp at ha hb;rw [ha,hb];exact h) (fun _ _=>by decide) (fun _ _ _ _ _ _ h=>by simp at h) (fun _ _ _ _ _ _ _ _=>by decide) (by simp)
  rw [h1,List.perm_singleton.1 h2]
theorem tG {l:List Int} (h:l.Pairwise (fun x y=>x≤y)) (hl:l.length<4611686018427387904):mN l=some l:=by
  unfold mN
  rw [if_pos hl,List.mergeSort_of_pairwise (by simpa using h)]
end
end Go.Gk
namespace Go.Gk
open Go
def xY (l:List Int) (x:Int):Nat:=l.countP (fun a=>decide (a≤x))
def jv (l:List Int) (x:Int):Bool:=xY l x % 2==1
def iY (l:List Int):Prop:=l.Pairwise (· < ·)
theorem xZ (x:Int):xY [] x=0:=rfl
theorem jN (a:Int) (l:List Int) (x:Int):xY (a::l) x= (if a≤x then 1 else 0)+xY l x:=by
  unfold xY
  rw [List.countP_cons]
  by_cases h:a≤x <;> simp [h];omega
theorem sG (l m:List Int) (x:Int):xY (l++m) x=xY l x+xY m x:=List.countP_append
theorem x0 {l:List Int} {x:Int} (h: ∀a∈l,a≤x):xY l x=l.length:=by
  unfold xY;rw [List.countP_eq_length];intro a ha;simpa using h a ha
theorem sH {l:List Int} {x:Int} (h: ∀a∈l,x<a):xY l x=0:=by
  unfold xY;rw [List.countP_eq_zero];intro a ha;have:=h a ha;simp;omega
theorem pM {l:List Int} {x:Int}:jv l x=true↔xY l x % 2=1:=by unfold jv;simp
theorem pN {l:List Int} {x:Int} (h: ∀a∈l,x<a):jv l x=false:=by unfold jv;rw [sH h];rfl
theorem iY.head {a:Int} {l:List Int} (h:iY (a::l)): ∀b∈l,a<b:=(List.pairwise_cons.1 h).1
theorem iY.tail {a:Int} {l:List Int} (h:iY (a::l)):iY l:=(List.pairwise_cons.1 h).2
theorem pO {a:Int} {l:List Int} (h:iY (a::l)):jv (a::l) a=true:=by
  rw [pM,jN,if_pos (Int.le_refl _),sH h.head]
theorem sI: ∀{l m:List Int},iY l→iY m→(∀x,jv l x=jv m x)→l=m
  | [],[],_,_,_=>rfl
  | [],b::m,_,hm,h=>by have:=h b;rw [pO hm] at this;cases this
  | a::l,[],hl,_,h=>by have:=h a;rw [pO hl] at this;cases this
  | a::l,b::m,hl,hm,h=>by
    have hab:a=b:=by
      rcases Int.lt_trichotomy a b with h1 | h1 | h1
      · have h2:=h a
        rw [pO hl,pN (l:=b::m) (fun c hc=>by
          rcases List.mem_cons.1 hc with rfl | hc
          · exact h1
          · have:=hm.head c hc;omega)] at h2
        cases h2
      · exact h1
      · have h2:=h b
        rw [pO hm,pN (l:=a::l) (fun c hc=>by
          rcases List.mem_cons.1 hc with rfl | hc
          · exact h1
          · have:=hl.head c hc;omega)] at h2
        cases h2
    subst hab
    rw [sI hl.tail hm.tail (fun x=>?_)]
    by_cases hx:a≤x
    · have h2:=h x
      unfold jv at h2 ⊢
      rw [jN,jN,if_pos hx] at h2
      rw [Bool.eq_iff_iff] at h2 ⊢
      simp only [beq_iff_eq] at h2 ⊢
      omega
    · rw [pN (fun c hc=>by have:=hl.head c hc;omega),pN (fun c hc=>by have:=hm.head c hc;omega)]
theorem pP {l:List Int} {a b:Int} (hl: ∀c∈l,c<a) (he:l.length % 2=0) (hab:a<b) (x:Int):jv (l++[a,b]) x= (jv l x||(decide (a≤x)&&decide (x<b))):=by
  rw [Bool.eq_iff_iff,Bool.or_eq_true,Bool.and_eq_true,decide_eq_true_eq,decide_eq_true_eq,pM,pM,sG,jN,jN,xZ]
  by_cases h1:a≤x
  · have h2:xY l x=l.length:=x0 fun c hc=>by have:=hl c hc;omega
    rw [h2,if_pos h1]
    by_cases h3:b≤x
    · rw [if_pos h3];omega
    · rw [if_neg h3];omega
  · rw [if_neg h1,if_neg (by omega)];omega
theorem Aj {l:List Int} {s e a b:Int} (hl: ∀c∈l,c<s) (he:l.length % 2=0) (hs:s<e) (h1:s≤a) (h2:a≤e) (hab:a<b) (x:Int):jv (l++[s,max e b]) x= (jv (l++[s,e]) x||(decide (a≤x)&&decide (x<b))):=by
  rw [pP hl he (by omega),pP hl he hs]
  rw [Bool.eq_iff_iff]
  simp only [Bool.or_eq_true,Bool.and_eq_true,decide_eq_true_eq]
  constructor
  · rintro(h | h)
    · exact .inl (.inl h)
    · by_cases hx:x<e
      · exact .inl (.inr ⟨h.1,hx⟩)
      · exact .inr ⟨by omega,by omega⟩
  · rintro((h | h) | h)
    · exact .inl h
    · exact .inr ⟨h.1,by omega⟩
    · exact .inr ⟨by omega,by omega⟩
theorem iY.snoc {l:List Int} {a b:Int} (h:iY l) (hl: ∀c∈l,c<a) (hab:a<b):iY (l++[a,b]):=by
  unfold iY
  rw [List.pairwise_append]
  refine⟨h,by simp [hab],fun c hc d hd=>?_⟩
  have:=hl c hc
  simp at hd
  rcases hd with rfl | rfl <;> omega
structure Bd where
  y0:Int
  y1:Int
  xs:List Int
def rowAt:List Bd→Int→List Int
  | [],_=>[]
  | b::s,y=>if b.y0≤y∧y<b.y1 then b.xs else rowAt s y
theorem hL (b:Bd) (s:List Bd) (y:Int):rowAt (b::s) y=if b.y0≤y∧y<b.y1 then b.xs else rowAt s y:=rfl
structure cE (s:List Bd):Prop where
  each: ∀b∈s,b.y0<b.y1∧b.xs≠[]∧iY b.xs∧b.xs.length % 2=0
  ord:s.Pairwise (fun b c=>b.y1≤c.y0∧(b.y1=c.y0→b.xs≠c.xs))
theorem cE.nil:cE []:=⟨fun b h=>by simp at h,List.Pairwise.nil⟩
theorem cE.tail {b:Bd} {s:List Bd} (h:cE (b::s)):cE s:=⟨fun c hc=>h.each c (List.mem_cons_of_mem _ hc),(List.pairwise_cons.1 h.ord).2⟩
theorem gx {s:List Bd} {y:Int} (h: ∀b∈s,y<b.y0∨b.y1≤y):rowAt s y= []:=by
  induction s with
  | nil=>rfl
  | cons b s ih=>
    unfold rowAt
    have:=h b (by simp)
    rw [if_neg (by omega)]
    exact ih fun c hc=>h c (List.mem_cons_of_mem _ hc)
theorem kf (s t:List Bd) (y:Int):rowAt (s++t) y=if (∃b∈s,b.y0≤y∧y<b.y1) then rowAt s y else rowAt t y:=by
  induction s with
  | nil=>simp
  | cons b s ih=>
    rw [List.cons_append,hL,hL]
    by_cases h:b.y0≤y∧y<b.y1
    · rw [if_pos h,if_pos ⟨b,by simp,h⟩,if_pos h]
    · rw [if_neg h,ih]
      by_cases h2: ∃c∈s,c.y0≤y∧y<c.y1
      · obtain⟨c,hc,hc2⟩:=h2
        rw [if_pos ⟨c,hc,hc2⟩,if_pos ⟨c,List.mem_cons_of_mem _ hc,hc2⟩,if_neg h]
      · rw [if_neg h2,if_neg (show ¬∃c∈b::s,c.y0≤y∧y<c.y1 from ?_)]
        rintro⟨c,hc,hc2⟩
        rcases List.mem_cons.1 hc with rfl | hc
        · exact h hc2
        · exact h2 ⟨c,hc,hc2⟩
theorem cE.hQ {b:Bd} {s:List Bd} {y:Int} (h0:b.y0≤y) (h1:y<b.y1):rowAt (b::s) y=b.xs:=by unfold rowAt;rw [if_pos ⟨h0,h1⟩]
theorem cE.sJ {b:Bd} {s:List Bd} (h:cE (b::s)): ∀c∈s,b.y1≤c.y0:=fun c hc=>((List.pairwise_cons.1 h.ord).1 c hc).1
theorem cE.nC {b:Bd} {s:List Bd} (h:cE (b::s)) {y:Int} (hy:y<b.y0):rowAt (b::s) y= []:=gx fun c hc=>by
  rcases List.mem_cons.1 hc with rfl | hc
  · exact .inl hy
  · have:=h.sJ c hc;have:=(h.each b (by simp)).1;exact .inl (by omega)
theorem cE.x3 {b:Bd} {s:List Bd} (h:cE (b::s)):rowAt (b::s) b.y1≠b.xs:=by
  rw [hL,if_neg (by omega)]
  cases s with
  | nil=>exact fun e=>(h.each b (by simp)).2.1 e.symm
  | cons c s=>
    have h1:=(List.pairwise_cons.1 h.ord).1 c (by simp)
    by_cases e:b.y1=c.y0
    · rw [cE.hQ (by omega) (by have:=(h.tail.each c (by simp)).1;omega)]
      exact fun h=>h1.2 e h.symm
    · rw [h.tail.nC (by have:=h1.1;omega)]
      exact fun e=>(h.each b (by simp)).2.1 e.symm
theorem sK: ∀{s t:List Bd},cE s→cE t→(∀y,rowAt s y=rowAt t y)→s=t
  | [],[],_,_,_=>rfl
  | [],c::t,_,ht,h=>by
    have hc:=ht.each c (by simp)
    have:=h c.y0
    rw [cE.hQ (Int.le_refl _) hc.1] at this
    exact absurd this.symm hc.2.1
  | b::s,[],hs,_,h=>by
    have hb:=hs.each b (by simp)
    have:=h b.y0
    rw [cE.hQ (Int.le_refl _) hb.1] at this
    exact absurd this hb.2.1
  | b::s,c::t,hs,ht,h=>by
    have hb:=hs.each b (by simp)
    have hc:=ht.each c (by simp)
    have e0:b.y0=c.y0:=by
      rcases Int.lt_trichotomy b.y0 c.y0 with h1 | h1 | h1
      · have h2:=h b.y0
        rw [cE.hQ (Int.le_refl _) hb.1,ht.nC h1] at h2
        exact absurd h2 hb.2.1
      · exact h1
      · have h2:=h c.y0
        rw [cE.hQ (Int.le_refl _) hc.1,hs.nC h1] at h2
        exact absurd h2.symm hc.2.1
    have ex:b.xs=c.xs:=by
      have h2:=h b.y0
      rw [cE.hQ (Int.le_refl _) hb.1,cE.hQ (by omega) (by omega)] at h2
      exact h2
    have e1:b.y1=c.y1:=by
      rcases Int.lt_trichotomy b.y1 c.y1 with h1 | h1 | h1
      · have h2:=h b.y1
        rw [cE.hQ (b:=c) (by omega) h1] at h2
        exact absurd (h2.trans ex.symm) hs.x3
      · exact h1
      · have h2:=h c.y1
        rw [cE.hQ (b:=b) (by omega) h1] at h2
        exact absurd (h2.symm.trans ex) ht.x3
    have ebc:b=c:=by cases b;cases c;simp_all
    subst ebc
    rw [sK hs.tail ht.tail (fun y=>?_)]
    by_cases hy:b.y1≤y
    · have h2:=h y
      unfold rowAt at h2
      rw [if_neg (by omega),if_neg (by omega)] at h2
      exact h2
    · rw [gx (fun d hd=>by have:=hs.sJ d hd;exact .inl (by omega)),gx (fun d hd=>by have:=ht.sJ d hd;exact .inl (by omega))]
def oV (s:List Bd) (x y:Int):Bool:=jv (rowAt s y) x
theorem t5 {s:List Bd} (h: ∀b∈s,iY b.xs) (y:Int):iY (rowAt s y):=by
  induction s with
  | nil=>exact List.Pairwise.nil
  | cons b s ih=>
    unfold rowAt
    split
    · exact h b (by simp)
    · exact ih fun c hc=>h c (List.mem_cons_of_mem _ hc)
theorem sL {s t:List Bd} (hs:cE s) (ht:cE t) (h: ∀x y,oV s x y=oV t x y):s=t:=
  sK hs ht fun y=>sI (t5 (fun b hb=>(hs.each b hb).2.2.1) y) (t5 (fun b hb=>(ht.each b hb).2.2.1) y) fun x=>h x y
def pushB (s:List Bd) (b:Bd):List Bd:=
  if b.xs= []∨b.y1≤b.y0 then s else
    match s.getLast? with
    | some c=>if c.y1=b.y0∧c.xs=b.xs then s.dropLast++[⟨c.y0,b.y1,c.xs⟩] else s++[b]
    | none=>[b]
theorem me {α:Type} {s:List α} {c:α} (h:s.getLast? =some c):s=s.dropLast++[c]:=by
  have hne:s≠[]:=fun e=>by rw [e] at h;cases h
  rw [List.getLast?_eq_some_getLast hne] at h
  injection h with h
  rw [←h];exact(List.dropLast_concat_getLast hne).symm
theorem qR {s:List Bd} {b:Bd} (hs: ∀c∈s,c.y1≤b.y0) (hg: ∀c∈s,c.y0<c.y1) (hb:b.y1≤b.y0→b.y1=b.y0) (y:Int):rowAt (pushB s b) y=if b.y0≤y∧y<b.y1 then b.xs else rowAt s y:=by
  have key: ∀(s:List Bd) (c:Bd),(∀d∈s,d.y1≤c.y0)→rowAt (s++[c]) y=if c.y0≤y∧y<c.y1 then c.xs else rowAt s y:=by
    intro s c h
    rw [kf]
    by_cases h1:c.y0≤y∧y<c.y1
    · rw [if_pos h1,if_neg (by rintro⟨d,hd,hd2⟩;have:=h d hd;omega),cE.hQ h1.1 h1.2]
    · rw [if_neg h1]
      by_cases h2: ∃d∈s,d.y0≤y∧y<d.y1
      · rw [if_pos h2]
      · rw [if_neg h2,hL,if_neg h1]
        refine(show rowAt [] y=_ from (gx (s:=s) fun d hd=>?_).symm)
        by_cases h3:d.y0≤y
        · exact .inr (by have: ¬(d.y0≤y∧y<d.y1):=fun h4=>h2 ⟨d,hd,h4⟩;omega)
        · exact .inl (by omega)
  unfold pushB
  by_cases h0:b.xs= []∨b.y1≤b.y0
  · rw [if_pos h0]
    by_cases h1:b.y0≤y∧y<b.y1
    · rw [if_pos h1]
      rcases h0 with h0 | h0
      · rw [h0];exact gx fun c hc=> .inr (by have:=hs c hc;omega)
      · omega
    · rw [if_neg h1]
  · rw [if_neg h0]
    cases hl:s.getLast? with
    | none=>
      have:s= []:=by simpa using hl
      subst this
      rfl
    | some c=>
      dsimp only
      have hsp:=me hl
      have hcm:c∈s:=by rw [hsp];simp
      by_cases h1:c.y1=b.y0∧c.xs=b.xs
      · rw [if_pos h1]
        have hd: ∀d∈s.dropLast,d.y1≤c.y0∨True:=fun _ _=> .inr trivial
        rw [kf]
        have hrow:rowAt s y=if (∃d∈s.dropLast,d.y0≤y∧y<d.y1) then rowAt s.dropLast y else (if c.y0≤y∧y<c.y1 then c.xs else []):=by
          conv=>lhs;rw [hsp]
          rw [kf];rfl
        rw [hrow]
        have hcg:=hg c hcm
        by_cases h2: ∃d∈s.dropLast,d.y0≤y∧y<d.y1
        · obtain⟨d,hd,hd2⟩:=h2
          have:=hs d (List.dropLast_subset _ hd)
          have he: ∃d∈s.dropLast,d.y0≤y∧y<d.y1:=⟨d,hd,hd2⟩
          rw [if_pos he,if_pos he,if_neg (by omega)]
        · rw [if_neg h2,if_neg h2]
          show (if c.y0≤y∧y<b.y1 then c.xs else [])=_
          by_cases h3:b.y0≤y∧y<b.y1
          · rw [if_pos h3,if_pos ⟨by omega,h3.2⟩,h1.2]
          · rw [if_neg h3]
            by_cases h4:c.y0≤y∧y<c.y1
            · rw [if_pos h4,if_pos ⟨h4.1,by omega⟩]
            · rw [if_neg h4,if_neg (by omega)]
      · rw [if_neg h1]
        exact key s b hs
theorem qS {s:List Bd} {b:Bd} (h:cE s) (hs: ∀c∈s,c.y1≤b.y0) (hb:iY b.xs) (he:b.xs.length % 2=0):cE (pushB s b):=by
  unfold pushB
  by_cases h0:b.xs= []∨b.y1≤b.y0
  · rw [if_pos h0];exact h
  · rw [if_neg h0]
    have hbg:b.y0<b.y1∧b.xs≠[]∧iY b.xs∧b.xs.length % 2=0:=⟨by omega,fun e=>h0 (.inl e),hb,he⟩
    cases hl:s.getLast? with
    | none=>exact⟨fun c hc=>by simp at hc;subst hc;exact hbg,List.pairwise_singleton _ _⟩
    | some c=>
      dsimp only
      have hsp:=me hl
      have hcm:c∈s:=by rw [hsp];simp
      have hc:=h.each c hcm
      have hord:=h.ord
      rw [hsp,List.pairwise_append] at hord
      by_cases h1:c.y1=b.y0∧c.xs=b.xs
      · rw [if_pos h1]
        refine⟨fun d hd=>?_,?_⟩
        · rcases List.mem_append.1 hd with hd | hd
          · exact h.each d (List.dropLast_subset _ hd)
          · simp at hd;subst hd;exact⟨by show c.y0<b.y1;omega,hc.2⟩
        · rw [List.pairwise_append]
          refine⟨hord.1,List.pairwise_singleton _ _,fun d hd e he=>?_⟩
          simp at he;subst he
          exact hord.2.2 d hd c (by simp)
      · rw [if_neg h1]
        refine⟨fun d hd=>?_,?_⟩
        · rcases List.mem_append.1 hd with hd | hd
          · exact h.each d hd
          · simp at hd;subst hd;exact hbg
        · rw [List.pairwise_append]
          refine⟨h.ord,List.pairwise_singleton _ _,fun d hd e he=>?_⟩
          simp at he;subst he
          refine⟨hs d hd,fun e1 e2=>?_⟩
          rw [hsp] at hd
          rcases List.mem_append.1 hd with hd | hd
          · have h2:=(hord.2.2 d hd c (by simp)).1
            have:=hs c hcm
            omega
          · simp at hd;subst hd;exact h1 ⟨e1,e2⟩
theorem qT {s:List Bd} {b:Bd} (hs: ∀c∈s,c.y1≤b.y0) (hb:b.y0≤b.y1): ∀c∈pushB s b,c.y1≤b.y1:=by
  intro c hc
  unfold pushB at hc
  split at hc
  · have:=hs c hc;omega
  · split at hc
    · split at hc
      · rcases List.mem_append.1 hc with hc | hc
        · have:=hs c (List.dropLast_subset _ hc);omega
        · simp at hc;subst hc;exact Int.le_refl _
      · rcases List.mem_append.1 hc with hc | hc
        · have:=hs c hc;omega
        · simp at hc;subst hc;exact Int.le_refl _
    · simp at hc;subst hc;exact Int.le_refl _
end Go.Gk
namespace Go.Gk
open Go
section
variable {N:Nat}
def aW (b:aA):Bd:=⟨b.Y0,b.Y1,b.Xs⟩
def small (a:Int):Prop:= -1099511627776≤a∧a≤1099511627776
structure wN (r:aC):Prop where
  x:r.X0<r.X1
  y:r.Y0<r.Y1
  s1:small r.X0
  s2:small r.X1
  s3:small r.Y0
  s4:small r.Y1
def xt (l:List aC) (x:Int):Bool:=l.any (fun r=>decide (r.X0≤x)&&decide (x<r.X1))
def oN (l:List aC) (x y:Int):Bool:=l.any (fun r=>(decide (r.X0≤x)&&decide (x<r.X1))&&(decide (r.Y0≤y)&&decide (y<r.Y1)))
theorem sM {l:List aC} {x:Int}:xt l x=true↔∃r∈l,r.X0≤x∧x<r.X1:=by unfold xt;simp [List.any_eq_true]
theorem fS {l:List aC} {x y:Int}:oN l x y=true↔∃r∈l,(r.X0≤x∧x<r.X1)∧r.Y0≤y∧y<r.Y1:=by unfold oN;simp [List.any_eq_true]
theorem wrap_small {a b:Int} (ha:small a) (hb:small b):IntKind.wrap .i64 (a - b)=a - b:=by unfold small at *;exact cS (by omega) (by omega)
theorem wh {n:Nat} (h:0<n) (hn:n≤4611686018427387904):IntKind.wrap .i64 (((n:Nat):Int) - 1)= ((n - 1:Nat):Int):=iT h hn
structure Fg (out:List Int) (m:List aC) (k:Nat):Prop where
  row: (k=0∧out= [])∨∃A s e,out=A++[s,e]∧iY A∧(∀c∈A,c<s)∧A.length % 2=0∧s<e∧∃j r,j<k∧m[j]? =some r∧s=r.X0
  jv: ∀x,jv out x=xt (m.take k) x
  len:out.length≤2*k
  mem: ∀c∈out,∃r∈m,c=r.X0∨c=r.X1
theorem qU (l:List aC) (r:aC) (x:Int):xt (l++[r]) x= (xt l x||(decide (r.X0≤x)&&decide (x<r.X1))):=by unfold xt;rw [List.any_append];simp
theorem uZ {l:List aC} (hl:l.length≤268435456) (hok: ∀r∈l,wN r): ∃row l',eL N l=some (row,l')∧l'.Perm l∧iY row∧row.length % 2=0∧(∀x,jv row x=xt l x)∧row.length≤2*l.length∧∀c∈row,∃r∈l,c=r.X0∨c=r.X1:=by
  unfold eL
  obtain⟨m,h1,h2,h3⟩:=sF (φ:=dG N) (l:=l) (fun a b=>a.X0 - b.X0) (fun a ha b hb=>by
    unfold dG;rw [wrap_small (hok a ha).s1 (hok b hb).s1]) (fun a _=>by omega) (fun a _ b _ c _ h1 h2=>by omega) (fun a _ b _ c _ h1 h2=>by omega) (by omega)
  have hml:m.length=l.length:=h2.length_eq
  have hmok: ∀r∈m,wN r:=fun r hr=>hok r (h2.subset hr)
  rw [h1,aB]
  obtain⟨out,a1,a2⟩:=rP (m:=m.length) (s:=([]:List Int)) (body:=fun(k32:Nat) (s33: (List Int))=>((idx m (k32:Int)).bind fun(x79:aC)=>(bif (decide ((IntKind.wrap .i64 ((s33.length:Int) - 1))≥0)) then ((idx s33 (IntKind.wrap .i64 ((s33.length:Int) - 1))).bind fun(x86:Int)=>some (decide (x79.X0≤x86))) else (some false)).bind fun(s84:Bool)=>(bif s84 then ((idx s33 (IntKind.wrap .i64 ((s33.length:Int) - 1))).bind fun(x94:Int)=>(idx s33 (IntKind.wrap .i64 ((s33.length:Int) - 1))).bind fun(x95:Int)=>some (s33.set (Int.toNat (IntKind.wrap .i64 ((s33.length:Int) - 1))) (if x94<x79.X1 then x79.X1 else x94))) else ((app 8 s33 ([x79.X0,x79.X1]: (List Int))).bind fun(x97: (List Int))=>some x97)).bind fun(s92: (List Int))=>some s92:Option ((List Int))))
    (fun k out=>Fg out m k) (by omega) ⟨.inl ⟨rfl,rfl⟩,fun x=>rfl,by simp,fun c hc=>by cases hc⟩ (fun k out hk ⟨i1,i2,i3,i4⟩=>by
      have hx:m[k]? =some m[k]:=List.getElem?_eq_getElem hk
      have hr:=hmok _ (List.getElem_mem hk)
      rw [gu hx,aB]
      have hts:m.take (k+1)=m.take k++[m[k]]:=List.take_succ_eq_append_getElem hk
      rcases i1 with ⟨rfl,rfl⟩ | ⟨A,s,e,rfl,hA,hAs,hAe,hse,j,r,hj,hjr,hsr⟩
      · rw [show decide (IntKind.wrap .i64 (((([]:List Int).length:Nat):Int) - 1)≥0)=false by decide,cond_false,aB,cond_false,fJ (by simp),aB,aB]
        refine⟨_,rfl, .inr ⟨[],_,_,rfl,List.Pairwise.nil,fun c hc=>by simp at hc,rfl,hr.x,0,m[0],by omega,hx,rfl⟩,fun x=>?_,by simp,fun c hc=>⟨m[0],List.getElem_mem hk,by simpa using hc⟩⟩
        rw [hts,qU,←i2 x]
        exact pP (l:=[]) (fun c hc=>by simp at hc) rfl hr.x x
      · have hlen: (A++[s,e]).length=A.length+2:=by simp
        have hwp:IntKind.wrap .i64 ((((A++[s,e]).length:Nat):Int) - 1)= ((A.length+1:Nat):Int):=by rw [wh (by omega) (by omega),hlen];rfl
        have hlast: (A++[s,e])[A.length+1]? =some e:=by rw [List.getElem?_append_right (by omega)];simp
        have hs:s≤m[k].X0:=by
          have:=List.pairwise_iff_getElem.1 h3 j k (by have:=(List.getElem?_eq_some_iff.1 hjr).1;omega) hk hj
          rw [hsr,←(List.getElem?_eq_some_iff.1 hjr).2];omega
        rw [hwp,decide_eq_true (by omega),cond_true,gu hlast,aB,aB]
        by_cases hc:m[k].X0≤e
        · rw [decide_eq_true hc,cond_true,aB,aB,aB,Int.toNat_natCast]
          have iN: (A++[s,e]).set (A.length+1) (if e<m[k].X1 then m[k].X1 else e)=A++[s,max e m[k].X1]:=by
            rw [List.set_append_right _ _ (by omega)]
            have:A.length+1 - A.length=1:=by omega
            rw [this,Int.max_def]
            simp only [List.set_cons_succ,List.set_cons_zero]
            congr 2
            split <;> split <;> simp <;> omega
          rw [iN]
          refine⟨_,rfl, .inr ⟨A,s,_,rfl,hA,hAs,hAe,by omega,j,r,by omega,hjr,hsr⟩,fun x=>?_,by simp at i3 ⊢;omega,fun c hc=>by
            rcases List.mem_append.1 hc with h | h
            · exact i4 c (List.mem_append_left _ h)
            · simp at h
              rcases h with h | h
              · exact i4 c (by simp [h])
              · rw [Int.max_def] at h
                split at h
                · exact⟨_,List.getElem_mem hk, .inr h⟩
                · exact i4 c (by simp [h])⟩
          rw [hts,qU,←i2 x]
          exact Aj hAs hAe hse hs hc hr.x x
        · rw [decide_eq_false hc,cond_false,fJ (by rw [hlen];simp;omega),aB,aB]
          have hall: ∀c∈A++[s,e],c<m[k].X0:=fun c hc'=>by
            rcases List.mem_append.1 hc' with h | h
            · have:=hAs c h;omega
            · simp at h;omega
          refine⟨_,rfl, .inr ⟨A++[s,e],_,_,rfl,hA.snoc hAs hse,hall,by rw [hlen];omega,hr.x,k,m[k],by omega,hx,rfl⟩,fun x=>?_,by simp at i3 ⊢;omega,fun c hc=>by
            rcases List.mem_append.1 hc with h | h
            · exact i4 c h
            · exact⟨m[k],List.getElem_mem hk,by simpa using h⟩⟩
          rw [hts,qU,←i2 x]
          exact pP hall (by rw [hlen];omega) hr.x x)
  rw [a1,aB]
  refine⟨out,m,rfl,h2,?_,?_,fun x=>?_,by rw [←hml];exact a2.len,fun c hc=>by obtain⟨r,hr,h⟩:=a2.mem c hc;exact⟨r,h2.subset hr,h⟩⟩
  · rcases a2.row with ⟨_,h⟩ | ⟨A,s,e,rfl,hA,hAs,hAe,hse,_⟩
    · rw [h];exact List.Pairwise.nil
    · exact hA.snoc hAs hse
  · rcases a2.row with ⟨_,h⟩ | ⟨A,s,e,rfl,hA,hAs,hAe,hse,_⟩
    · rw [h];rfl
    · simp;omega
  · rw [a2.jv x,List.take_length,Bool.eq_iff_iff,sM,sM]
    constructor
    · rintro⟨r,hr,h⟩;exact⟨r,h2.subset hr,h⟩
    · rintro⟨r,hr,h⟩;exact⟨r,h2.symm.subset hr,h⟩
theorem yM {l m:List Int} (hl:l.length≤4611686018427387904):hZ N l m=some (decide (l=m)):=tY hl
theorem x4 {s:List aA} {b:aA} (hs:s.length≤1048576000) (hx: ∀c∈s,c.Xs.length≤1048576000): ∃s',eG N s b=some s'∧s'.map aW=pushB (s.map aW) (aW b):=by
  unfold eG pushB
  by_cases h0:b.Xs= []∨b.Y1≤b.Y0
  · have e: ((((b.Xs.length:Nat):Int)==0)||(decide (b.Y1≤b.Y0)))=true:=by
      rw [Bool.or_eq_true]
      rcases h0 with h | h
      · left;rw [h];rfl
      · right;exact decide_eq_true h
    rw [e,cond_true,if_pos (show (aW b).xs= []∨(aW b).y1≤(aW b).y0 from h0)]
    exact⟨s,rfl,rfl⟩
  · have e: ((((b.Xs.length:Nat):Int)==0)||(decide (b.Y1≤b.Y0)))=false:=by
      rw [Bool.or_eq_false_iff]
      constructor
      · rw [beq_eq_false_iff_ne];intro h;exact h0 (.inl (List.eq_nil_of_length_eq_zero (by omega)))
      · exact decide_eq_false fun h=>h0 (.inr h)
    rw [e,cond_false,if_neg (show ¬((aW b).xs= []∨(aW b).y1≤(aW b).y0) from h0)]
    rcases List.eq_nil_or_concat s with rfl | ⟨A,c,hA⟩
    · rw [show decide (IntKind.wrap .i64 (((([]:List aA).length:Nat):Int) - 1)≥0)=false by decide,cond_false,aB,cond_false,fJ (by simp),aB]
      exact⟨_,rfl,rfl⟩
    · rw [List.concat_eq_append] at hA
      subst hA
      have hlen: (A++[c]).length=A.length+1:=by simp
      have hwp:IntKind.wrap .i64 ((((A++[c]).length:Nat):Int) - 1)= ((A.length:Nat):Int):=by rw [wh (by omega) (by omega),hlen];rfl
      have hlast: (A++[c])[A.length]? =some c:=by simp
      rw [hwp,decide_eq_true (by omega),cond_true,gu hlast,aB,aB,yM (by have:=hx c (by simp);omega),aB,aB,Int.toNat_natCast,fJ (by rw [hlen];simp;omega),aB]
      have hl2: ((A++[c]).map aW).getLast? =some (aW c):=by simp
      have hd2: ((A++[c]).map aW).dropLast=A.map aW:=by simp
      rw [hl2,hd2]
      dsimp only
      by_cases h1:c.Y1=b.Y0∧c.Xs=b.Xs
      · rw [if_pos (show (aW c).y1= (aW b).y0∧(aW c).xs= (aW b).xs from h1),show (c.Y1==b.Y0)=true by rw [h1.1];simp,cond_true,decide_eq_true h1.2,aB,cond_true]
        refine⟨_,rfl,?_⟩
        rw [List.set_append_right _ _ (Nat.le_refl _),Nat.sub_self]
        simp [aW]
      · rw [if_neg (show ¬((aW c).y1= (aW b).y0∧(aW c).xs= (aW b).xs) from h1)]
        have e2: (bif (c.Y1==b.Y0) then (some (decide (c.Xs=b.Xs))) else (some false))=some false:=by
          by_cases h2:c.Y1=b.Y0
          · rw [show (c.Y1==b.Y0)=true by rw [h2];simp,cond_true,decide_eq_false (fun h=>h1 ⟨h2,h⟩)]
          · rw [show (c.Y1==b.Y0)=false by simpa using h2,cond_false]
        rw [e2,aB,cond_false]
        exact⟨_,rfl,by simp⟩
end
end Go.Gk
namespace Go.Gk
open Go
def kY (l:List (Int×Int)):List Int:=l.flatMap fun s=>[s.1,s.2]
def yN (l:List (Int×Int)) (x:Int):Bool:=l.any fun s=>decide (s.1≤x)&&decide (x<s.2)
theorem jB (s:Int×Int) (l:List (Int×Int)):kY (s::l)=s.1::s.2::kY l:=rfl
theorem yO (l:List (Int×Int)): (kY l).length=2*l.length:=by
  induction l with
  | nil=>rfl
  | cons s l ih=>rw [jB,List.length_cons,List.length_cons,List.length_cons,ih];omega
theorem yP (s:Int×Int) (l:List (Int×Int)) (x:Int):yN (s::l) x= ((decide (s.1≤x)&&decide (x<s.2))||yN l x):=rfl
theorem sN {l:List (Int×Int)} {x:Int}:yN l x=true↔∃s∈l,s.1≤x∧x<s.2:=by
  unfold yN;simp
theorem yQ {a b:Int} {m:List Int} (h:iY (a::b::m)) (x:Int):jv (a::b::m) x= ((decide (a≤x)&&decide (x<b))||jv m x):=by
  have hab:a<b:=h.head b (by simp)
  have hm:=h.tail.head
  rw [Bool.eq_iff_iff,Bool.or_eq_true,Bool.and_eq_true,decide_eq_true_eq,decide_eq_true_eq,pM,pM,jN,jN]
  by_cases h1:a≤x
  · rw [if_pos h1]
    by_cases h2:b≤x
    · rw [if_pos h2];omega
    · rw [if_neg h2,sH (fun c hc=>by have:=hm c hc;omega)];omega
  · rw [if_neg h1,if_neg (by omega)];omega
theorem pQ: ∀{l:List (Int×Int)},iY (kY l)→∀x,jv (kY l) x=yN l x
  | [],_,x=>rfl
  | s::l,h,x=>by
    rw [jB] at h ⊢
    rw [yQ h,yP,pQ h.tail.tail]
end Go.Gk
namespace Go.Gk
open Go
end Go.Gk
namespace Go.Gk
open Go
def Ok {β:Type} (o:Option β) (P:β→Prop):Prop:=∃r,o=some r∧P r
section
variable {α β S R:Type} {P:α→Prop} {Q:β→Prop}
theorem Ok.ret {x:β} (h:Q x):Ok (some x) Q:=⟨x,rfl,h⟩
theorem Ok.of {o:Option β} {x:β} (h:o=some x) (hq:Q x):Ok o Q:=⟨x,h,hq⟩
theorem Ok.mono {o:Option α} {P':α→Prop} (h:Ok o P) (k: ∀x,P x→P' x):Ok o P':=by obtain⟨x,h1,h2⟩:=h;exact⟨x,h1,k x h2⟩
theorem Ok.bind {o:Option α} {f:α→Option β} (h:Ok o P) (k: ∀x,P x→Ok (f x) Q):Ok (o.bind f) Q:=by
  obtain⟨x,h1,h2⟩:=h;rw [h1];exact k x h2
theorem Ok.eq {o:Option α} {f:α→Option β} {x:α} (h:o=some x) (k:Ok (f x) Q):Ok (o.bind f) Q:=by rw [h];exact k
theorem Ok.bif {b:Bool} {x y:Option β} (ht:b=true→Ok x Q) (hf:b=false→Ok y Q):Ok (bif b then x else y) Q:=by
  cases b with
  | true=>exact ht rfl
  | false=>exact hf rfl
theorem Ok.get {o:Option β} {x:β} (h:Ok o (fun r=>r=x)):o=some x:=by obtain⟨r,h1,h2⟩:=h;rw [h1,h2]
def DV (Go:S→Prop) (Rt:R→Prop):Fo S R→Prop | .go s=>Go s | .rt r=>Rt r
def CA (Nx Br:S→Prop) (Rt:R→Prop):Fl S R→Prop | .nx s=>Nx s | .br s=>Br s | .rt r=>Rt r
theorem Ok.nx {Nx Br:S→Prop} {Rt:R→Prop} {s:S} (h:Nx s):Ok (some (Fl.nx s)) (CA Nx Br Rt):=⟨_,rfl,h⟩
theorem Ok.br {Nx Br:S→Prop} {Rt:R→Prop} {s:S} (h:Br s):Ok (some (Fl.br s)) (CA Nx Br Rt):=⟨_,rfl,h⟩
theorem Ok.rt {Nx Br:S→Prop} {Rt:R→Prop} {r:R} (h:Rt r):Ok (some (Fl.rt r:Fl S R)) (CA Nx Br Rt):=⟨_,rfl,h⟩
theorem Ok.cs {Go:S→Prop} {Rt:R→Prop} {o:Fo S R} {f:S→Option β} {g:R→Option β} (h:DV Go Rt o) (hf: ∀s,Go s→Ok (f s) Q) (hg: ∀r,Rt r→Ok (g r) Q):Ok (o.cs f g) Q:=by
  cases o with
  | go s=>exact hf s h
  | rt r=>exact hg r h
theorem Ok.iz {body:Nat→S→Option S} {m:Nat} {s:S} (Inv:Nat→S→Prop) (hm:m≤4611686018427387904) (h0:Inv 0 s) (h: ∀k s,k<m→Inv k s→Ok (body k s) (Inv (k+1))):Ok (iz m body s) (Inv m):=
  rP Inv hm h0 h
theorem Ok.nM {body:Nat→S→Option (Fl S R)} {m:Nat} {s:S} (Inv:Nat→S→Prop) {Go:S→Prop} {Rt:R→Prop} (hm:m≤4611686018427387904) (h0:Inv 0 s)
    (h: ∀k s,k<m→Inv k s→Ok (body k s) (CA (Inv (k+1)) Go Rt)) (hg: ∀s,Inv m s→Go s):Ok (nM m body s) (DV Go Rt):=by
  obtain⟨o,h1,h2⟩:=Bo (R:=R) Inv Go Rt hm h0 (fun k s hk hi=>by
    obtain⟨fl,a1,a2⟩:=h k s hk hi
    exact⟨fl,a1,by cases fl <;> exact a2⟩) hg
  exact⟨o,h1,by cases o <;> exact h2⟩
theorem Ok.itr {body:S→Option (Fl S R)} {N:Nat} {s:S} (Inv:S→Prop) (μ:S→Nat) {Go:S→Prop} {Rt:R→Prop}
    (h: ∀s,Inv s→Ok (body s) (CA (fun s'=>Inv s'∧μ s'<μ s) Go Rt)) (hi:Inv s) (hn:μ s<N):Ok (itr body N s) (DV Go Rt):=by
  obtain⟨o,h1,h2⟩:=itr_inv (R:=R) Inv μ Go Rt (fun s hi=>by
    obtain⟨fl,a1,a2⟩:=h s hi
    exact⟨fl,a1,by cases fl <;> exact a2⟩) N s hi hn
  exact⟨o,h1,by cases o <;> exact h2⟩
theorem Ok.app {b:Nat} {l ys:List α} {f:List α→Option β} (h: (l.length+ys.length)*b≤140737488355328) (k:Ok (f (l++ys)) Q):Ok ((Go.Gk.app b l ys).bind f) Q:=by rw [fJ h];exact k
theorem Ok.idx {l:List α} {i:Nat} {f:α→Option β} (h:i<l.length) (k:Ok (f l[i]) Q):Ok ((Go.Gk.idx l ((i:Nat):Int)).bind f) Q:=by rw [fI l i h];exact k
theorem Ok.ix {l:List α} {i:Nat} {x:α} {f:α→Option β} (h:l[i]? =some x) (k:Ok (f x) Q):Ok ((Go.Gk.idx l ((i:Nat):Int)).bind f) Q:=by rw [gu h];exact k
end
theorem sO {n:Nat} (h:n≤4611686018427387904):IntKind.wrap .i64 ((n:Nat):Int)= ((n:Nat):Int):=cS (by omega) (by omega)
theorem wrap_add {n m:Nat} (h:n+m≤4611686018427387904):IntKind.wrap .i64 (((n:Nat):Int)+ ((m:Nat):Int))= ((n+m:Nat):Int):=by rw [cS (by omega) (by omega)];simp
theorem eQ {n:Nat} (h:n+1≤4611686018427387904):IntKind.wrap .i64 (((n:Nat):Int)+1)= ((n+1:Nat):Int):=by rw [cS (by omega) (by omega)];simp
theorem t6 {n:Nat} (h:n+2≤4611686018427387904):IntKind.wrap .i64 (((n:Nat):Int)+2)= ((n+2:Nat):Int):=by rw [cS (by omega) (by omega)];simp
theorem eN {α:Type} [DecidableEq α]: ∀{l m:List α},l.Nodup→(∀x∈l,x∈m)→l.length≤m.length
  | [],m,_,_=>Nat.zero_le _
  | a::l,m,hn,hs=>by
    have ha:a∈m:=hs a (by simp)
    have hn':=List.nodup_cons.1 hn
    have:=eN (l:=l) (m:=m.erase a) hn'.2 (fun x hx=>by
      rw [List.mem_erase_of_ne (fun e=>hn'.1 (by rw [←e];exact hx))]
      exact hs x (List.mem_cons_of_mem _ hx))
    rw [List.length_erase_of_mem ha] at this
    have:=List.length_pos_of_mem ha
    simp;omega
section
variable {α:Type} {N:Nat}
def DD (z:α) (N:Nat) (p0:List α) (p1:α→Option Bool):Option (List α):=
  (ma p0 p1).bind fun(x31:Int)=>bif (x31==(-1)) then (some p0) else ((itr (fun(s33: (List α)×Int×Int)=>(bif (decide (s33.2.2< (s33.1.length:Int))) then ((idx s33.1 s33.2.2).bind fun(x54:α)=>(p1 x54).bind fun(x58:Bool)=>(bif (!x58) then ((idx s33.1 s33.2.1).bind fun(x63:α)=>some ((s33.1.set (Int.toNat s33.2.1) x54),(IntKind.wrap .i64 (s33.2.1+1)))) else (some (s33.1,s33.2.1))).bind fun(s61: (List α)×Int)=>some (.nx (s61.1,s61.2,(IntKind.wrap .i64 (s33.2.2+1))))) else (some (.br (s33.1,s33.2.1,s33.2.2))):Option (Fl ((List α)×Int×Int) Empty))) N (p0,x31,(IntKind.wrap .i64 (x31+1)))).bind fun(o67:Fo ((List α)×Int×Int) Empty)=>o67.cs (fun(s33: (List α)×Int×Int)=>(oZ s33.1 s33.2.1 (s33.1.length:Int)).bind fun(x64: (List α))=>(oZ (s33.1.take (Int.toNat s33.2.1)++List.replicate (s33.1.length - Int.toNat s33.2.1) z) 0 s33.2.1).bind fun(x65: (List α))=>some x65) (fun r=>r.elim))
theorem Ak {z:α} {l:List α} {φ:α→Option Bool} (p:α→Bool) (hφ: ∀x∈l,φ x=some (p x)) (hl:l.length≤4611686018427387000) (hN:l.length<N):DD z N l φ=some (l.filter (fun x=> !p x)):=by
  unfold DD
  rw [oh p (by omega) hφ,aB]
  rcases qB l p with ⟨h1,h2⟩ | ⟨k,x,h1,h2,h3,h4⟩
  · rw [h1]
    have:l.filter (fun x=> !p x)=l:=List.filter_eq_self.2 fun a ha=>by rw [h2 a ha];rfl
    rw [this];rfl
  · rw [h1,show (((k:Nat):Int)== -1)=false by simp,cond_false]
    have hk:=(List.getElem?_eq_some_iff.1 h2).1
    have hpre: (l.take k).filter (fun x=> !p x)=l.take k:=List.filter_eq_self.2 fun a ha=>by
      obtain⟨j,hj⟩:=List.getElem?_of_mem ha
      have hjk:j<k:=by have:=(List.getElem?_eq_some_iff.1 hj).1;rw [List.length_take] at this;omega
      rw [List.getElem?_take_of_lt hjk] at hj
      rw [h4 j a hjk hj];rfl
    have hst:l.take (k+1)=l.take k++[x]:=by
      rw [List.take_succ_eq_append_getElem hk];congr 1
      have:=(List.getElem?_eq_some_iff.1 h2).2;rw [this]
    have hk1:IntKind.wrap .i64 (((k:Nat):Int)+1)= ((k+1:Nat):Int):=by rw [cS (by omega) (by omega)];omega
    rw [hk1]
    obtain⟨o,a1,a2⟩:=itr_inv (S:=(List α)×Int×Int) (R:=Empty) (body:=fun(s33: (List α)×Int×Int)=>(bif (decide (s33.2.2< (s33.1.length:Int))) then ((idx s33.1 s33.2.2).bind fun(x54:α)=>(φ x54).bind fun(x58:Bool)=>(bif (!x58) then ((idx s33.1 s33.2.1).bind fun(x63:α)=>some ((s33.1.set (Int.toNat s33.2.1) x54),(IntKind.wrap .i64 (s33.2.1+1)))) else (some (s33.1,s33.2.1))).bind fun(s61: (List α)×Int)=>some (.nx (s61.1,s61.2,(IntKind.wrap .i64 (s33.2.2+1))))) else (some (.br (s33.1,s33.2.1,s33.2.2))):Option (Fl ((List α)×Int×Int) Empty)))
      (fun s=>∃i j:Nat,s.2.1= ((i:Nat):Int)∧s.2.2= ((j:Nat):Int)∧i<j∧j≤l.length∧s.1.length=l.length∧s.1.take i= (l.take j).filter (fun x=> !p x)∧∀m,j≤m→s.1[m]? =l[m]?)
      (fun s=>l.length - s.2.2.toNat) (fun s=>∃i:Nat,s.2.1= ((i:Nat):Int)∧i≤l.length∧s.1.length=l.length∧s.1.take i=l.filter (fun x=> !p x)) (fun _=>True) (fun s ⟨i,j,e1,e2,hij,hj,hlen,ht,hd⟩=>by
        obtain⟨s,a,b⟩:=s
        dsimp only at e1 e2 hlen ht hd ⊢
        subst e1;subst e2
        by_cases hlt:j<l.length
        · rw [decide_eq_true (by rw [hlen];omega),cond_true]
          have hx:s[j]? =some l[j]:=by rw [hd j (Nat.le_refl _)];exact List.getElem?_eq_getElem hlt
          have w1:IntKind.wrap .i64 (((j:Nat):Int)+1)= ((j+1:Nat):Int):=by rw [cS (by omega) (by omega)];omega
          have w2:IntKind.wrap .i64 (((i:Nat):Int)+1)= ((i+1:Nat):Int):=by rw [cS (by omega) (by omega)];omega
          have hs2:l.take (j+1)=l.take j++[l[j]]:=List.take_succ_eq_append_getElem hlt
          rw [gu hx,aB,hφ _ (List.getElem_mem hlt),aB,w1]
          cases hp:p l[j] with
          | true=>
            refine⟨.nx (s,((i:Nat):Int),((j+1:Nat):Int)),by rw [Bool.not_true,cond_false,aB],⟨i,j+1,rfl,rfl,by omega,by omega,hlen,?_,fun m hm=>hd m (by omega)⟩,?_⟩
            · rw [hs2,List.filter_append,ht];simp [hp]
            · simp only [Int.toNat_natCast];omega
          | false=>
            refine⟨.nx (s.set i l[j],((i+1:Nat):Int),((j+1:Nat):Int)),by rw [Bool.not_false,cond_true,fI _ _ (by omega),aB,Int.toNat_natCast,w2,aB],⟨i+1,j+1,rfl,rfl,by omega,by omega,by simp [hlen],?_,fun m hm=>?_⟩,?_⟩
            · rw [hs2,List.filter_append,←ht]
              have: (s.set i l[j]).take (i+1)=s.take i++[l[j]]:=by
                rw [List.take_succ_eq_append_getElem (by simp;omega),List.take_set_of_le (Nat.le_refl _)];simp
              rw [this];simp [hp]
            · rw [List.getElem?_set,if_neg (by omega)];exact hd m (by omega)
            · simp only [Int.toNat_natCast];omega
        · rw [decide_eq_false (by rw [hlen];omega),cond_false]
          have hje:j=l.length:=by omega
          subst hje
          rw [List.take_length] at ht
          exact⟨.br (s,((i:Nat):Int),((l.length:Nat):Int)),rfl,i,rfl,by omega,hlen,ht⟩)
      N (l,((k:Nat):Int),((k+1:Nat):Int)) ⟨k,k+1,rfl,rfl,by omega,by omega,rfl,by rw [hst,List.filter_append,hpre];simp [h3],fun _ _=>rfl⟩ (by simp only [Int.toNat_natCast];omega)
    rw [a1,aB]
    cases o with
    | rt r=>exact r.elim
    | go s=>
      obtain⟨i,e1,hi,hlen,ht⟩:=a2
      obtain⟨s,a,b⟩:=s
      dsimp only at e1 hlen ht
      subst e1
      simp only [Fo.cs]
      rw [pw _ _ (by omega),aB,Int.toNat_natCast,pr _ _ (by simp;omega),aB,List.take_append_of_le_length (by simp;omega),List.take_take,Nat.min_self,ht]
end
section
variable {κ ν:Type} [DecidableEq κ]
theorem qV (m:List (κ×ν)) (k k':κ) (x z:ν):mget (mput m k x) k' z=if k'=k then x else mget m k' z:=by
  induction m with
  | nil=>unfold mput mget;by_cases h:k'=k <;> simp [h]
  | cons p m ih=>
    unfold mput
    by_cases h:k=p.1
    · rw [if_pos h]
      by_cases h':k'=k
      · subst h';simp [mget]
      · simp only [mget,List.find?_cons,if_neg h',decide_eq_false h']
        rw [decide_eq_false (fun e=>h' (e.trans h.symm))]
    · rw [if_neg h]
      by_cases h':k'=p.1
      · have:k'≠k:=fun e=>h (e.symm.trans h')
        simp only [mget,List.find?_cons,decide_eq_true h',if_neg this]
      · unfold mget at ih ⊢
        simp only [List.find?_cons,decide_eq_false h']
        exact ih
theorem yR (m:List (κ×ν)) (k k':κ) (x:ν):my (mput m k x) k'= (decide (k'=k)||my m k'):=by
  induction m with
  | nil=>unfold mput my;simp
  | cons p m ih=>
    unfold mput
    by_cases h:k=p.1
    · rw [if_pos h]
      by_cases h':k'=k
      · simp [my,h']
      · simp only [my,List.any_cons,decide_eq_false h',Bool.false_or]
        rw [decide_eq_false (fun e=>h' (e.trans h.symm)),Bool.false_or]
    · rw [if_neg h]
      unfold my at ih ⊢
      simp only [List.any_cons]
      rw [ih]
      cases decide (k'=p.1) <;> cases decide (k'=k) <;> simp
end
end Go.Gk
namespace Go.Gk
open Go
section
variable {N:Nat}
theorem sP (l:List Int) (a b:Nat) (h:a+b<l.length):wY l ((a:Nat):Int) ((b:Nat):Int)=some l[a+b]:=by
  unfold wY
  rw [if_pos (by omega),show ((a:Nat):Int)+ ((b:Nat):Int)= ((a+b:Nat):Int) by omega,fI _ _ h]
theorem iY.Al {l:List Int} {a:Int} (h:iY l) (hl: ∀c∈l,c<a):iY (l++[a]):=by
  unfold iY
  rw [List.pairwise_append]
  exact⟨h,List.pairwise_singleton _ _,fun c hc d hd=>by simp at hd;subst hd;exact hl c hc⟩
theorem iY.last {l:List Int} {a:Int} (h:iY l) (hl:l.getLast? =some a): ∀c∈l,c≤a:=by
  intro c hc
  have hs:=me hl
  rw [hs] at h hc
  rcases List.mem_append.1 hc with h1 | h1
  · have:=(List.pairwise_append.1 h).2.2 c h1 a (by simp);omega
  · simp at h1;omega
theorem u3 {l:List Int} (hs:l.Pairwise (fun x y=>x≤y)) (hl:l.length≤4611686018427387000) (hN:l.length<N):
    Ok (dF N l) (fun m=>iY m∧∀c,c∈m↔c∈l):=by
  unfold dF
  refine Ok.bif (fun h2=>Ok.ret ⟨?_,fun c=>Iff.rfl⟩) (fun h2=>?_)
  · have h2:=of_decide_eq_true h2
    match l,h2 with
    | [],_=>exact List.Pairwise.nil
    | [a],_=>exact List.pairwise_singleton _ _
    | a::b::l,h2=>simp at h2;omega
  · have h2:=of_decide_eq_false h2
    have le: ∀(i j:Nat) (x y:Int),i<j→l[i]? =some x→l[j]? =some y→x≤y:=fun i j x y hij hx hy=>by
      have:=List.pairwise_iff_getElem.1 hs i j (List.getElem?_eq_some_iff.1 hx).1 (List.getElem?_eq_some_iff.1 hy).1 hij
      rw [(List.getElem?_eq_some_iff.1 hx).2,(List.getElem?_eq_some_iff.1 hy).2] at this;exact this
    refine Ok.bind (Ok.itr (Go:=fun _=>iY l) (Rt:=fun m=>iY m∧∀c,c∈m↔c∈l) (fun s=>∃k:Nat,s= ((k:Nat):Int)∧1≤k∧k≤l.length∧iY (l.take k)) (fun s=>l.length - s.toNat) ?_ ⟨1,rfl,Nat.le_refl _,by omega,?_⟩ (by simp;omega)) ?_
    · rintro s ⟨k,rfl,hk1,hkl,hinc⟩
      refine Ok.bif (fun h=>?_) (fun h=>Ok.br ?_)
      · have hk:k<l.length:=by have:=of_decide_eq_true h;omega
        refine Ok.idx hk ?_
        rw [iT hk1 (by omega)]
        refine Ok.idx (by omega) ?_
        refine Ok.bif (fun he=>?_) (fun he=>?_)
        · have he:l[k]=l[k - 1]:=by simpa using he
          refine Ok.eq (pw l k hkl) ?_
          refine Ok.bind (Ok.itr (Go:=fun s=>∃i:Nat,s.2.1= ((i:Nat):Int)∧i≤l.length∧s.1.length=l.length∧iY (s.1.take i)∧∀c,c∈s.1.take i↔c∈l) (Rt:=fun _=>True)
            (fun s=>∃i j:Nat,s.2.1= ((i:Nat):Int)∧s.2.2= ((j:Nat):Int)∧1≤j∧k+j≤l.length∧i≤k+j - 1∧s.1.length=l.length∧iY (s.1.take i)∧(s.1.take i).getLast? =l[k+j - 1]? ∧
              (∀c,c∈s.1.take i↔c∈l.take (k+j))∧∀m,k+j - 1≤m→s.1[m]? =l[m]?) (fun s=>l.length - s.2.2.toNat) ?_ ?_ (by simp;omega)) ?_
          · rintro⟨u,a,b⟩ ⟨i,j,e1,e2,hj,hjl,hij,hlen,hi,hlast,hmem,hrest⟩
            dsimp only at e1 e2 hlen hi hlast hmem hrest ⊢
            subst e1;subst e2
            rw [Int.toNat_natCast]
            refine Ok.bif (fun h=>?_) (fun h=>Ok.br ?_)
            · have hlt:k+j<l.length:=by have:=of_decide_eq_true h;omega
              have hx:u[k+j]'(by omega)=l[k+j]:=by have:=hrest (k+j) (by omega);rw [List.getElem?_eq_getElem (by omega),List.getElem?_eq_getElem hlt] at this;injection this
              have hy:u[k+ (j - 1)]'(by omega)=l[k+ (j - 1)]:=by have:=hrest (k+ (j - 1)) (by omega);rw [List.getElem?_eq_getElem (by omega),List.getElem?_eq_getElem (by omega)] at this;injection this
              refine Ok.eq (sP u k j (by omega)) ?_
              rw [iT hj (by omega)]
              refine Ok.eq (sP u k (j - 1) (by omega)) ?_
              rw [hx,hy]
              have hts:l.take (k+j+1)=l.take (k+j)++[l[k+j]]:=List.take_succ_eq_append_getElem hlt
              have hlast': (u.take i).getLast? =some l[k+ (j - 1)]:=by rw [hlast,show k+j - 1=k+ (j - 1) by omega,List.getElem?_eq_getElem (by omega)]
              have hxy:l[k+ (j - 1)]≤l[k+j]:=le (k+ (j - 1)) (k+j) _ _ (by omega) (List.getElem?_eq_getElem _) (List.getElem?_eq_getElem _)
              refine Ok.bind (P:=fun s'=>s'.1.length=l.length∧∃i':Nat,s'.2= ((i':Nat):Int)∧i'≤k+j∧iY (s'.1.take i')∧(s'.1.take i').getLast? =l[k+j]? ∧(∀c,c∈s'.1.take i'↔c∈l.take (k+j+1))∧∀m,k+j≤m→s'.1[m]? =l[m]?) ?_ ?_
              · refine Ok.bif (fun hne=>?_) (fun hne=>Ok.ret ?_)
                · have hne:l[k+j]≠l[k+ (j - 1)]:=by simpa using hne
                  refine Ok.eq (sP u k j (by omega)) ?_
                  rw [hx]
                  refine Ok.idx (by omega) (Ok.ret ⟨by simp [hlen],i+1,?_,by omega,?_⟩)
                  · rw [eQ (by omega)]
                  · dsimp only
                    rw [Int.toNat_natCast]
                    have ht: (u.set i l[k+j]).take (i+1)=u.take i++[l[k+j]]:=by
                      rw [List.take_succ_eq_append_getElem (by simp;omega),List.take_set_of_le (Nat.le_refl _)];simp
                    rw [ht]
                    refine⟨hi.Al fun c hc=>?_,by simp [List.getElem?_eq_getElem hlt],fun c=>?_,fun m hm=>?_⟩
                    · have:=hi.last hlast' c hc;omega
                    · rw [hts,List.mem_append,List.mem_append,hmem]
                    · rw [List.getElem?_set,if_neg (by omega)];exact hrest m (by omega)
                · have he:l[k+j]=l[k+ (j - 1)]:=by simpa using hne
                  refine⟨hlen,i,rfl,by omega,hi,?_,fun c=>?_,fun m hm=>hrest m (by omega)⟩
                  · dsimp only;rw [hlast',List.getElem?_eq_getElem hlt,he]
                  · rw [hts,List.mem_append,←hmem]
                    constructor
                    · exact .inl
                    · rintro(h | h)
                      · exact h
                      · simp at h;subst h
                        rw [he];exact List.mem_of_getLast? hlast'
              · rintro⟨v,a⟩ ⟨g1,i',g2,g3,g4,g5,g6,g7⟩
                dsimp only at g1 g2 g4 g5 g6 g7 ⊢
                refine Ok.nx ⟨⟨i',j+1,g2,?_,by omega,by omega,by omega,g1,g4,?_,g6,fun m hm=>g7 m (by omega)⟩,?_⟩
                · rw [eQ (by omega)]
                · rw [show k+ (j+1) - 1=k+j by omega];exact g5
                · rw [eQ (by omega)];simp only [Int.toNat_natCast];omega
            · have hge:k+j=l.length:=by have:=of_decide_eq_false h;omega
              refine⟨i,rfl,by omega,hlen,hi,fun c=>?_⟩
              rw [hmem,hge,List.take_length]
          · refine⟨k,1,rfl,rfl,Nat.le_refl _,by omega,by omega,rfl,hinc,?_,fun c=>?_,fun m _=>rfl⟩
            · dsimp only
              rw [show k+1 - 1=k by omega,List.getElem?_eq_getElem hk,he,List.getLast?_eq_getElem?,List.length_take,Nat.min_eq_left hkl,List.getElem?_take_of_lt (by omega),List.getElem?_eq_getElem (by omega)]
            · dsimp only
              rw [List.take_succ_eq_append_getElem hk,List.mem_append]
              constructor
              · exact .inl
              · rintro(h | h)
                · exact h
                · simp at h;subst h;rw [he]
                  refine List.mem_of_getElem? (i:=k - 1) ?_
                  rw [List.getElem?_take_of_lt (by omega),List.getElem?_eq_getElem (by omega)]
          · rintro o ho
            refine Ok.cs ho ?_ (fun r=>r.elim)
            rintro⟨u,a,b⟩ ⟨i,e1,hi,hlen,hinc',hmem⟩
            dsimp only at e1 hlen hinc' hmem ⊢
            subst e1
            refine Ok.eq (pw u i (by omega)) ?_
            rw [Int.toNat_natCast]
            refine Ok.eq (pr _ i (by simp;omega)) (Ok.rt ?_)
            rw [List.take_append_of_le_length (by simp;omega),List.take_take,Nat.min_self]
            exact⟨hinc',hmem⟩
        · have he:l[k]≠l[k - 1]:=by simpa using he
          refine Ok.nx ⟨⟨k+1,by rw [eQ (by omega)],by omega,by omega,?_⟩,by rw [eQ (by omega)];simp only [Int.toNat_natCast];omega⟩
          rw [List.take_succ_eq_append_getElem hk]
          refine hinc.Al fun c hc=>?_
          have hlast: (l.take k).getLast? =some l[k - 1]:=by
            rw [List.getLast?_eq_getElem?,List.length_take,Nat.min_eq_left hkl,List.getElem?_take_of_lt (by omega),List.getElem?_eq_getElem (by omega)]
          have h3:=hinc.last hlast c hc
          have h4:=le (k - 1) k _ _ (by omega) (List.getElem?_eq_getElem (by omega:k - 1<l.length)) (List.getElem?_eq_getElem hk)
          omega
      · have hge:k=l.length:=by have:=of_decide_eq_false h;omega
        subst hge;rw [List.take_length] at hinc;exact hinc
    · match l,h2 with
      | [],h2=>simp at h2
      | a::l,_=>exact List.pairwise_singleton _ _
    · rintro o ho
      exact Ok.cs ho (fun s h=>Ok.ret ⟨h,fun c=>Iff.rfl⟩) (fun r h=>Ok.ret h)
def lT (l:List aC):List Int:=l.flatMap fun r=>[r.X0,r.X1]
def iG (l:List aC):List Int:=l.flatMap fun r=>[r.Y0,r.Y1]
theorem kG {l:List aC} {c:Int}:c∈lT l↔∃r∈l,c=r.X0∨c=r.X1:=by unfold lT;simp [List.mem_flatMap]
theorem gj {l:List aC} {c:Int}:c∈iG l↔∃r∈l,c=r.Y0∨c=r.Y1:=by unfold iG;simp [List.mem_flatMap]
theorem gD (l:List aC): (lT l).length=2*l.length:=by
  induction l with
  | nil=>rfl
  | cons r l ih=>unfold lT at *;simp [List.flatMap_cons,ih];omega
theorem fp (l:List aC): (iG l).length=2*l.length:=by
  induction l with
  | nil=>rfl
  | cons r l ih=>unfold iG at *;simp [List.flatMap_cons,ih];omega
def oW (X Y:List Int) (s:List Bd):Prop:=∀b∈s,b.y0∈Y∧b.y1∈Y∧∀c∈b.xs,c∈X
theorem oW.push {X Y:List Int} {s:List Bd} {b:Bd} (h:oW X Y s) (h0:b.y0∈Y) (h1:b.y1∈Y) (h2: ∀c∈b.xs,c∈X):oW X Y (pushB s b):=by
  intro c hc
  unfold pushB at hc
  split at hc
  · exact h c hc
  · split at hc
    · rename_i d hd
      have hdm:d∈s:=List.mem_of_getLast? hd
      split at hc
      · rcases List.mem_append.1 hc with hc | hc
        · exact h c (List.dropLast_subset _ hc)
        · simp at hc;subst hc;exact⟨(h d hdm).1,h1,(h d hdm).2.2⟩
      · rcases List.mem_append.1 hc with hc | hc
        · exact h c hc
        · simp at hc;subst hc;exact⟨h0,h1,h2⟩
    · simp at hc;subst hc;exact⟨h0,h1,h2⟩
theorem iY.nodup {l:List Int} (h:iY l):l.Nodup:=List.Pairwise.imp (fun h=>by omega) h
theorem oW.row {X Y:List Int} {s:List Bd} (h:oW X Y s) (hc:cE s) {b:Bd} (hb:b∈s):b.xs.length≤X.length:=eN (hc.each b hb).2.2.1.nodup (h b hb).2.2
theorem oW.len {X Y:List Int} {s:List Bd} (h:oW X Y s) (hc:cE s):s.length≤Y.length:=by
  have hn: (s.map Bd.y0).Nodup:=by
    unfold List.Nodup
    rw [List.pairwise_map]
    refine List.Pairwise.imp_of_mem (fun{a b} ha hb hab=>?_) hc.ord
    have:=(hc.each a ha).1
    have:=hab.1
    omega
  have:=eN hn (m:=Y) (fun x hx=>by
    obtain⟨b,hb,rfl⟩:=List.mem_map.1 hx
    exact(h b hb).1)
  rwa [List.length_map] at this
theorem oW.mono {X Y X' Y':List Int} {s:List Bd} (h:oW X Y s) (hx: ∀c∈X,c∈X') (hy: ∀c∈Y,c∈Y'):oW X' Y' s:=fun b hb=>⟨hy _ (h b hb).1,hy _ (h b hb).2.1,fun c hc=>hx c ((h b hb).2.2 c hc)⟩
theorem iY.lt {l:List Int} (h:iY l) {i j:Nat} {x y:Int} (hij:i<j) (hx:l[i]? =some x) (hy:l[j]? =some y):x<y:=by
  have:=List.pairwise_iff_getElem.1 h i j (List.getElem?_eq_some_iff.1 hx).1 (List.getElem?_eq_some_iff.1 hy).1 hij
  rw [(List.getElem?_eq_some_iff.1 hx).2,(List.getElem?_eq_some_iff.1 hy).2] at this;exact this
theorem iY.next {l:List Int} (h:iY l) {k:Nat} {x y c:Int} (hx:l[k]? =some x) (hy:l[k+1]? =some y) (hc:c∈l) (hxc:x<c):y≤c:=by
  obtain⟨j,hj⟩:=List.getElem?_of_mem hc
  rcases Nat.lt_trichotomy j (k+1) with h1 | h1 | h1
  · exfalso
    by_cases e:j=k
    · subst e;rw [hx] at hj;injection hj with hj;omega
    · have:=h.lt (show j<k by omega) hj hx;omega
  · subst h1;rw [hy] at hj;injection hj with hj;omega
  · have:=h.lt h1 hy hj;omega
theorem oO {l:List aC} {φ:aC→Option Bool} (p:aC→Bool) (hφ: ∀x∈l,φ x=some (p x)) (hl:l.length≤4611686018427387000) (hN:l.length<N):dR N l φ=some (l.filter (fun x=> !p x)):=
  Ak (z:=(⟨0,0,0,0⟩:aC)) p hφ hl hN
theorem tH {l:List aC} (hl:l.length≤268435456):eJ N l=some l:=by
  unfold eJ;rw [fJ (by simp;omega),aB,List.nil_append]
structure DE (l m:List aC) (ys:List Int) (k:Nat) (out:List aA) (now:List aC) (nx:Nat):Prop where
  can:cE (out.map aW)
  top: ∀c∈out,∀y,ys[k]? =some y→c.Y1≤y
  cover: ∀x y,oV (out.map aW) x y= (oN l x y&&decide (∀a,ys[k]? =some a→y<a))
  lim:oW (lT l) (iG l) (out.map aW)
  FL: ∀r∈now,r∈m.take nx
  FM: ∀r∈m.take nx,∀y,ys[k]? =some y→y<r.Y1→r∈now
  len:now.length≤nx
  Fh:nx≤m.length
  rest: ∀(j:Nat) r y,nx≤j→m[j]? =some r→ys[k]? =some y→y≤r.Y0
  low: ∀r∈now,∀y,ys[k]? =some y→r.Y0≤y
structure lU (l:List aC) (s:List aA):Prop where
  can:cE (s.map aW)
  cover: ∀x y,oV (s.map aW) x y=oN l x y
  lim:oW (lT l) (iG l) (s.map aW)
theorem kH {l:List aC} (hl:l.length≤134217728) (hok: ∀r∈l,wN r) (hN:4294967296≤N):Ok (cW N l) (lU l):=by
  unfold cW
  refine Ok.eq (tH (by omega)) ?_
  obtain⟨m,h1,h2,h3⟩:=sF (φ:=eZ N) (l:=l) (fun a b=>a.Y0 - b.Y0) (fun a ha b hb=>by
    unfold eZ;rw [wrap_small (hok a ha).s3 (hok b hb).s3]) (fun a _=>by omega) (fun a _ b _ c _ h1 h2=>by omega) (fun a _ b _ c _ h1 h2=>by omega) (by omega)
  refine Ok.eq h1 ?_
  have hml:m.length=l.length:=h2.length_eq
  have hmem: ∀r,r∈m↔r∈l:=fun r=>h2.mem_iff
  refine Ok.bind (Ok.iz (fun k s=>s=iG (m.take k)) (by omega) rfl (fun k s hk e=>?_)) ?_
  · subst e
    refine Ok.idx hk (Ok.app ?_ (Ok.ret ?_))
    · rw [fp];simp;omega
    · rw [List.take_succ_eq_append_getElem hk]
      unfold iG;rw [List.flatMap_append];rfl
  rintro s rfl
  rw [List.take_length]
  have hgs:mN (iG m)=some ((iG m).mergeSort (fun x y=>decide (x≤y))):=by unfold mN;rw [if_pos (by rw [fp];omega)]
  refine Ok.eq hgs ?_
  have hsp: ((iG m).mergeSort (fun x y=>decide (x≤y))).Pairwise (fun x y=>x≤y):=by
    have:=List.pairwise_mergeSort (le:=fun(x y:Int)=>decide (x≤y)) (fun a b c h1 h2=>by simp at *;omega) (fun a b=>by simp;omega) (iG m)
    exact List.Pairwise.imp (fun h=>by simpa using h) this
  have hsm: ∀c,c∈(iG m).mergeSort (fun x y=>decide (x≤y))↔c∈iG m:=fun c=>List.mem_mergeSort
  have hsl: ((iG m).mergeSort (fun x y=>decide (x≤y))).length=2*m.length:=by rw [List.length_mergeSort,fp]
  generalize (iG m).mergeSort (fun x y=>decide (x≤y))=sy at hsp hsm hsl
  refine Ok.bind (u3 (N:=N) hsp (by omega) (by omega)) ?_
  rintro ys ⟨hy,hym⟩
  have hyl:ys.length≤2*m.length:=by
    have:=eN hy.nodup (m:=sy) (fun c hc=>(hym c).1 hc)
    omega
  have y0m: ∀r∈m,r.Y0∈ys:=fun r hr=>(hym _).2 ((hsm _).2 (gj.2 ⟨r,hr, .inl rfl⟩))
  have y1m: ∀r∈m,r.Y1∈ys:=fun r hr=>(hym _).2 ((hsm _).2 (gj.2 ⟨r,hr, .inr rfl⟩))
  have yml: ∀c∈ys,c∈iG l:=fun c hc=>by
    obtain⟨r,hr,h⟩:=gj.1 ((hsm _).1 ((hym _).1 hc))
    exact gj.2 ⟨r,(hmem r).1 hr,h⟩
  refine Ok.bind (Ok.itr (Go:=fun s=>lU l s.1) (Rt:=fun _=>True) (fun s=>∃k nx:Nat,s.2.2.2= ((k:Nat):Int)∧s.2.2.1= ((nx:Nat):Int)∧(k<ys.length∨k=0)∧DE l m ys k s.1 s.2.1 nx) (fun s=>ys.length - s.2.2.2.toNat) ?_ ?_ (by simp;omega)) ?_
  · rintro⟨out,now,a,b⟩ ⟨k,nx,e1,e2,hk,I⟩
    dsimp only at e1 e2 I ⊢
    subst e1;subst e2
    rw [eQ (by omega)]
    refine Ok.bif (fun h=>?_) (fun h=>Ok.br ?_)
    · have hk1:k+1<ys.length:=by have:=of_decide_eq_true h;omega
      have hyk:ys[k]? =some ys[k]:=List.getElem?_eq_getElem _
      have hyk1:ys[k+1]? =some ys[k+1]:=List.getElem?_eq_getElem hk1
      have hlt:=hy.lt (Nat.lt_succ_self k) hyk hyk1
      have hcov:=I.cover
      simp only [hyk,Option.some.injEq,forall_eq'] at hcov
      refine Ok.eq (oO (fun r=>decide (r.Y1≤ys[k])) (fun r _=>by unfold i9;rw [fI ys k (by omega),aB]) (by have:=I.len;have:=I.Fh;omega) (by have:=I.len;have:=I.Fh;omega)) ?_
      have hfl:=List.length_filter_le (fun r:aC=> !decide (r.Y1≤ys[k])) now
      have hIl:=I.len
      have hIn:=I.Fh
      refine Ok.bind (Ok.itr (Go:=fun s=>∃nx':Nat,s.2= ((nx':Nat):Int)∧nx'≤m.length∧s.1.length≤nx'∧(∀r∈s.1,r∈m.take nx')∧(∀r∈m.take nx',ys[k]<r.Y1→r∈s.1)∧(∀r∈s.1,r.Y0≤ys[k]∧ys[k]<r.Y1)∧(∀(j:Nat) r,nx'≤j→m[j]? =some r→ys[k]<r.Y0)) (Rt:=fun _=>True)
        (fun s=>∃nx':Nat,s.2= ((nx':Nat):Int)∧nx≤nx'∧nx'≤m.length∧s.1.length≤nx'∧(∀r∈s.1,r∈m.take nx')∧(∀r∈m.take nx',ys[k]<r.Y1→r∈s.1)∧(∀r∈s.1,r.Y0≤ys[k]∧ys[k]<r.Y1)) (fun s=>m.length - s.2.toNat) ?_ ?_ (by simp;omega)) ?_
      · rintro⟨nw,b⟩ ⟨nx',e1,g0,g1,g2,g3,g4,g5⟩
        dsimp only at e1 g2 g3 g4 g5 ⊢
        subst e1
        refine Ok.bind (P:=fun b=>b=true↔∃h:nx'<m.length,m[nx'].Y0≤ys[k]) ?_ ?_
        · refine Ok.bif (fun h=>?_) (fun h=>Ok.ret ?_)
          · have hlt:nx'<m.length:=by have:=of_decide_eq_true h;omega
            refine Ok.idx hlt (Ok.idx (by omega) (Ok.ret ?_))
            rw [decide_eq_true_eq];exact⟨fun h=>⟨hlt,h⟩,fun⟨_,h⟩=>h⟩
          · have:=of_decide_eq_false h
            constructor
            · intro h;cases h
            · rintro⟨h,_⟩;omega
        · intro bb hbb
          refine Ok.bif (fun h=>?_) (fun h=>Ok.br ?_)
          · obtain⟨hlt,h0⟩:=hbb.1 h
            have hts:m.take (nx'+1)=m.take nx'++[m[nx']]:=List.take_succ_eq_append_getElem hlt
            refine Ok.idx hlt (Ok.app (by simp;omega) (Ok.nx ⟨⟨nx'+1,by rw [eQ (by omega)],by omega,by omega,by simp;omega,fun r hr=>?_,fun r hr hr2=>?_,fun r hr=>?_⟩,by rw [eQ (by omega)];simp only [Int.toNat_natCast];omega⟩))
            · rw [hts]
              rcases List.mem_append.1 hr with h | h
              · exact List.mem_append_left _ (g3 r h)
              · exact List.mem_append_right _ h
            · rw [hts] at hr
              rcases List.mem_append.1 hr with h | h
              · exact List.mem_append_left _ (g4 r h hr2)
              · exact List.mem_append_right _ h
            · rcases List.mem_append.1 hr with h | h
              · exact g5 r h
              · simp at h;subst h
                refine⟨h0,?_⟩
                have:=(hok m[nx'] ((hmem _).1 (List.getElem_mem hlt))).y
                have:=I.rest nx' _ ys[k] g0 (List.getElem?_eq_getElem hlt) hyk
                omega
          · refine⟨nx',rfl,g1,g2,g3,g4,g5,fun j r hj hr=>?_⟩
            have hjl:=(List.getElem?_eq_some_iff.1 hr).1
            have hlt:nx'<m.length:=by omega
            have h0: ¬m[nx'].Y0≤ys[k]:=fun h0=>by rw [hbb.2 ⟨hlt,h0⟩] at h;cases h
            by_cases e:nx'=j
            · subst e;rw [List.getElem?_eq_getElem hlt] at hr;injection hr with hr;subst hr;omega
            · have:=List.pairwise_iff_getElem.1 h3 nx' j hlt hjl (by omega)
              have hr':=(List.getElem?_eq_some_iff.1 hr).2
              rw [hr'] at this;omega
      · refine⟨nx,rfl,Nat.le_refl _,hIn,by dsimp only;omega,fun r hr=>I.FL r (List.mem_filter.1 hr).1,fun r hr h=>List.mem_filter.2 ⟨I.FM r hr ys[k] hyk h,by simpa using h⟩,fun r hr=>?_⟩
        have hr:=List.mem_filter.1 hr
        have hr2:ys[k]<r.Y1:=by simpa using hr.2
        exact⟨I.low r hr.1 ys[k] hyk,hr2⟩
      · rintro o ho
        refine Ok.cs ho ?_ (fun r=>r.elim)
        rintro⟨nw,b⟩ ⟨nx',e1,g1,g2,g3,g4,g5,g6⟩
        dsimp only at e1 g2 g3 g4 g5 ⊢
        subst e1
        refine Ok.idx (by omega) (Ok.idx hk1 ?_)
        have hnm: ∀r∈nw,r∈l:=fun r hr=>(hmem r).1 (List.take_subset _ _ (g3 r hr))
        obtain⟨row,nw',s1,s2,s3,s4,s5,s6,s7⟩:=uZ (N:=N) (l:=nw) (by omega) (fun r hr=>hok r (hnm r hr))
        refine Ok.eq s1 ?_
        have hlimx: ∀c∈row,c∈lT l:=fun c hc=>by
          obtain⟨r,hr,h⟩:=s7 c hc
          exact kG.2 ⟨r,hnm r hr,h⟩
        have hol:out.length≤2*l.length:=by have:=I.lim.len I.can;rw [fp,List.length_map] at this;exact this
        have hox: ∀c∈out,c.Xs.length≤2*l.length:=fun c hc=>by
          have:=I.lim.row I.can (b:=aW c) (List.mem_map.2 ⟨c,hc,rfl⟩)
          rw [gD] at this;exact this
        obtain⟨out',p1,p2⟩:=x4 (N:=N) (s:=out) (b:=⟨ys[k],ys[k+1],row⟩) (by omega) (fun c hc=>by have:=hox c hc;omega)
        refine Ok.eq p1 ?_
        have htop: ∀c∈out.map aW,c.y1≤(aW ⟨ys[k],ys[k+1],row⟩).y0:=fun c hc=>by
          obtain⟨d,hd,rfl⟩:=List.mem_map.1 hc
          exact I.top d hd ys[k] hyk
        have hcan:=qS I.can htop s3 s4
        refine Ok.nx ⟨⟨k+1,nx',rfl,rfl, .inl hk1,⟨by dsimp only;rw [p2];exact hcan,fun c hc y hy1=>?_,fun x y=>?_,?_,fun r hr=>g3 r (s2.subset hr),fun r hr y hy1 h=>?_,by rw [s2.length_eq];exact g2,g1,fun j r y hj hr hy1=>?_,fun r hr y hy1=>?_⟩⟩,by simp only [Int.toNat_natCast];omega⟩
        · rw [hyk1] at hy1;injection hy1 with hy1;subst hy1
          have hm':aW c∈pushB (out.map aW) (aW ⟨ys[k],ys[k+1],row⟩):=by rw [←p2];exact List.mem_map.2 ⟨c,hc,rfl⟩
          exact qT htop (by show ys[k]≤ys[k+1];omega) _ hm'
        · simp only [hyk1,Option.some.injEq,forall_eq']
          unfold oV
          rw [p2,qR htop (fun c hc=>(I.can.each c hc).1) (fun h=>absurd h (by show ¬ys[k+1]≤ys[k];omega))]
          by_cases hyy:ys[k]≤y∧y<ys[k+1]
          · rw [if_pos (show (aW ⟨ys[k],ys[k+1],row⟩).y0≤y∧y< (aW ⟨ys[k],ys[k+1],row⟩).y1 from hyy),decide_eq_true hyy.2,Bool.and_true]
            show jv row x=_
            rw [s5,Bool.eq_iff_iff,sM,fS]
            constructor
            · rintro⟨r,hr,h⟩
              have hrm:=List.take_subset _ _ (g3 r hr)
              have h5:=g5 r hr
              have:=hy.next hyk hyk1 (y1m r hrm) h5.2
              exact⟨r,hnm r hr,h,by omega,by omega⟩
            · rintro⟨r,hr,h,h7,h8⟩
              have hrm:=(hmem r).2 hr
              have h9:r.Y0≤ys[k]:=by
                by_cases h10:r.Y0≤ys[k]
                · exact h10
                · have:=hy.next hyk hyk1 (y0m r hrm) (by omega);omega
              have h11:r∈m.take nx':=by
                obtain⟨j,hj⟩:=List.getElem?_of_mem hrm
                by_cases h12:j<nx'
                · exact List.mem_of_getElem? (i:=j) (by rw [List.getElem?_take_of_lt h12];exact hj)
                · have:=g6 j r (by omega) hj;omega
              exact⟨r,g4 r h11 (by omega),h⟩
          · rw [if_neg (show ¬((aW ⟨ys[k],ys[k+1],row⟩).y0≤y∧y< (aW ⟨ys[k],ys[k+1],row⟩).y1) from hyy)]
            show oV (out.map aW) x y=_
            rw [hcov]
            by_cases h1:y<ys[k]
            · rw [decide_eq_true h1,decide_eq_true (show y<ys[k+1] by omega)]
            · rw [decide_eq_false h1,decide_eq_false (show ¬y<ys[k+1] by omega)]
        · show oW (lT l) (iG l) (out'.map aW)
          rw [p2]
          exact I.lim.push (yml _ (List.getElem_mem _)) (yml _ (List.getElem_mem _)) hlimx
        · rw [hyk1] at hy1;injection hy1 with hy1;subst hy1
          exact s2.symm.subset (g4 r hr (by omega))
        · rw [hyk1] at hy1;injection hy1 with hy1;subst hy1
          exact hy.next hyk hyk1 (y0m r (List.mem_of_getElem? hr)) (g6 j r hj hr)
        · rw [hyk1] at hy1;injection hy1 with hy1;subst hy1
          have:=(g5 r (s2.subset hr)).1;omega
    · have hge: ¬k+1<ys.length:=by have:=of_decide_eq_false h;omega
      refine⟨I.can,fun x y=>?_,I.lim⟩
      rw [I.cover]
      by_cases hyn:ys= []
      · have:oN l x y=false:=by
          rw [←Bool.not_eq_true,fS]
          rintro⟨r,hr,_⟩
          have:=y0m r ((hmem r).2 hr)
          rw [hyn] at this;cases this
        rw [this];rfl
      · have hkl:k<ys.length:=by
          rcases hk with h | h
          · exact h
          · subst h;exact List.length_pos_iff.2 hyn
        rw [List.getElem?_eq_getElem hkl]
        simp only [Option.some.injEq,forall_eq']
        cases hc:oN l x y with
        | false=>rfl
        | true=>
          obtain⟨r,hr,_,h7,h8⟩:=fS.1 hc
          have:=y1m r ((hmem r).2 hr)
          obtain⟨j,hj⟩:=List.getElem?_of_mem this
          have hjl:=(List.getElem?_eq_some_iff.1 hj).1
          have:r.Y1≤ys[k]:=by
            by_cases e:j=k
            · subst e;rw [List.getElem?_eq_getElem hkl] at hj;injection hj with hj;omega
            · have:=hy.lt (show j<k by omega) hj (List.getElem?_eq_getElem hkl);omega
          rw [decide_eq_true (show y<ys[k] by omega)];rfl
  · refine⟨0,0,rfl,rfl, .inr rfl,?_⟩
    show DE l m ys 0 [] [] 0
    refine⟨cE.nil,fun c hc=>(by cases hc),fun x y=>?_,fun b hb=>(by cases hb),fun r hr=>(by cases hr),fun r hr=>(by rw [List.take_zero] at hr;cases hr),Nat.le_refl _,Nat.zero_le _,fun j r y _ hr hy0=>?_,fun r hr=>(by cases hr)⟩
    · show false=_
      symm
      rw [Bool.and_eq_false_iff]
      cases hc:oN l x y with
      | false=>exact .inl rfl
      | true=>
        right
        obtain⟨r,hr,_,h7,h8⟩:=fS.1 hc
        have hr0:=y0m r ((hmem r).2 hr)
        have hpos:0<ys.length:=List.length_pos_of_mem hr0
        rw [decide_eq_false_iff_not]
        intro h
        have h:=h ys[0] (List.getElem?_eq_getElem hpos)
        obtain⟨j,hj⟩:=List.getElem?_of_mem hr0
        by_cases e:j=0
        · subst e;rw [List.getElem?_eq_getElem hpos] at hj;injection hj with hj;omega
        · have:=hy.lt (show 0<j by omega) (List.getElem?_eq_getElem hpos) hj;omega
    · obtain⟨j',hj'⟩:=List.getElem?_of_mem (y0m r (List.mem_of_getElem? hr))
      by_cases e:j'=0
      · subst e;rw [hy0] at hj';injection hj' with hj';omega
      · have:=hy.lt (show 0<j' by omega) hy0 hj';omega
  · rintro o ho
    refine Ok.cs ho (fun s h=>Ok.ret h) (fun r=>r.elim)
end
end Go.Gk
namespace Go.Gk
open Go
section
variable {N:Nat}
def prs:List Int→List (Int×Int)
  | a::b::l=>(a,b)::prs l
  | _=>[]
theorem rQ: ∀(xs:List Int),(prs xs).length=xs.length / 2
  | []=>rfl
  | [a]=>by simp [prs]
  | a::b::l=>by unfold prs;rw [List.length_cons,rQ l];simp only [List.length_cons];omega
theorem pR: ∀(xs:List Int) (j:Nat) (h:2*j+1<xs.length),(prs xs)[j]? =some (xs[2*j],xs[2*j+1])
  | [],j,h=>by simp at h
  | [a],j,h=>by simp at h
  | a::b::l,0,h=>rfl
  | a::b::l,j+1,h=>by
    have:=pR l j (by simp at h;omega)
    unfold prs
    rw [List.getElem?_cons_succ,this]
    have e1: (a::b::l)[2* (j+1)]=l[2*j]'(by simp at h;omega):=by simp [show 2* (j+1)=2*j+1+1 by omega]
    have e2: (a::b::l)[2* (j+1)+1]=l[2*j+1]'(by simp at h;omega):=by simp [show 2* (j+1)+1=2*j+1+1+1 by omega]
    rw [e1,e2]
theorem pS: ∀{xs:List Int},xs.length % 2=0→kY (prs xs)=xs
  | [],_=>rfl
  | [a],h=>by simp at h
  | a::b::l,h=>by unfold prs;rw [jB,pS (by simp at h;omega)]
theorem Bv {xs:List Int} (h:iY xs) (he:xs.length % 2=0) (x:Int):jv xs x=yN (prs xs) x:=by
  have:=pQ (l:=prs xs) (by rw [pS he];exact h) x
  rwa [pS he] at this
theorem u4 {xs:List Int}: ∀p∈prs xs,p.1∈xs∧p.2∈xs:=by
  intro p hp
  obtain⟨j,hj⟩:=List.getElem?_of_mem hp
  have hjl:=(List.getElem?_eq_some_iff.1 hj).1
  rw [rQ] at hjl
  rw [pR xs j (by omega)] at hj
  injection hj with hj;subst hj
  exact⟨List.getElem_mem _,List.getElem_mem _⟩
theorem xu {xs:List Int} (h:iY xs): ∀p∈prs xs,p.1<p.2:=by
  intro p hp
  obtain⟨j,hj⟩:=List.getElem?_of_mem hp
  have hjl:=(List.getElem?_eq_some_iff.1 hj).1
  rw [rQ] at hjl
  rw [pR xs j (by omega)] at hj
  injection hj with hj;subst hj
  exact h.lt (show 2*j<2*j+1 by omega) (List.getElem?_eq_getElem _) (List.getElem?_eq_getElem _)
def iH (b:aA):List aC:=(prs b.Xs).map fun p=>⟨p.1,b.Y0,p.2,b.Y1⟩
def aI (s:List aA):List aC:=s.flatMap iH
theorem iV (b:aA) (s:List aA):aI (b::s)=iH b++aI s:=rfl
theorem ir (b:aA): (iH b).length=b.Xs.length / 2:=by unfold iH;rw [List.length_map,rQ]
theorem iI (s t:List aA):aI (s++t)=aI s++aI t:=List.flatMap_append
theorem qW (s:List aA) (k:Nat): (aI (s.take k)).length≤(aI s).length:=by
  conv=>rhs;rw [←List.take_append_drop k s,iI,List.length_append]
  omega
theorem sQ {s:List aA} {A B:Nat} (h1:s.length≤A) (h2: ∀b∈s,b.Xs.length≤B): (aI s).length≤A*B:=by
  induction s generalizing A with
  | nil=>simp [aI]
  | cons b s ih=>
    rw [iV,List.length_append,ir]
    simp at h1
    obtain⟨A',rfl⟩: ∃A',A=A'+1:=⟨A - 1,by omega⟩
    have:=ih (A:=A') (by omega) (fun c hc=>h2 c (List.mem_cons_of_mem _ hc))
    have:=h2 b (by simp)
    rw [Nat.add_mul];omega
theorem nd {s:List aA} (he: ∀b∈s,b.Xs.length % 2=0) (h1:s.length≤1099511627776) (h2: ∀b∈s,b.Xs.length≤1099511627776∧b.Xs.length<N) (h3: (aI s).length≤1099511627776):dE N s=some (aI s):=by
  refine Ok.get ?_
  unfold dE
  refine Ok.bind (Ok.iz (fun k t=>t=aI (s.take k)) (by omega) rfl (fun k t hk e=>?_)) (fun t e=>Ok.ret (by rw [e,List.take_length]))
  subst e
  refine Ok.idx hk ?_
  have hm:=List.getElem_mem hk
  generalize hb:s[k]=b at hm ⊢
  have heb:=he b hm
  have hbl:=h2 b hm
  have hts:aI (s.take (k+1))=aI (s.take k)++iH b:=by
    rw [List.take_succ_eq_append_getElem hk,iI,hb];simp [aI]
  have hle:=qW s (k+1)
  rw [hts,List.length_append,ir] at hle
  refine Ok.bind (Ok.itr (Go:=fun s'=>s'.1=aI (s.take (k+1))) (Rt:=fun _=>True) (fun s'=>∃j:Nat,s'.2= ((2*j:Nat):Int)∧2*j≤b.Xs.length∧s'.1=aI (s.take k)++(iH b).take j) (fun s'=>b.Xs.length - s'.2.toNat) ?_ ⟨0,rfl,by omega,by simp⟩ (by simp;omega)) ?_
  · rintro⟨acc,i⟩ ⟨j,e1,hj,e2⟩
    dsimp only at e1 e2 ⊢
    subst e1;subst e2
    refine Ok.bif (fun h=>?_) (fun h=>Ok.br ?_)
    · have hlt:2*j+1<b.Xs.length:=by have:=of_decide_eq_true h;omega
      refine Ok.idx (by omega) ?_
      rw [eQ (by omega)]
      refine Ok.idx hlt (Ok.app ?_ (Ok.nx ⟨⟨j+1,?_,by omega,?_⟩,?_⟩))
      · simp;rw [ir];omega
      · rw [t6 (by omega)];congr 1
      · rw [List.append_assoc]
        congr 1
        have hg: (iH b)[j]? =some ⟨b.Xs[2*j],b.Y0,b.Xs[2*j+1],b.Y1⟩:=by
          unfold iH;rw [List.getElem?_map,pR _ _ hlt];rfl
        have hjl:=(List.getElem?_eq_some_iff.1 hg).1
        rw [List.take_succ_eq_append_getElem hjl,(List.getElem?_eq_some_iff.1 hg).2]
      · rw [t6 (by omega)];simp only [Int.toNat_natCast];omega
    · have hge:2*j=b.Xs.length:=by have:=of_decide_eq_false h;omega
      show aI (s.take k)++(iH b).take j=_
      rw [hts,List.take_of_length_le (l:=iH b) (by rw [ir];omega)]
  · rintro o ho
    exact Ok.cs ho (fun s' h=>Ok.ret h) (fun r=>r.elim)
theorem x5 {s:List aA} (h1:s.length≤1099511627776) (h2: ∀b∈s,b.Xs.length≤1099511627776) (h3: (aI s).length≤1099511627776):fY N s=some (((aI s).length:Nat):Int):=by
  refine Ok.get ?_
  unfold fY
  refine Ok.bind (Ok.iz (fun k t=>t= (((aI (s.take k)).length:Nat):Int)) (by omega) rfl (fun k t hk e=>?_)) (fun t e=>Ok.ret (by rw [e,List.take_length]))
  subst e
  refine Ok.idx hk (Ok.ret ?_)
  have hm:=List.getElem_mem hk
  have hbl:=h2 _ hm
  have hts:aI (s.take (k+1))=aI (s.take k)++iH s[k]:=by
    rw [List.take_succ_eq_append_getElem hk,iI];simp [aI]
  have hle:=qW s (k+1)
  rw [hts,List.length_append,ir] at hle
  have e:Int.tdiv ((s[k].Xs.length:Nat):Int) 2= ((s[k].Xs.length / 2:Nat):Int):=by
    rw [show (2:Int)= ((2:Nat):Int) by rfl,←Int.ofNat_tdiv]
  rw [e,sO (by omega),wrap_add (by omega),hts,List.length_append,ir]
theorem xv (l m:List aC) (x y:Int):oN (l++m) x y= (oN l x y||oN m x y):=List.any_append
theorem Am {b:aA} (h:iY b.Xs) (he:b.Xs.length % 2=0) (x y:Int):oN (iH b) x y= (jv b.Xs x&&(decide (b.Y0≤y)&&decide (y<b.Y1))):=by
  rw [Bv h he,Bool.eq_iff_iff,fS,Bool.and_eq_true,sN,Bool.and_eq_true,decide_eq_true_eq,decide_eq_true_eq]
  unfold iH
  constructor
  · rintro⟨r,hr,h1,h2⟩
    obtain⟨p,hp,rfl⟩:=List.mem_map.1 hr
    exact⟨⟨p,hp,h1⟩,h2⟩
  · rintro⟨⟨p,hp,h1⟩,h2⟩
    exact⟨_,List.mem_map.2 ⟨p,hp,rfl⟩,h1,h2⟩
theorem kl: ∀{s:List aA},cE (s.map aW)→∀x y,oN (aI s) x y=oV (s.map aW) x y
  | [],_,x,y=>rfl
  | b::s,h,x,y=>by
    rw [iV,xv,kl h.tail x y]
    have hb:=h.each (aW b) (by simp)
    rw [Am hb.2.2.1 hb.2.2.2]
    unfold oV
    rw [List.map_cons,hL]
    by_cases hy:b.Y0≤y∧y<b.Y1
    · rw [if_pos (show (aW b).y0≤y∧y< (aW b).y1 from hy),gx (fun c hc=> .inl (by have:=h.sJ c hc;have e: (aW b).y1=b.Y1:=rfl;omega)),decide_eq_true hy.1,decide_eq_true hy.2]
      show (jv b.Xs x&&true||false)=jv b.Xs x
      simp
    · rw [if_neg (show ¬((aW b).y0≤y∧y< (aW b).y1) from hy)]
      have: (decide (b.Y0≤y)&&decide (y<b.Y1))=false:=by rw [Bool.and_eq_false_iff,decide_eq_false_iff_not,decide_eq_false_iff_not];omega
      rw [this];simp
theorem km {s:List aA} {r:aC} (h:r∈aI s): ∃b∈s,∃p∈prs b.Xs,r= ⟨p.1,b.Y0,p.2,b.Y1⟩:=by
  unfold aI iH at h
  obtain⟨b,hb,h⟩:=List.mem_flatMap.1 h
  obtain⟨p,hp,rfl⟩:=List.mem_map.1 h
  exact⟨b,hb,p,hp,rfl⟩
theorem sR {s:List aA} {X Y:List Int} (h:cE (s.map aW)) (hl:oW X Y (s.map aW)) (hx: ∀c∈X,small c) (hy: ∀c∈Y,small c): ∀r∈aI s,wN r∧(r.X0∈X∧r.X1∈X)∧r.Y0∈Y∧r.Y1∈Y:=by
  intro r hr
  obtain⟨b,hb,p,hp,rfl⟩:=km hr
  have hm:aW b∈s.map aW:=List.mem_map.2 ⟨b,hb,rfl⟩
  have hc:=h.each _ hm
  have hll:=hl _ hm
  have h1:=u4 p hp
  have h2:=hll.2.2 p.1 h1.1
  have h3:=hll.2.2 p.2 h1.2
  exact⟨⟨xu hc.2.2.1 p hp,hc.1,hx _ h2,hx _ h3,hy _ hll.1,hy _ hll.2.1⟩,⟨h2,h3⟩,hll.1,hll.2.1⟩
theorem oQ {l:List Int} {x:Int} (h: ∀c∈l,c≤x):jv l x= (l.length % 2==1):=by unfold jv;rw [x0 h]
theorem qX {l:List Int} {a x:Int} (h:x<a):jv (l++[a]) x=jv l x:=by unfold jv;rw [sG,jN,if_neg (by omega),xZ];rfl
def yS (l:List Int):Bool:=l.length % 2==1
theorem sS (l:List Int) (a:Int):yS (l++[a]) = !yS l:=by
  unfold yS
  rw [List.length_append,Bool.eq_iff_iff,Bool.not_eq_true',beq_iff_eq,beq_eq_false_iff_ne]
  simp;omega
structure wi (gv:Bool→Bool→Bool) (a b a' b' out:List Int) (inA inB is:Bool) (pa pb:List Int):Prop where
  ea:a=pa++a'
  eb:b=pb++b'
  oa:inA=yS pa
  ob:inB=yS pb
  oo:is=yS out
  ok:is=gv inA inB
  low: ∀c,(c∈pa∨c∈pb∨c∈out)→∀d,(d∈a'∨d∈b')→c<d
  inc:iY out
  DF: ∀x,(∀d,(d∈a'∨d∈b')→x<d)→jv out x=gv (jv pa x) (jv pb x)
  mem: ∀c∈out,c∈pa∨c∈pb
  len:out.length≤pa.length+pb.length
theorem wi.step {gv:Bool→Bool→Bool} {a b a' b' out:List Int} {inA inB is:Bool} {pa pb:List Int} (I:wi gv a b a' b' out inA inB is pa pb) (ha:iY a) (hb:iY b) (x:Int) (ta tb:List Int) (wa wb:Bool)
    (h1:a'= (if wa then x::ta else ta)) (h2:b'= (if wb then x::tb else tb)) (hw:wa=true∨wb=true) (hx: ∀d,(d∈ta∨d∈tb)→x<d):
    wi gv a b ta tb (if gv (inA ^^ wa) (inB ^^ wb)=is then out else out++[x]) (inA ^^ wa) (inB ^^ wb) (gv (inA ^^ wa) (inB ^^ wb)) (if wa then pa++[x] else pa) (if wb then pb++[x] else pb):=by
  have hxm:x∈a'∨x∈b':=by
    rcases hw with h | h
    · left;rw [h1,if_pos h];simp
    · right;rw [h2,if_pos h];simp
  have hsub: ∀d,(d∈ta∨d∈tb)→d∈a'∨d∈b':=fun d hd=>by
    rcases hd with h | h
    · left;rw [h1];split
      · exact List.mem_cons_of_mem _ h
      · exact h
    · right;rw [h2];split
      · exact List.mem_cons_of_mem _ h
      · exact h
  have hlow: ∀c,(c∈pa∨c∈pb∨c∈out)→c<x:=fun c hc=>I.low c hc x hxm
  have hpa: ∀c∈(if wa then pa++[x] else pa),c∈pa∨(wa=true∧c=x):=fun c hc=>by
    split at hc
    · rename_i h
      rcases List.mem_append.1 hc with h' | h'
      · exact .inl h'
      · simp at h';exact .inr ⟨h,h'⟩
    · exact .inl hc
  have hpb: ∀c∈(if wb then pb++[x] else pb),c∈pb∨(wb=true∧c=x):=fun c hc=>by
    split at hc
    · rename_i h
      rcases List.mem_append.1 hc with h' | h'
      · exact .inl h'
      · simp at h';exact .inr ⟨h,h'⟩
    · exact .inl hc
  have hout: ∀c∈(if gv (inA ^^ wa) (inB ^^ wb)=is then out else out++[x]),c∈out∨c=x:=fun c hc=>by
    split at hc
    · exact .inl hc
    · rcases List.mem_append.1 hc with h' | h'
      · exact .inl h'
      · simp at h';exact .inr h'
  have ooA: (inA ^^ wa)=yS (if wa then pa++[x] else pa):=by
    rw [I.oa];cases wa <;> simp [sS]
  have ooB: (inB ^^ wb)=yS (if wb then pb++[x] else pb):=by
    rw [I.ob];cases wb <;> simp [sS]
  have ooO:gv (inA ^^ wa) (inB ^^ wb)=yS (if gv (inA ^^ wa) (inB ^^ wb)=is then out else out++[x]):=by
    split
    · rename_i h;rw [h];exact I.oo
    · rename_i h
      rw [sS,←I.oo]
      cases hk:gv (inA ^^ wa) (inB ^^ wb) <;> cases his:is <;> simp_all
  refine⟨?_,?_,ooA,ooB,ooO,rfl,?_,?_,?_,?_,?_⟩
  · rw [I.ea,h1];split <;> simp
  · rw [I.eb,h2];split <;> simp
  · intro c hc d hd
    have hd':=hx d hd
    have hdd:=hsub d hd
    rcases hc with h | h | h
    · rcases hpa c h with h' | ⟨_,rfl⟩
      · exact I.low c (.inl h') d hdd
      · exact hd'
    · rcases hpb c h with h' | ⟨_,rfl⟩
      · exact I.low c (.inr (.inl h')) d hdd
      · exact hd'
    · rcases hout c h with h' | rfl
      · exact I.low c (.inr (.inr h')) d hdd
      · exact hd'
  · split
    · exact I.inc
    · exact I.inc.Al fun c hc=>hlow c (.inr (.inr hc))
  · intro y hy
    by_cases hxy:y<x
    · have e1:jv (if wa then pa++[x] else pa) y=jv pa y:=by split;exact qX hxy;rfl
      have e2:jv (if wb then pb++[x] else pb) y=jv pb y:=by split;exact qX hxy;rfl
      have e3:jv (if gv (inA ^^ wa) (inB ^^ wb)=is then out else out++[x]) y=jv out y:=by split;rfl;exact qX hxy
      rw [e1,e2,e3]
      refine I.DF y fun d hd=>?_
      have:x≤d:=by
        rcases hd with h | h
        · rw [h1] at h
          split at h
          · rcases List.mem_cons.1 h with rfl | h
            · exact Int.le_refl _
            · have:=hx d (.inl h);omega
          · have:=hx d (.inl h);omega
        · rw [h2] at h
          split at h
          · rcases List.mem_cons.1 h with rfl | h
            · exact Int.le_refl _
            · have:=hx d (.inr h);omega
          · have:=hx d (.inr h);omega
      omega
    · rw [oQ (l:=if wa then pa++[x] else pa),oQ (l:=if wb then pb++[x] else pb),oQ]
      · have e1:=ooA;have e2:=ooB;have e3:=ooO
        unfold yS at e1 e2 e3
        rw [←e1,←e2,←e3]
      · intro c hc
        rcases hout c hc with h | rfl
        · have:=hlow c (.inr (.inr h));omega
        · omega
      · intro c hc
        rcases hpb c hc with h | ⟨_,rfl⟩
        · have:=hlow c (.inr (.inl h));omega
        · omega
      · intro c hc
        rcases hpa c hc with h | ⟨_,rfl⟩
        · have:=hlow c (.inl h);omega
        · omega
  · intro c hc
    have m1: ∀c,c∈pa→c∈(if wa then pa++[x] else pa):=fun c h=>by split;exact List.mem_append_left _ h;exact h
    have m2: ∀c,c∈pb→c∈(if wb then pb++[x] else pb):=fun c h=>by split;exact List.mem_append_left _ h;exact h
    rcases hout c hc with h | rfl
    · rcases I.mem c h with h | h
      · exact .inl (m1 c h)
      · exact .inr (m2 c h)
    · rcases hw with h | h
      · left;rw [if_pos h];simp
      · right;rw [if_pos h];simp
  · have:=I.len
    have h3: (if wa then pa++[x] else pa).length+ (if wb then pb++[x] else pb).length≥pa.length+pb.length+1:=by
      rcases hw with h | h
      · subst h;cases wb <;> simp <;> omega
      · subst h;cases wa <;> simp <;> omega
    split
    · omega
    · simp at h3 ⊢;omega
end
end Go.Gk
namespace Go.Gk
open Go
section
variable {N:Nat}
theorem eR (x:Int) (l:List Int):idx (x::l) 0=some x:=rfl
theorem lV {α:Type} (x:α) (l:List α):oZ (x::l) 1 (((x::l).length:Nat):Int)=some l:=pw (x::l) 1 (by simp)
theorem fK {α:Type} (x:α) (l:List α):decide ((((x::l).length:Nat):Int)>0)=true:=decide_eq_true (by simp)
theorem nD {α:Type} (x:α) (l:List α): ((((x::l).length:Nat):Int)==0)=false:=by rw [beq_eq_false_iff_ne];simp;omega
theorem xw {a b:List Int} (ha:iY a) (hb:iY b) (h:a≠[]∨b≠[]): ∃x ta tb wa wb,a= (if wa then x::ta else ta)∧b= (if wb then x::tb else tb)∧(wa=true∨wb=true)∧(∀d,(d∈ta∨d∈tb)→x<d):=by
  match a,b,ha,hb,h with
  | [],[],_,_,h=>rcases h with h | h <;> exact absurd rfl h
  | x::ta,[],ha,_,_=>exact⟨x,ta,[],true,false,rfl,rfl, .inl rfl,fun d hd=>by rcases hd with h | h;exact ha.head d h;cases h⟩
  | [],y::tb,_,hb,_=>exact⟨y,[],tb,false,true,rfl,rfl, .inr rfl,fun d hd=>by rcases hd with h | h;cases h;exact hb.head d h⟩
  | x::ta,y::tb,ha,hb,_=>
    rcases Int.lt_trichotomy x y with h | h | h
    · refine⟨x,ta,y::tb,true,false,rfl,rfl, .inl rfl,fun d hd=>?_⟩
      rcases hd with h1 | h1
      · exact ha.head d h1
      · rcases List.mem_cons.1 h1 with rfl | h1
        · exact h
        · have:=hb.head d h1;omega
    · subst h
      exact⟨x,ta,tb,true,true,rfl,rfl, .inl rfl,fun d hd=>by rcases hd with h | h;exact ha.head d h;exact hb.head d h⟩
    · refine⟨y,x::ta,tb,false,true,rfl,rfl, .inr rfl,fun d hd=>?_⟩
      rcases hd with h1 | h1
      · rcases List.mem_cons.1 h1 with rfl | h1
        · exact h
        · have:=ha.head d h1;omega
      · exact hb.head d h1
theorem yT {φ:Bool→Bool→Option Bool} {gv:Bool→Bool→Bool} (hφ: ∀p q,φ p q=some (gv p q)) (hk:gv false false=false) {a b:List Int} (ha:iY a) (hb:iY b) (hae:a.length % 2=0) (hbe:b.length % 2=0)
    (hal:a.length≤1099511627776) (hbl:b.length≤1099511627776) (hN:a.length+b.length<N):
    Ok (kp N a b φ) (fun m=>iY m∧m.length % 2=0∧(∀x,jv m x=gv (jv a x) (jv b x))∧∀c∈m,c∈a∨c∈b):=by
  unfold kp
  refine Ok.bind (Ok.itr (Go:=fun s=>iY s.2.2.1∧s.2.2.1.length % 2=0∧(∀x,jv s.2.2.1 x=gv (jv a x) (jv b x))∧∀c∈s.2.2.1,c∈a∨c∈b) (Rt:=fun _=>True)
    (fun s=>∃pa pb,wi gv a b s.1 s.2.1 s.2.2.1 s.2.2.2.1 s.2.2.2.2.1 s.2.2.2.2.2 pa pb) (fun s=>s.1.length+s.2.1.length) ?_ ?_ hN) ?_
  · rintro⟨a',b',out,inA,inB,is⟩ ⟨pa,pb,I⟩
    dsimp only at I ⊢
    have ha':iY a':=by have:=ha;rw [I.ea] at this;exact(List.pairwise_append.1 this).2.1
    have hb':iY b':=by have:=hb;rw [I.eb] at this;exact(List.pairwise_append.1 this).2.1
    have hle:pa.length+a'.length=a.length:=by rw [I.ea];simp
    have hlb:pb.length+b'.length=b.length:=by rw [I.eb];simp
    have hlo:=I.len
    by_cases hne:a'≠[]∨b'≠[]
    · obtain⟨x,ta,tb,wa,wb,h1,h2,hw,hx⟩:=xw ha' hb' hne
      have J:=I.step ha hb x ta tb wa wb h1 h2 hw hx
      have fin: ∀(sa sb:List Int×Bool),sa= (ta,inA ^^ wa)→sb= (tb,inB ^^ wb)→
          Ok ((φ sa.2 sb.2).bind fun(x220:Bool)=>(bif (x220 != is) then ((app 8 out ([x]: (List Int))).bind fun(x227: (List Int))=>some (x227,x220)) else (some (out,is))).bind fun(s224: (List Int)×Bool)=>some (Fl.nx (sa.1,sb.1,s224.1,sa.2,sb.2,s224.2)))
            (CA (fun s':List Int×List Int×List Int×Bool×Bool×Bool=>(∃pa pb,wi gv a b s'.1 s'.2.1 s'.2.2.1 s'.2.2.2.1 s'.2.2.2.2.1 s'.2.2.2.2.2 pa pb)∧s'.1.length+s'.2.1.length<a'.length+b'.length) (fun s=>iY s.2.2.1∧s.2.2.1.length % 2=0∧(∀x,jv s.2.2.1 x=gv (jv a x) (jv b x))∧∀c∈s.2.2.1,c∈a∨c∈b) (fun _:Empty=>True)):=by
        rintro _ _ rfl rfl
        refine Ok.eq (hφ _ _) ?_
        have hlt:ta.length+tb.length<a'.length+b'.length:=by
          rw [h1,h2]
          rcases hw with h | h
          · subst h;cases wb <;> simp <;> omega
          · subst h;cases wa <;> simp <;> omega
        by_cases he:gv (inA ^^ wa) (inB ^^ wb)=is
        · rw [if_pos he] at J
          refine Ok.eq (x:=(out,is)) (by rw [he,show (is != is)=false by simp,cond_false]) ?_
          rw [he] at J
          exact Ok.nx ⟨⟨_,_,J⟩,hlt⟩
        · rw [if_neg he] at J
          refine Ok.eq (x:=(out++[x],gv (inA ^^ wa) (inB ^^ wb))) (by rw [show (gv (inA ^^ wa) (inB ^^ wb) != is)=true by simp [he],cond_true,fJ (by simp;omega),aB]) (Ok.nx ⟨⟨_,_,J⟩,hlt⟩)
      rcases hw with rfl | rfl
      · rw [if_pos rfl] at h1
        subst h1
        refine Ok.eq (x:=true) (by rw [fK,cond_true]) ?_
        rw [cond_true]
        have hle2: (bif (((b'.length:Nat):Int)==0) then (some true) else (bif (decide ((((x::ta).length:Nat):Int)>0)) then ((idx (x::ta) 0).bind fun(x181:Int)=>(idx b' 0).bind fun(x183:Int)=>some (decide (x181≤x183))) else (some false)))=some true:=by
          cases b' with
          | nil=>rfl
          | cons y b''=>
            rw [nD,cond_false,fK,cond_true,eR,aB,eR,aB]
            have:x≤y:=by
              cases wb with
              | true=>simp at h2;omega
              | false=>have:=hx y (.inr (by simp at h2;rw [←h2];simp));omega
            rw [decide_eq_true this]
        refine Ok.eq hle2 ?_
        rw [cond_true]
        refine Ok.eq (x:=x) (by rw [eR,aB]) ?_
        refine Ok.eq (x:=true) (by rw [fK,cond_true,eR,aB];simp) ?_
        refine Ok.eq (x:=(ta,!inA)) (by rw [cond_true,lV,aB]) ?_
        cases wb with
        | true=>
          rw [if_pos rfl] at h2
          subst h2
          refine Ok.eq (x:=true) (by rw [fK,cond_true,eR,aB];simp) ?_
          refine Ok.eq (x:=(tb,!inB)) (by rw [cond_true,lV,aB]) ?_
          exact fin _ _ (by simp) (by simp)
        | false=>
          have h2:b'=tb:=h2
          subst h2
          refine Ok.eq (x:=false) ?_ ?_
          · cases b' with
            | nil=>rfl
            | cons y b''=>
              have:=hx y (.inr (by simp))
              rw [fK,cond_true,eR,aB,show (y==x)=false by rw [beq_eq_false_iff_ne];omega]
          · refine Ok.eq (x:=(b',inB)) (by rw [cond_false]) ?_
            exact fin _ _ (by simp) (by simp)
      · cases wa with
        | true=>
          rw [if_pos rfl] at h1 h2
          subst h1;subst h2
          refine Ok.eq (x:=true) (by rw [fK,cond_true]) ?_
          rw [cond_true]
          refine Ok.eq (x:=true) (by rw [nD,cond_false,fK,cond_true,eR,aB,eR,aB];simp) ?_
          rw [cond_true]
          refine Ok.eq (x:=x) (by rw [eR,aB]) ?_
          refine Ok.eq (x:=true) (by rw [fK,cond_true,eR,aB];simp) ?_
          refine Ok.eq (x:=(ta,!inA)) (by rw [cond_true,lV,aB]) ?_
          refine Ok.eq (x:=true) (by rw [fK,cond_true,eR,aB];simp) ?_
          refine Ok.eq (x:=(tb,!inB)) (by rw [cond_true,lV,aB]) ?_
          exact fin _ _ (by simp) (by simp)
        | false=>
          have h1:a'=ta:=h1
          rw [if_pos rfl] at h2
          subst h1;subst h2
          refine Ok.eq (x:=true) (by rw [fK,Bs];simp) ?_
          rw [cond_true]
          refine Ok.eq (x:=false) ?_ ?_
          · rw [nD,cond_false]
            cases a' with
            | nil=>rfl
            | cons y a''=>
              have:=hx y (.inl (by simp))
              rw [fK,cond_true,eR,aB,eR,aB,decide_eq_false (by omega)]
          · rw [cond_false]
            refine Ok.eq (x:=x) (by rw [eR,aB]) ?_
            refine Ok.eq (x:=false) ?_ ?_
            · cases a' with
              | nil=>rfl
              | cons y a''=>
                have:=hx y (.inl (by simp))
                rw [fK,cond_true,eR,aB,show (y==x)=false by rw [beq_eq_false_iff_ne];omega]
            · refine Ok.eq (x:=(a',inA)) (by rw [cond_false]) ?_
              refine Ok.eq (x:=true) (by rw [fK,cond_true,eR,aB];simp) ?_
              refine Ok.eq (x:=(tb,!inB)) (by rw [cond_true,lV,aB]) ?_
              exact fin _ _ (by simp) (by simp)
    · have ea:a'= []:=Classical.byContradiction fun h=>hne (.inl h)
      have eb:b'= []:=Classical.byContradiction fun h=>hne (.inr h)
      subst ea;subst eb
      refine Ok.eq (x:=false) rfl ?_
      refine Ok.br ⟨I.inc,?_,fun x=>?_,fun c hc=>?_⟩
      · have h1:=I.ea;have h2:=I.eb
        rw [List.append_nil] at h1 h2
        have h3:yS out=false:=by
          rw [←I.oo,I.ok,I.oa,I.ob,←h1,←h2]
          unfold yS;rw [hae,hbe];exact hk
        unfold yS at h3
        rw [beq_eq_false_iff_ne] at h3
        dsimp only;omega
      · have:=I.DF x (fun d hd=>by rcases hd with h | h <;> cases h)
        have h1:=I.ea;have h2:=I.eb
        rw [List.append_nil] at h1 h2
        rw [h1,h2];exact this
      · have h1:=I.ea;have h2:=I.eb
        rw [List.append_nil] at h1 h2
        rw [h1,h2];exact I.mem c hc
  · exact⟨[],[],rfl,rfl,rfl,rfl,rfl,hk.symm,fun c hc=>(by rcases hc with h | h | h <;> cases h),List.Pairwise.nil,fun x _=>hk.symm,fun c hc=>(by cases hc),Nat.le_refl _⟩
  · rintro o ho
    exact Ok.cs ho (fun s h=>Ok.ret h) (fun r=>r.elim)
theorem cE.app {s t:List Bd} (h:cE (s++t)):cE t:=⟨fun b hb=>h.each b (List.mem_append_right _ hb),(List.pairwise_append.1 h.ord).2.1⟩
theorem cE.low {b:Bd} {s:List Bd} (h:cE (b::s)): ∀c∈b::s,b.y0≤c.y0:=fun c hc=>by
  rcases List.mem_cons.1 hc with rfl | hc
  · exact Int.le_refl _
  · have:=h.sJ c hc;have:=(h.each b (by simp)).1;omega
theorem cE.high {s:List Bd} {b:Bd} (h:cE (s++[b])): ∀c∈s++[b],c.y1≤b.y1:=fun c hc=>by
  rcases List.mem_append.1 hc with hc | hc
  · have:=((List.pairwise_append.1 h.ord).2.2 c hc b (by simp)).1
    have:=(h.each b (by simp)).1;omega
  · simp at hc;subst hc;exact Int.le_refl _
def wO (s:List aA) (y e:Int):List Int×Int:=match s with
  | []=>([],e)
  | b::_=>if y<b.Y0 then ([],if b.Y0<e then b.Y0 else e) else (b.Xs,if b.Y1<e then b.Y1 else e)
theorem u5 {α:Type} (x:α) (l:List α):idx (x::l) 0=some x:=rfl
theorem BM (s:List aA) (y e:Int):il N s y e=some (wO s y e):=by
  unfold il wO
  cases s with
  | nil=>rfl
  | cons b s=>
    dsimp only
    rw [nD,cond_false,u5,aB,aB,aB,aB]
    by_cases h:y<b.Y0
    · rw [decide_eq_true h,cond_true,if_pos h]
    · rw [decide_eq_false h,cond_false,if_neg h]
theorem x6 {s:List aA} {y e:Int} {X Y:List Int} (hc:cE (s.map aW)) (hl:oW X Y (s.map aW)) (hh: ∀b t,s=b::t→y<b.Y1) (hy:y<e):
    y< (wO s y e).2∧(wO s y e).2≤e∧(∀y',y≤y'→y'< (wO s y e).2→rowAt (s.map aW) y'= (wO s y e).1)∧iY (wO s y e).1∧(wO s y e).1.length % 2=0∧((wO s y e).2=e∨(wO s y e).2∈Y)∧∀c∈(wO s y e).1,c∈X:=by
  cases s with
  | nil=>exact⟨hy,Int.le_refl _,fun y' _ _=>rfl,List.Pairwise.nil,rfl, .inl rfl,fun c hc=>(by cases hc)⟩
  | cons b t=>
    have hb:=hc.each (aW b) (by simp)
    have hlb:=hl (aW b) (by simp)
    have h1:=hh b t rfl
    unfold wO
    dsimp only
    by_cases h:y<b.Y0
    · rw [if_pos h]
      dsimp only
      refine⟨by split <;> omega,by split <;> omega,fun y' h2 h3=>?_,List.Pairwise.nil,rfl,?_,fun c hc=>(by cases hc)⟩
      · exact hc.nC (by show y'<b.Y0;split at h3 <;> omega)
      · split
        · exact .inr hlb.1
        · exact .inl rfl
    · rw [if_neg h]
      dsimp only
      refine⟨by split <;> omega,by split <;> omega,fun y' h2 h3=>?_,hb.2.2.1,hb.2.2.2,?_,hlb.2.2⟩
      · exact cE.hQ (b:=aW b) (by show b.Y0≤y';omega) (by show y'<b.Y1;split at h3 <;> omega)
      · split
        · exact .inr hlb.2.1
        · exact .inl rfl
theorem t7 {y:Int} {a:List aA} (hN:a.length<N) {body:List aA→Option (Fl (List aA) Empty)}
    (hb:body=fun(s373: (List aA))=>((bif (decide ((s373.length:Int)>0)) then ((idx s373 0).bind fun(x407:aA)=>some (decide (x407.Y1≤y))) else (some false)).bind fun(s405:Bool)=>bif s405 then ((oZ s373 1 (s373.length:Int)).bind fun(x410: (List aA))=>some (.nx x410)) else (some (.br s373)):Option (Fl ((List aA)) Empty))):
    Ok (itr body N a) (DV (fun a'=>∃p,a=p++a'∧(∀c∈p,c.Y1≤y)∧∀b t,a'=b::t→y<b.Y1) (fun _=>True)):=by
  subst hb
  refine Ok.itr (fun a'=>∃p,a=p++a'∧∀c∈p,c.Y1≤y) List.length ?_ ⟨[],rfl,fun c hc=>(by cases hc)⟩ hN
  rintro a' ⟨p,e,hp⟩
  cases a' with
  | nil=>exact Ok.eq (x:=false) rfl (Ok.br ⟨p,e,hp,fun b t h=>(by cases h)⟩)
  | cons b t=>
    refine Ok.eq (x:=decide (b.Y1≤y)) (by rw [fK,cond_true,u5,aB]) ?_
    refine Ok.bif (fun h=>?_) (fun h=>Ok.br ⟨p,e,hp,fun b' t' h'=>?_⟩)
    · have h:=of_decide_eq_true h
      refine Ok.eq (lV b t) (Ok.nx ⟨⟨p++[b],by rw [e];simp,fun c hc=>?_⟩,by simp⟩)
      rcases List.mem_append.1 hc with hc | hc
      · exact hp c hc
      · simp at hc;subst hc;exact h
    · have h:=of_decide_eq_false h
      injection h' with h1 h2;subst h1;omega
theorem wj {p a':List Bd} {y y':Int} (hp: ∀c∈p,c.y1≤y) (h:y≤y'):rowAt (p++a') y'=rowAt a' y':=by
  rw [kf,if_neg]
  rintro⟨b,hb,h1⟩
  have:=hp b hb;omega
structure u6 (gv:Bool→Bool→Bool) (X Y:List Int) (a b s:List aA):Prop where
  can:cE (s.map aW)
  cover: ∀x y,oV (s.map aW) x y=gv (oV (a.map aW) x y) (oV (b.map aW) x y)
  lim:oW X Y (s.map aW)
theorem sT {s:List aA} (hs:s≠[]) (hl:s.length≤1099511627776) (hc:cE (s.map aW)): ∃f l,idx s 0=some f∧idx s (IntKind.wrap .i64 (((s.length:Nat):Int) - 1))=some l∧f∈s∧l∈s∧∀c∈s,f.Y0≤c.Y0∧c.Y1≤l.Y1:=by
  cases s with
  | nil=>exact absurd rfl hs
  | cons f t=>
    rw [iT (by simp) (by omega)]
    have hlt: (f::t).length - 1< (f::t).length:=by simp
    refine⟨f,(f::t)[(f::t).length - 1],rfl,fI _ _ hlt,by simp,List.getElem_mem _,fun c hcm=>⟨?_,?_⟩⟩
    · exact hc.low (aW c) (List.mem_map.2 ⟨c,hcm,rfl⟩)
    · have e: (f::t)= (f::t).dropLast++[(f::t)[(f::t).length - 1]]:=by
        have:=List.dropLast_concat_getLast (show f::t≠[] by simp)
        rw [←List.getLast_eq_getElem (h:=by simp)];exact this.symm
      generalize (f::t)[(f::t).length - 1]=l at e
      have hc2:=hc
      rw [e,List.map_append] at hc2
      have hm:aW c∈(List.map aW (f::t).dropLast++[aW l]):=by
        have:aW c∈(f::t).map aW:=List.mem_map.2 ⟨c,hcm,rfl⟩
        rw [e,List.map_append] at this;exact this
      exact cE.high hc2 (aW c) hm
theorem xx {φ:Bool→Bool→Option Bool} {gv:Bool→Bool→Bool} (hφ: ∀p q,φ p q=some (gv p q)) (hk:gv false false=false) {a b:List aA} {X Y:List Int} (ca:cE (a.map aW)) (cb:cE (b.map aW))
    (la:oW X Y (a.map aW)) (lb:oW X Y (b.map aW)) (hX:X.length≤1048576000) (hY:Y.length≤1048576000) (hs: ∀c∈Y,small c) (hN:4398046511104≤N):Ok (jG N a b φ) (u6 gv X Y a b):=by
  have hal:a.length≤Y.length:=by have:=la.len ca;rwa [List.length_map] at this
  have hbl:b.length≤Y.length:=by have:=lb.len cb;rwa [List.length_map] at this
  unfold jG
  rw [wrap_add (by omega)]
  refine Ok.bif (fun h=>Ok.ret ?_) (fun h=>?_)
  · have h:a.length+b.length=0:=by have:=beq_iff_eq.1 h;omega
    have e1:a= []:=List.eq_nil_of_length_eq_zero (by omega)
    have e2:b= []:=List.eq_nil_of_length_eq_zero (by omega)
    subst e1;subst e2
    exact⟨cE.nil,fun x y=>hk.symm,fun c hc=>(by cases hc)⟩
  have h0:a≠[]∨b≠[]:=by
    rw [beq_eq_false_iff_ne] at h
    by_cases e:a= []
    · right;intro e2;subst e;subst e2;exact h rfl
    · exact .inl e
  refine Ok.bind (Ok.iz (fun k s=>match k with | 0=>True | 1=>a= []∨((∀c∈a,s.1≤c.Y0∧c.Y1≤s.2)∧s.1∈Y∧s.2∈Y) | _=>((∀c∈a,s.1≤c.Y0∧c.Y1≤s.2)∧(∀c∈b,s.1≤c.Y0∧c.Y1≤s.2)∧s.1∈Y∧s.2∈Y)) (by simp) trivial (fun k s hk hI=>?_)) ?_
  · obtain⟨y,e⟩:=s
    have hk:k=0∨k=1:=by simp at hk;omega
    rcases hk with rfl | rfl
    · refine Ok.ix (x:=a) rfl ?_
      by_cases ea:a= []
      · subst ea
        exact Ok.eq (x:=(y,e)) rfl (Ok.ret (.inl rfl))
      · obtain⟨f,l,f1,f2,f3,f4,f5⟩:=sT ea (by omega) ca
        have hpos:decide (((a.length:Nat):Int)>0)=true:=decide_eq_true (by have:=List.length_pos_iff.2 ea;omega)
        refine Ok.eq (x:=(f.Y0,l.Y1)) ?_ (Ok.ret (.inr ⟨f5,(la _ (List.mem_map.2 ⟨f,f3,rfl⟩)).1,(la _ (List.mem_map.2 ⟨l,f4,rfl⟩)).2.1⟩))
        rw [hpos,cond_true]
        show ((some true).bind _)=_
        rw [aB,cond_true,f1,aB,f2,aB,aB,aB,aB]
        simp
    · refine Ok.ix (x:=b) rfl ?_
      have hI:a= []∨((∀c∈a,y≤c.Y0∧c.Y1≤e)∧y∈Y∧e∈Y):=hI
      by_cases eb:b= []
      · subst eb
        refine Ok.eq (x:=(y,e)) rfl (Ok.ret ?_)
        rcases hI with h | ⟨h1,h2,h3⟩
        · rcases h0 with h' | h'
          · exact absurd h h'
          · exact absurd rfl h'
        · exact⟨h1,fun c hc=>(by cases hc),h2,h3⟩
      · obtain⟨f,l,f1,f2,f3,f4,f5⟩:=sT eb (by omega) cb
        have hpos:decide (((b.length:Nat):Int)>0)=true:=decide_eq_true (by have:=List.length_pos_iff.2 eb;omega)
        have g1:f.Y0∈Y:=(lb _ (List.mem_map.2 ⟨f,f3,rfl⟩)).1
        have g2:l.Y1∈Y:=(lb _ (List.mem_map.2 ⟨l,f4,rfl⟩)).2.1
        by_cases ea:a= []
        · subst ea
          refine Ok.eq (x:=(f.Y0,l.Y1)) ?_ (Ok.ret ⟨fun c hc=>(by cases hc),f5,g1,g2⟩)
          rw [hpos,cond_true]
          show ((some true).bind _)=_
          rw [aB,cond_true,f1,aB,f2,aB,aB,aB,aB]
          simp
        · obtain⟨h1,h2,h3⟩:=hI.resolve_left ea
          refine Ok.eq (x:=(if f.Y0<y then f.Y0 else y,if e<l.Y1 then l.Y1 else e)) ?_ (Ok.ret ⟨fun c hc=>?_,fun c hc=>?_,?_,?_⟩)
          · rw [hpos,cond_true]
            have ez: (((a.length:Nat):Int)==0)=false:=by rw [beq_eq_false_iff_ne];have:=List.length_pos_iff.2 ea;omega
            rw [ez]
            show ((some false).bind _)=_
            rw [aB,cond_false,aB,f1,aB,f2,aB]
          · have:=h1 c hc;dsimp only;split <;> split <;> omega
          · have:=f5 c hc;dsimp only;split <;> split <;> omega
          · dsimp only;split
            · exact g1
            · exact h2
          · dsimp only;split
            · exact g2
            · exact h3
  · rintro⟨y0,e0⟩ hI
    have hI: (∀c∈a,y0≤c.Y0∧c.Y1≤e0)∧(∀c∈b,y0≤c.Y0∧c.Y1≤e0)∧y0∈Y∧e0∈Y:=hI
    obtain⟨ia,ib,iy,ie⟩:=hI
    have sy:=hs _ iy
    have se:=hs _ ie
    unfold small at sy se
    dsimp only
    refine Ok.bind (Ok.itr (Go:=fun s=>u6 gv X Y a b s.2.2.1) (Rt:=fun _=>True)
      (fun s=>∃pa pb,a=pa++s.1∧b=pb++s.2.1∧(∀c∈pa,c.Y1≤s.2.2.2)∧(∀c∈pb,c.Y1≤s.2.2.2)∧y0≤s.2.2.2∧s.2.2.2≤max y0 e0∧s.2.2.2∈Y∧cE (s.2.2.1.map aW)∧oW X Y (s.2.2.1.map aW)∧(∀c∈s.2.2.1,c.Y1≤s.2.2.2)∧
        ∀x y,oV (s.2.2.1.map aW) x y= (gv (oV (a.map aW) x y) (oV (b.map aW) x y)&&decide (y<s.2.2.2)))
      (fun s=>(e0 - s.2.2.2).toNat) ?_ ?_ (by dsimp only;omega)) ?_
    · rintro⟨a',b',out,y⟩ ⟨pa,pb,ea,eb,hpa,hpb,hy0,hye,hyY,hcan,hlim,htop,hcov⟩
      dsimp only at ea eb hpa hpb hy0 hye hyY hcan hlim htop hcov ⊢
      refine Ok.bif (fun h=>?_) (fun h=>Ok.br ?_)
      · have hlt:y<e0:=of_decide_eq_true h
        have hsl: ∀(p s t:List aA),t=p++s→s.length≤t.length:=fun p s t e=>by rw [e];simp
        have hal':=hsl _ _ _ ea
        have hbl':=hsl _ _ _ eb
        refine Ok.bind (t7 (y:=y) (a:=a') (by omega) rfl) (fun o ho=>Ok.cs ho ?_ (fun r=>r.elim))
        rintro a2 ⟨qa,ea2,hqa,hha⟩
        refine Ok.bind (t7 (y:=y) (a:=b') (by omega) rfl) (fun o ho=>Ok.cs ho ?_ (fun r=>r.elim))
        rintro b2 ⟨qb,eb2,hqb,hhb⟩
        have ea3:a= (pa++qa)++a2:=by rw [ea,ea2];simp
        have eb3:b= (pb++qb)++b2:=by rw [eb,eb2];simp
        have hPa: ∀c∈pa++qa,c.Y1≤y:=fun c hc=>by rcases List.mem_append.1 hc with h | h;exact hpa c h;exact hqa c h
        have hPb: ∀c∈pb++qb,c.Y1≤y:=fun c hc=>by rcases List.mem_append.1 hc with h | h;exact hpb c h;exact hqb c h
        have ca2:cE (a2.map aW):=by have:=ca;rw [ea3,List.map_append] at this;exact this.app
        have cb2:cE (b2.map aW):=by have:=cb;rw [eb3,List.map_append] at this;exact this.app
        have la2:oW X Y (a2.map aW):=fun c hc=>la c (by rw [ea3,List.map_append];exact List.mem_append_right _ hc)
        have lb2:oW X Y (b2.map aW):=fun c hc=>lb c (by rw [eb3,List.map_append];exact List.mem_append_right _ hc)
        refine Ok.eq (BM a2 y e0) (Ok.eq (BM b2 y e0) ?_)
        obtain⟨a1,a3,a4,a5,a6,a7,a8⟩:=x6 ca2 la2 hha hlt
        obtain⟨b1,b3,b4,b5,b6,b7,b8⟩:=x6 cb2 lb2 hhb hlt
        have hal2: (wO a2 y e0).1.length≤X.length:=eN a5.nodup a8
        have hbl2: (wO b2 y e0).1.length≤X.length:=eN b5.nodup b8
        generalize wO a2 y e0=pa2 at *
        generalize wO b2 y e0=pb2 at *
        obtain⟨xa,n⟩:=pa2
        obtain⟨xb,m⟩:=pb2
        dsimp only at *
        refine Ok.bind (yT hφ hk a5 b5 a6 b6 (by omega) (by omega) (by omega)) ?_
        rintro row ⟨r1,r2,r3,r4⟩
        have hnx: ∃nx,nx= (if m<n then m else n)∧y<nx∧nx≤e0∧nx≤n∧nx≤m∧nx∈Y:=by
          refine⟨_,rfl,by split <;> omega,by split <;> omega,by split <;> omega,by split <;> omega,?_⟩
          split
          · rcases b7 with h | h
            · rw [h];exact ie
            · exact h
          · rcases a7 with h | h
            · rw [h];exact ie
            · exact h
        obtain⟨nx,hnx,n1,n2,n3,n4,n5⟩:=hnx
        rw [←hnx]
        have hol:out.length≤Y.length:=by have:=hlim.len hcan;rwa [List.length_map] at this
        obtain⟨out',p1,p2⟩:=x4 (N:=N) (s:=out) (b:=⟨y,nx,row⟩) (by omega) (fun c hc=>by
          have:=hlim.row hcan (b:=aW c) (List.mem_map.2 ⟨c,hc,rfl⟩)
          have e: (aW c).xs=c.Xs:=rfl
          rw [e] at this;omega)
        refine Ok.eq p1 ?_
        have htop': ∀c∈out.map aW,c.y1≤(aW ⟨y,nx,row⟩).y0:=fun c hc=>by
          obtain⟨d,hd,rfl⟩:=List.mem_map.1 hc
          exact htop d hd
        refine Ok.nx ⟨⟨pa++qa,pb++qb,ea3,eb3,fun c hc=>by have:=hPa c hc;dsimp only;omega,fun c hc=>by have:=hPb c hc;dsimp only;omega,by dsimp only;omega,by dsimp only;omega,n5,by dsimp only;rw [p2];exact qS hcan htop' r1 r2,?_,fun c hc=>?_,fun x y'=>?_⟩,by dsimp only;omega⟩
        · dsimp only;rw [p2]
          refine hlim.push hyY n5 (fun c hc=>?_)
          rcases r4 c hc with h | h
          · exact a8 c h
          · exact b8 c h
        · have hm':aW c∈pushB (out.map aW) (aW ⟨y,nx,row⟩):=by rw [←p2];exact List.mem_map.2 ⟨c,hc,rfl⟩
          exact qT htop' (by show y≤nx;omega) _ hm'
        · show jv (rowAt (out'.map aW) y') x=_
          rw [p2,qR htop' (fun c hc=>(hcan.each c hc).1) (fun h=>absurd h (by show ¬nx≤y;omega))]
          by_cases hyy:y≤y'∧y'<nx
          · rw [if_pos (show (aW ⟨y,nx,row⟩).y0≤y'∧y'< (aW ⟨y,nx,row⟩).y1 from hyy),decide_eq_true hyy.2,Bool.and_true]
            show jv row x=_
            have mp: ∀p q:List aA,(∀c∈p++q,c.Y1≤y)→∀c∈(p++q).map aW,c.y1≤y:=fun p q h c hc=>by
              obtain⟨d,hd,rfl⟩:=List.mem_map.1 hc
              exact h d hd
            have q1:oV (a.map aW) x y'=jv xa x:=by
              unfold oV
              rw [ea3,List.map_append,wj (mp _ _ hPa) hyy.1,a4 y' hyy.1 (by omega)]
            have q2:oV (b.map aW) x y'=jv xb x:=by
              unfold oV
              rw [eb3,List.map_append,wj (mp _ _ hPb) hyy.1,b4 y' hyy.1 (by omega)]
            rw [r3,q1,q2]
          · rw [if_neg (show ¬((aW ⟨y,nx,row⟩).y0≤y'∧y'< (aW ⟨y,nx,row⟩).y1) from hyy)]
            show oV (out.map aW) x y'=_
            rw [hcov]
            by_cases h1:y'<y
            · rw [decide_eq_true h1,decide_eq_true (show y'<nx by omega)]
            · rw [decide_eq_false h1,decide_eq_false (show ¬y'<nx by omega)]
      · have hge:e0≤y:=by have:=of_decide_eq_false h;omega
        refine⟨hcan,fun x y'=>?_,hlim⟩
        dsimp only
        rw [hcov]
        by_cases h1:y'<y
        · rw [decide_eq_true h1,Bool.and_true]
        · have z: ∀s:List aA,(∀c∈s,y0≤c.Y0∧c.Y1≤e0)→oV (s.map aW) x y'=false:=fun s h=>by
            unfold oV
            rw [gx fun c hc=>?_]
            · rfl
            · obtain⟨d,hd,rfl⟩:=List.mem_map.1 hc
              exact .inr (by have:=(h d hd).2;show d.Y1≤y';omega)
          rw [z a ia,z b ib,hk];rfl
    · refine⟨[],[],rfl,rfl,fun c hc=>(by cases hc),fun c hc=>(by cases hc),Int.le_refl _,by dsimp only;omega,iy,cE.nil,fun c hc=>(by cases hc),fun c hc=>(by cases hc),fun x y=>?_⟩
      dsimp only
      show false=_
      by_cases h1:y<y0
      · have z: ∀s:List aA,(∀c∈s,y0≤c.Y0∧c.Y1≤e0)→oV (s.map aW) x y=false:=fun s h=>by
          unfold oV
          rw [gx fun c hc=>?_]
          · rfl
          · obtain⟨d,hd,rfl⟩:=List.mem_map.1 hc
            exact .inl (by have:=(h d hd).1;show y<d.Y0;omega)
        rw [z a ia,z b ib,hk];rfl
      · rw [decide_eq_false h1,Bool.and_false]
    · rintro o ho
      exact Ok.cs ho (fun s h=>Ok.ret h) (fun r=>r.elim)
theorem yU {a b:List aA} {X Y:List Int} (ca:cE (a.map aW)) (cb:cE (b.map aW)) (la:oW X Y (a.map aW)) (lb:oW X Y (b.map aW)) (hX:X.length≤1048576000) (hY:Y.length≤1048576000) (hs: ∀c∈Y,small c) (hN:4398046511104≤N):
    Ok (fX N a b) (u6 (fun p q=>p&& !q) X Y a b):=by
  unfold fX
  exact Ok.bind (xx (gv:=fun p q=>p&& !q) (fun p q=>rfl) rfl ca cb la lb hX hY hs hN) (fun s h=>Ok.ret h)
end
end Go.Gk
namespace Go.Gk
open Go
section
variable {N:Nat}
structure UF (n:Nat) (up:List Int) (r:Nat→Nat):Prop where
  len:up.length=n
  rt: ∀i,i<n→∃u:Nat,up[i]? =some ((u:Nat):Int)∧u≤i∧r u=r i∧(u=i↔r i=i)
theorem UF.le {n:Nat} {up:List Int} {r:Nat→Nat} (h:UF n up r): ∀i,i<n→r i≤i:=by
  intro i
  induction i using Nat.strongRecOn with
  | ind i ih=>
    intro hi
    obtain⟨u,_,h2,h3,h4⟩:=h.rt i hi
    by_cases e:u=i
    · rw [h4.1 e];exact Nat.le_refl _
    · rw [←h3];have:=ih u (by omega) (by omega);omega
theorem UF.rr {n:Nat} {up:List Int} {r:Nat→Nat} (h:UF n up r): ∀i,i<n→r (r i)=r i:=by
  intro i
  induction i using Nat.strongRecOn with
  | ind i ih=>
    intro hi
    obtain⟨u,_,h2,h3,h4⟩:=h.rt i hi
    by_cases e:u=i
    · rw [h4.1 e,h4.1 e]
    · rw [←h3];exact ih u (by omega) (by omega)
theorem iM {l:List Int} {j:Nat} {v:Int} {i:Nat} (hj:j<l.length): (l.set j v)[i]? =if i=j then some v else l[i]? :=by
  rw [List.getElem?_set]
  by_cases e:j=i
  · rw [if_pos e,if_pos e.symm,if_pos hj]
  · rw [if_neg e,if_neg (fun h=>e h.symm)]
theorem UF.init (n:Nat) (up:List Int) (h1:up.length=n) (h2: ∀i,i<n→up[i]? =some ((i:Nat):Int)):UF n up (fun i=>i):=
  ⟨h1,fun i hi=>⟨i,h2 i hi,Nat.le_refl _,rfl,by simp⟩⟩
theorem wk {n:Nat} (hn:n≤1048576000): ∃up,fZ N ((n:Nat):Int)=some up∧UF n up (fun i=>i):=by
  unfold fZ
  rw [px 0 (by omega),aB]
  have h0: (List.replicate n (0:Int)).length=n:=by simp
  obtain⟨s',h1,h2⟩:=rP (m:=(List.replicate n (0:Int)).length) (s:=List.replicate n (0:Int)) (body:=fun(k34:Nat) (s35: (List Int))=>((idx s35 (k34:Int)).bind fun(x38:Int)=>some (s35.set (Int.toNat (k34:Int)) (k34:Int)):Option ((List Int))))
    (fun k s=>s.length=n∧∀i,i<k→s[i]? =some ((i:Nat):Int)) (by omega) ⟨h0,fun i hi=>by omega⟩ (fun k s hk ⟨hs,hi⟩=>by
      refine⟨s.set k ((k:Nat):Int),?_,by simp [hs],fun i hi'=>?_⟩
      · rw [fI _ _ (by omega),aB,Int.toNat_natCast]
      · rw [iM (by omega)]
        split
        · rename_i e;rw [e]
        · exact hi i (by omega))
  rw [h1,aB]
  exact⟨s',rfl,UF.init n s' h2.1 (fun i hi=>h2.2 i (by omega))⟩
theorem u7 {n:Nat} {up:List Int} {r:Nat→Nat} (h:UF n up r) {i:Nat} (hi:i<n) (hn:n<N): ∃up',cX N up ((i:Nat):Int)=some (((r i:Nat):Int),up')∧UF n up' r:=by
  unfold cX
  obtain⟨o,h1,h2⟩:=itr_inv (R:=Empty) (body:=fun(s32: (List Int)×Int)=>((idx s32.1 s32.2).bind fun(x43:Int)=>bif (x43 != s32.2) then ((idx s32.1 s32.2).bind fun(x44:Int)=>(idx s32.1 x44).bind fun(x45:Int)=>(idx s32.1 s32.2).bind fun(x46:Int)=>(idx (s32.1.set (Int.toNat s32.2) x45) s32.2).bind fun(x47:Int)=>some (.nx ((s32.1.set (Int.toNat s32.2) x45),x47))) else (some (.br (s32.1,s32.2))):Option (Fl ((List Int)×Int) Empty)))
    (fun s=>UF n s.1 r∧∃j:Nat,s.2= ((j:Nat):Int)∧j<n∧r j=r i) (fun s=>s.2.toNat) (fun s=>s.2= ((r i:Nat):Int)∧UF n s.1 r) (fun _=>True) (fun s ⟨hu,j,hj,hjn,hr⟩=>by
      obtain⟨l,y⟩:=s
      dsimp only at hu hj ⊢
      subst hj
      obtain⟨u,a1,a2,a3,a4⟩:=hu.rt j hjn
      rw [gu a1,aB]
      by_cases e:u=j
      · subst e
        refine⟨.br (l,((u:Nat):Int)),by rw [show (((u:Nat):Int) != ((u:Nat):Int))=false by simp,cond_false],?_,hu⟩
        show ((u:Nat):Int)=_
        rw [←hr,a4.1 rfl]
      · obtain⟨v,b1,b2,b3,b4⟩:=hu.rt u (by omega)
        have hl:=hu.len
        refine⟨.nx (l.set j ((v:Nat):Int),((v:Nat):Int)),by
          rw [show (((u:Nat):Int) != ((j:Nat):Int))=true by simp;omega,cond_true,aB,gu b1,aB,aB,Int.toNat_natCast,
            gu (x:=((v:Nat):Int)) (by rw [iM (by omega),if_pos rfl]),aB],⟨⟨by simp [hl],fun k hk=>?_⟩,v,rfl,by omega,?_⟩,?_⟩
        · rw [iM (by omega)]
          by_cases e2:k=j
          · subst e2
            rw [if_pos rfl]
            refine⟨v,rfl,by omega,by rw [b3,a3],?_⟩
            constructor
            · intro h;omega
            · intro h;exact absurd (a4.2 h) e
          · rw [if_neg e2];exact hu.rt k hk
        · rw [b3,a3,hr]
        · simp only [Int.toNat_natCast];omega)
    N (up,((i:Nat):Int)) ⟨h,i,rfl,hi,rfl⟩ (by simp only [Int.toNat_natCast];omega)
  rw [h1,aB]
  cases o with
  | go s'=>exact⟨s'.1,by rw [←h2.1];rfl,h2.2⟩
  | rt r=>exact r.elim
def jt (r:Nat→Nat) (a b:Nat):Nat→Nat:=fun x=>if r x=max a b then min a b else r x
theorem An (a b:Nat): (if ((a:Nat):Int)< ((b:Nat):Int) then ((b:Nat):Int) else ((a:Nat):Int))= ((max a b:Nat):Int):=by
  rw [Nat.max_def];split <;> split <;> omega
theorem Ao (a b:Nat): (if ((b:Nat):Int)< ((a:Nat):Int) then ((b:Nat):Int) else ((a:Nat):Int))= ((min a b:Nat):Int):=by
  rw [Nat.min_def];split <;> split <;> omega
theorem Bw {n:Nat} {up:List Int} {r:Nat→Nat} (h:UF n up r) {i k:Nat} (hi:i<n) (hk:k<n) (hn:n<N):
    ∃up',dH N up ((i:Nat):Int) ((k:Nat):Int)=some up'∧UF n up' (jt r (r i) (r k)):=by
  obtain⟨u1,a1,a2⟩:=u7 h hi hn
  obtain⟨u2,b1,b2⟩:=u7 a2 hk hn
  have hri:=h.le i hi
  have hrk:=h.le k hk
  have rri:=h.rr i hi
  have rrk:=h.rr k hk
  unfold dH
  rw [a1,aB,b1,aB]
  dsimp only
  rw [An,Ao]
  have hm:max (r i) (r k)<n:=by omega
  have hl:=b2.len
  rw [fI _ _ (by omega),aB,Int.toNat_natCast]
  refine⟨_,rfl,by simp [hl],fun x hx=>?_⟩
  have rmax:r (max (r i) (r k))=max (r i) (r k):=by rcases Nat.le_total (r i) (r k) with e | e <;> simp [Nat.max_def] <;> split <;> omega
  have rmin:r (min (r i) (r k))=min (r i) (r k):=by rcases Nat.le_total (r i) (r k) with e | e <;> simp [Nat.min_def] <;> split <;> omega
  rw [iM (by omega)]
  by_cases e:x=max (r i) (r k)
  · subst e
    rw [if_pos rfl]
    refine⟨min (r i) (r k),rfl,by omega,?_,?_⟩
    · unfold jt;rw [rmin,rmax,if_pos rfl];split <;> rfl
    · unfold jt;rw [rmax,if_pos rfl]
  · rw [if_neg e]
    obtain⟨u,c1,c2,c3,c4⟩:=b2.rt x hx
    refine⟨u,c1,c2,?_,?_⟩
    · unfold jt;rw [c3]
    · unfold jt
      split
      · rename_i e2
        constructor
        · intro hu;have:=c4.1 hu;omega
        · intro hu
          have h1:=b2.le x hx
          have:min (r i) (r k)=max (r i) (r k)∨x<max (r i) (r k):=by omega
          have h3:x=max (r i) (r k):=by omega
          exact absurd h3 e
      · exact c4
def kI (r:Nat→Nat) (E:List (Nat×Nat)):Prop:=∀p∈E,r p.1=r p.2
def sU (n:Nat) (r:Nat→Nat) (E:List (Nat×Nat)):Prop:=∀S:Nat→Prop,(∀p∈E,S p.1↔S p.2)→∀i j,i<n→j<n→r i=r j→S i→S j
theorem kI.join {r:Nat→Nat} {E:List (Nat×Nat)} (h:kI r E) (i k:Nat) (_h2:r (r i)=r i):kI (jt r (r i) (r k)) (E++[(i,k)]):=fun p hp=>by
  rcases List.mem_append.1 hp with hp | hp
  · unfold jt;rw [h p hp]
  · simp at hp;subst hp
    unfold jt
    dsimp only
    split <;> split <;> omega
theorem sU.join {n:Nat} {r:Nat→Nat} {E:List (Nat×Nat)} (h:sU n r E) {i k:Nat} (hi:i<n) (hk:k<n):sU n (jt r (r i) (r k)) (E++[(i,k)]):=fun S hS x y hx hy hr hSx=>by
  have hE: ∀p∈E,S p.1↔S p.2:=fun p hp=>hS p (List.mem_append_left _ hp)
  have hik:S i↔S k:=hS (i,k) (by simp)
  have key:=h S hE
  unfold jt at hr
  by_cases h1:r x=r y
  · exact key x y hx hy h1 hSx
  · have: (r x=r i∧r y=r k)∨(r x=r k∧r y=r i):=by
      split at hr <;> split at hr <;> omega
    rcases this with ⟨e1,e2⟩ | ⟨e1,e2⟩
    · exact key k y hk hy e2.symm (hik.1 (key x i hx hi e1 hSx))
    · exact key i y hi hy e2.symm (hik.2 (key x k hx hk e1 hSx))
theorem sU.id (n:Nat):sU n (fun i=>i) []:=fun S _ i j _ _ h hs=>by
  have h:i=j:=h
  subst h;exact hs
theorem kI.id:kI (fun i=>i) []:=fun p hp=>by simp at hp
def aZ (n:Nat) (r:Nat→Nat):List Nat:=(List.range n).filter (fun k=>decide (r k=k))
def cls (n:Nat) (r:Nat→Nat) (k:Nat):List Nat:=(List.range n).filter (fun i=>decide (r i=k))
theorem fO (n:Nat) (r:Nat→Nat):aZ (n+1) r=if r n=n then aZ n r++[n] else aZ n r:=by
  unfold aZ
  rw [List.range_succ,List.filter_append]
  by_cases h:r n=n
  · rw [if_pos h];simp [h]
  · rw [if_neg h];simp [h]
theorem ng (n:Nat) (r:Nat→Nat) (k:Nat):cls (n+1) r k=if r n=k then cls n r k++[n] else cls n r k:=by
  unfold cls
  rw [List.range_succ,List.filter_append]
  by_cases h:r n=k
  · rw [if_pos h];simp [h]
  · rw [if_neg h];simp [h]
theorem kn (n:Nat) (r:Nat→Nat): (aZ n r).length≤n:=by
  have:=List.length_filter_le (fun k=>decide (r k=k)) (List.range n)
  rw [List.length_range] at this;exact this
theorem u9 (n:Nat) (r:Nat→Nat) (k:Nat): (cls n r k).length≤n:=by
  have:=List.length_filter_le (fun i=>decide (r i=k)) (List.range n)
  rw [List.length_range] at this;exact this
theorem fA {n k:Nat} {r:Nat→Nat}:k∈aZ n r↔k<n∧r k=k:=by unfold aZ;simp
theorem iW (n:Nat) (r:Nat→Nat): (aZ n r).Nodup:=List.Nodup.sublist List.filter_sublist List.nodup_range
def kJ (n:Nat) (r:Nat→Nat):List (List Int):=(aZ n r).map (fun k=>(cls n r k).map (fun i=>((i:Nat):Int)))
theorem x8 {n k:Nat} {r:Nat→Nat} (h: ∀i,i<n→r i≤i) (hk:n≤k):cls n r k= []:=by
  unfold cls
  rw [List.filter_eq_nil_iff]
  intro i hi
  have h1:=List.mem_range.1 hi
  have:=h i h1
  simp;omega
theorem nh {α β:Type} (f g:α→β) (l:List α) (j:Nat) (a:α) (hn:l.Nodup) (hj:l[j]? =some a) (hf: ∀b,b∈l→b≠a→f b=g b): (l.map f).set j (g a)=l.map g:=by
  apply List.ext_getElem?
  intro i
  have hjl:=(List.getElem?_eq_some_iff.1 hj).1
  rw [List.getElem?_set,List.length_map,List.getElem?_map,List.getElem?_map]
  by_cases e:j=i
  · subst e;rw [if_pos rfl,if_pos hjl,hj];rfl
  · rw [if_neg e]
    cases hb:l[i]? with
    | none=>rfl
    | some b=>
      have hne:b≠a:=fun he=>by
        subst he
        have hil:=(List.getElem?_eq_some_iff.1 hb).1
        exact e ((List.getElem_inj hn).1 (by rw [(List.getElem?_eq_some_iff.1 hb).2,(List.getElem?_eq_some_iff.1 hj).2]) |>.symm)
      show some (f b)=some (g b)
      rw [hf b (List.mem_of_getElem? hb) hne]
def DG (n:Nat) (r:Nat→Nat) (m:List (Int×Int)):Prop:=∀(j k:Nat),(aZ n r)[j]? =some k→mget m ((k:Nat):Int) 0= ((j:Nat):Int)
theorem Bx {n:Nat} {up:List Int} {r:Nat→Nat} (h:UF n up r) (hn:n<N) (hn2:n≤1048576000): ∃up',fg N up=some (kJ n r,up')∧UF n up' r:=by
  unfold fg
  have hlen:=h.len
  have hle:=h.le
  have hrr:=h.rr
  obtain⟨s',h1,h2⟩:=rP (m:=up.length) (s:=(up,([]: (List (List Int))),([]: (List (Int×Int)))))
    (body:=fun(k32:Nat) (s33: (List Int)×(List (List Int))×(List (Int×Int)))=>((cX N s33.1 (k32:Int)).bind fun(x117: (Int×(List Int)))=>(bif (x117.1==(k32:Int)) then ((app 24 s33.2.1 [([]: (List Int))]).bind fun(x126: (List (List Int)))=>some (x126,(mput s33.2.2 (k32:Int) (s33.2.1.length:Int)))) else (some (s33.2.1,s33.2.2))).bind fun(s122: (List (List Int))×(List (Int×Int)))=>(idx s122.1 (mget s122.2 x117.1 (0:Int))).bind fun(x128: (List Int))=>(app 8 x128 ([(k32:Int)]: (List Int))).bind fun(x134: (List Int))=>(idx s122.1 (mget s122.2 x117.1 (0:Int))).bind fun(x136: (List Int))=>some (x117.2,(s122.1.set (Int.toNat (mget s122.2 x117.1 (0:Int))) x134),s122.2):Option ((List Int)×(List (List Int))×(List (Int×Int)))))
    (fun k s=>UF n s.1 r∧s.2.1=kJ k r∧DG k r s.2.2) (by omega) ⟨h,rfl,fun j k hj=>by simp [aZ] at hj⟩ (fun k s hk ⟨hu,hs,hm⟩=>by
      obtain⟨l,ss,m⟩:=s
      dsimp only at hu hs hm ⊢
      subst hs
      rw [hlen] at hk
      obtain⟨u',a1,a2⟩:=u7 hu hk hn
      rw [a1,aB]
      dsimp only
      have hhl:=kn k r
      have hsl: (kJ k r).length= (aZ k r).length:=by unfold kJ;simp
      have hrk:=hle k hk
      by_cases e:r k=k
      ·
        rw [show (((r k:Nat):Int)==((k:Nat):Int))=true by rw [e];simp,cond_true,fJ (by rw [hsl];simp;omega),aB,aB]
        dsimp only
        rw [e,qV,if_pos rfl,hsl]
        have hi: (kJ k r++[([]:List Int)])[(aZ k r).length]? =some []:=by rw [←hsl,List.getElem?_append_right (Nat.le_refl _),Nat.sub_self];rfl
        rw [gu hi,aB,fJ (by simp),aB,aB,Int.toNat_natCast]
        refine⟨_,rfl,a2,?_,fun j q hj=>?_⟩
        · dsimp only
          rw [←hsl,List.set_append_right _ _ (Nat.le_refl _),Nat.sub_self]
          unfold kJ
          rw [fO,if_pos e,List.map_append]
          congr 1
          · apply List.map_congr_left
            intro a ha
            have:=(fA.1 ha).1
            rw [ng,if_neg (by omega)]
          · simp only [List.set_cons_zero,List.map_cons,List.map_nil,List.nil_append]
            rw [ng,if_pos e,x8 (fun i hi=>hle i (by omega)) (Nat.le_refl _)];rfl
        · dsimp only
          rw [fO,if_pos e] at hj
          rw [qV]
          by_cases e2:j< (aZ k r).length
          · rw [List.getElem?_append_left e2] at hj
            have:=(fA.1 (List.mem_of_getElem? hj)).1
            rw [if_neg (by omega)];exact hm j q hj
          · rw [List.getElem?_append_right (by omega)] at hj
            have hj0:j - (aZ k r).length=0:=by
              have:=(List.getElem?_eq_some_iff.1 hj).1;simp at this;omega
            rw [hj0] at hj;simp at hj;subst hj
            rw [if_pos rfl];congr 1;omega
      · rw [show (((r k:Nat):Int)==((k:Nat):Int))=false by simp;omega,cond_false,aB]
        dsimp only
        have hh:r k∈aZ k r:=fA.2 ⟨by omega,hrr k hk⟩
        obtain⟨j,hj⟩:=List.getElem?_of_mem hh
        rw [hm j (r k) hj]
        have hcl:=u9 k r (r k)
        have hi: (kJ k r)[j]? =some ((cls k r (r k)).map (fun i=>((i:Nat):Int))):=by unfold kJ;rw [List.getElem?_map,hj];rfl
        rw [gu hi,aB,fJ (by simp;omega),aB,aB,Int.toNat_natCast]
        refine⟨_,rfl,a2,?_,fun j' q hj'=>?_⟩
        · unfold kJ
          rw [fO,if_neg e]
          have:=nh (fun a=>(cls k r a).map (fun i=>((i:Nat):Int))) (fun a=>(cls (k+1) r a).map (fun i=>((i:Nat):Int))) (aZ k r) j (r k) (iW k r) hj (fun b hb hne=>by
            rw [ng,if_neg (fun h=>hne h.symm)])
          rw [ng,if_pos rfl,List.map_append] at this
          exact this
        · rw [fO,if_neg e] at hj';exact hm j' q hj')
  rw [h1,aB]
  obtain⟨l,ss,m⟩:=s'
  dsimp only at h2
  rw [hlen] at h2
  refine⟨l,?_,h2.1⟩
  rw [←h2.2.1]
end
end Go.Gk
namespace Go.Gk
open Go
section
variable {N:Nat}
theorem va {n:Nat} {up:List Int} {r:Nat→Nat} (h:UF n up r) {i:Nat} (hi:i<n) (hn:n<N): ∃up',cJ N ((i:Nat):Int) up=some (((r i:Nat):Int),up')∧UF n up' r:=by
  unfold cJ
  have:=Ok.bind (β:=Int×List Int) (Q:=fun x=>x.1= ((r i:Nat):Int)∧UF n x.2 r) (Ok.itr (body:=fun(s32:Int×(List Int))=>((idx s32.2 s32.1).bind fun(x43:Int)=>bif (x43 != s32.1) then ((idx s32.2 s32.1).bind fun(x44:Int)=>(idx s32.2 x44).bind fun(x45:Int)=>(idx s32.2 s32.1).bind fun(x46:Int)=>(idx (s32.2.set (Int.toNat s32.1) x45) s32.1).bind fun(x47:Int)=>some (.nx (x47,(s32.2.set (Int.toNat s32.1) x45)))) else (some (.br (s32.1,s32.2))):Option (Fl (Int×(List Int)) Empty)))
    (N:=N) (s:=(((i:Nat):Int),up)) (Go:=fun s=>s.1= ((r i:Nat):Int)∧UF n s.2 r) (Rt:=fun _=>True) (fun s=>UF n s.2 r∧∃j:Nat,s.1= ((j:Nat):Int)∧j<n∧r j=r i) (fun s=>s.1.toNat) (by
      rintro⟨y,l⟩ ⟨hu,j,hj,hjn,hr⟩
      dsimp only at hu hj ⊢
      subst hj
      obtain⟨u,a1,a2,a3,a4⟩:=hu.rt j hjn
      refine Ok.ix a1 ?_
      by_cases e:u=j
      · subst e
        rw [show (((u:Nat):Int) != ((u:Nat):Int))=false by simp,cond_false]
        refine Ok.br ⟨?_,hu⟩
        show ((u:Nat):Int)=_
        rw [←hr,a4.1 rfl]
      · obtain⟨v,b1,b2,b3,b4⟩:=hu.rt u (by omega)
        have hl:=hu.len
        rw [show (((u:Nat):Int) != ((j:Nat):Int))=true by simp;omega,cond_true]
        refine Ok.ix a1 (Ok.ix b1 (Ok.ix a1 (Ok.ix (x:=((v:Nat):Int)) (by rw [Int.toNat_natCast,iM (by omega),if_pos rfl]) (Ok.nx ⟨⟨⟨by simp [hl],fun k hk=>?_⟩,v,rfl,by omega,?_⟩,?_⟩))))
        · rw [Int.toNat_natCast,iM (by omega)]
          by_cases e2:k=j
          · subst e2
            rw [if_pos rfl]
            refine⟨v,rfl,by omega,by rw [b3,a3],?_⟩
            constructor
            · intro h;omega
            · intro h;exact absurd (a4.2 h) e
          · rw [if_neg e2];exact hu.rt k hk
        · rw [b3,a3,hr]
        · simp only [Int.toNat_natCast];omega)
    ⟨h,i,rfl,hi,rfl⟩ (by simp only [Int.toNat_natCast];omega))
    (fun o ho=>Ok.cs (f:=fun(s32:Int×(List Int))=>some (s32.1,s32.2)) (g:=fun r:Empty=>r.elim) ho (fun s h=>Ok.ret h) (fun r=>r.elim))
  obtain⟨⟨x,up'⟩,h1,h2,h3⟩:=this
  exact⟨up',by rw [←h2];exact h1,h3⟩
theorem Ap {n:Nat} {up:List Int} {r:Nat→Nat} (h:UF n up r) {i k:Nat} (hi:i<n) (hk:k<n) {f:List Int→Option (List Int)} (hn:n<N):
    ∃up',((cJ N ((i:Nat):Int) up).bind fun(x840:Int×(List Int))=>(cJ N ((k:Nat):Int) x840.2).bind fun(x842:Int×(List Int))=>(idx x842.2 (if x840.1<x842.1 then x842.1 else x840.1)).bind fun(x844:Int)=>some (x842.2.set (Int.toNat (if x840.1<x842.1 then x842.1 else x840.1)) (if x842.1<x840.1 then x842.1 else x840.1)))=some up'∧UF n up' (jt r (r i) (r k)):=by
  obtain⟨u1,a1,a2⟩:=va h hi hn
  obtain⟨u2,b1,b2⟩:=va a2 hk hn
  obtain⟨v1,c1,c2⟩:=u7 h hi hn
  have hri:=h.le i hi
  have hrk:=h.le k hk
  have rri:=h.rr i hi
  have rrk:=h.rr k hk
  rw [a1,aB,b1,aB]
  dsimp only
  rw [An,Ao]
  have hm:max (r i) (r k)<n:=by omega
  have hl:=b2.len
  rw [fI _ _ (by omega),aB,Int.toNat_natCast]
  refine⟨_,rfl,by simp [hl],fun x hx=>?_⟩
  have rmax:r (max (r i) (r k))=max (r i) (r k):=by rcases Nat.le_total (r i) (r k) with e | e <;> simp [Nat.max_def] <;> split <;> omega
  have rmin:r (min (r i) (r k))=min (r i) (r k):=by rcases Nat.le_total (r i) (r k) with e | e <;> simp [Nat.min_def] <;> split <;> omega
  rw [iM (by omega)]
  by_cases e:x=max (r i) (r k)
  · subst e
    rw [if_pos rfl]
    refine⟨min (r i) (r k),rfl,by omega,?_,?_⟩
    · unfold jt;rw [rmin,rmax,if_pos rfl];split <;> rfl
    · unfold jt;rw [rmax,if_pos rfl]
  · rw [if_neg e]
    obtain⟨u,c1,c2,c3,c4⟩:=b2.rt x hx
    refine⟨u,c1,c2,?_,?_⟩
    · unfold jt;rw [c3]
    · unfold jt
      split
      · rename_i e2
        constructor
        · intro hu;have:=c4.1 hu;omega
        · intro hu
          have h1:=b2.le x hx
          have h3:x=max (r i) (r k):=by omega
          exact absurd h3 e
      · exact c4
def eB (s:List aA) (k:Nat):Nat:=(aI (s.take k)).length
theorem qY {s:List aA} {k:Nat} (h:k<s.length):eB s (k+1)=eB s k+s[k].Xs.length / 2:=by
  unfold eB
  rw [List.take_succ_eq_append_getElem h,iI,List.length_append]
  show _+ (aI [s[k]]).length=_
  rw [show aI [s[k]]=iH s[k] by simp [aI],ir]
theorem qZ {s:List aA} {k m:Nat} (h:k≤m):eB s k≤eB s m:=by
  unfold eB
  have:=qW (s.take m) k
  rwa [List.take_take,Nat.min_eq_left h] at this
theorem wm (s:List aA):eB s s.length= (aI s).length:=by unfold eB;rw [List.take_length]
theorem Bz {s:List aA} {k t:Nat} (h:k<s.length) (ht:2*t+1<s[k].Xs.length): (aI s)[eB s k+t]? =some ⟨s[k].Xs[2*t],s[k].Y0,s[k].Xs[2*t+1],s[k].Y1⟩:=by
  have e:aI s=aI (s.take k)++(iH s[k]++aI (s.drop (k+1))):=by
    conv=>lhs;rw [←List.take_append_drop k s,List.drop_eq_getElem_cons h]
    rw [iI,iV]
  rw [e]
  unfold eB
  rw [List.getElem?_append_right (by omega),Nat.add_sub_cancel_left,List.getElem?_append_left (by rw [ir];omega)]
  unfold iH
  rw [List.getElem?_map,pR _ _ ht];rfl
theorem x9 {s:List aA} {i:Nat} (h:i< (aI s).length): ∃k,k<s.length∧eB s k≤i∧i<eB s (k+1):=by
  have key: ∀m,m≤s.length→i<eB s m→∃k,k<m∧eB s k≤i∧i<eB s (k+1):=by
    intro m
    induction m with
    | zero=>intro _ h;unfold eB at h;simp [aI] at h
    | succ m ih=>
      intro hm hi
      by_cases h1:i<eB s m
      · obtain⟨k,hk,h2⟩:=ih (by omega) h1
        exact⟨k,by omega,h2⟩
      · exact⟨m,by omega,by omega,hi⟩
  exact key s.length (Nat.le_refl _) (by rw [wm];exact h)
def Cs (a c:aC):Prop:=a.Y1=c.Y0∧a.X0<c.X1∧c.X0<a.X1
def yV (all:List aC) (i j:Nat):Prop:=∃a c,all[i]? =some a∧all[j]? =some c∧Cs a c
theorem nE {s:List aA} (he: ∀b∈s,b.Xs.length % 2=0) {k i:Nat} (hk:k<s.length) (h1:eB s k≤i) (h2:i<eB s (k+1)): ∃t,i=eB s k+t∧∃h:2*t+1<s[k].Xs.length,(aI s)[i]? =some ⟨s[k].Xs[2*t],s[k].Y0,s[k].Xs[2*t+1],s[k].Y1⟩:=by
  rw [qY hk] at h2
  have:=he _ (List.getElem_mem hk)
  refine⟨i - eB s k,by omega,by omega,?_⟩
  have h3:=Bz (t:=i - eB s k) hk (by omega)
  rwa [show eB s k+ (i - eB s k)=i by omega] at h3
theorem sV {s:List aA} (hc:cE (s.map aW)) {p q:Nat} (hp:p<s.length) (hq:q<s.length) (h:p<q):s[p].Y1≤s[q].Y0:=by
  have:=List.pairwise_iff_getElem.1 hc.ord p q (by simp;omega) (by simp;omega) h
  simp only [List.getElem_map] at this
  exact this.1
theorem sW {s:List aA} (hc:cE (s.map aW)) {p:Nat} (hp:p<s.length):s[p].Y0<s[p].Y1:=(hc.each (aW s[p]) (List.mem_map.2 ⟨_,List.getElem_mem hp,rfl⟩)).1
theorem jO {s:List aA} (hc:cE (s.map aW)): ∀b∈s,b.Xs.length % 2=0:=fun b hb=>(hc.each (aW b) (List.mem_map.2 ⟨b,hb,rfl⟩)).2.2.2
theorem ya {s:List aA} (hc:cE (s.map aW)): ∀b∈s,iY b.Xs:=fun b hb=>(hc.each (aW b) (List.mem_map.2 ⟨b,hb,rfl⟩)).2.2.1
theorem wo {s:List aA} (hc:cE (s.map aW)) {i j q:Nat} (hq:q<s.length) (h1:eB s q≤j) (h2:j<eB s (q+1)) (ht:yV (aI s) i j): ∃hq0:0<q,s[q - 1].Y1=s[q].Y0∧eB s (q - 1)≤i∧i<eB s q:=by
  obtain⟨a,c,ha,hb,e1,e2,e3⟩:=ht
  obtain⟨t,e4,ht,hj⟩:=nE (jO hc) hq h1 h2
  rw [hj] at hb;injection hb with hb;subst hb
  have hil:=(List.getElem?_eq_some_iff.1 ha).1
  obtain⟨p,hp,p1,p2⟩:=x9 hil
  obtain⟨u,e5,hu,hi⟩:=nE (jO hc) hp p1 p2
  rw [hi] at ha;injection ha with ha;subst ha
  have e1:s[p].Y1=s[q].Y0:=e1
  have hpp:=sW hc hp
  have hqq:=sW hc hq
  have hpq:p+1=q:=by
    rcases Nat.lt_trichotomy p q with h | h | h
    · by_cases h':p+1=q
      · exact h'
      · have h3:=sV hc hp (show p+1<s.length by omega) (by omega)
        have h4:=sV hc (show p+1<s.length by omega) hq (by omega)
        have h5:=sW hc (show p+1<s.length by omega)
        omega
    · subst h;omega
    · have:=sV hc hq hp h;omega
  subst hpq
  exact⟨by omega,e1,p1,p2⟩
structure PJ (all:List aC) (n:Nat) (up:List Int) (r:Nat→Nat) (E:List (Nat×Nat)):Prop where
  uf:UF n up r
  co:kI r E
  fi:sU n r E
  so: ∀p∈E,yV all p.1 p.2
theorem PJ.join {all:List aC} {n:Nat} {up up':List Int} {r:Nat→Nat} {E:List (Nat×Nat)} (h:PJ all n up r E) {i j:Nat} (hi:i<n) (hj:j<n) (hu:UF n up' (jt r (r i) (r j))) (ht:yV all i j):PJ all n up' (jt r (r i) (r j)) (E++[(i,j)]):=
  ⟨hu,h.co.join i j (h.uf.rr i hi),h.fi.join hi hj,fun p hp=>by
    rcases List.mem_append.1 hp with hp | hp
    · exact h.so p hp
    · simp at hp;subst hp;exact ht⟩
structure Joined (all:List aC) (r:Nat→Nat):Prop where
  le: ∀i,i<all.length→r i≤i
  rr: ∀i,i<all.length→r (r i)=r i
  co: ∀i j,yV all i j→r i=r j
  fi: ∀S:Nat→Prop,(∀i j,yV all i j→(S i↔S j))→∀i j,i<all.length→j<all.length→r i=r j→S i→S j
def iQ (all:List aC) (n:Nat) (r:Nat→Nat) (h:Nat):List aC:=(cls n r h).filterMap (fun i=>all[i]?)
theorem sX (all:List aC) (n:Nat) (r:Nat→Nat) (h:Nat): (iQ all n r h).length≤n:=by
  have h1:=List.length_filterMap_le (fun i=>all[i]?) (cls n r h)
  have h2:=u9 n r h
  unfold iQ;omega
theorem nF {all:List aC} {n:Nat} {r:Nat→Nat} (h:Nat) {x:aC} (hx:all[n]? =some x):iQ all (n+1) r h=if r n=h then iQ all n r h++[x] else iQ all n r h:=by
  unfold iQ
  rw [ng]
  split
  · rw [List.filterMap_append];simp [hx]
  · rfl
theorem ji {all:List aC} {n:Nat} {r:Nat→Nat} {h:Nat} {x:aC}:x∈iQ all n r h↔∃i,i<n∧r i=h∧all[i]? =some x:=by
  unfold iQ cls
  rw [List.mem_filterMap]
  constructor
  · rintro⟨i,hi,h⟩
    have:=List.mem_filter.1 hi
    exact⟨i,List.mem_range.1 this.1,by simpa using this.2,h⟩
  · rintro⟨i,h1,h2,h3⟩
    exact⟨i,List.mem_filter.2 ⟨List.mem_range.2 h1,by simpa using h2⟩,h3⟩
structure mf (s:List aA) (r:Nat→Nat) (ps:List (List aA)):Prop where
  join:Joined (aI s) r
  len:ps.length= (aZ (aI s).length r).length
  each: ∀(j h:Nat) (p:List aA),(aZ (aI s).length r)[j]? =some h→ps[j]? =some p→lU (iQ (aI s) (aI s).length r h) p
def Fi (n:Nat) (r:Nat→Nat) (m:List (Int×Int)):Prop:=(∀(j k:Nat),(aZ n r)[j]? =some k→mget m ((k:Nat):Int) 0= ((j:Nat):Int))∧∀k:Nat,my m ((k:Nat):Int)=decide (k∈aZ n r)
theorem xy {s:List aA} {X Y:List Int} (hc:cE (s.map aW)) (hl:oW X Y (s.map aW)) (hX: ∀c∈X,small c) (hY: ∀c∈Y,small c) (h1:s.length≤1073741824) (h2: ∀b∈s,b.Xs.length≤1073741824) (h3: (aI s).length≤134217728) (hN:4398046511104≤N):
    Ok (gA N s) (fun ps=>∃r,mf s r ps):=by
  unfold gA
  have hev:=jO hc
  have hinc:=ya hc
  refine Ok.eq (nd hev (by omega) (fun b hb=>by have:=h2 b hb;omega) (by omega)) ?_
  have hok:=sR hc hl hX hY
  have hall:eB s s.length= (aI s).length:=wm s
  generalize hn: (aI s).length=n at *
  refine Ok.eq (px 0 (by omega)) ?_
  rw [show ((List.replicate n (0:Int)).length)=n by simp]
  refine Ok.bind (Ok.iz (fun k up=>up.length=n∧∀i,i<k→up[i]? =some ((i:Nat):Int)) (by omega) ⟨by simp,fun i hi=>by omega⟩ (fun k up hk hI=>?_)) ?_
  · obtain⟨hs,hi⟩:=hI
    refine Ok.idx (by omega) (Ok.ret ⟨by simp [hs],fun i hi'=>?_⟩)
    rw [Int.toNat_natCast,iM (by omega)]
    split
    · rename_i e;rw [e]
    · exact hi i (by omega)
  rintro up0 ⟨hu1,hu2⟩
  refine Ok.bind (Ok.iz (fun k st=>st.2.1= ((eB s k:Nat):Int)∧(0<k→st.2.2= ((eB s (k - 1):Nat):Int))∧∃r E,PJ (aI s) n st.1 r E∧∀q,q<k→∀i j,eB s q≤j→j<eB s (q+1)→yV (aI s) i j→(i,j)∈E) (by omega)
    ⟨rfl,fun h=>by omega,_,_,⟨UF.init n up0 hu1 hu2,kI.id,sU.id n,fun p hp=>(by cases hp)⟩,fun q hq=>by omega⟩ (fun k st hk hI=>?_)) ?_
  · obtain⟨up,a,b⟩:=st
    obtain⟨e1,e2,r,E,hP,hE⟩:=hI
    dsimp only at e1 e2 hP ⊢
    subst e1
    refine Ok.idx hk ?_
    have hoff:=qY hk
    have hoffle:eB s (k+1)≤n:=by rw [←hall];exact qZ hk
    have hkm:=List.getElem_mem hk
    have hlen:IntKind.wrap .i64 (Int.tdiv ((s[k].Xs.length:Nat):Int) 2)= ((s[k].Xs.length / 2:Nat):Int):=by
      have:=h2 _ hkm
      rw [show (2:Int)= ((2:Nat):Int) by rfl,←Int.ofNat_tdiv,sO (by omega)]
    rw [hlen,wrap_add (by omega),←hoff]
    refine Ok.bind (P:=fun c=>c=true↔∃h0:0<k,s[k - 1].Y1=s[k].Y0) ?_ (fun c hcc=>?_)
    · refine Ok.bif (fun h=>?_) (fun h=>Ok.ret ?_)
      · have hpos:0<k:=by have:=of_decide_eq_true h;omega
        rw [iT hpos (by omega)]
        refine Ok.idx (by omega) (Ok.ret ?_)
        rw [beq_iff_eq]
        exact⟨fun h=>⟨hpos,h⟩,fun⟨_,h⟩=>h⟩
      · have:=of_decide_eq_false h
        constructor
        · intro h;cases h
        · rintro⟨h0,_⟩;omega
    refine Ok.bind (P:=fun up'=>∃r E,PJ (aI s) n up' r E∧∀q,q<k+1→∀i j,eB s q≤j→j<eB s (q+1)→yV (aI s) i j→(i,j)∈E) ?_ (fun up' hI=>Ok.ret ⟨rfl,fun _=>rfl,hI⟩)
    refine Ok.bif (fun h=>?_) (fun h=>Ok.ret ⟨r,E,hP,fun q hq i j q1 q2 ht=>?_⟩)
    · obtain⟨hpos,hyy⟩:=hcc.1 h
      rw [e2 hpos]
      have hoffp:=qY (show k - 1<s.length by omega)
      rw [show k - 1+1=k by omega] at hoffp
      refine Ok.bind (Ok.itr (Go:=fun st=>∃r E,PJ (aI s) n st.1 r E∧∀q,q<k+1→∀i j,eB s q≤j→j<eB s (q+1)→yV (aI s) i j→(i,j)∈E) (Rt:=fun _=>True)
        (fun st=>∃i j:Nat,st.2.1= ((i:Nat):Int)∧st.2.2= ((j:Nat):Int)∧eB s (k - 1)≤i∧i≤eB s k∧eB s k≤j∧j≤eB s (k+1)∧∃r E,PJ (aI s) n st.1 r E∧(∀q,q<k→∀i j,eB s q≤j→j<eB s (q+1)→yV (aI s) i j→(i,j)∈E)∧
          ∀i' j',eB s (k - 1)≤i'→i'<eB s k→eB s k≤j'→j'<eB s (k+1)→(i'<i∨j'<j)→yV (aI s) i' j'→(i',j')∈E)
        (fun st=>(n - st.2.1.toNat)+ (n - st.2.2.toNat)) ?_ ?_ (by simp only [Int.toNat_natCast];omega)) (fun o ho=>Ok.cs ho (fun st h=>Ok.ret h) (fun r=>r.elim))
      · rintro⟨up,a,b⟩ ⟨i,j,e3,e4,i1,i2,j1,j2,r,E,hP,hE,hE2⟩
        dsimp only at e3 e4 hP ⊢
        subst e3;subst e4
        refine Ok.bif (fun h=>?_) (fun h=>Ok.br ?_)
        · rw [Bool.and_eq_true,decide_eq_true_eq,decide_eq_true_eq] at h
          have hi:i<eB s k:=by omega
          have hj:j<eB s (k+1):=by omega
          obtain⟨t,et,_,hri⟩:=nE hev (show k - 1<s.length by omega) i1 (by rw [show k - 1+1=k by omega];exact hi)
          obtain⟨u,eu,_,hrj⟩:=nE hev hk j1 hj
          have xi:=hinc _ (List.getElem_mem (show k - 1<s.length by omega))
          have xj:=hinc _ hkm
          have farI: ∀i' a,i<i'→i'<eB s k→(aI s)[i']? =some a→s[k - 1].Xs[2*t+1]<a.X0:=fun i' a h4 h5 h6=>by
            obtain⟨t',et',ht',hr'⟩:=nE hev (show k - 1<s.length by omega) (show eB s (k - 1)≤i' by omega) (by rw [show k - 1+1=k by omega];exact h5)
            rw [hr'] at h6;injection h6 with h6;subst h6
            exact xi.lt (show 2*t+1<2*t' by omega) (List.getElem?_eq_getElem _) (List.getElem?_eq_getElem _)
          have farJ: ∀j' a,j<j'→j'<eB s (k+1)→(aI s)[j']? =some a→s[k].Xs[2*u+1]<a.X0:=fun j' a h4 h5 h6=>by
            obtain⟨u',eu',hu',hr'⟩:=nE hev hk (show eB s k≤j' by omega) h5
            rw [hr'] at h6;injection h6 with h6;subst h6
            exact xj.lt (show 2*u+1<2*u' by omega) (List.getElem?_eq_getElem _) (List.getElem?_eq_getElem _)
          refine Ok.bind (P:=fun c=>c=true↔yV (aI s) i j) ?_ (fun c hct=>?_)
          · refine Ok.ix hri (Ok.ix hrj (Ok.bif (fun h=>Ok.ix hrj (Ok.ix hri (Ok.ret ?_))) (fun h=>Ok.ret ?_)))
            · rw [decide_eq_true_eq] at h ⊢
              constructor
              · intro h';exact⟨_,_,hri,hrj,hyy,h,h'⟩
              · rintro⟨a,c,ha,hc',_,_,h'⟩
                rw [hri] at ha;injection ha with ha;subst ha
                rw [hrj] at hc';injection hc' with hc';subst hc'
                exact h'
            · constructor
              · intro h;cases h
              · rintro⟨a,c,ha,hc',_,h',_⟩
                rw [hri] at ha;injection ha with ha;subst ha
                rw [hrj] at hc';injection hc' with hc';subst hc'
                rw [decide_eq_false_iff_not] at h;exact absurd h' h
          refine Ok.bind (P:=fun up'=>∃r E',PJ (aI s) n up' r E'∧(∀p∈E,p∈E')∧(yV (aI s) i j→(i,j)∈E')) ?_ ?_
          · refine Ok.bif (fun h=>?_) (fun h=>Ok.ret ⟨r,E,hP,fun p hp=>hp,fun ht=>by rw [hct.2 ht] at h;cases h⟩)
            obtain⟨up',u1,u2⟩:=Ap (N:=N) (f:=fun x=>some x) hP.uf (i:=i) (k:=j) (by omega) (by omega) (by omega)
            refine⟨up',u1,_,_,hP.join (by omega) (by omega) u2 (hct.1 h),fun p hp=>List.mem_append_left _ hp,fun _=>by simp⟩
          · rintro up' ⟨r',E',hP',hsub,hij⟩
            refine Ok.ix hri (Ok.ix hrj ?_)
            dsimp only
            by_cases hx:s[k - 1].Xs[2*t+1]<s[k].Xs[2*u+1]
            · rw [decide_eq_true hx,cond_true]
              refine Ok.eq (x:=(((i+1:Nat):Int),((j:Nat):Int))) (by rw [eQ (by omega)]) (Ok.nx ⟨⟨i+1,j,rfl,rfl,by omega,by omega,j1,j2,r',E',hP',fun q hq i j q1 q2 ht=>hsub _ (hE q hq i j q1 q2 ht),fun i' j' g1 g2 g3 g4 g5 ht=>?_⟩,by simp only [Int.toNat_natCast];omega⟩)
              by_cases h5:i'<i∨j'<j
              · exact hsub _ (hE2 i' j' g1 g2 g3 g4 h5 ht)
              · have:i'=i:=by omega
                subst this
                by_cases h6:j'=j
                · subst h6;exact hij ht
                · exfalso
                  obtain⟨a,c,ha,hc',_,_,h'⟩:=ht
                  rw [hri] at ha;injection ha with ha;subst ha
                  have:=farJ j' c (by omega) g4 hc'
                  dsimp only at h';omega
            · rw [decide_eq_false hx,cond_false]
              refine Ok.eq (x:=(((i:Nat):Int),((j+1:Nat):Int))) (by rw [eQ (by omega)]) (Ok.nx ⟨⟨i,j+1,rfl,rfl,i1,i2,by omega,by omega,r',E',hP',fun q hq i j q1 q2 ht=>hsub _ (hE q hq i j q1 q2 ht),fun i' j' g1 g2 g3 g4 g5 ht=>?_⟩,by simp only [Int.toNat_natCast];omega⟩)
              by_cases h5:i'<i∨j'<j
              · exact hsub _ (hE2 i' j' g1 g2 g3 g4 h5 ht)
              · have:j'=j:=by omega
                subst this
                by_cases h6:i'=i
                · subst h6;exact hij ht
                · exfalso
                  obtain⟨a,c,ha,hc',_,h',_⟩:=ht
                  rw [hrj] at hc';injection hc' with hc';subst hc'
                  have:=farI i' a (by omega) g2 ha
                  dsimp only at h';omega
        · refine⟨r,E,hP,fun q hq i' j' q1 q2 ht=>?_⟩
          by_cases hqk:q<k
          · exact hE q hqk i' j' q1 q2 ht
          · have:q=k:=by omega
            subst this
            obtain⟨_,_,g1,g2⟩:=wo hc hk q1 q2 ht
            refine hE2 i' j' g1 g2 q1 q2 ?_ ht
            rw [Bool.and_eq_false_iff,decide_eq_false_iff_not,decide_eq_false_iff_not] at h
            omega
      · exact⟨eB s (k - 1),eB s k,rfl,rfl,Nat.le_refl _,qZ (by omega),Nat.le_refl _,qZ (by omega),r,E,hP,hE,fun i' j' g1 g2 g3 g4 g5=>by omega⟩
    · by_cases hqk:q<k
      · exact hE q hqk i j q1 q2 ht
      · have:q=k:=by omega
        subst this
        obtain⟨g0,g1,_⟩:=wo hc hk q1 q2 ht
        rw [hcc.2 ⟨g0,g1⟩] at h;cases h
  · rintro⟨up,a,b⟩ ⟨_,_,r,E,hP,hE⟩
    dsimp only at hP ⊢
    have hEq: ∀i j,yV (aI s) i j→(i,j)∈E:=fun i j ht=>by
      have hjl:j< (aI s).length:=by obtain⟨a,c,_,hb,_⟩:=ht;exact(List.getElem?_eq_some_iff.1 hb).1
      obtain⟨q,hq,q1,q2⟩:=x9 hjl
      exact hE q hq i j q1 q2 ht
    have hJ:Joined (aI s) r:=⟨by rw [hn];exact hP.uf.le,by rw [hn];exact hP.uf.rr,fun i j ht=>hP.co (i,j) (hEq i j ht),fun S hS i j hi hj=>by
      rw [hn] at hi hj
      exact hP.fi S (fun p hp=>hS p.1 p.2 (hP.so p hp)) i j hi hj⟩
    refine Ok.bind (Ok.iz (fun k st=>UF n st.1 r∧Fi k r st.2.1∧st.2.2= (aZ k r).map (iQ (aI s) k r)) (by omega) ⟨hP.uf,⟨fun j k hj=>by simp [aZ] at hj,fun k=>rfl⟩,rfl⟩ (fun k st hk hI=>?_)) ?_
    · obtain⟨l,m,ls⟩:=st
      obtain⟨hu,⟨hm1,hm2⟩,hs⟩:=hI
      dsimp only at hu hm1 hm2 hs ⊢
      subst hs
      have hkx: (aI s)[k]? =some ((aI s)[k]'(by omega)):=List.getElem?_eq_getElem (by omega)
      refine Ok.ix hkx ?_
      obtain⟨u',a1,a2⟩:=va (N:=N) hu hk (by omega)
      refine Ok.eq a1 ?_
      dsimp only
      have hhl:=kn k r
      have hrk:=hP.uf.le k hk
      have hrr:=hP.uf.rr k hk
      have hcl:=sX (aI s) k r (r k)
      have hmap: ((aZ k r).map (iQ (aI s) k r)).length= (aZ k r).length:=by simp
      rw [hm2]
      by_cases e:r k=k
      · have hnot:r k∉aZ k r:=fun h=>by have:=(fA.1 h).1;omega
        refine Ok.eq (x:=(mput m ((r k:Nat):Int) (((aZ k r).length:Nat):Int),(aZ k r).map (iQ (aI s) k r)++[([]:List aC)],(((aZ k r).length:Nat):Int))) ?_ ?_
        · rw [decide_eq_false hnot,Bool.not_false,cond_true,fJ (by simp;omega),aB,hmap]
        · dsimp only
          have hi: ((aZ k r).map (iQ (aI s) k r)++[([]:List aC)])[(aZ k r).length]? =some []:=by rw [←hmap,List.getElem?_append_right (Nat.le_refl _),Nat.sub_self];rfl
          refine Ok.ix hi (Ok.app (by simp) (Ok.ix hi (Ok.ret ⟨a2,⟨fun j q hj=>?_,fun q=>?_⟩,?_⟩)))
          · dsimp only
            rw [fO,if_pos e] at hj
            rw [qV]
            by_cases e2:j< (aZ k r).length
            · rw [List.getElem?_append_left e2] at hj
              have:=(fA.1 (List.mem_of_getElem? hj)).1
              rw [if_neg (by omega)];exact hm1 j q hj
            · rw [List.getElem?_append_right (by omega)] at hj
              have hj0:j - (aZ k r).length=0:=by
                have:=(List.getElem?_eq_some_iff.1 hj).1;simp at this;omega
              rw [hj0] at hj;simp at hj;subst hj
              rw [if_pos (by rw [e])];congr 1;omega
          · dsimp only
            rw [yR,hm2,fO,if_pos e,Bool.eq_iff_iff]
            rw [Bool.or_eq_true,decide_eq_true_eq,decide_eq_true_eq,decide_eq_true_eq,List.mem_append,List.mem_singleton,e]
            constructor
            · rintro(h | h)
              · exact .inr (by omega)
              · exact .inl h
            · rintro(h | h)
              · exact .inr h
              · exact .inl (by omega)
          · dsimp only
            rw [Int.toNat_natCast,←hmap,List.set_append_right _ _ (Nat.le_refl _),Nat.sub_self,fO,if_pos e,List.map_append]
            congr 1
            · apply List.map_congr_left
              intro a ha
              have:=(fA.1 ha).1
              rw [nF a hkx,if_neg (by omega)]
            · simp only [List.set_cons_zero,List.map_cons,List.map_nil,List.nil_append]
              rw [nF k hkx,if_pos e]
              have:iQ (aI s) k r k= []:=by unfold iQ;rw [x8 (fun i hi=>hP.uf.le i (by omega)) (Nat.le_refl _)];rfl
              rw [this];rfl
      · have hh:r k∈aZ k r:=fA.2 ⟨by omega,hrr⟩
        obtain⟨j,hj⟩:=List.getElem?_of_mem hh
        refine Ok.eq (x:=(m,(aZ k r).map (iQ (aI s) k r),((j:Nat):Int))) ?_ ?_
        · rw [decide_eq_true hh,Bool.not_true,cond_false,hm1 j (r k) hj]
        · dsimp only
          have hi: ((aZ k r).map (iQ (aI s) k r))[j]? =some (iQ (aI s) k r (r k)):=by rw [List.getElem?_map,hj];rfl
          refine Ok.ix hi (Ok.app (by simp;omega) (Ok.ix hi (Ok.ret ⟨a2,⟨fun j' q hj'=>?_,fun q=>?_⟩,?_⟩)))
          · rw [fO,if_neg e] at hj';exact hm1 j' q hj'
          · rw [fO,if_neg e];exact hm2 q
          · dsimp only
            rw [Int.toNat_natCast,fO,if_neg e]
            have:=nh (iQ (aI s) k r) (iQ (aI s) (k+1) r) (aZ k r) j (r k) (iW k r) hj (fun b hb hne=>by
              rw [nF b hkx,if_neg (fun h=>hne h.symm)])
            rw [nF (r k) hkx,if_pos rfl] at this
            exact this
    · rintro⟨l,m,ls⟩ ⟨_,_,hs⟩
      dsimp only at hs ⊢
      subst hs
      have hhl:=kn n r
      refine Ok.bind (Ok.iz (fun k ps=>ps.length=k∧∀(j h:Nat) (p:List aA),j<k→(aZ n r)[j]? =some h→ps[j]? =some p→lU (iQ (aI s) n r h) p) (by simp;omega) ⟨rfl,fun j h p hj=>by omega⟩ (fun k ps hk hI=>?_)) ?_
      · obtain⟨hp1,hp2⟩:=hI
        have hk':k< (aZ n r).length:=by simpa using hk
        refine Ok.ix (x:=iQ (aI s) n r (aZ n r)[k]) (by rw [List.getElem?_map,List.getElem?_eq_getElem hk'];rfl) ?_
        have hcl:=sX (aI s) n r (aZ n r)[k]
        refine Ok.bind (kH (N:=N) (by omega) (fun x hx=>?_) (by omega)) ?_
        · obtain⟨i,_,_,h⟩:=ji.1 hx
          exact(hok x (List.mem_of_getElem? h)).1
        · intro p hp
          refine Ok.app (by rw [hp1];simp;omega) (Ok.ret ⟨by simp [hp1],fun j h q hj hh hq=>?_⟩)
          by_cases hjk:j<k
          · rw [List.getElem?_append_left (by omega)] at hq
            exact hp2 j h q hjk hh hq
          · have:j=k:=by omega
            subst this
            rw [List.getElem?_append_right (by omega),hp1,Nat.sub_self] at hq
            simp at hq;subst hq
            rw [List.getElem?_eq_getElem hk'] at hh;injection hh with hh;subst hh
            exact hp
      · rintro ps ⟨hp1,hp2⟩
        refine Ok.ret ⟨r,hJ,?_,fun j h p hh hp=>?_⟩
        · rw [hp1,hn];simp
        · rw [hn] at hh ⊢
          exact hp2 j h p (by have:=(List.getElem?_eq_some_iff.1 hp).1;omega) hh hp
end
end Go.Gk
namespace Go.Gk
open Go
section
variable {N:Nat}
theorem pT {n:Int} (h: -9223372036854775808≤n∧n≤9223372036854775807):IntKind.wrap .i64 n=n:=by rw [IntKind.wrap_i64];omega
def eF (n lo hi:Int):Bool:=decide (n≥lo)&&decide (n≤hi)
def kK (n:Int):Bool:=eF n (-1000000) 1000000
def pU (p:bU):Bool:=kK p.X&&kK p.Y
def cA (r:aC):Bool:=kK r.X0&&(kK r.Y0&&(kK r.X1&&kK r.Y1))
theorem sY (n:Int):gq N n=some (kK n):=rfl
theorem ru (p:bU):eU N p=some (pU p):=by
  unfold eU pU
  rw [sY,aB,sY]
  cases kK p.X <;> rfl
theorem sZ (r:aC):hU N r=some (cA r):=by
  unfold hU cA
  simp only [sY,aB]
  cases kK r.X0 <;> cases kK r.Y0 <;> cases kK r.X1 <;> rfl
theorem wq {a b:Int} (h:a≠b):dF (N+4) [a,b]=some [a,b]:=by
  have e: (b==a)=false:=by rw [beq_eq_false_iff_ne];exact fun e=>h e.symm
  have w1:IntKind.wrap .i64 ((1:Int) - 1)=0:=by decide
  have w2:IntKind.wrap .i64 ((1:Int)+1)=2:=by decide
  unfold dF
  have e1:idx [a,b] 1=some b:=rfl
  have e2:idx [a,b] 0=some a:=rfl
  have l2: (([a,b]:List Int).length:Int)=2:=rfl
  rw [l2,show decide ((2:Int)<2)=false by decide,cond_false]
  rw [itr.eq_def]
  dsimp only
  rw [show decide ((1:Int)<2)=true by decide,cond_true,e1,aB,w1,e2,aB,e,cond_false,aB,w2]
  dsimp only
  rw [itr.eq_def]
  dsimp only
  rw [show decide ((2:Int)<2)=false by decide,cond_false,aB]
  rfl
theorem BN (x:Int):IntKind.wrap .i64 (x - x)=0:=by rw [Int.sub_self];decide
theorem yW {r:aC} (hx:r.X0<r.X1) (hy:r.Y0<r.Y1):cW (N+16) [r]=some [⟨r.Y0,r.Y1,[r.X0,r.X1]⟩]:=by
  have s1:o4 (eZ (N+16)) [r]=some [r]:=t4 (by unfold eZ;rw [BN])
  have s2:o4 (dG (N+16)) [r]=some [r]:=t4 (by unfold dG;rw [BN])
  have s3:mN [r.Y0,r.Y1]=some [r.Y0,r.Y1]:=tG (by simp;omega) (by simp)
  have c1:eJ (N+16) [r]=some [r]:=rfl
  have f1: ∀φ,dR (N+16) [] φ=some []:=fun φ=>rfl
  have st:eL (N+16) [r]=some ([r.X0,r.X1],[r]):=by
    unfold eL
    rw [s2,aB]
    rfl
  have pu: ∀b:aA,b.Xs= [r.X0,r.X1]→b.Y0<b.Y1→eG (N+16) [] b=some [b]:=fun b h1 h2=>by
    unfold eG
    rw [h1,decide_eq_false (show ¬b.Y1≤b.Y0 by omega)]
    rfl
  unfold cW
  rw [c1,aB,s1,aB]
  have ys: (iz ([r]:List aC).length (fun(k35:Nat) (s36: (List Int))=>((idx [r] (k35:Int)).bind fun(x54:aC)=>(app 8 s36 ([x54.Y0,x54.Y1]: (List Int))).bind fun(x58: (List Int))=>some x58:Option ((List Int)))) ([]: (List Int)))=some [r.Y0,r.Y1]:=rfl
  rw [ys,aB,s3,aB,wq (N:=N+12) (by omega),aB]
  have l2: (([r.Y0,r.Y1]:List Int).length:Int)=2:=rfl
  have l1: (([r]:List aC).length:Int)=1:=rfl
  have w1:IntKind.wrap .i64 ((0:Int)+1)=1:=by decide
  have w2:IntKind.wrap .i64 ((1:Int)+1)=2:=by decide
  have i0:idx [r.Y0,r.Y1] 0=some r.Y0:=rfl
  have i1:idx [r.Y0,r.Y1] 1=some r.Y1:=rfl
  have j0:idx [r] 0=some r:=rfl
  have a1:app 32 ([]:List aC) [r]=some [r]:=rfl
  rw [l2,l1]
  rw [itr.eq_def]
  dsimp only
  rw [w1,show decide ((1:Int)<2)=true by decide,cond_true,f1,aB]
  rw [itr.eq_def]
  dsimp only
  rw [show decide ((0:Int)<1)=true by decide,cond_true,j0,aB,i0,aB,aB,show decide (r.Y0≤r.Y0)=true by simp,cond_true,aB,a1,aB,w1,aB]
  dsimp only
  rw [itr.eq_def]
  dsimp only
  rw [show decide ((1:Int)<1)=false by decide,cond_false,aB,cond_false,aB,aB]
  unfold Fo.cs
  dsimp only
  rw [aB,i1,aB,st,aB,pu _ rfl hy,aB,aB]
  dsimp only
  rw [itr.eq_def]
  dsimp only
  rw [w2,show decide ((2:Int)<2)=false by decide,cond_false,aB]
  rfl
theorem Aq {r:aC} (hx:r.X0<r.X1):gZ N [⟨r.Y0,r.Y1,[r.X0,r.X1]⟩]=some (cA r):=by
  have ar:ig N [⟨r.Y0,r.Y1,[r.X0,r.X1]⟩]=some r:=by
    have e1: (if r.X0<r.X0 then r.X0 else r.X0)=r.X0:=by split <;> rfl
    have e2: (if r.X1<r.X1 then r.X1 else r.X1)=r.X1:=by split <;> rfl
    show some ({X0:=(if r.X0<r.X0 then r.X0 else r.X0),Y0:=r.Y0,X1:=(if r.X1<r.X1 then r.X1 else r.X1),Y1:=r.Y1}:aC)=some r
    rw [e1,e2]
  unfold gZ
  rw [ar,aB,sZ]
  rfl
def rR (b:bD):aC:=⟨b.At.X - b.cD / 2,b.At.Y - b.cD / 2,b.At.X - b.cD / 2+b.cD,b.At.Y - b.cD / 2+b.cD⟩
def ni (b:bD):Bool:=eF b.cD 1 10000&&pU b.At
def jE (b:bD):aC×Int:=if ni b&&cA (rR b) then (rR b,0) else (⟨0,0,0,0⟩,1)
theorem nj {b:bD} (h:ni b=true): (1≤b.cD∧b.cD≤10000)∧(-1000000≤b.At.X∧b.At.X≤1000000)∧(-1000000≤b.At.Y∧b.At.Y≤1000000):=by
  simp only [ni,eF,pU,kK,Bool.and_eq_true,decide_eq_true_iff] at h
  omega
theorem iX {b:bD} (h:ni b=true):cQ N b=some (rR b):=by
  obtain⟨h1,h2,h3⟩:=nj h
  have t:Int.tdiv b.cD 2=b.cD / 2:=Int.tdiv_eq_ediv_of_nonneg (by omega)
  unfold cQ rR
  rw [t,pT (n:=b.cD / 2) (by omega),pT (n:=b.At.X - b.cD / 2) (by omega),pT (n:=b.At.Y - b.cD / 2) (by omega),pT (by omega),pT (by omega)]
theorem lW {b:bD}:fM (N+16) b=some (jE b):=by
  have e0:dA (N+16) b.cD 1 10000=some (eF b.cD 1 10000):=rfl
  have e1: (bif (!(eF b.cD 1 10000)) then (some true) else (some (!(pU b.At))))=some (!ni b):=by unfold ni;cases eF b.cD 1 10000 <;> rfl
  unfold fM jE
  rw [e0,aB,ru,aB,e1,aB]
  cases hf:ni b with
  | false=>rfl
  | true=>
    obtain⟨h1,h2,h3⟩:=nj hf
    have hx: (rR b).X0< (rR b).X1:=by simp only [rR];omega
    have hy: (rR b).Y0< (rR b).Y1:=by simp only [rR];omega
    rw [Bool.not_true,cond_false,iX hf,aB,yW hx hy,aB,Aq hx,aB]
    cases cA (rR b) <;> rfl
theorem yX:cM (N+16)=some true:=by
  unfold cM
  rw [lW,aB]
  rfl
end
end Go.Gk
namespace Go.Gk
open Go
section
variable {N:Nat}
def Ct (c:UInt8):Bool:=
  ((((decide (((c.toNat:Nat):Int)<65))||(decide (((c.toNat:Nat):Int)>90)))&&((decide (((c.toNat:Nat):Int)<97))||(decide (((c.toNat:Nat):Int)>122))))&&((decide (((c.toNat:Nat):Int)<48))||(decide (((c.toNat:Nat):Int)>57))))&&decide (Lib.indexByte [95,43,45,35] c<0)
def isWord (s:bS):Bool:= !s.bM.any Ct&&(decide (1≤s.bM.length)&&decide (s.bM.length≤40))
theorem pV (s:bS) (c:UInt8):eK N s ((c.toNat:Nat):Int)=some (Lib.indexByte s.bM c):=by
  show some (Lib.indexByte s.bM (Int.toNat ((c.toNat:Nat):Int)).toUInt8)=_
  rw [Int.toNat_natCast];simp
theorem xz {R:Type} (b1:Bool) (c:UInt8) (r:R):
    ((bif b1 then ((eK N (⟨[95,43,45,35]⟩) ((c.toNat:Nat):Int)).bind fun(x14:Int)=>some (decide (x14<0))) else (some false)).bind fun(s12:Bool)=>bif s12 then (some (.rt r)) else (some (.nx ())):Option (Fl Unit R))=some (if (b1&&decide (Lib.indexByte [95,43,45,35] c<0))=true then .rt r else .nx ()):=by
  rw [pV,aB]
  cases b1
  · rfl
  · rw [cond_true,aB,Bool.true_and]
    cases decide (Lib.indexByte [95,43,45,35] c<0) <;> rfl
theorem kZ {s:bS} (h:s.bM.length≤1048576):eH N s=some (isWord s):=by
  unfold eH
  rw [Bq Ct false (by omega) (fun k x hx=>by
    have hk:=(List.getElem?_eq_some_iff.1 hx).1
    have e:yo s ((k:Nat):Int)=some x:=by rw [Ab s k hk,←List.getElem?_eq_getElem hk,hx]
    rw [e,aB]
    exact xz (R:=Bool) _ x false),aB]
  unfold isWord
  cases s.bM.any Ct
  · simp only [Fo.cs,Bool.not_false,Bool.true_and,Bool.false_eq_true,if_false,Option.some.injEq]
    rw [Bool.eq_iff_iff,Bool.and_eq_true,Bool.and_eq_true]
    simp only [decide_eq_true_eq]
    omega
  · simp [Fo.cs]
def cutAt (c:UInt8):List UInt8→List (List UInt8)
  | []=>[[]]
  | b::l=>if b==c then []::cutAt c l else match cutAt c l with | h::t=>(b::h)::t | []=>[[b]]
theorem s8 {c:UInt8}: ∀{l:List UInt8},c∉l→cutAt c l= [l]
  | [],_=>rfl
  | b::l,h=>by
    unfold cutAt
    have hb: (b==c)=false:=by rw [beq_eq_false_iff_ne];rintro rfl;exact h (by simp)
    rw [hb,s8 (fun h'=>h (by simp [h']))];rfl
theorem wu {c:UInt8}: ∀{a:List UInt8} {b:List UInt8},c∉a→cutAt c (a++c::b)=a::cutAt c b
  | [],b,_=>by rw [List.nil_append];show (if (c==c)=true then _ else _)=_;simp
  | x::a,b,h=>by
    have hb: (x==c)=false:=by rw [beq_eq_false_iff_ne];rintro rfl;exact h (by simp)
    have ih:=wu (c:=c) (a:=a) (b:=b) (fun h'=>h (by simp [h']))
    show (if (x==c)=true then []::cutAt c (a++c::b) else match cutAt c (a++c::b) with | h::t=>(x::h)::t | []=>[[x]])=_
    rw [hb,ih];rfl
theorem nk: ∀(l:List UInt8) (c:UInt8),(Lib.indexByte l c = -1∧c∉l)∨∃a b,l=a++c::b∧c∉a∧Lib.indexByte l c= ((a.length:Nat):Int)
  | [],c=> .inl ⟨rfl,by simp⟩
  | x::l,c=>by
    unfold Lib.indexByte
    by_cases hx:x=c
    · subst hx;exact .inr ⟨[],l,rfl,by simp,by simp⟩
    · have hb: (x==c)=false:=by rw [beq_eq_false_iff_ne];exact hx
      rcases nk l c with ⟨h1,h2⟩ | ⟨a,b,h1,h2,h3⟩
      · left;rw [hb,h1];refine⟨by simp,?_⟩;simp [h2];exact fun h=>hx h.symm
      · right
        refine⟨x::a,b,by rw [h1];rfl,by simp [h2];exact fun h=>hx h.symm,?_⟩
        rw [hb,h3]
        have: (((a.length:Nat):Int)== -1)=false:=by rw [beq_eq_false_iff_ne];omega
        rw [this];simp
theorem Ar (s:bS) (c:UInt8):gH N s ⟨[c]⟩=some (Lib.indexByte s.bM c):=by
  show (fF N s ⟨[c]⟩).bind _=_
  unfold fF
  by_cases h:bS.wR ⟨[c]⟩ s=true
  · have:s= ⟨[c]⟩:=(Bp.1 h).symm
    subst this
    rw [h];simp [Lib.indexByte]
  · rw [Bool.not_eq_true] at h
    rw [h]
    show ((dZ N s ((c.toNat:Nat):Int)).bind _).bind _=_
    have:=pV (N:=N) s c
    simp only [eK] at this
    rw [this];rfl
theorem As (s:bS) (c:UInt8):iB N s ⟨[c]⟩=some ((s.bM.count c:Nat):Int):=by
  unfold iB
  show (some _:Option Int)=_
  simp [Lib.countByte]
theorem yY {s:bS} {k:Nat} (h:k≤s.bM.length):oz s 0 ((k:Nat):Int)=some ⟨s.bM.take k⟩:=by
  unfold oz;rw [if_pos ⟨by omega,by omega,by omega⟩]
  simp only [Int.toNat_zero,List.drop_zero,Int.sub_zero,Int.toNat_natCast]
theorem yZ {s:bS} {k:Nat} (h:k≤s.bM.length):oz s ((k:Nat):Int) ((s.bM.length:Nat):Int)=some ⟨s.bM.drop k⟩:=by
  unfold oz;rw [if_pos ⟨by omega,by omega,by omega⟩]
  simp only [Int.toNat_natCast]
  rw [List.take_of_length_le];rw [List.length_drop];omega
def mg (s:bS) (c:UInt8):List bS:=(cutAt c s.bM).map bS.mk
theorem Au {s:bS} (c:UInt8) (h:s.bM.length≤1048576) (hN:4194304≤N):iC N s ⟨[c]⟩=some (mg s c):=by
  have hc:s.bM.count c≤s.bM.length:=List.count_le_length
  unfold iC ij
  rw [show ((-1:Int)==0)=false by decide,cond_false,show bS.wR ⟨[c]⟩ ⟨[]⟩=false by simp [bS.wR],cond_false,As,aB]
  rw [cS (x:=((s.bM.count c:Nat):Int)+1) (by omega) (by omega),show decide ((-1:Int)<0)=true by decide,cond_true,aB]
  rw [cS (x:=((s.bM.length:Nat):Int)+1) (by omega) (by omega)]
  have e1: (if ((s.bM.length:Nat):Int)+1< ((s.bM.count c:Nat):Int)+1 then ((s.bM.length:Nat):Int)+1 else ((s.bM.count c:Nat):Int)+1)= ((s.bM.count c+1:Nat):Int):=by
    rw [if_neg (by omega)];omega
  rw [e1,px _ (by omega),aB]
  rw [cS (x:=((s.bM.count c+1:Nat):Int) - 1) (by omega) (by omega)]
  have key:=itr_inv (S:=bS×List bS×Int) (R:=Empty) (body:=(fun(s7:bS×(List bS)×Int)=>(bif (decide (s7.2.2< ((s.bM.count c+1:Nat):Int) - 1)) then ((gH N s7.1 ⟨[c]⟩).bind fun(x23:Int)=>bif (decide (x23<0)) then (some (.br (s7.1,s7.2.1,s7.2.2))) else ((oz s7.1 0 (IntKind.wrap .i64 (x23+0))).bind fun(x24:bS)=>(idx s7.2.1 s7.2.2).bind fun(x25:bS)=>(oz s7.1 (IntKind.wrap .i64 (x23+ (((⟨[c]⟩:bS).bM.length:Nat):Int))) ((s7.1.bM.length:Nat):Int)).bind fun(x27:bS)=>some (.nx (x27,(s7.2.1.set (Int.toNat s7.2.2) x24),(IntKind.wrap .i64 (s7.2.2+1)))))) else (some (.br (s7.1,s7.2.1,s7.2.2))):Option (Fl (bS×(List bS)×Int) Empty))))
    (fun st=>∃ws:List (List UInt8),st.2.2= ((ws.length:Nat):Int)∧cutAt c s.bM=ws++cutAt c st.1.bM∧ws.length+st.1.bM.count c=s.bM.count c∧st.1.bM.length≤s.bM.length∧st.2.1=ws.map bS.mk++List.replicate (s.bM.count c+1 - ws.length) ⟨[]⟩)
    (fun st=>s.bM.count c+1 - st.2.2.toNat)
    (fun st=>∃ws:List (List UInt8),st.2.2= ((ws.length:Nat):Int)∧cutAt c s.bM=ws++[st.1.bM]∧ws.length=s.bM.count c∧st.2.1=ws.map bS.mk++[⟨[]⟩])
    (fun _=>True) (by
      rintro⟨r,arr,i⟩ ⟨ws,h1,h2,h3,h4,h5⟩
      simp only at h1 h2 h3 h4 h5
      subst h1 h5
      by_cases hlt:ws.length<s.bM.count c
      · have hd:decide (((ws.length:Nat):Int)< ((s.bM.count c+1:Nat):Int) - 1)=true:=by rw [decide_eq_true_eq];omega
        simp only [hd,cond_true,Ar,aB]
        rcases nk r.bM c with ⟨_,hn⟩ | ⟨a,b,hr,ha,hi⟩
        · rw [List.count_eq_zero_of_not_mem hn] at h3;omega
        · have hrl:r.bM.length=a.length+ (b.length+1):=by rw [hr];simp
          rw [hi,decide_eq_false (by omega),cond_false]
          rw [show ((a.length:Nat):Int)+0= ((a.length:Nat):Int) by omega,cS (x:=((a.length:Nat):Int)) (by omega) (by omega),yY (by omega),aB]
          rw [fI _ _ (by simp;omega),aB]
          rw [show ((a.length:Nat):Int)+ (((⟨[c]⟩:bS).bM.length:Nat):Int)= ((a.length+1:Nat):Int) by simp,cS (x:=((a.length+1:Nat):Int)) (by omega) (by omega),yZ (by omega),aB]
          refine⟨_,rfl,⟨ws++[a],?_,?_,?_,?_,?_⟩,?_⟩
          · simp only;rw [cS (by omega) (by omega)];simp
          · simp only
            rw [h2,hr,wu ha];simp
          · simp only
            rw [hr] at h3 ⊢
            simp [List.count_eq_zero_of_not_mem ha] at h3 ⊢;omega
          · simp;omega
          · simp only [Int.toNat_natCast]
            rw [List.set_append_right _ _ (by simp)]
            simp only [List.length_map,Nat.sub_self]
            obtain⟨d,hd'⟩: ∃d,s.bM.count c+1 - ws.length=d+1:=⟨s.bM.count c - ws.length,by omega⟩
            rw [hd',List.replicate_succ,List.set_cons_zero,show s.bM.count c+1 - (ws++[a]).length=d by simp;omega]
            simp [hr]
          · simp only;rw [cS (by omega) (by omega)];omega
      · have hd:decide (((ws.length:Nat):Int)< ((s.bM.count c+1:Nat):Int) - 1)=false:=by rw [decide_eq_false_iff_not];omega
        simp only [hd,cond_false]
        refine⟨_,rfl,ws,rfl,?_,by omega,?_⟩
        · have h0:r.bM.count c=0:=by omega
          rw [h2,s8 (List.count_eq_zero.1 h0)]
        · rw [show s.bM.count c+1 - ws.length=1 by omega];rfl)
    N (s,List.replicate (s.bM.count c+1) ⟨[]⟩,0) ⟨[],rfl,rfl,by simp,Nat.le_refl _,by simp⟩ (by simp only;omega)
  obtain⟨o,ho,hgo⟩:=key
  rw [ho,aB]
  cases o with
  | rt r=>exact r.elim
  | go st=>
    obtain⟨r,arr,i⟩:=st
    obtain⟨ws,h1,h2,h3,h4⟩:=hgo
    simp only at h1 h2 h3 h4
    subst h1 h4
    simp only [Fo.cs]
    rw [fI _ _ (by simp),aB,cS (by omega) (by omega)]
    rw [show ((ws.length:Nat):Int)+1= ((ws.length+1:Nat):Int) by omega,pr _ _ (by simp),aB,aB]
    unfold mg
    rw [h2]
    rw [Int.toNat_natCast,List.set_append_right _ _ (by simp),List.take_of_length_le (by simp)]
    simp
def mh (s:bS):Bool:=decide (s.bM.length≤200)&&(mg s 47).all isWord
theorem nG {c:UInt8}: ∀{l:List UInt8} {x:List UInt8},x∈cutAt c l→x.length≤l.length
  | [],x,h=>by simp [cutAt] at h;subst h;simp
  | b::l,x,h=>by
    unfold cutAt at h
    split at h
    · rcases List.mem_cons.1 h with h | h
      · subst h;simp
      · have:=nG h;simp;omega
    · split at h
      · rename_i t e
        rcases List.mem_cons.1 h with h | h
        · subst h;have:=nG (c:=c) (l:=l) (by rw [e];exact List.mem_cons_self);simp;omega
        · have:=nG (c:=c) (l:=l) (by rw [e];exact List.mem_cons_of_mem _ h);simp;omega
      · simp at h;subst h;simp
theorem t8 (c:UInt8): ∀(l:List UInt8),(cutAt c l).length≤l.length+1
  | []=>by simp [cutAt]
  | b::l=>by
    have:=t8 c l
    unfold cutAt
    split
    · simp;omega
    · split
      · rename_i e;rw [e] at this;simp at this ⊢;omega
      · simp
theorem y4 {s x:bS} {c:UInt8} (h:x∈mg s c):x.bM.length≤s.bM.length:=by
  obtain⟨y,hy,rfl⟩:=List.mem_map.1 h
  exact nG hy
theorem y5 (s:bS) (c:UInt8): (mg s c).length≤s.bM.length+1:=by unfold mg;rw [List.length_map];exact t8 c _
theorem pW {s:bS} (h:s.bM.length≤1048576) (hN:4194304≤N):g8 N s=some (mh s):=by
  unfold g8 mh
  by_cases hl:s.bM.length≤200
  · rw [decide_eq_true (by omega),cond_true,Au 47 h hN,aB]
    have e:=lI (l:=mg s 47) (φ:=dU N) (fun x=> !isWord x) (by have:=y5 s 47;omega) (fun x hx=>by
      unfold dU
      rw [kZ (by have:=y4 hx;omega)];rfl)
    have e2:dT N (mg s 47) (dU N)=ln (mg s 47) (dU N):=rfl
    rw [e2,e,aB,aB,decide_eq_true hl,Bool.true_and]
    congr 1
    rw [Bool.eq_iff_iff]
    simp
  · rw [decide_eq_false (by omega),cond_false,aB,decide_eq_false hl,Bool.false_and]
end
end Go.Gk
namespace Go.Gk
open Go Classical
section
variable {N:Nat}
theorem Av {a b:aA} (h:aW a=aW b):a=b:=by cases a;cases b;unfold aW at h;simp at h;obtain⟨h1,h2,h3⟩:=h;subst h1;subst h2;subst h3;rfl
theorem pX: ∀{s t:List aA},s.map aW=t.map aW→s=t
  | [],[],_=>rfl
  | [],_::_,h=>by cases h
  | _::_,[],h=>by cases h
  | a::s,b::t,h=>by
    rw [List.map_cons,List.map_cons] at h
    injection h with h1 h2
    rw [Av h1,pX h2]
theorem wv {s t:List aA} (hs:cE (s.map aW)) (ht:cE (t.map aW)) (h: ∀x y,oV (s.map aW) x y=oV (t.map aW) x y):s=t:=pX (sL hs ht h)
theorem lU.unique {l:List aC} {s t:List aA} (hs:lU l s) (ht:lU l t):s=t:=wv hs.can ht.can fun x y=>by rw [hs.cover,ht.cover]
theorem lU.wx {l:List aC} {s:List aA} (h:lU l s):s.length≤2*l.length∧(∀b∈s,b.Xs.length≤2*l.length)∧(aI s).length≤2*l.length* (2*l.length):=by
  have h1:s.length≤2*l.length:=by have:=h.lim.len h.can;rwa [List.length_map,fp] at this
  have h2: ∀b∈s,b.Xs.length≤2*l.length:=fun b hb=>by
    have:=h.lim.row h.can (b:=aW b) (List.mem_map.2 ⟨b,hb,rfl⟩)
    rwa [gD] at this
  exact⟨h1,h2,sQ h1 h2⟩
theorem nH {n:Int} (h:kK n=true): -1000000≤n∧n≤1000000:=by
  unfold kK eF at h
  rw [Bool.and_eq_true,decide_eq_true_eq,decide_eq_true_eq] at h;omega
theorem eV {r:aC} (h:cA r=true): (-1000000≤r.X0∧r.X0≤1000000)∧(-1000000≤r.Y0∧r.Y0≤1000000)∧(-1000000≤r.X1∧r.X1≤1000000)∧(-1000000≤r.Y1∧r.Y1≤1000000):=by
  unfold cA at h
  simp only [Bool.and_eq_true] at h
  exact⟨nH h.1,nH h.2.1,nH h.2.2.1,nH h.2.2.2⟩
theorem s9 {r:aC} (h: (-1000000≤r.X0∧r.X0≤1000000)∧(-1000000≤r.Y0∧r.Y0≤1000000)∧(-1000000≤r.X1∧r.X1≤1000000)∧(-1000000≤r.Y1∧r.Y1≤1000000)):cA r=true:=by
  unfold cA kK eF
  simp only [Bool.and_eq_true,decide_eq_true_eq]
  omega
theorem Aw {r:aC} (h:cA r=true) (hx:r.X0<r.X1) (hy:r.Y0<r.Y1):wN r:=by
  have:=eV h
  refine⟨hx,hy,?_,?_,?_,?_⟩ <;> unfold small <;> omega
def kg (r:aC):Option Int:=if cA r=true then (if r.X1≤r.X0∨r.Y1≤r.Y0 then some 13 else none) else some 1
def gE (l:List aC):Int:=if 2000<l.length then 2 else (l.findSome? kg).getD 0
theorem ot {l:List aC} (hl:l.length≤4611686018427387904):eW N l=some (gE l):=by
  unfold eW gE
  by_cases h:2000<l.length
  · rw [decide_eq_true (by omega),cond_true,if_pos h]
  · rw [decide_eq_false (by omega),cond_false,if_neg h,sq kg hl (fun k x hx=>by
      rw [gu hx,aB,sZ,aB]
      unfold kg
      cases hr:cA x with
      | false=>rfl
      | true=>
        rw [Bool.not_true,cond_false,if_pos rfl]
        by_cases h2:x.X1≤x.X0∨x.Y1≤x.Y0
        · rw [if_pos h2,show (decide (x.X1≤x.X0)||decide (x.Y1≤x.Y0))=true by rw [Bool.or_eq_true,decide_eq_true_eq,decide_eq_true_eq];exact h2];rfl
        · rw [if_neg h2,show (decide (x.X1≤x.X0)||decide (x.Y1≤x.Y0))=false by rw [←Bool.not_eq_true,Bool.or_eq_true,decide_eq_true_eq,decide_eq_true_eq];exact h2];rfl),aB]
    cases l.findSome? kg <;> rfl
theorem pY {r:aC}:kg r=none↔cA r=true∧r.X0<r.X1∧r.Y0<r.Y1:=by
  unfold kg
  by_cases h:cA r=true
  · rw [if_pos h]
    by_cases h2:r.X1≤r.X0∨r.Y1≤r.Y0
    · rw [if_pos h2]
      constructor
      · intro h;cases h
      · rintro⟨_,h3,h4⟩;omega
    · rw [if_neg h2]
      exact⟨fun _=>⟨h,by omega,by omega⟩,fun _=>rfl⟩
  · rw [if_neg h]
    constructor
    · intro h;cases h
    · rintro⟨h3,_⟩;exact absurd h3 h
theorem wy {r:aC} {e:Int} (h:kg r=some e):e≠0:=by
  unfold kg at h
  split at h
  · split at h
    · injection h with h;omega
    · cases h
  · injection h with h;omega
theorem iJ {l:List aC}:gE l=0↔l.length≤2000∧∀r∈l,cA r=true∧r.X0<r.X1∧r.Y0<r.Y1:=by
  unfold gE
  by_cases h:2000<l.length
  · rw [if_pos h];constructor
    · intro h;omega
    · intro h;omega
  · rw [if_neg h]
    cases hf:l.findSome? kg with
    | none=>
      rw [List.findSome?_eq_none_iff] at hf
      exact⟨fun _=>⟨by omega,fun r hr=>pY.1 (hf r hr)⟩,fun _=>rfl⟩
    | some e=>
      obtain⟨r,hr,he⟩:=List.exists_of_findSome?_eq_some hf
      constructor
      · intro h0;exact absurd h0 (wy he)
      · rintro⟨_,h2⟩
        rw [pY.2 (h2 r hr)] at he;cases he
def CB (l:List aC):Prop:=∀(k:Nat) a b,l[k]? =some a→l[k+1]? =some b→¬(b.Y0<a.Y0∨(b.Y0=a.Y0∧b.X0≤a.X0))
def vc (l:List aC):Prop:=∃s,lU l s∧aI s=l
noncomputable def fP (l:List aC):Int:=if gE l≠0 then gE l else if CB l then (if vc l then 0 else 3) else 8
theorem tc {l:List aC} (h:gE l=0):l.length≤2000∧∀r∈l,wN r:=⟨(iJ.1 h).1,fun r hr=>by have:=(iJ.1 h).2 r hr;exact Aw this.1 this.2.1 this.2.2⟩
theorem xA {l m:List aC} (hl:l.length≤4611686018427387904):fD N l m=some (decide (l=m)):=by
  have:=tY (l:=l) (m:=m) hl
  unfold xp at this
  unfold fD
  rw [show (decide (l=m)) = @decide (l=m) (instDecidableEqList l m) from decide_eq_decide.2 Iff.rfl]
  exact this
theorem kL {l:List aC} (hl:l.length≤1073741824) (hN:4398046511104≤N):dS N l=some (fP l):=by
  refine Ok.get ?_
  unfold dS
  refine Ok.eq (ot (by omega)) ?_
  unfold fP
  refine Ok.bif (fun h=>Ok.ret ?_) (fun h=>?_)
  · rw [if_pos (by simpa using h)]
  · have h0:gE l=0:=by simpa using h
    rw [if_neg (by simpa using h0)]
    obtain⟨hlen,hok⟩:=tc h0
    refine Ok.bind (Ok.itr (Go:=fun _=>CB l) (Rt:=fun r=>r=8∧¬CB l) (fun s=>∃k:Nat,s= ((k:Nat):Int)∧1≤k∧∀(j:Nat) a b,j+1<k→l[j]? =some a→l[j+1]? =some b→¬(b.Y0<a.Y0∨(b.Y0=a.Y0∧b.X0≤a.X0))) (fun s=>l.length - s.toNat) ?_ ⟨1,rfl,Nat.le_refl _,fun j a b hj=>by omega⟩ (by simp;omega)) ?_
    · rintro s ⟨k,rfl,hk,hI⟩
      refine Ok.bif (fun h=>?_) (fun h=>Ok.br fun j a b ha hb=>hI j a b ?_ ha hb)
      · have hk2:k<l.length:=by have:=of_decide_eq_true h;omega
        rw [iT hk (by omega)]
        refine Ok.idx (by omega) (Ok.idx hk2 (Ok.bif (fun hb=>Ok.rt ⟨rfl,fun hu=>?_⟩) (fun hb=>Ok.nx ⟨⟨k+1,by rw [eQ (by omega)],by omega,fun j a b hj ha hb'=>?_⟩,by rw [eQ (by omega)];simp only [Int.toNat_natCast];omega⟩)))
        · refine hu (k - 1) l[k - 1] l[k] (List.getElem?_eq_getElem _) (by rw [show k - 1+1=k by omega];exact List.getElem?_eq_getElem _) ?_
          rw [Bool.or_eq_true,Bool.and_eq_true,decide_eq_true_eq,decide_eq_true_eq,beq_iff_eq] at hb;exact hb
        · by_cases e:j+1<k
          · exact hI j a b e ha hb'
          · have:j+1=k:=by omega
            subst this
            rw [List.getElem?_eq_getElem (by omega)] at ha hb'
            injection ha with ha;injection hb' with hb'
            subst ha;subst hb'
            rw [←Bool.not_eq_true,Bool.or_eq_true,Bool.and_eq_true,decide_eq_true_eq,decide_eq_true_eq,beq_iff_eq] at hb;exact hb
      · have:=of_decide_eq_false h
        have:=(List.getElem?_eq_some_iff.1 hb).1;omega
    · rintro o ho
      refine Ok.cs ho (fun s hu=>?_) (fun r hr=>Ok.ret (by rw [hr.1,if_neg hr.2]))
      rw [if_pos hu]
      refine Ok.bind (kH (N:=N) (by omega) hok (by omega)) ?_
      intro s hs
      obtain⟨z1,z2,z3⟩:=hs.wx
      have z4:2*l.length* (2*l.length)≤4000*4000:=Nat.mul_le_mul (by omega) (by omega)
      refine Ok.eq (nd (jO hs.can) (by omega) (fun b hb=>by have:=z2 b hb;omega) (by omega)) (Ok.eq (xA (by omega)) ?_)
      have hiff:vc l↔aI s=l:=⟨fun⟨t,h1,h2⟩=>by rw [hs.unique h1];exact h2,fun h=>⟨s,hs,h⟩⟩
      refine Ok.bif (fun h=>Ok.ret ?_) (fun h=>Ok.ret ?_)
      · have h: ¬aI s=l:=by simpa using h
        rw [if_neg (fun h'=>h (hiff.1 h'))]
      · have h:aI s=l:=by simpa using h
        rw [if_pos (hiff.2 h)]
theorem k6 {l:List aC}:fP l=0↔gE l=0∧CB l∧vc l:=by
  unfold fP
  by_cases h:gE l=0
  · rw [if_neg (by simpa using h)]
    by_cases h2:CB l
    · rw [if_pos h2]
      by_cases h3:vc l
      · rw [if_pos h3];exact⟨fun _=>⟨h,h2,h3⟩,fun _=>rfl⟩
      · rw [if_neg h3];constructor
        · intro h;omega
        · rintro⟨_,_,h4⟩;exact absurd h4 h3
    · rw [if_neg h2];constructor
      · intro h;omega
      · rintro⟨_,h4,_⟩;exact absurd h4 h2
  · rw [if_pos h]
    constructor
    · intro h2;exact absurd h2 h
    · rintro⟨h2,_⟩;exact absurd h2 h
theorem mi (n lo hi:Int):dA N n lo hi=some (eF n lo hi):=rfl
theorem y6 {b:bD} (hN:16≤N):fM N b=some (jE b):=by
  have:=lW (N:=N - 16) (b:=b)
  rwa [show N - 16+16=N by omega] at this
def k7 (n:Nat) (b:bD):Option Int:=if (jE b).2≠0 then some (jE b).2 else if eF b.bN 0 (((n:Nat):Int) - 1)=true∧eF b.To b.bN (((n:Nat):Int) - 1)=true then none else some 1
def jk (a:jQ):Int:=if 500<a.aT.length then 2 else (a.aT.findSome? (k7 a.aJ.length)).getD 0
theorem tI {a:jQ} (h1:a.aJ.length≤4611686018427387904) (h2:a.aT.length≤4611686018427387904) (hN:16≤N):fE N a=some (jk a):=by
  unfold fE jk
  by_cases h:500<a.aT.length
  · rw [decide_eq_true (by omega),cond_true,if_pos h]
  · have hw:IntKind.wrap .i64 (((a.aJ.length:Nat):Int) - 1)= ((a.aJ.length:Nat):Int) - 1:=cS (by omega) (by omega)
    rw [decide_eq_false (by omega),cond_false,if_neg h,sq (k7 a.aJ.length) h2 (fun k x hx=>by
      rw [gu hx,aB,y6 hN,aB]
      unfold k7
      by_cases h0: (jE x).2=0
      · rw [if_neg (by simpa using h0),h0,show ((0:Int) != 0)=false by rfl,cond_false,hw,mi,aB,mi,aB]
        cases h3:eF x.bN 0 (((a.aJ.length:Nat):Int) - 1) <;> cases h4:eF x.To x.bN (((a.aJ.length:Nat):Int) - 1) <;> rfl
      · rw [if_pos h0,show ((jE x).2 != 0)=true by simpa using h0];rfl),aB]
    cases a.aT.findSome? (k7 a.aJ.length) <;> rfl
theorem wz {b:bD} (h: (jE b).2=0):ni b=true∧cA (rR b)=true:=by
  unfold jE at h
  split at h
  · rename_i h';rwa [Bool.and_eq_true] at h'
  · cases h
theorem ly {a:jQ} (h:jk a=0):a.aT.length≤500∧∀b∈a.aT,ni b=true∧cA (rR b)=true∧0≤b.bN∧b.bN≤b.To∧b.To< ((a.aJ.length:Nat):Int):=by
  unfold jk at h
  split at h
  · omega
  · refine⟨by omega,fun b hb=>?_⟩
    have hn:k7 a.aJ.length b=none:=by
      cases hf:a.aT.findSome? (k7 a.aJ.length) with
      | none=>exact List.findSome?_eq_none_iff.1 hf b hb
      | some e=>
        rw [hf] at h
        obtain⟨c,hc,he⟩:=List.exists_of_findSome?_eq_some hf
        have h:e=0:=h
        subst h
        unfold k7 at he
        split at he
        · rename_i h';injection he with he;exact absurd he h'
        · split at he
          · cases he
          · injection he with he;omega
    unfold k7 at hn
    split at hn
    · cases hn
    · rename_i h0
      split at hn
      · rename_i h1
        have h0: (jE b).2=0:=by simpa using h0
        have:=wz h0
        unfold eF at h1
        simp only [Bool.and_eq_true,decide_eq_true_eq] at h1
        exact⟨this.1,this.2,by omega,by omega,by omega⟩
      · cases hn
theorem DH {b:bD} (h1:ni b=true) (h2:cA (rR b)=true):wN (rR b):=by
  have hf:=nj h1
  refine Aw h2 ?_ ?_
  · show b.At.X - b.cD / 2<b.At.X - b.cD / 2+b.cD;omega
  · show b.At.Y - b.cD / 2<b.At.Y - b.cD / 2+b.cD;omega
def pZ (p q:fC):Int:=if Lib.compareBytes p.Part.bM q.Part.bM≠0 then Lib.compareBytes p.Part.bM q.Part.bM else Lib.compareBytes p.fC.bM q.fC.bM
theorem rN (p q:fC):eP N p q=some (pZ p q):=by
  unfold eP pZ
  show (bif (Lib.compareBytes p.Part.bM q.Part.bM != 0) then _ else _)=_
  by_cases h:Lib.compareBytes p.Part.bM q.Part.bM=0
  · rw [h,if_neg (by simp)];rfl
  · rw [if_pos h,show (Lib.compareBytes p.Part.bM q.Part.bM != 0)=true by simpa using h];rfl
def tJ (l:cT):fC:=⟨l.Part,l.fC⟩
theorem q6 (l:cT):ik N l=some (tJ l):=rfl
def p4 (a:jQ) (k:Nat):Option Int:=(a.bH[k]?).bind fun x=>
  if (mh x.Part&&isWord x.fC)=true then
    if (eF x.aU 0 (((a.aJ.length:Nat):Int) - 1)&&pU x.At)=true then
      if 0<k∧(∃y,a.bH[k - 1]? =some y∧pZ (tJ x) (tJ y)≤0) then some 8 else none
    else some 1
  else some 5
noncomputable def kM (a:jQ):Int:=if 1000<a.bH.length then 2 else (rB a.bH.length (p4 a)).getD 0
end
end Go.Gk
namespace Go.Gk
open Go Classical
section
variable {N:Nat}
def td (a:jQ):Prop:=∀x∈a.bH,x.Part.bM.length≤1048576∧x.fC.bM.length≤1048576
theorem tK {a:jQ} (h1:a.aJ.length≤1073741824) (h2:a.bH.length≤1073741824) (h3:td a) (hN:4194304≤N):fG N a=some (kM a):=by
  unfold fG kM
  by_cases h:1000<a.bH.length
  · rw [decide_eq_true (by omega),cond_true,if_pos h]
  · have hw:IntKind.wrap .i64 (((a.aJ.length:Nat):Int) - 1)= ((a.aJ.length:Nat):Int) - 1:=cS (by omega) (by omega)
    rw [decide_eq_false (by omega),cond_false,if_neg h,lH (p4 a) (by omega) (fun k hk _=>by
      have hx:a.bH[k]? =some a.bH[k]:=List.getElem?_eq_getElem hk
      have hs:=h3 _ (List.getElem_mem hk)
      rw [gu hx,aB,pW hs.1 hN,aB]
      have hle:p4 a k= (if (mh a.bH[k].Part&&isWord a.bH[k].fC)=true then
          if (eF a.bH[k].aU 0 (((a.aJ.length:Nat):Int) - 1)&&pU a.bH[k].At)=true then
            if 0<k∧(∃y,a.bH[k - 1]? =some y∧pZ (tJ a.bH[k]) (tJ y)≤0) then some 8 else none
          else some 1
        else some 5):=by unfold p4;rw [hx];rfl
      rw [hle]
      have e1: ((bif (!mh a.bH[k].Part) then (some true) else ((eH N a.bH[k].fC).bind fun(x225:Bool)=>some (!x225))):Option Bool)=some (!(mh a.bH[k].Part&&isWord a.bH[k].fC)):=by
        rw [kZ hs.2,aB]
        cases mh a.bH[k].Part <;> rfl
      have e2: ((dA N a.bH[k].aU 0 (IntKind.wrap .i64 (((a.aJ.length:Nat):Int) - 1))).bind fun(x318:Bool)=>bif (!x318) then (some true) else ((eU N a.bH[k].At).bind fun(x321:Bool)=>some (!x321)))=some (!(eF a.bH[k].aU 0 (((a.aJ.length:Nat):Int) - 1)&&pU a.bH[k].At)):=by
        rw [hw,mi,aB,ru,aB]
        cases eF a.bH[k].aU 0 (((a.aJ.length:Nat):Int) - 1) <;> rfl
      show ((bif (!mh a.bH[k].Part) then (some true) else ((eH N a.bH[k].fC).bind fun(x225:Bool)=>some (!x225))):Option Bool).bind _=_
      rw [e1,aB]
      cases h4: (mh a.bH[k].Part&&isWord a.bH[k].fC) with
      | false=>rfl
      | true=>
        rw [Bool.not_true,cond_false,if_pos rfl]
        show (((dA N a.bH[k].aU 0 (IntKind.wrap .i64 (((a.aJ.length:Nat):Int) - 1))).bind fun(x318:Bool)=>bif (!x318) then (some true) else ((eU N a.bH[k].At).bind fun(x321:Bool)=>some (!x321)))).bind _=_
        rw [e2,aB]
        cases h5: (eF a.bH[k].aU 0 (((a.aJ.length:Nat):Int) - 1)&&pU a.bH[k].At) with
        | false=>rfl
        | true=>
          rw [Bool.not_true,cond_false,if_pos rfl]
          by_cases h0:0<k
          · rw [decide_eq_true (by omega),cond_true,q6,aB,iT h0 (by omega),fI _ _ (by omega:k - 1<a.bH.length),aB,q6,aB,rN,aB,aB]
            by_cases h6:pZ (tJ a.bH[k]) (tJ a.bH[k - 1])≤0
            · rw [decide_eq_true h6,if_pos ⟨h0,_,List.getElem?_eq_getElem (by omega:k - 1<a.bH.length),h6⟩];rfl
            · rw [decide_eq_false h6,if_neg (by
                rintro⟨_,y,hy,h7⟩
                rw [List.getElem?_eq_getElem (by omega:k - 1<a.bH.length)] at hy;injection hy with hy
                rw [←hy] at h7;exact h6 h7)];rfl
          · rw [decide_eq_false (by omega),if_neg (fun h=>h0 h.1)];rfl),aB]
    cases rB a.bH.length (p4 a) <;> rfl
def iK (b:bD) (k:Int):Bool:=decide (b.bN≤k)&&decide (k≤b.To)
theorem te (b:bD) (k:Int):fW N b k=some (iK b k):=rfl
def ka (bs:List bD) (k:Int):List aC:=(bs.filter (fun b=>iK b k)).map rR
structure jC (bs:List bD):Prop where
  len:bs.length≤500
  ok: ∀b∈bs,ni b=true∧cA (rR b)=true
structure nI (r hs:List aC) (s:List aA):Prop where
  can:cE (s.map aW)
  cover: ∀x y,oV (s.map aW) x y= (oN r x y&& !oN hs x y)
  lim:oW (lT r++lT hs) (iG r++iG hs) (s.map aW)
theorem q7 {bs:List bD} (h:jC bs) (k:Int): (ka bs k).length≤500:=by
  unfold ka
  rw [List.length_map]
  have:=List.length_filter_le (fun b=>iK b k) bs
  have:=h.len;omega
theorem p5 {bs:List bD} (h:jC bs) (k:Int): ∀r∈ka bs k,wN r∧cA r=true:=by
  intro r hr
  unfold ka at hr
  obtain⟨b,hb,rfl⟩:=List.mem_map.1 hr
  have:=h.ok b (List.mem_filter.1 hb).1
  exact⟨DH this.1 this.2,this.2⟩
theorem nI.small {r hs:List aC} {s:List aA} (h:nI r hs s) (h1: ∀x∈r,wN x) (h2: ∀x∈hs,wN x): (∀c∈lT r++lT hs,small c)∧∀c∈iG r++iG hs,small c:=by
  constructor
  · intro c hc
    rcases List.mem_append.1 hc with h | h
    · obtain⟨x,hx,rfl | rfl⟩:=kG.1 h
      · exact(h1 x hx).s1
      · exact(h1 x hx).s2
    · obtain⟨x,hx,rfl | rfl⟩:=kG.1 h
      · exact(h2 x hx).s1
      · exact(h2 x hx).s2
  · intro c hc
    rcases List.mem_append.1 hc with h | h
    · obtain⟨x,hx,rfl | rfl⟩:=gj.1 h
      · exact(h1 x hx).s3
      · exact(h1 x hx).s4
    · obtain⟨x,hx,rfl | rfl⟩:=gj.1 h
      · exact(h2 x hx).s3
      · exact(h2 x hx).s4
theorem nJ {s:List aA} {X Y:List Int} {A:Nat} (hc:cE (s.map aW)) (h:oW X Y (s.map aW)) (hX:X.length≤A) (hY:Y.length≤A):s.length≤A∧(∀b∈s,b.Xs.length≤A)∧(aI s).length≤A*A:=by
  have h1:s.length≤A:=by have:=h.len hc;rw [List.length_map] at this;omega
  have h2: ∀b∈s,b.Xs.length≤A:=fun b hb=>by
    have:=h.row hc (b:=aW b) (List.mem_map.2 ⟨b,hb,rfl⟩)
    have e: (aW b).xs=b.Xs:=rfl
    rw [e] at this;omega
  exact⟨h1,h2,sQ h1 h2⟩
theorem tL {r hs:List aC} (h1:r.length≤2000) (h2: ∀x∈r,wN x) (h3:hs.length≤500) (h4: ∀x∈hs,wN x) (hN:4398046511104≤N) {β:Type} {f:List aA→Option β} {Q:β→Prop} (k: ∀s,nI r hs s→Ok (f s) Q):
    Ok ((cW N r).bind fun x378=>(cW N hs).bind fun x380=>(fX N x378 x380).bind f) Q:=by
  refine Ok.bind (kH (N:=N) (by omega) h2 (by omega)) (fun s hs1=>?_)
  refine Ok.bind (kH (N:=N) (by omega) h4 (by omega)) (fun t ht=>?_)
  have hz: ∀c∈iG r++iG hs,small c:=by
    intro c hc
    rcases List.mem_append.1 hc with h | h
    · obtain⟨x,hx,rfl | rfl⟩:=gj.1 h
      · exact(h2 x hx).s3
      · exact(h2 x hx).s4
    · obtain⟨x,hx,rfl | rfl⟩:=gj.1 h
      · exact(h4 x hx).s3
      · exact(h4 x hx).s4
  refine Ok.bind (yU (X:=lT r++lT hs) (Y:=iG r++iG hs) hs1.can ht.can (hs1.lim.mono (fun c h=>List.mem_append_left _ h) (fun c h=>List.mem_append_left _ h)) (ht.lim.mono (fun c h=>List.mem_append_right _ h) (fun c h=>List.mem_append_right _ h))
    (by rw [List.length_append,gD,gD];omega) (by rw [List.length_append,fp,fp];omega) hz hN) (fun u hu=>?_)
  exact k u ⟨hu.can,fun x y=>by rw [hu.cover,hs1.cover,ht.cover],hu.lim⟩
def pcsOf:Nat→List (List (List aA))→List aD
  | _,[]=>[]
  | k,ps::r=>ps.map (fun p=>⟨((k:Nat):Int),p,aI p⟩)++pcsOf (k+1) r
theorem oR (ps:List (List aA)): ∀(r:List (List (List aA))) (k:Nat),pcsOf k (r++[ps])=pcsOf k r++ps.map (fun p=>⟨((k+r.length:Nat):Int),p,aI p⟩)
  | [],k=>by unfold pcsOf;simp [pcsOf]
  | q::r,k=>by
    show _++pcsOf (k+1) (r++[ps])= (_++pcsOf (k+1) r)++_
    rw [oR ps r (k+1),List.append_assoc]
    congr 3
    simp only [List.length_cons]
    rw [show k+ (r.length+1)=k+1+r.length by omega]
theorem tf {s p:List aA} {ps:List (List aA)} {r:Nat→Nat} {X Y:List Int} (h:mf s r ps) (hc:cE (s.map aW)) (hl:oW X Y (s.map aW)) (hX: ∀c∈X,small c) (hY: ∀c∈Y,small c) (hp:p∈ps):
    ∃j k:Nat,ps[j]? =some p∧(aZ (aI s).length r)[j]? =some k∧lU (iQ (aI s) (aI s).length r k) p∧oW X Y (p.map aW):=by
  obtain⟨j,hj⟩:=List.getElem?_of_mem hp
  have hjl:=(List.getElem?_eq_some_iff.1 hj).1
  rw [h.len] at hjl
  have hh: (aZ (aI s).length r)[j]? =some (aZ (aI s).length r)[j]:=List.getElem?_eq_getElem hjl
  have hs:=h.each j _ p hh hj
  refine⟨j,_,hj,hh,hs,hs.lim.mono (fun c hcx=>?_) (fun c hcx=>?_)⟩
  · obtain⟨x,hx,hxc⟩:=kG.1 hcx
    obtain⟨i,_,_,hi⟩:=ji.1 hx
    have:=sR hc hl hX hY x (List.mem_of_getElem? hi)
    rcases hxc with rfl | rfl
    · exact this.2.1.1
    · exact this.2.1.2
  · obtain⟨x,hx,hxc⟩:=gj.1 hcx
    obtain⟨i,_,_,hi⟩:=ji.1 hx
    have:=sR hc hl hX hY x (List.mem_of_getElem? hi)
    rcases hxc with rfl | rfl
    · exact this.2.2.1
    · exact this.2.2.2
structure q8 (cs:List (List aC)) (bs:List bD) (k:Nat) (jF:List (List aA)) (dP:List (List (List aA))):Prop where
  len:jF.length=k
  xB:dP.length=k
  dr: ∀(i:Nat) r s,i<k→cs[i]? =some r→jF[i]? =some s→nI r (ka bs ((i:Nat):Int)) s
  pt: ∀(i:Nat) s ps,i<k→jF[i]? =some s→dP[i]? =some ps→∃u,mf s u ps
  wP: (pcsOf 0 dP).length≤k*25000000
theorem mf.wP {s:List aA} {u:Nat→Nat} {ps:List (List aA)} (h:mf s u ps):ps.length≤(aI s).length:=by
  rw [h.len];exact kn _ _
theorem xC {cs:List (List aC)} {bs:List bD} (hcs:cs.length≤16) (hc: ∀r∈cs,r.length≤2000∧∀x∈r,wN x) (hb:jC bs) (hN:4398046511104≤N):
    Ok (fe N cs bs [] []) (fun x=>∃dP,q8 cs bs cs.length x.2.1 dP∧x.2.2=pcsOf 0 dP∧(x.1=true↔(∀s∈x.2.1,(aI s).length≤2000)∧x.2.2.length≤2000)):=by
  unfold fe
  refine Ok.bind (P:=fun(st:List (List aA)×List aD×Bool)=>∃dP,q8 cs bs cs.length st.1 dP∧st.2.1=pcsOf 0 dP∧(st.2.2=true↔∀s∈st.1,(aI s).length≤2000)) (Ok.iz (fun(k:Nat) (st:List (List aA)×List aD×Bool)=>∃dP,q8 cs bs k st.1 dP∧st.2.1=pcsOf 0 dP∧(st.2.2=true↔∀s∈st.1,(aI s).length≤2000)) (by omega)
    ⟨[],⟨rfl,rfl,fun i r s hi=>by omega,fun i s ps hi=>by omega,by simp [pcsOf]⟩,rfl,by simp⟩ (fun k st hk hI=>?_)) ?_
  · obtain⟨jF,pcs,okk⟩:=st
    obtain⟨dP,D,e1,e2⟩:=hI
    dsimp only at D e1 e2 ⊢
    subst e1
    have hkx:cs[k]? =some cs[k]:=List.getElem?_eq_getElem hk
    obtain⟨hr1,hr2⟩:=hc _ (List.getElem_mem hk)
    refine Ok.ix hkx ?_
    refine Ok.bind (P:=fun t=>t=ka bs ((k:Nat):Int)) (Ok.mono (Ok.iz (fun j t=>t=ka (bs.take j) ((k:Nat):Int)) (by have:=hb.len;omega) rfl (fun j t hj e=>?_)) (fun t e=>by rw [e,List.take_length])) (fun t e=>?_)
    · subst e
      refine Ok.idx hj (Ok.eq (te _ _) ?_)
      have hts:bs.take (j+1)=bs.take j++[bs[j]]:=List.take_succ_eq_append_getElem hj
      have hgb:=hb.ok _ (List.getElem_mem hj)
      have hl: (ka (bs.take j) ((k:Nat):Int)).length≤500:=by
        unfold ka
        rw [List.length_map]
        have:=List.length_filter_le (fun b=>iK b ((k:Nat):Int)) (bs.take j)
        rw [List.length_take] at this
        have:=hb.len;omega
      cases ht:iK bs[j] ((k:Nat):Int) with
      | false=>
        rw [cond_false]
        refine Ok.eq rfl (Ok.ret ?_)
        unfold ka
        rw [hts,List.filter_append];simp [ht]
      | true=>
        rw [cond_true]
        refine Ok.eq (x:=ka (bs.take j) ((k:Nat):Int)++[rR bs[j]]) (by rw [iX hgb.1,aB,fJ (by simp;omega),aB]) (Ok.ret ?_)
        unfold ka
        rw [hts,List.filter_append,List.map_append];simp [ht]
    · subst e
      have hho:=p5 hb ((k:Nat):Int)
      have hhl:=q7 hb ((k:Nat):Int)
      refine tL hr1 hr2 hhl (fun x hx=>(hho x hx).1) hN (fun s hs=>?_)
      obtain⟨sx,sy⟩:=hs.small hr2 (fun x hx=>(hho x hx).1)
      obtain⟨z1,z2,z3⟩:=nJ (A:=5000) hs.can hs.lim (by rw [List.length_append,gD,gD];omega) (by rw [List.length_append,fp,fp];omega)
      have hmany:=x5 (N:=N) (s:=s) (by omega) (fun b hb=>by have:=z2 b hb;omega) (by omega)
      refine Ok.eq (x:=(okk&&decide ((aI s).length≤2000),s)) ?_ ?_
      · cases okk with
        | false=>rfl
        | true=>
          rw [cond_true,hmany,aB,Bool.true_and]
          rw [show decide ((((aI s).length:Nat):Int)≤2000)=decide ((aI s).length≤2000) from decide_eq_decide.2 (by omega)]
      dsimp only
      refine Ok.app (by rw [D.len];simp;omega) ?_
      refine Ok.bind (xy (N:=N) hs.can hs.lim sx sy (by omega) (fun b hb=>by have:=z2 b hb;omega) (by omega) hN) ?_
      rintro ps ⟨u,hu⟩
      have hfew:=hu.wP
      have hk16:k*25000000≤16*25000000:=Nat.mul_le_mul_right _ (by omega)
      have hDf:=D.wP
      refine Ok.bind (P:=fun t=>t=pcsOf 0 dP++ps.map (fun p=>(⟨((k:Nat):Int),p,aI p⟩:aD))) (Ok.mono (Ok.iz (fun j t=>t=pcsOf 0 dP++(ps.take j).map (fun p=>(⟨((k:Nat):Int),p,aI p⟩:aD))) (by omega) (by simp) (fun j t hj e=>?_)) (fun t e=>by rw [e,List.take_length])) (fun t e=>Ok.ret ?_)
      · subst e
        have hjx:ps[j]? =some ps[j]:=List.getElem?_eq_getElem hj
        refine Ok.ix hjx ?_
        obtain⟨_,_,_,_,iN,hpl⟩:=tf hu hs.can hs.lim sx sy (List.getElem_mem hj)
        obtain⟨y1,y2,y3⟩:=nJ (A:=5000) iN.can hpl (by rw [List.length_append,gD,gD];omega) (by rw [List.length_append,fp,fp];omega)
        refine Ok.eq (nd (jO iN.can) (by omega) (fun b hb=>by have:=y2 b hb;omega) (by omega)) (Ok.app ?_ (Ok.ret ?_))
        · simp only [List.length_append,List.length_map,List.length_take,List.length_singleton];omega
        · rw [List.take_succ_eq_append_getElem hj,List.map_append,List.append_assoc];rfl
      · subst e
        refine⟨dP++[ps],⟨by simp [D.len],by simp [D.xB],fun i r s' hi hr hs'=>?_,fun i s' ps' hi hs' hps'=>?_,?_⟩,?_,?_⟩
        · dsimp only at hs'
          by_cases hik:i<k
          · rw [List.getElem?_append_left (by rw [D.len];exact hik)] at hs'
            exact D.dr i r s' hik hr hs'
          · have:i=k:=by omega
            subst this
            rw [List.getElem?_append_right (by rw [D.len];omega),D.len,Nat.sub_self] at hs'
            simp at hs';subst hs'
            rw [hkx] at hr;injection hr with hr;subst hr
            exact hs
        · dsimp only at hs'
          by_cases hik:i<k
          · rw [List.getElem?_append_left (by rw [D.len];exact hik)] at hs'
            rw [List.getElem?_append_left (by rw [D.xB];exact hik)] at hps'
            exact D.pt i s' ps' hik hs' hps'
          · have:i=k:=by omega
            subst this
            rw [List.getElem?_append_right (by rw [D.len];omega),D.len,Nat.sub_self] at hs'
            rw [List.getElem?_append_right (by rw [D.xB];omega),D.xB,Nat.sub_self] at hps'
            simp at hs' hps';subst hs';subst hps'
            exact⟨u,hu⟩
        · rw [oR,List.length_append,List.length_map];omega
        · dsimp only
          rw [oR,D.xB,Nat.zero_add]
        · dsimp only
          rw [Bool.and_eq_true,e2,decide_eq_true_eq]
          constructor
          · rintro⟨h1,h2⟩ s' hs'
            rcases List.mem_append.1 hs' with h | h
            · exact h1 s' h
            · simp at h;subst h;exact h2
          · intro h
            exact⟨fun s' hs'=>h s' (List.mem_append_left _ hs'),h s (by simp)⟩
  · rintro⟨jF,pcs,okk⟩ ⟨dP,D,e1,e2⟩
    dsimp only at D e1 e2 ⊢
    subst e1
    refine Ok.bind (P:=fun b=>b=true↔(∀s∈jF,(aI s).length≤2000)∧(pcsOf 0 dP).length≤2000) (Ok.bif (fun h=>Ok.ret ?_) (fun h=>Ok.ret ?_)) (fun b hb=>Ok.ret ⟨dP,D,rfl,hb⟩)
    · rw [decide_eq_true_eq]
      constructor
      · intro h';exact⟨e2.1 h,by omega⟩
      · rintro⟨_,h'⟩;omega
    · constructor
      · intro h';cases h'
      · rintro⟨h',_⟩;rw [e2.2 h'] at h;cases h
end
end Go.Gk
namespace Go.Gk
open Go Classical
section
variable {N:Nat}
section
variable {α:Type}
def nn (P:α→Bool) (l:List α) (n:Nat):List Nat:=(List.range n).filter (fun k=>(l[k]?).any P)
theorem xD {P:α→Bool} {l:List α} {n:Nat} {x:α} (h:l[n]? =some x):nn P l (n+1)=if P x=true then nn P l n++[n] else nn P l n:=by
  unfold nn
  rw [List.range_succ,List.filter_append]
  by_cases hp:P x=true
  · rw [if_pos hp];simp [h,hp]
  · rw [if_neg hp];simp [h,hp]
theorem t9 (P:α→Bool) (l:List α) (n:Nat): (nn P l n).length≤n:=by
  have:=List.length_filter_le (fun k=>(l[k]?).any P) (List.range n)
  rw [List.length_range] at this;exact this
theorem y7 {P:α→Bool} {l:List α} {n k:Nat}:k∈nn P l n↔k<n∧(l[k]?).any P=true:=by unfold nn;simp
theorem p6 {β:Type} {l:List α} (P:α→Bool) (g:Nat→β):rB l.length (fun k=>(l[k]?).bind fun x=>if P x=true then some (g k) else none)= (l.findIdx? P).map g:=by
  cases h:l.findIdx? P with
  | none=>
    rw [List.findIdx?_eq_none_iff] at h
    refine kj.2 fun k hk=>?_
    rw [List.getElem?_eq_getElem hk]
    have:=h _ (List.getElem_mem hk)
    simp [this]
  | some j=>
    obtain⟨hj,hp,hn⟩:=List.findIdx?_eq_some_iff_getElem.1 h
    refine lG.2 ⟨j,hj,by rw [List.getElem?_eq_getElem hj];simp [hp],fun i hi=>?_⟩
    rw [List.getElem?_eq_getElem (by omega)]
    have:=hn i hi
    simp [this]
end
def ints (l:List Nat):List Int:=l.map fun i=>((i:Nat):Int)
theorem np (l m:List Nat):ints (l++m)=ints l++ints m:=List.map_append
theorem kN (l:List Nat): (ints l).length=l.length:=List.length_map _
theorem Ax {l:List Nat} {x:Int}:x∈ints l↔∃i∈l,x= ((i:Nat):Int):=by
  unfold ints;rw [List.mem_map]
  constructor
  · rintro⟨i,h1,h2⟩;exact⟨i,h1,h2.symm⟩
  · rintro⟨i,h1,h2⟩;exact⟨i,h1,h2.symm⟩
def yb (p0 p1:aC):Bool:=((((decide (p0.X0<p1.X1))&&(decide (p1.X0<p0.X1)))&&((p0.Y1==p1.Y0)||(p1.Y1==p0.Y0)))||(((decide (p0.Y0<p1.Y1))&&(decide (p1.Y0<p0.Y1)))&&((p0.X1==p1.X0)||(p1.X1==p0.X0))))
def jl (b:bD) (p:aD):Bool:=b.cI&&(iK b p.aU&&p.dQ.any (fun r=>yb r (rR b)))
def k8 (bs:List bD) (pcs:List aD):List (List Int):=bs.map fun b=>ints (nn (jl b) pcs pcs.length)
theorem k9 {l:List aC} {φ:aC→Option Bool} (p:aC→Bool) (hl:l.length≤4611686018427387904) (h: ∀x∈l,φ x=some (p x)):dB N l φ=some (l.any p):=
  lI p hl h
theorem Ay {bs:List bD} {pcs:List aD} (hb:jC bs) (hp:pcs.length≤1073741824) (hr: ∀p∈pcs,p.dQ.length≤1073741824):ff N bs pcs []=some (k8 bs pcs):=by
  refine Ok.get ?_
  have hbl:=hb.len
  unfold ff
  refine Ok.bind (Ok.iz (fun k st=>st=k8 (bs.take k) pcs) (by omega) rfl (fun k st hk e=>?_)) (fun st e=>Ok.ret (by rw [e,List.take_length]))
  subst e
  have hg:=hb.ok _ (List.getElem_mem hk)
  refine Ok.idx hk ?_
  refine Ok.bind (P:=fun t=>t=ints (nn (jl bs[k]) pcs pcs.length)) (Ok.iz (fun j t=>t=ints (nn (jl bs[k]) pcs j)) (by omega) rfl (fun j t hj e=>?_)) (fun t e=>?_)
  · subst e
    have hjx:pcs[j]? =some pcs[j]:=List.getElem?_eq_getElem hj
    have hl:=t9 (jl bs[k]) pcs j
    refine Ok.ix hjx ?_
    refine Ok.eq (x:=jl bs[k] pcs[j]) ?_ ?_
    · unfold jl
      cases bs[k].cI with
      | false=>rfl
      | true=>
        rw [cond_true,te,aB,Bool.true_and]
        cases iK bs[k] pcs[j].aU with
        | false=>rfl
        | true=>
          rw [cond_true,k9 (fun r=>yb r (rR bs[k])) (by have:=hr _ (List.getElem_mem hj);omega) (fun r _=>by
            unfold fu;rw [iX hg.1];rfl),aB,Bool.true_and]
    · rw [xD hjx]
      cases ht:jl bs[k] pcs[j] with
      | false=>rw [cond_false,if_neg (by simp)];exact Ok.eq rfl (Ok.ret rfl)
      | true=>
        rw [cond_true,if_pos rfl]
        refine Ok.eq (x:=ints (nn (jl bs[k]) pcs j)++[((j:Nat):Int)]) (by rw [fJ (by rw [kN];simp;omega),aB]) (Ok.ret ?_)
        rw [np];rfl
  · subst e
    refine Ok.app ?_ (Ok.ret ?_)
    · unfold k8;simp;omega
    · unfold k8
      rw [List.take_succ_eq_append_getElem hk,List.map_append];rfl
def wA (r:List aC) (p:bU):Bool:=r.any (fun x=>decide (p.X≥x.X0)&&(decide (p.X<x.X1)&&(decide (p.Y≥x.Y0)&&decide (p.Y<x.Y1))))
theorem p7 {r:List aC} {p:bU} (hl:r.length≤4611686018427387904):fy N r p=some (wA r p):=by
  unfold fy
  rw [k9 (fun x=>decide (p.X≥x.X0)&&(decide (p.X<x.X1)&&(decide (p.Y≥x.Y0)&&decide (p.Y<x.Y1)))) hl (fun x _=>by
    unfold gr
    cases decide (p.X≥x.X0) <;> cases decide (p.X<x.X1) <;> cases decide (p.Y≥x.Y0) <;> rfl)];rfl
def oS (l:cT) (b:bD):Bool:=b.cI&&(iK b l.aU&&wA [rR b] l.At)
def p8 (l:cT) (p:aD):Bool:=(p.aU==l.aU)&&wA p.dQ l.At
def vd (bs:List bD) (pcs:List aD) (l:cT):Option gk:=match bs.findIdx? (oS l) with
  | some k=>some ⟨true,((k:Nat):Int)⟩
  | none=>(pcs.findIdx? (p8 l)).map fun k=>⟨false,((k:Nat):Int)⟩
theorem Az {bs:List bD} {pcs:List aD} (hb:jC bs) (hp:pcs.length≤1073741824) (hr: ∀p∈pcs,p.dQ.length≤1073741824) (l:cT):
    fh N bs pcs l=some ((vd bs pcs l).getD ⟨false,0⟩,(vd bs pcs l).isSome):=by
  have hbl:=hb.len
  unfold fh
  rw [lH (fun k=>(bs[k]?).bind fun x=>if oS l x=true then some ((⟨true,((k:Nat):Int)⟩:gk),true) else none) (by omega) (fun k hk _=>by
    have hkx:bs[k]? =some bs[k]:=List.getElem?_eq_getElem hk
    have hg:=hb.ok _ (List.getElem_mem hk)
    rw [gu hkx,aB,hkx,iX hg.1,aB,aB,p7 (by simp)]
    unfold oS
    cases bs[k].cI with
    | false=>rfl
    | true=>
      show (((bif iK bs[k] l.aU then _ else _:Option Bool)).bind _)=_
      cases iK bs[k] l.aU with
      | false=>rfl
      | true=>
        cases wA [rR bs[k]] l.At <;> rfl),aB,p6 (oS l) (fun k=>((⟨true,((k:Nat):Int)⟩:gk),true))]
  unfold vd
  cases bs.findIdx? (oS l) with
  | some k=>rfl
  | none=>
    show ((nM pcs.length _ ()).bind _)=_
    rw [lH (fun k=>(pcs[k]?).bind fun x=>if p8 l x=true then some ((⟨false,((k:Nat):Int)⟩:gk),true) else none) (by omega) (fun k hk _=>by
      have hkx:pcs[k]? =some pcs[k]:=List.getElem?_eq_getElem hk
      rw [gu hkx,aB,hkx,aB,p7 (by have:=hr _ (List.getElem_mem hk);omega)]
      unfold p8
      cases pcs[k].aU==l.aU with
      | false=>rfl
      | true=>cases wA pcs[k].dQ l.At <;> rfl),aB,p6 (p8 l) (fun k=>((⟨false,((k:Nat):Int)⟩:gk),true))]
    cases pcs.findIdx? (p8 l) <;> rfl
def Lk (n:Nat) (tch:List (List Int)) (i j:Nat):Prop:=∃(k:Nat) (l:List Int),tch[k]? =some l∧((i:Nat):Int)∈l∧j=n+k
structure DI (n m:Nat) (tch:List (List Int)) (r:Nat→Nat):Prop where
  le: ∀i,i<n+m→r i≤i
  rr: ∀i,i<n+m→r (r i)=r i
  co: ∀i j,Lk n tch i j→r i=r j
  fi: ∀S:Nat→Prop,(∀i j,Lk n tch i j→(S i↔S j))→∀i j,i<n+m→j<n+m→r i=r j→S i→S j
theorem y8 {n m:Nat} {tch:List (List Int)} (hm:tch.length=m) (ht: ∀l∈tch,l.length≤1073741824∧∀x∈l,∃i:Nat,i<n∧x= ((i:Nat):Int)) (hn:n≤1073741824) (hm2:m≤1073741824) {up:List Int} (hu:UF (n+m) up (fun i=>i)) (hN:4398046511104≤N):
    Ok (iz tch.length (fun(k34:Nat) (s35: (List Int))=>((idx tch (k34:Int)).bind fun(x89: (List Int))=>(iz x89.length (fun(k92:Nat) (s93: (List Int))=>((idx x89 (k92:Int)).bind fun(x107:Int)=>(dH N s93 x107 (IntKind.wrap .i64 ((n:Int)+ (k34:Int)))).bind fun(x109: (List Int))=>some x109:Option ((List Int)))) s35).bind fun(s93: (List Int))=>some s93:Option ((List Int)))) up)
      (fun up'=>∃r,UF (n+m) up' r∧DI n m tch r):=by
  have base:Ok (iz tch.length (fun(k34:Nat) (s35: (List Int))=>((idx tch (k34:Int)).bind fun(x89: (List Int))=>(iz x89.length (fun(k92:Nat) (s93: (List Int))=>((idx x89 (k92:Int)).bind fun(x107:Int)=>(dH N s93 x107 (IntKind.wrap .i64 ((n:Int)+ (k34:Int)))).bind fun(x109: (List Int))=>some x109:Option ((List Int)))) s35).bind fun(s93: (List Int))=>some s93:Option ((List Int)))) up)
      (fun up'=>∃r E,UF (n+m) up' r∧kI r E∧sU (n+m) r E∧(∀p∈E,Lk n tch p.1 p.2)∧∀(k:Nat) l (i:Nat),k<tch.length→tch[k]? =some l→((i:Nat):Int)∈l→(i,n+k)∈E):=by
    refine Ok.iz (fun q up'=>∃r E,UF (n+m) up' r∧kI r E∧sU (n+m) r E∧(∀p∈E,Lk n tch p.1 p.2)∧∀(k:Nat) l (i:Nat),k<q→tch[k]? =some l→((i:Nat):Int)∈l→(i,n+k)∈E) (by omega)
      ⟨_,_,hu,kI.id,sU.id _,fun p hp=>(by cases hp),fun k l i hk=>by omega⟩ (fun q up' hq hI=>?_)
    obtain⟨r,E,h1,h2,h3,h4,h5⟩:=hI
    have hqx:tch[q]? =some tch[q]:=List.getElem?_eq_getElem hq
    obtain⟨hl1,hl2⟩:=ht _ (List.getElem_mem hq)
    refine Ok.ix hqx ?_
    rw [wrap_add (by omega)]
    refine Ok.bind (Ok.iz (fun t up'=>∃r E,UF (n+m) up' r∧kI r E∧sU (n+m) r E∧(∀p∈E,Lk n tch p.1 p.2)∧(∀(k:Nat) l (i:Nat),k<q→tch[k]? =some l→((i:Nat):Int)∈l→(i,n+k)∈E)∧∀i:Nat,((i:Nat):Int)∈tch[q].take t→(i,n+q)∈E) (by omega)
      ⟨r,E,h1,h2,h3,h4,h5,fun i hi=>by simp at hi⟩ (fun t up' htl hI=>?_)) (fun up' hI=>Ok.ret ?_)
    · obtain⟨r,E,h1,h2,h3,h4,h5,h6⟩:=hI
      refine Ok.idx htl ?_
      obtain⟨i,hi,e⟩:=hl2 _ (List.getElem_mem htl)
      rw [e]
      obtain⟨u2,a1,a2⟩:=Bw (N:=N) h1 (i:=i) (k:=n+q) (by omega) (by omega) (by omega)
      refine Ok.eq a1 (Ok.ret ⟨_,_,a2,h2.join i (n+q) (h1.rr i (by omega)),h3.join (by omega) (by omega),fun p hp=>?_,fun k l j hk hl hj=>List.mem_append_left _ (h5 k l j hk hl hj),fun j hj=>?_⟩)
      · rcases List.mem_append.1 hp with hp | hp
        · exact h4 p hp
        · simp at hp;subst hp
          exact⟨q,tch[q],hqx,by rw [←e];exact List.getElem_mem htl,rfl⟩
      · rw [List.take_succ_eq_append_getElem htl,List.mem_append] at hj
        rcases hj with hj | hj
        · exact List.mem_append_left _ (h6 j hj)
        · rw [List.mem_singleton,e] at hj
          have:j=i:=by omega
          subst this;simp
    · obtain⟨r,E,h1,h2,h3,h4,h5,h6⟩:=hI
      refine⟨r,E,h1,h2,h3,h4,fun k l i hk hl hi=>?_⟩
      by_cases hkq:k<q
      · exact h5 k l i hkq hl hi
      · have:k=q:=by omega
        subst this
        rw [hqx] at hl;injection hl with hl;subst hl
        exact h6 i (by rw [List.take_length];exact hi)
  obtain⟨up',e,r,E,h1,h2,h3,h4,h5⟩:=base
  have hE: ∀i j,Lk n tch i j→(i,j)∈E:=fun i j ⟨k,l,hl,hi,hj⟩=>by
    rw [hj];exact h5 k l i (List.getElem?_eq_some_iff.1 hl).1 hl hi
  exact⟨up',e,r,h1,h1.le,h1.rr,fun i j h=>h2 (i,j) (hE i j h),fun S hS i j hi hj=>h3 S (fun p hp=>hS p.1 p.2 (h4 p hp)) i j hi hj⟩
def tM (bs:List bD) (j:Nat):Bool:=(bs[j]?).any (fun b=>b.cI)
def gP (n:Nat) (c:List Nat):List Nat:=c.filter (fun i=>decide (i<n))
def gB (bs:List bD) (n:Nat) (c:List Nat):List Nat:=(c.filter (fun i=> !decide (i<n)&&tM bs (i - n))).map (fun i=>i - n)
def AA (bs:List bD) (n:Nat) (c:List Nat):Bool:=decide (0< (gP n c).length+ (gB bs n c).length)
def Fu (bs:List bD) (n:Nat) (c:List Nat):bT:=⟨ints (gP n c),ints (gB bs n c),[]⟩
theorem yc (n:Nat) (c:List Nat) (i:Nat):gP n (c++[i])=if i<n then gP n c++[i] else gP n c:=by
  unfold gP;rw [List.filter_append];split <;> rename_i h <;> simp [h]
theorem yd (bs:List bD) (n:Nat) (c:List Nat) (i:Nat):gB bs n (c++[i])=if i<n then gB bs n c else if tM bs (i - n)=true then gB bs n c++[i - n] else gB bs n c:=by
  unfold gB;rw [List.filter_append,List.map_append]
  split
  · rename_i h;simp [h]
  · rename_i h
    split <;> rename_i h2 <;> simp [h,h2]
theorem AB (n:Nat) (c:List Nat): (gP n c).length≤c.length:=List.length_filter_le _ _
theorem AD (bs:List bD) (n:Nat) (c:List Nat): (gB bs n c).length≤c.length:=by unfold gB;rw [List.length_map];exact List.length_filter_le _ _
def live (bs:List bD) (n t:Nat) (r:Nat→Nat) (hs:List Nat):List Nat:=hs.filter (fun h=>AA bs n (cls t r h))
def mj (bs:List bD) (n t:Nat) (r:Nat→Nat) (hs:List Nat):List bT:=(live bs n t r hs).map (fun h=>Fu bs n (cls t r h))
theorem y9 (bs:List bD) (n t:Nat) (r:Nat→Nat) (hs:List Nat) (h:Nat):live bs n t r (hs++[h])=if AA bs n (cls t r h)=true then live bs n t r hs++[h] else live bs n t r hs:=by
  unfold live;rw [List.filter_append];split <;> rename_i h2 <;> simp [h2]
theorem p9 (bs:List bD) (n t:Nat) (r:Nat→Nat) (hs:List Nat): (mj bs n t r hs).length= (live bs n t r hs).length:=by unfold mj;rw [List.length_map]
def gi (bs:List bD) (n t:Nat) (r:Nat→Nat) (h:Nat):Nat:=(live bs n t r ((aZ t r).takeWhile (fun x=>decide (x≠h)))).length
theorem ou {l:List Nat} (hn:l.Nodup) {k h:Nat} (hk:l[k]? =some h):l.takeWhile (fun x=>decide (x≠h))=l.take k:=by
  induction l generalizing k with
  | nil=>simp at hk
  | cons a l ih=>
    cases k with
    | zero=>simp at hk;subst hk;simp
    | succ k=>
      have hk:l[k]? =some h:=by simpa using hk
      have hne:a≠h:=fun e=>(List.nodup_cons.1 hn).1 (by rw [e];exact List.mem_of_getElem? hk)
      rw [List.takeWhile_cons,if_pos (by simpa using hne),List.take_succ_cons,ih (List.nodup_cons.1 hn).2 hk]
theorem qc (bs:List bD) (n t:Nat) (r:Nat→Nat) (hs:List Nat): (live bs n t r hs).length≤hs.length:=List.length_filter_le _ _
theorem DJ {bs:List bD} {n t:Nat} {r:Nat→Nat} {h:Nat} (hh:h∈aZ t r) (hne:AA bs n (cls t r h)=true):gi bs n t r h< (live bs n t r (aZ t r)).length∧(live bs n t r (aZ t r))[gi bs n t r h]? =some h:=by
  obtain⟨k,hk⟩:=List.getElem?_of_mem hh
  have hkl:=(List.getElem?_eq_some_iff.1 hk).1
  unfold gi
  rw [ou (iW t r) hk]
  have e:aZ t r= (aZ t r).take k++h::(aZ t r).drop (k+1):=by
    have h1:=(List.take_append_drop k (aZ t r)).symm
    rw [List.drop_eq_getElem_cons hkl,(List.getElem?_eq_some_iff.1 hk).2] at h1;exact h1
  have e2:live bs n t r (aZ t r)=live bs n t r ((aZ t r).take k)++h::live bs n t r ((aZ t r).drop (k+1)):=by
    conv=>lhs;rw [e]
    unfold live
    rw [List.filter_append,List.filter_cons,if_pos hne]
  constructor
  · rw [e2];simp
  · rw [e2]
    simp
end
end Go.Gk
namespace Go.Gk
open Go Classical
section
variable {N:Nat}
theorem uc {l:List Nat} (h:l.Nodup) {i j a:Nat} (hi:l[i]? =some a) (hj:l[j]? =some a):i=j:=
  (List.getElem_inj (h₀:=(List.getElem?_eq_some_iff.1 hi).1) (h₁:=(List.getElem?_eq_some_iff.1 hj).1) h).1 (by rw [(List.getElem?_eq_some_iff.1 hi).2,(List.getElem?_eq_some_iff.1 hj).2])
theorem nK {n i k:Nat} {r:Nat→Nat}:i∈cls n r k↔i<n∧r i=k:=by unfold cls;simp
theorem ud (n:Nat) (r:Nat→Nat) (k:Nat): (cls n r k).Nodup:=List.Nodup.sublist List.filter_sublist List.nodup_range
structure DK (bs:List bD) (n m:Nat) (r:Nat→Nat) (hs:List Nat) (ofP ofB:List Int):Prop where
  lp:ofP.length=n
  lb:ofB.length=m
  pc: ∀i,i<n→r i∈hs→ofP[i]? =some ((gi bs n (n+m) r (r i):Nat):Int)
  bo: ∀j,j<m→r (n+j)∈hs→ofB[j]? =some (if tM bs j=true then ((gi bs n (n+m) r (r (n+j)):Nat):Int) else -1)
theorem wB {bs:List bD} {n m:Nat} {r:Nat→Nat} (hm:bs.length=m) (hn:n≤1073741824) (hm2:m≤1073741824) {op ob:List Int} (hop:op.length=n) (hob:ob.length=m)
    {body:Nat→List bT×List Int×List Int→Option (List bT×List Int×List Int)}
    (hbody:body= (fun(k123:Nat) (s124: (List bT)×(List Int)×(List Int))=>((idx (kJ (n+m) r) (k123:Int)).bind fun(x455: (List Int))=>(iz x455.length (fun(k458:Nat) (s459: (List Int)×(List Int)×(List Int)×(List Int))=>((idx x455 (k458:Int)).bind fun(x556:Int)=>(bif (decide (x556< (n:Int))) then ((idx s459.1 x556).bind fun(x580:Int)=>(app 8 s459.2.2.1 ([x556]: (List Int))).bind fun(x582: (List Int))=>some ((s459.1.set (Int.toNat x556) (s124.1.length:Int)),s459.2.1,x582,s459.2.2.2)) else ((idx bs (IntKind.wrap .i64 (x556 - (n:Int)))).bind fun(x584:bD)=>(bif x584.cI then ((idx s459.2.1 (IntKind.wrap .i64 (x556 - (n:Int)))).bind fun(x594:Int)=>(app 8 s459.2.2.2 ([(IntKind.wrap .i64 (x556 - (n:Int)))]: (List Int))).bind fun(x596: (List Int))=>some ((s459.2.1.set (Int.toNat (IntKind.wrap .i64 (x556 - (n:Int)))) (s124.1.length:Int)),x596)) else ((idx s459.2.1 (IntKind.wrap .i64 (x556 - (n:Int)))).bind fun(x598:Int)=>some ((s459.2.1.set (Int.toNat (IntKind.wrap .i64 (x556 - (n:Int)))) (-1)),s459.2.2.2))).bind fun(s592: (List Int)×(List Int))=>some (s459.1,s592.1,s459.2.2.1,s592.2))).bind fun(s577: (List Int)×(List Int)×(List Int)×(List Int))=>some (s577.1,s577.2.1,s577.2.2.1,s577.2.2.2):Option ((List Int)×(List Int)×(List Int)×(List Int)))) (s124.2.1,s124.2.2,([]: (List Int)),([]: (List Int)))).bind fun(s459: (List Int)×(List Int)×(List Int)×(List Int))=>(bif (decide ((IntKind.wrap .i64 ((s459.2.2.1.length:Int)+ (s459.2.2.2.length:Int)))>0)) then ((app 72 s124.1 [(⟨s459.2.2.1,s459.2.2.2,([]: (List fC))⟩:bT)]).bind fun(x610: (List bT))=>some x610) else (some s124.1)).bind fun(s606: (List bT))=>some (s606,s459.1,s459.2.1):Option ((List bT)×(List Int)×(List Int))))):
    Ok (iz (kJ (n+m) r).length body ([],op,ob)) (fun st=>st.1=mj bs n (n+m) r (aZ (n+m) r)∧DK bs n m r (aZ (n+m) r) st.2.1 st.2.2):=by
  subst hbody
  have hsl: (kJ (n+m) r).length= (aZ (n+m) r).length:=by unfold kJ;simp
  have hhl:=kn (n+m) r
  refine Ok.mono (Ok.iz (fun(k:Nat) (st:List bT×List Int×List Int)=>st.1=mj bs n (n+m) r ((aZ (n+m) r).take k)∧DK bs n m r ((aZ (n+m) r).take k) st.2.1 st.2.2) (by omega) ⟨rfl,hop,hob,fun i hi h=>by simp at h,fun j hj h=>by simp at h⟩ (fun k st hk hI=>?_)) (fun st h=>by rw [hsl,List.take_length] at h;exact h)
  obtain⟨gs,ofP,ofB⟩:=st
  obtain⟨e1,I⟩:=hI
  dsimp only at e1 I ⊢
  subst e1
  rw [hsl] at hk
  have hkx: (aZ (n+m) r)[k]? =some (aZ (n+m) r)[k]:=List.getElem?_eq_getElem hk
  have hts: (aZ (n+m) r).take (k+1)= (aZ (n+m) r).take k++[(aZ (n+m) r)[k]]:=List.take_succ_eq_append_getElem hk
  have hgk:gi bs n (n+m) r (aZ (n+m) r)[k]= (mj bs n (n+m) r ((aZ (n+m) r).take k)).length:=by
    unfold gi;rw [ou (iW _ _) hkx,p9]
  generalize hh: (aZ (n+m) r)[k]=h at *
  have hsx: (kJ (n+m) r)[k]? =some (ints (cls (n+m) r h)):=by unfold kJ;rw [List.getElem?_map,hkx];rfl
  refine Ok.ix hsx ?_
  have hcl:=u9 (n+m) r h
  rw [kN]
  have hgl: (mj bs n (n+m) r ((aZ (n+m) r).take k)).length≤n+m:=by
    rw [p9]
    have:=qc bs n (n+m) r ((aZ (n+m) r).take k)
    rw [List.length_take] at this;omega
  have hold: ∀i∈cls (n+m) r h,∀i',r i'∈(aZ (n+m) r).take k→i≠i':=fun i hi i' hi' e=>by
    subst e
    rw [(nK.1 hi).2] at hi'
    obtain⟨j,hj⟩:=List.getElem?_of_mem hi'
    have hjk:j<k:=by have:=(List.getElem?_eq_some_iff.1 hj).1;rw [List.length_take] at this;omega
    rw [List.getElem?_take_of_lt hjk] at hj
    have:=uc (iW (n+m) r) hj hkx
    omega
  refine Ok.bind (P:=fun s'=>DK bs n m r ((aZ (n+m) r).take (k+1)) s'.1 s'.2.1∧s'.2.2.1=ints (gP n (cls (n+m) r h))∧s'.2.2.2=ints (gB bs n (cls (n+m) r h))) (Ok.mono (Ok.iz
    (fun(t:Nat) (s':List Int×List Int×List Int×List Int)=>DK bs n m r ((aZ (n+m) r).take k) s'.1 s'.2.1∧s'.2.2.1=ints (gP n ((cls (n+m) r h).take t))∧s'.2.2.2=ints (gB bs n ((cls (n+m) r h).take t))∧
      (∀i∈(cls (n+m) r h).take t,i<n→s'.1[i]? =some ((gi bs n (n+m) r h:Nat):Int))∧∀i∈(cls (n+m) r h).take t,¬i<n→s'.2.1[i - n]? =some (if tM bs (i - n)=true then ((gi bs n (n+m) r h:Nat):Int) else -1)) (by omega)
      ⟨I,rfl,rfl,fun i hi=>by simp at hi,fun i hi=>by simp at hi⟩ (fun t s' ht hI'=>?_)) ?_) ?_
  · obtain⟨oP,oB,pp,bb⟩:=s'
    obtain⟨J,e2,e3,J1,J2⟩:=hI'
    dsimp only at J e2 e3 J1 J2 ⊢
    subst e2;subst e3
    have htx: (ints (cls (n+m) r h))[t]? =some (((cls (n+m) r h)[t]:Nat):Int):=by unfold ints;rw [List.getElem?_map,List.getElem?_eq_getElem ht];rfl
    refine Ok.ix htx ?_
    have htt: (cls (n+m) r h).take (t+1)= (cls (n+m) r h).take t++[(cls (n+m) r h)[t]]:=List.take_succ_eq_append_getElem ht
    have hcm:=List.getElem_mem ht
    have hdist: ∀i∈(cls (n+m) r h).take t,i≠(cls (n+m) r h)[t]:=fun i hi e=>by
      obtain⟨j,hj⟩:=List.getElem?_of_mem hi
      have hjt:j<t:=by have:=(List.getElem?_eq_some_iff.1 hj).1;rw [List.length_take] at this;omega
      rw [List.getElem?_take_of_lt hjt] at hj
      have:=uc (ud (n+m) r h) hj (by rw [e];exact List.getElem?_eq_getElem ht)
      omega
    generalize (cls (n+m) r h)[t]=c at *
    obtain⟨hc1,hc2⟩:=nK.1 hcm
    have hgp:=AB n ((cls (n+m) r h).take t)
    have hgb:=AD bs n ((cls (n+m) r h).take t)
    rw [List.length_take] at hgp hgb
    by_cases hcn:c<n
    · rw [decide_eq_true (by omega: ((c:Nat):Int)< ((n:Nat):Int)),cond_true]
      refine Ok.bind (P:=fun x=>x= (oP.set c ((gi bs n (n+m) r h:Nat):Int),oB,ints (gP n ((cls (n+m) r h).take t))++[((c:Nat):Int)],ints (gB bs n ((cls (n+m) r h).take t)))) ?_ ?_
      · refine Ok.idx (by rw [J.lp];exact hcn) (Ok.app (by rw [kN];simp;omega) (Ok.ret ?_))
        rw [Int.toNat_natCast,hgk]
      · rintro _ rfl
        refine Ok.ret ⟨⟨by simp [J.lp],J.lb,fun i hi hr=>?_,J.bo⟩,?_,?_,fun i hi hin=>?_,fun i hi hin=>?_⟩
        · dsimp only
          rw [iM (by rw [J.lp];exact hcn),if_neg (fun e=>hold c hcm i hr e.symm)];exact J.pc i hi hr
        · dsimp only;rw [htt,yc,if_pos hcn,np];rfl
        · dsimp only;rw [htt,yd,if_pos hcn]
        · dsimp only
          rw [iM (by rw [J.lp];exact hcn)]
          split
          · rfl
          · rename_i hne
            rw [htt] at hi
            rcases List.mem_append.1 hi with hi | hi
            · exact J1 i hi hin
            · exact absurd (by simpa using hi) hne
        · rw [htt] at hi
          rcases List.mem_append.1 hi with hi | hi
          · exact J2 i hi hin
          · have:i=c:=by simpa using hi
            subst this;exact absurd hcn hin
    · rw [decide_eq_false (by omega: ¬((c:Nat):Int)< ((n:Nat):Int)),cond_false]
      have hw:IntKind.wrap .i64 (((c:Nat):Int) - ((n:Nat):Int))= ((c - n:Nat):Int):=by rw [cS (by omega) (by omega)];omega
      have hcm2:c - n<bs.length:=by omega
      have hpl:tM bs (c - n)=bs[c - n].cI:=by unfold tM;rw [List.getElem?_eq_getElem hcm2];rfl
      rw [hw]
      refine Ok.bind (P:=fun x=>x= (oP,oB.set (c - n) (if tM bs (c - n)=true then ((gi bs n (n+m) r h:Nat):Int) else -1),ints (gP n ((cls (n+m) r h).take t)),ints (gB bs n ((cls (n+m) r h).take t++[c])))) ?_ ?_
      · refine Ok.idx hcm2 ?_
        rw [yd,if_neg hcn,hpl]
        cases hp:bs[c - n].cI with
        | true=>
          rw [cond_true,if_pos rfl,if_pos rfl]
          refine Ok.eq (x:=(oB.set (c - n) ((gi bs n (n+m) r h:Nat):Int),ints (gB bs n ((cls (n+m) r h).take t)++[c - n]))) ?_ (Ok.ret rfl)
          rw [fI _ _ (by rw [J.lb];omega),aB,fJ (by rw [kN];simp;omega),aB,Int.toNat_natCast,hgk,np];rfl
        | false=>
          rw [cond_false,if_neg (by simp),if_neg (by simp)]
          refine Ok.eq (x:=(oB.set (c - n) (-1),ints (gB bs n ((cls (n+m) r h).take t)))) ?_ (Ok.ret rfl)
          rw [fI _ _ (by rw [J.lb];omega),aB,Int.toNat_natCast]
      · rintro _ rfl
        refine Ok.ret ⟨⟨J.lp,by simp [J.lb],J.pc,fun j hj hr=>?_⟩,?_,?_,fun i hi hin=>?_,fun i hi hin=>?_⟩
        · dsimp only
          rw [iM (by rw [J.lb];omega),if_neg (fun e=>hold c hcm (n+j) hr (by omega))];exact J.bo j hj hr
        · dsimp only;rw [htt,yc,if_neg hcn]
        · dsimp only;rw [htt]
        · rw [htt] at hi
          rcases List.mem_append.1 hi with hi | hi
          · exact J1 i hi hin
          · have:i=c:=by simpa using hi
            subst this;exact absurd hin hcn
        · dsimp only
          rw [iM (by rw [J.lb];omega)]
          split
          · rename_i e;rw [e]
          · rename_i hne
            rw [htt] at hi
            rcases List.mem_append.1 hi with hi | hi
            · exact J2 i hi hin
            · exact absurd (by have:i=c:=by simpa using hi
                               rw [this]) hne
  · rintro⟨oP,oB,pp,bb⟩ ⟨J,e2,e3,J1,J2⟩
    dsimp only at J e2 e3 J1 J2 ⊢
    rw [List.take_length] at e2 e3 J1 J2
    refine⟨⟨J.lp,J.lb,fun i hi hr=>?_,fun j hj hr=>?_⟩,e2,e3⟩
    · rw [hts] at hr
      rcases List.mem_append.1 hr with hr | hr
      · exact J.pc i hi hr
      · have hr:r i=h:=by simpa using hr
        rw [hr];exact J1 i (nK.2 ⟨by omega,hr⟩) hi
    · rw [hts] at hr
      rcases List.mem_append.1 hr with hr | hr
      · exact J.bo j hj hr
      · have hr:r (n+j)=h:=by simpa using hr
        rw [hr]
        have:=J2 (n+j) (nK.2 ⟨by omega,hr⟩) (by omega)
        rwa [Nat.add_sub_cancel_left] at this
  · rintro⟨oP,oB,pp,bb⟩ ⟨J,e2,e3⟩
    dsimp only at J e2 e3 ⊢
    subst e2;subst e3
    have hgp:=AB n (cls (n+m) r h)
    have hgb:=AD bs n (cls (n+m) r h)
    rw [kN,kN,wrap_add (by omega)]
    have hgs:mj bs n (n+m) r ((aZ (n+m) r).take (k+1))=if AA bs n (cls (n+m) r h)=true then mj bs n (n+m) r ((aZ (n+m) r).take k)++[Fu bs n (cls (n+m) r h)] else mj bs n (n+m) r ((aZ (n+m) r).take k):=by
      unfold mj
      rw [hts,y9]
      split
      · rw [List.map_append];rfl
      · rfl
    refine Ok.bind (P:=fun x=>x=mj bs n (n+m) r ((aZ (n+m) r).take (k+1))) (Ok.bif (fun hb=>?_) (fun hb=>Ok.ret ?_)) (fun x e=>Ok.ret ⟨e,J⟩)
    · have hne:AA bs n (cls (n+m) r h)=true:=decide_eq_true (by have:=of_decide_eq_true hb;omega)
      refine Ok.app (by simp;omega) (Ok.ret ?_)
      rw [hgs,if_pos hne];rfl
    · have hne: ¬AA bs n (cls (n+m) r h)=true:=fun h'=>by
        have h1:=of_decide_eq_true h'
        have h2:=of_decide_eq_false hb
        omega
      rw [hgs,if_neg hne]
end
end Go.Gk
