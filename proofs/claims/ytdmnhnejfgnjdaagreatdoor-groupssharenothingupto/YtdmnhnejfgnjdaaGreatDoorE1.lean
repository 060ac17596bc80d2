/-
  Helping texts: plain functions and plain laws. No statement of the seed is proved here.
-/
import Derived.Test.YtdmnhnejfgnjdaaGreatDoorA1
import Derived.ChangeShapes
import Derived.ChangeSame
import Derived.Carry
import Derived.RowKit
import Derived.Test.YtdmnhnejfgnjdaaGreatDoorA2
set_option linter.unusedVariables false
set_option linter.unusedSimpArgs false
set_option linter.unusedSectionVars false
namespace Go.Gk
open Go
noncomputable section
structure aD where
  X0:Int
  Y0:Int
  X1:Int
  Y1:Int
  deriving DecidableEq,Inhabited
structure bX where
  X:Int
  Y:Int
  deriving DecidableEq,Inhabited
structure bB where
  At:bX
  cH:Int
  bN:Int
  To:Int
  bP:Bool
  deriving DecidableEq,Inhabited
structure cE where
  Part:bS
  dC:bS
  bH:Int
  At:bX
  deriving DecidableEq,Inhabited
structure ju where
  aJ: (List (List aD))
  bZ: (List aD)
  aK: (List bB)
  aR: (List cE)
  deriving DecidableEq,Inhabited
structure aA where
  Y0:Int
  Y1:Int
  Xs: (List Int)
  deriving DecidableEq,Inhabited
structure dC where
  Part:bS
  dC:bS
  deriving DecidableEq,Inhabited
structure aC where
  bH:Int
  Set: (List aA)
  fL: (List aD)
  deriving DecidableEq,Inhabited
structure aX where
  bY: (List Int)
  aK: (List Int)
  cB: (List dC)
  deriving DecidableEq,Inhabited
structure fZ where
  bB:Bool
  Number:Int
  deriving DecidableEq,Inhabited
structure Piece where
  bH:Int
  rA:bX
  v5:Int
  deriving DecidableEq,Inhabited
def lK (N:Nat) (p0:Int) (p1:Int) (p2:Int):Option (Bool):=
  some ((decide (p0≥p1))&&(decide (p0≤p2)))
def gk (N:Nat) (p0:Int):Option (Bool):=
  (lK N p0 (-1000000) 1000000).bind fun(j:Bool)=>some j
def g8 (N:Nat) (p0:aD):Option (Bool):=
  ((gk N p0.X0).bind fun(j:Bool)=>bif j then ((gk N p0.Y0).bind fun(o:Bool)=>bif o then ((gk N p0.X1).bind fun(aa:Bool)=>bif aa then ((gk N p0.Y1).bind fun(ab:Bool)=>some ab) else (some false)) else (some false)) else (some false)).bind fun(ad:Bool)=>some ad
def fR (N:Nat) (p0: (List aD)):Option (Int):=
  bif (decide ((p0.length:Int)>2000)) then (some 2) else ((mx p0.length (fun(o:Nat) (aa:Unit)=>((idx p0 (o:Int)).bind fun(j:aD)=>(g8 N j).bind fun(ab:Bool)=>bif (!ab) then (some (.rt 1)) else (bif ((decide (j.X1≤j.X0))||(decide (j.Y1≤j.Y0))) then (some (.rt 13)) else (some (.nx ()))):Option (Fl (Unit) Int))) ()).bind fun(ad:Fo (Unit) Int)=>ad.cs (fun(aa:Unit)=>some 0) (fun r=>some r))
def eJ (N:Nat) (p0: (List aD)):Option ((List aD)):=
  (app 32 ([]: (List aD)) p0).bind fun(j: (List aD))=>some j
def ff (N:Nat) (p0:aD) (p1:aD):Option (Int):=
  some (IntKind.wrap .i64 (p0.Y0 - p1.Y0))
def dF (N:Nat) (p0: (List Int)):Option ((List Int)):=
  bif (decide ((p0.length:Int)<2)) then (some p0) else ((itr (fun(o:Int)=>(bif (decide (o< (p0.length:Int))) then ((idx p0 o).bind fun(ab:Int)=>(idx p0 (IntKind.wrap .i64 (o - 1))).bind fun(ad:Int)=>bif (ab==ad) then ((oI p0 o (p0.length:Int)).bind fun(ak: (List Int))=>(itr (fun(j: (List Int)×Int×Int)=>(bif (decide (j.2.2< (((j.1.length - Int.toNat o):Nat):Int))) then ((vW j.1 o j.2.2).bind fun(ae:Int)=>(vW j.1 o (IntKind.wrap .i64 (j.2.2 - 1))).bind fun(af:Int)=>(bif (ae != af) then ((vW j.1 o j.2.2).bind fun(ag:Int)=>(idx j.1 j.2.1).bind fun(al:Int)=>some ((j.1.set (Int.toNat j.2.1) ag),(IntKind.wrap .i64 (j.2.1+1)))) else (some (j.1,j.2.1))).bind fun(aa: (List Int)×Int)=>some (.nx (aa.1,aa.2,(IntKind.wrap .i64 (j.2.2+1))))) else (some (.br (j.1,j.2.1,j.2.2))):Option (Fl ((List Int)×Int×Int) Empty))) N (p0,o,1)).bind fun(ah:Fo ((List Int)×Int×Int) Empty)=>ah.cs (fun(j: (List Int)×Int×Int)=>(oI j.1 j.2.1 (j.1.length:Int)).bind fun(an: (List Int))=>(oI (j.1.take (Int.toNat j.2.1)++List.replicate (j.1.length - Int.toNat j.2.1) (0:Int)) 0 j.2.1).bind fun(ai: (List Int))=>some (.rt ai)) (fun r=>r.elim)) else (some (.nx (IntKind.wrap .i64 (o+1))))) else (some (.br o)):Option (Fl (Int) (List Int)))) N 1).bind fun(aj:Fo (Int) (List Int))=>aj.cs (fun(o:Int)=>some p0) (fun r=>some r))
def iS (N:Nat) (p0:aD) (p1: (List Int)) (p2:Int):Option (Bool):=
  (idx p1 p2).bind fun(j:Int)=>some (decide (p0.Y1≤j))
def gD (N:Nat) (p0: (List aD)) (p1:aD→Option Bool):Option (Int):=
  (mx p0.length (fun(j:Nat) (o:Unit)=>((idx p0 (j:Int)).bind fun(aa:aD)=>(p1 aa).bind fun(ab:Bool)=>bif ab then (some (.rt (j:Int))) else (some (.nx ())):Option (Fl (Unit) Int))) ()).bind fun(ad:Fo (Unit) Int)=>ad.cs (fun(o:Unit)=>some (-1)) (fun r=>some r)
def fG (N:Nat) (p0: (List aD)) (p1:aD→Option Bool):Option (Int):=
  (mx p0.length (fun(j:Nat) (o:Unit)=>((idx p0 (j:Int)).bind fun(aa:aD)=>(p1 aa).bind fun(ab:Bool)=>bif ab then (some (.rt (j:Int))) else (some (.nx ())):Option (Fl (Unit) Int))) ()).bind fun(ad:Fo (Unit) Int)=>ad.cs (fun(o:Unit)=>some (-1)) (fun r=>some r)
def dS (N:Nat) (p0: (List aD)) (p1:aD→Option Bool):Option ((List aD)):=
  (fG N p0 p1).bind fun(o:Int)=>bif (o==(-1)) then (some p0) else ((itr (fun(j: (List aD)×Int×Int)=>(bif (decide (j.2.2< (j.1.length:Int))) then ((idx j.1 j.2.2).bind fun(aa:aD)=>(p1 aa).bind fun(ad:Bool)=>(bif (!ad) then ((idx j.1 j.2.1).bind fun(ag:aD)=>some ((j.1.set (Int.toNat j.2.1) aa),(IntKind.wrap .i64 (j.2.1+1)))) else (some (j.1,j.2.1))).bind fun(ab: (List aD)×Int)=>some (.nx (ab.1,ab.2,(IntKind.wrap .i64 (j.2.2+1))))) else (some (.br (j.1,j.2.1,j.2.2))):Option (Fl ((List aD)×Int×Int) Empty))) N (p0,o,(IntKind.wrap .i64 (o+1)))).bind fun(ae:Fo ((List aD)×Int×Int) Empty)=>ae.cs (fun(j: (List aD)×Int×Int)=>(oI j.1 j.2.1 (j.1.length:Int)).bind fun(ah: (List aD))=>(oI (j.1.take (Int.toNat j.2.1)++List.replicate (j.1.length - Int.toNat j.2.1) (⟨0,0,0,0⟩:aD)) 0 j.2.1).bind fun(af: (List aD))=>some af) (fun r=>r.elim))
def dG (N:Nat) (p0:aD) (p1:aD):Option (Int):=
  some (IntKind.wrap .i64 (p0.X0 - p1.X0))
def eN (N:Nat) (p0: (List aD)):Option ((List Int)×(List aD)):=
  (oL (dG N) p0).bind fun(aa: (List aD))=>(gZ aa.length (fun(ad:Nat) (j: (List Int))=>((idx aa (ad:Int)).bind fun(o:aD)=>(bif (decide ((IntKind.wrap .i64 ((j.length:Int) - 1))≥0)) then ((idx j (IntKind.wrap .i64 ((j.length:Int) - 1))).bind fun(ae:Int)=>some (decide (o.X0≤ae))) else (some false)).bind fun(af:Bool)=>(bif af then ((idx j (IntKind.wrap .i64 ((j.length:Int) - 1))).bind fun(ab:Int)=>(idx j (IntKind.wrap .i64 ((j.length:Int) - 1))).bind fun(ai:Int)=>some (j.set (Int.toNat (IntKind.wrap .i64 ((j.length:Int) - 1))) (if ab<o.X1 then o.X1 else ab))) else ((app 8 j ([o.X0,o.X1]: (List Int))).bind fun(ag: (List Int))=>some ag)).bind fun(ah: (List Int))=>some ah:Option ((List Int)))) ([]: (List Int))).bind fun(j: (List Int))=>some (j,aa)
def g9 (N:Nat) (p0: (List Int)) (p1: (List Int)):Option (Bool):=
  bif ((p0.length:Int) != (p1.length:Int)) then (some false) else ((mx p0.length (fun(j:Nat) (o:Unit)=>((idx p0 (j:Int)).bind fun(aa:Int)=>(idx p1 (j:Int)).bind fun(ab:Int)=>bif (aa != ab) then (some (.rt false)) else (some (.nx ())):Option (Fl (Unit) Bool))) ()).bind fun(ad:Fo (Unit) Bool)=>ad.cs (fun(o:Unit)=>some true) (fun r=>some r))
def eF (N:Nat) (p0: (List aA)) (p1:aA):Option ((List aA)):=
  bif (((p1.Xs.length:Int)==0)||(decide (p1.Y1≤p1.Y0))) then (some p0) else ((bif (decide ((IntKind.wrap .i64 ((p0.length:Int) - 1))≥0)) then ((idx p0 (IntKind.wrap .i64 ((p0.length:Int) - 1))).bind fun(j:aA)=>bif (j.Y1==p1.Y0) then ((idx p0 (IntKind.wrap .i64 ((p0.length:Int) - 1))).bind fun(o:aA)=>(g9 N o.Xs p1.Xs).bind fun(aa:Bool)=>some aa) else (some false)) else (some false)).bind fun(ab:Bool)=>bif ab then ((idx p0 (IntKind.wrap .i64 ((p0.length:Int) - 1))).bind fun(ad:aA)=>some (p0.set (Int.toNat (IntKind.wrap .i64 ((p0.length:Int) - 1))) ({ad with Y1:=p1.Y1}))) else ((app 40 p0 ([p1]: (List aA))).bind fun(ae: (List aA))=>some ae))
def dJ (N:Nat) (p0: (List aD)):Option ((List aA)):=
  (eJ N p0).bind fun(ag: (List aD))=>(oL (ff N) ag).bind fun(aa: (List aD))=>(gZ aa.length (fun(ah:Nat) (ad: (List Int))=>((idx aa (ah:Int)).bind fun(ae:aD)=>(app 8 ad ([ae.Y0,ae.Y1]: (List Int))).bind fun(ai: (List Int))=>some ai:Option ((List Int)))) ([]: (List Int))).bind fun(ad: (List Int))=>(mA ad).bind fun(aj: (List Int))=>(dF N aj).bind fun(ab: (List Int))=>(itr (fun(j: (List aA)×(List aD)×Int×Int)=>(bif (decide ((IntKind.wrap .i64 (j.2.2.2+1))< (ab.length:Int))) then ((dS N j.2.1 (fun y0=>iS N y0 ab j.2.2.2)).bind fun(ak: (List aD))=>(itr (fun(o: (List aD)×Int)=>((bif (decide (o.2< (aa.length:Int))) then ((idx aa o.2).bind fun(al:aD)=>(idx ab j.2.2.2).bind fun(an:Int)=>some (decide (al.Y0≤an))) else (some false)).bind fun(ao:Bool)=>bif ao then ((idx aa o.2).bind fun(aq:aD)=>(app 32 o.1 ([aq]: (List aD))).bind fun(ar: (List aD))=>some (.nx (ar,(IntKind.wrap .i64 (o.2+1))))) else (some (.br (o.1,o.2))):Option (Fl ((List aD)×Int) Empty))) N (ak,j.2.2.1)).bind fun(au:Fo ((List aD)×Int) Empty)=>au.cs (fun(o: (List aD)×Int)=>(idx ab j.2.2.2).bind fun(av:Int)=>(idx ab (IntKind.wrap .i64 (j.2.2.2+1))).bind fun(aw:Int)=>(eN N o.1).bind fun(af: (List Int)×(List aD))=>(eF N j.1 (⟨av,aw,af.1⟩:aA)).bind fun(ax: (List aA))=>some (.nx (ax,af.2,o.2,(IntKind.wrap .i64 (j.2.2.2+1))))) (fun r=>r.elim)) else (some (.br (j.1,j.2.1,j.2.2.1,j.2.2.2))):Option (Fl ((List aA)×(List aD)×Int×Int) Empty))) N (([]: (List aA)),([]: (List aD)),0,0)).bind fun(ay:Fo ((List aA)×(List aD)×Int×Int) Empty)=>ay.cs (fun(j: (List aA)×(List aD)×Int×Int)=>some j.1) (fun r=>r.elim)
def eO (N:Nat) (p0: (List aA)):Option ((List aD)):=
  (gZ p0.length (fun(ab:Nat) (aa: (List aD))=>((idx p0 (ab:Int)).bind fun(o:aA)=>(itr (fun(j: (List aD)×Int)=>(bif (decide (j.2< (o.Xs.length:Int))) then ((idx o.Xs j.2).bind fun(ad:Int)=>(idx o.Xs (IntKind.wrap .i64 (j.2+1))).bind fun(ae:Int)=>(app 32 j.1 ([(⟨ad,o.Y0,ae,o.Y1⟩:aD)]: (List aD))).bind fun(af: (List aD))=>some (.nx (af,(IntKind.wrap .i64 (j.2+2))))) else (some (.br (j.1,j.2))):Option (Fl ((List aD)×Int) Empty))) N (aa,0)).bind fun(ag:Fo ((List aD)×Int) Empty)=>ag.cs (fun(j: (List aD)×Int)=>some j.1) (fun r=>r.elim):Option ((List aD)))) ([]: (List aD))).bind fun(aa: (List aD))=>some aa
def fB (N:Nat) (p0: (List aD)) (p1: (List aD)):Option (Bool):=
  bif ((p0.length:Int) != (p1.length:Int)) then (some false) else ((mx p0.length (fun(j:Nat) (o:Unit)=>((idx p0 (j:Int)).bind fun(aa:aD)=>(idx p1 (j:Int)).bind fun(ab:aD)=>bif (!(decide (aa=ab))) then (some (.rt false)) else (some (.nx ())):Option (Fl (Unit) Bool))) ()).bind fun(ad:Fo (Unit) Bool)=>ad.cs (fun(o:Unit)=>some true) (fun r=>some r))
def eK (N:Nat) (p0: (List aD)):Option (Int):=
  (fR N p0).bind fun(ab:Int)=>bif (ab != 0) then (some ab) else ((itr (fun(j:Int)=>(bif (decide (j< (p0.length:Int))) then ((idx p0 (IntKind.wrap .i64 (j - 1))).bind fun(o:aD)=>(idx p0 j).bind fun(aa:aD)=>bif ((decide (aa.Y0<o.Y0))||((aa.Y0==o.Y0)&&(decide (aa.X0≤o.X0)))) then (some (.rt 8)) else (some (.nx (IntKind.wrap .i64 (j+1))))) else (some (.br j)):Option (Fl (Int) Int))) N 1).bind fun(ad:Fo (Int) Int)=>ad.cs (fun(j:Int)=>(dJ N p0).bind fun(ae: (List aA))=>(eO N ae).bind fun(af: (List aD))=>(fB N af p0).bind fun(ag:Bool)=>bif (!ag) then (some 3) else (some 0)) (fun r=>some r))
def dR (N:Nat) (p0:Int) (p1:Int) (p2:Int):Option (Bool):=
  some ((decide (p0≥p1))&&(decide (p0≤p2)))
def eX (N:Nat) (p0:bX):Option (Bool):=
  ((gk N p0.X).bind fun(j:Bool)=>bif j then ((gk N p0.Y).bind fun(o:Bool)=>some o) else (some false)).bind fun(aa:Bool)=>some aa
def cP (N:Nat) (p0:bB):Option (aD):=
  some (⟨(IntKind.wrap .i64 (p0.At.X - (IntKind.wrap .i64 (Int.tdiv p0.cH 2)))),(IntKind.wrap .i64 (p0.At.Y - (IntKind.wrap .i64 (Int.tdiv p0.cH 2)))),(IntKind.wrap .i64 ((IntKind.wrap .i64 (p0.At.X - (IntKind.wrap .i64 (Int.tdiv p0.cH 2))))+p0.cH)),(IntKind.wrap .i64 ((IntKind.wrap .i64 (p0.At.Y - (IntKind.wrap .i64 (Int.tdiv p0.cH 2))))+p0.cH))⟩:aD)
def hB (N:Nat) (p0: (List aA)):Option (aD):=
  (idx p0 0).bind fun(ab:aA)=>(idx ab.Xs 0).bind fun(ad:Int)=>(idx p0 0).bind fun(ae:aA)=>(idx p0 0).bind fun(af:aA)=>(idx af.Xs 1).bind fun(ag:Int)=>(idx p0 (IntKind.wrap .i64 ((p0.length:Int) - 1))).bind fun(ah:aA)=>(gZ p0.length (fun(ai:Nat) (j:aD)=>((idx p0 (ai:Int)).bind fun(o:aA)=>(idx o.Xs 0).bind fun(iT:Int)=>(idx o.Xs (IntKind.wrap .i64 ((o.Xs.length:Int) - 1))).bind fun(aa:Int)=>some ({{j with X0:=(if iT<j.X0 then iT else j.X0)} with X1:=(if j.X1<aa then aa else j.X1)}):Option (aD))) (⟨ad,ae.Y0,ag,ah.Y1⟩:aD)).bind fun(j:aD)=>some j
def gR (N:Nat) (p0: (List aA)):Option (Bool):=
  (bif ((p0.length:Int)==0) then (some true) else ((hB N p0).bind fun(j:aD)=>(g8 N j).bind fun(o:Bool)=>some o)).bind fun(aa:Bool)=>some aa
def fH (N:Nat) (p0:bB):Option (aD×Int):=
  ((dR N p0.cH 1 10000).bind fun(o:Bool)=>bif (!o) then (some true) else ((eX N p0.At).bind fun(aa:Bool)=>some (!aa))).bind fun(ab:Bool)=>bif ab then (some ((⟨0,0,0,0⟩:aD),1)) else ((cP N p0).bind fun(j:aD)=>(dJ N ([j]: (List aD))).bind fun(ad: (List aA))=>(gR N ad).bind fun(ae:Bool)=>bif (!ae) then (some ((⟨0,0,0,0⟩:aD),1)) else (some (j,0)))
def fC (N:Nat) (p0:ju):Option (Int):=
  bif (decide ((p0.aK.length:Int)>500)) then (some 2) else ((mx p0.aK.length (fun(aa:Nat) (ab:Unit)=>((idx p0.aK (aa:Int)).bind fun(j:bB)=>(fH N j).bind fun(o:aD×Int)=>bif (o.2 != 0) then (some (.rt o.2)) else (((dR N j.bN 0 (IntKind.wrap .i64 ((p0.aJ.length:Int) - 1))).bind fun(ad:Bool)=>bif (!ad) then (some true) else ((dR N j.To j.bN (IntKind.wrap .i64 ((p0.aJ.length:Int) - 1))).bind fun(ae:Bool)=>some (!ae))).bind fun(af:Bool)=>bif af then (some (.rt 1)) else (some (.nx ()))):Option (Fl (Unit) Int))) ()).bind fun(ag:Fo (Unit) Int)=>ag.cs (fun(ab:Unit)=>some 0) (fun r=>some r))
def dW (N:Nat) (p0:bS) (p1:Int):Option (Int):=
  some (Lib.indexByte p0.bM (Int.toNat p1).toUInt8)
def fD (N:Nat) (p0:bS) (p1:bS):Option (Int):=
  bif (((p1.bM.length:Int)==0)||(p1.vQ p0)) then (some 0) else (bif ((p1.bM.length:Int)==1) then ((xy p1 0).bind fun(j:UInt8)=>(dW N p0 (j.toNat:Int)).bind fun(o:Int)=>some o) else (bif (decide ((p1.bM.length:Int)≥(p0.bM.length:Int))) then (some (-1)) else (none)))
def gx (N:Nat) (p0:bS) (p1:bS):Option (Int):=
  (fD N p0 p1).bind fun(j:Int)=>some j
def ik (N:Nat) (p0:bS) (p1:bS):Option (Int):=
  bif ((p1.bM.length:Int)==0) then (none) else (bif ((p1.bM.length:Int)==1) then ((xy p1 0).bind fun(aa:UInt8)=>some ((Lib.countByte p0.bM (Int.toNat (aa.toNat:Int)).toUInt8:Nat):Int)) else ((itr (fun(j:bS×Int)=>((gx N j.1 p1).bind fun(o:Int)=>bif (o==(-1)) then (some (.rt j.2)) else ((n0 j.1 (IntKind.wrap .i64 (o+ (p1.bM.length:Int))) (j.1.bM.length:Int)).bind fun(ab:bS)=>some (.nx (ab,(IntKind.wrap .i64 (j.2+1))))):Option (Fl (bS×Int) Int))) N (p0,0)).bind fun(ad:Fo (bS×Int) Int)=>ad.cs (fun(j:bS×Int)=>some 0) (fun r=>some r)))
def hG (N:Nat) (p0:bS) (p1:bS) (p2:Int) (p3:Int):Option ((List bS)):=
  bif (p3==0) then (some ([]: (List bS))) else (bif (p1.vQ (⟨[]⟩)) then (none) else ((bif (decide (p3<0)) then ((ik N p0 p1).bind fun(ab:Int)=>some (IntKind.wrap .i64 (ab+1))) else (some p3)).bind fun(o:Int)=>(mk 16 (⟨[]⟩:bS) (if (IntKind.wrap .i64 ((p0.bM.length:Int)+1))<o then (IntKind.wrap .i64 ((p0.bM.length:Int)+1)) else o)).bind fun(ad: (List bS))=>(itr (fun(j:bS×(List bS)×Int)=>(bif (decide (j.2.2< (IntKind.wrap .i64 ((if (IntKind.wrap .i64 ((p0.bM.length:Int)+1))<o then (IntKind.wrap .i64 ((p0.bM.length:Int)+1)) else o) - 1)))) then ((gx N j.1 p1).bind fun(aa:Int)=>bif (decide (aa<0)) then (some (.br (j.1,j.2.1,j.2.2))) else ((n0 j.1 0 (IntKind.wrap .i64 (aa+p2))).bind fun(ae:bS)=>(idx j.2.1 j.2.2).bind fun(ai:bS)=>(n0 j.1 (IntKind.wrap .i64 (aa+ (p1.bM.length:Int))) (j.1.bM.length:Int)).bind fun(af:bS)=>some (.nx (af,(j.2.1.set (Int.toNat j.2.2) ae),(IntKind.wrap .i64 (j.2.2+1)))))) else (some (.br (j.1,j.2.1,j.2.2))):Option (Fl (bS×(List bS)×Int) Empty))) N (p0,ad,0)).bind fun(ag:Fo (bS×(List bS)×Int) Empty)=>ag.cs (fun(j:bS×(List bS)×Int)=>(idx j.2.1 j.2.2).bind fun(aj:bS)=>(oI (j.2.1.set (Int.toNat j.2.2) j.1) 0 (IntKind.wrap .i64 (j.2.2+1))).bind fun(ah: (List bS))=>some ah) (fun r=>r.elim)))
def il (N:Nat) (p0:bS) (p1:bS):Option ((List bS)):=
  (hG N p0 p1 0 (-1)).bind fun(j: (List bS))=>some j
def fS (N:Nat) (p0: (List bS)) (p1:bS→Option Bool):Option (Int):=
  (mx p0.length (fun(j:Nat) (o:Unit)=>((idx p0 (j:Int)).bind fun(aa:bS)=>(p1 aa).bind fun(ab:Bool)=>bif ab then (some (.rt (j:Int))) else (some (.nx ())):Option (Fl (Unit) Int))) ()).bind fun(ad:Fo (Unit) Int)=>ad.cs (fun(o:Unit)=>some (-1)) (fun r=>some r)
def dT (N:Nat) (p0: (List bS)) (p1:bS→Option Bool):Option (Bool):=
  (fS N p0 p1).bind fun(j:Int)=>some (decide (j≥0))
def eL (N:Nat) (p0:bS) (p1:Int):Option (Int):=
  (dW N p0 p1).bind fun(j:Int)=>some j
def eG (N:Nat) (p0:bS):Option (Bool):=
  (mx p0.bM.length (fun(o:Nat) (aa:Unit)=>((xy p0 (o:Int)).bind fun(j:UInt8)=>(bif ((((decide ((j.toNat:Int)<65))||(decide ((j.toNat:Int)>90)))&&((decide ((j.toNat:Int)<97))||(decide ((j.toNat:Int)>122))))&&((decide ((j.toNat:Int)<48))||(decide ((j.toNat:Int)>57)))) then ((eL N (⟨[95,43,45,35]⟩) (j.toNat:Int)).bind fun(ab:Int)=>some (decide (ab<0))) else (some false)).bind fun(ad:Bool)=>bif ad then (some (.rt false)) else (some (.nx ())):Option (Fl (Unit) Bool))) ()).bind fun(ae:Fo (Unit) Bool)=>ae.cs (fun(aa:Unit)=>some ((decide ((p0.bM.length:Int)≥1))&&(decide ((p0.bM.length:Int)≤40)))) (fun r=>some r)
def dU (N:Nat) (p0:bS):Option (Bool):=
  (eG N p0).bind fun(j:Bool)=>some (!j)
def gS (N:Nat) (p0:bS):Option (Bool):=
  (bif (decide ((p0.bM.length:Int)≤200)) then ((il N p0 (⟨[47]⟩)).bind fun(j: (List bS))=>(dT N j (dU N)).bind fun(o:Bool)=>some (!o)) else (some false)).bind fun(aa:Bool)=>some aa
def gl (N:Nat) (p0:cE):Option (dC):=
  some (⟨p0.Part,p0.dC⟩:dC)
def gE (N:Nat) (p0:bS) (p1:bS):Option (Int):=
  some (Lib.compareBytes p0.bM p1.bM)
def iB (N:Nat) (p0:bS) (p1:bS):Option (Int):=
  (gE N p0 p1).bind fun(j:Int)=>some j
def eQ (N:Nat) (p0:dC) (p1:dC):Option (Int):=
  (iB N p0.Part p1.Part).bind fun(j:Int)=>bif (j != 0) then (some j) else ((iB N p0.dC p1.dC).bind fun(o:Int)=>some o)
def fE (N:Nat) (p0:ju):Option (Int):=
  bif (decide ((p0.aR.length:Int)>1000)) then (some 2) else ((mx p0.aR.length (fun(o:Nat) (aa:Unit)=>((idx p0.aR (o:Int)).bind fun(j:cE)=>((gS N j.Part).bind fun(ab:Bool)=>bif (!ab) then (some true) else ((eG N j.dC).bind fun(ad:Bool)=>some (!ad))).bind fun(ae:Bool)=>bif ae then (some (.rt 5)) else (((dR N j.bH 0 (IntKind.wrap .i64 ((p0.aJ.length:Int) - 1))).bind fun(af:Bool)=>bif (!af) then (some true) else ((eX N j.At).bind fun(ag:Bool)=>some (!ag))).bind fun(ah:Bool)=>bif ah then (some (.rt 1)) else ((bif (decide ((o:Int)>0)) then ((gl N j).bind fun(ai:dC)=>(idx p0.aR (IntKind.wrap .i64 ((o:Int) - 1))).bind fun(aj:cE)=>(gl N aj).bind fun(ak:dC)=>(eQ N ai ak).bind fun(al:Int)=>some (decide (al≤0))) else (some false)).bind fun(an:Bool)=>bif an then (some (.rt 8)) else (some (.nx ())))):Option (Fl (Unit) Int))) ()).bind fun(ao:Fo (Unit) Int)=>ao.cs (fun(aa:Unit)=>some 0) (fun r=>some r))
def gz (N:Nat) (p0:Int) (p1:Int) (p2:Int) (p3:Int):Option (Int):=
  some (if (if 0< (IntKind.wrap .i64 ((IntKind.wrap .i64 (p2 - p1))+1)) then (IntKind.wrap .i64 ((IntKind.wrap .i64 (p2 - p1))+1)) else 0)< (IntKind.wrap .i64 ((IntKind.wrap .i64 (p0 - p3))+1)) then (IntKind.wrap .i64 ((IntKind.wrap .i64 (p0 - p3))+1)) else (if 0< (IntKind.wrap .i64 ((IntKind.wrap .i64 (p2 - p1))+1)) then (IntKind.wrap .i64 ((IntKind.wrap .i64 (p2 - p1))+1)) else 0))
def k7 (N:Nat) (p0:aD) (p1:aD):Option (Int):=
  (gz N p0.X0 p0.X1 p1.X0 p1.X1).bind fun(j:Int)=>(gz N p0.Y0 p0.Y1 p1.Y0 p1.Y1).bind fun(o:Int)=>some (if j<o then o else j)
def fT (N:Nat) (p0:bB) (p1:Int):Option (Bool):=
  some ((decide (p0.bN≤p1))&&(decide (p1≤p0.To)))
def hL (N:Nat) (p0: (List aA)) (p1:Int) (p2:Int):Option ((List Int)×Int):=
  bif ((p0.length:Int)==0) then (some (([]: (List Int)),p2)) else ((idx p0 0).bind fun(aa:aA)=>bif (decide (p1<aa.Y0)) then ((idx p0 0).bind fun(j:aA)=>some (([]: (List Int)),(if j.Y0<p2 then j.Y0 else p2))) else ((idx p0 0).bind fun(ab:aA)=>(idx p0 0).bind fun(o:aA)=>some (ab.Xs,(if o.Y1<p2 then o.Y1 else p2))))
def j9 (N:Nat) (p0: (List Int)) (p1: (List Int)) (p2:Bool→Bool→Option Bool):Option ((List Int)):=
  (itr (fun(j: (List Int)×(List Int)×(List Int)×Bool×Bool×Bool)=>((bif (decide ((j.1.length:Int)>0)) then (some true) else (some (decide ((j.2.1.length:Int)>0)))).bind fun(af:Bool)=>bif af then ((bif ((j.2.1.length:Int)==0) then (some true) else (bif (decide ((j.1.length:Int)>0)) then ((idx j.1 0).bind fun(ag:Int)=>(idx j.2.1 0).bind fun(ah:Int)=>some (decide (ag≤ah))) else (some false))).bind fun(ai:Bool)=>(bif ai then ((idx j.1 0).bind fun(aj:Int)=>some aj) else ((idx j.2.1 0).bind fun(ak:Int)=>some ak)).bind fun(o:Int)=>(bif (decide ((j.1.length:Int)>0)) then ((idx j.1 0).bind fun(al:Int)=>some (al==o)) else (some false)).bind fun(an:Bool)=>(bif an then ((oI j.1 1 (j.1.length:Int)).bind fun(ao: (List Int))=>some (ao,(!j.2.2.2.1))) else (some (j.1,j.2.2.2.1))).bind fun(aa: (List Int)×Bool)=>(bif (decide ((j.2.1.length:Int)>0)) then ((idx j.2.1 0).bind fun(aq:Int)=>some (aq==o)) else (some false)).bind fun(ar:Bool)=>(bif ar then ((oI j.2.1 1 (j.2.1.length:Int)).bind fun(au: (List Int))=>some (au,(!j.2.2.2.2.1))) else (some (j.2.1,j.2.2.2.2.1))).bind fun(ab: (List Int)×Bool)=>(p2 aa.2 ab.2).bind fun(ad:Bool)=>(bif (ad != j.2.2.2.2.2) then ((app 8 j.2.2.1 ([o]: (List Int))).bind fun(av: (List Int))=>some (av,ad)) else (some (j.2.2.1,j.2.2.2.2.2))).bind fun(ae: (List Int)×Bool)=>some (.nx (aa.1,ab.1,ae.1,aa.2,ab.2,ae.2))) else (some (.br (j.1,j.2.1,j.2.2.1,j.2.2.2.1,j.2.2.2.2.1,j.2.2.2.2.2))):Option (Fl ((List Int)×(List Int)×(List Int)×Bool×Bool×Bool) Empty))) N (p0,p1,([]: (List Int)),false,false,false)).bind fun(aw:Fo ((List Int)×(List Int)×(List Int)×Bool×Bool×Bool) Empty)=>aw.cs (fun(j: (List Int)×(List Int)×(List Int)×Bool×Bool×Bool)=>some j.2.2.1) (fun r=>r.elim)
def jv (N:Nat) (p0: (List aA)) (p1: (List aA)) (p2:Bool→Bool→Option Bool):Option ((List aA)):=
  bif ((IntKind.wrap .i64 ((p0.length:Int)+ (p1.length:Int)))==0) then (some ([]: (List aA))) else ((gZ (([p0,p1]: (List (List aA))).length) (fun(ah:Nat) (o:Int×Int)=>((idx ([p0,p1]: (List (List aA))) (ah:Int)).bind fun(ad: (List aA))=>(bif (decide ((ad.length:Int)>0)) then ((bif ((ah:Int)==0) then (some true) else (some ((p0.length:Int)==0))).bind fun(al:Bool)=>(bif al then ((idx ad 0).bind fun(an:aA)=>(idx ad (IntKind.wrap .i64 ((ad.length:Int) - 1))).bind fun(ao:aA)=>some (an.Y0,ao.Y1)) else (some (o.1,o.2))).bind fun(ag:Int×Int)=>(idx ad 0).bind fun(ai:aA)=>(idx ad (IntKind.wrap .i64 ((ad.length:Int) - 1))).bind fun(aj:aA)=>some ((if ai.Y0<ag.1 then ai.Y0 else ag.1),(if ag.2<aj.Y1 then aj.Y1 else ag.2))) else (some (o.1,o.2))).bind fun(ak:Int×Int)=>some (ak.1,ak.2):Option (Int×Int))) (0,0)).bind fun(o:Int×Int)=>(itr (fun(j: (List aA)×(List aA)×(List aA)×Int)=>(bif (decide (j.2.2.2<o.2)) then ((itr (fun(aa: (List aA))=>((bif (decide ((aa.length:Int)>0)) then ((idx aa 0).bind fun(aq:aA)=>some (decide (aq.Y1≤j.2.2.2))) else (some false)).bind fun(ar:Bool)=>bif ar then ((oI aa 1 (aa.length:Int)).bind fun(au: (List aA))=>some (.nx au)) else (some (.br aa)):Option (Fl ((List aA)) Empty))) N j.1).bind fun(av:Fo ((List aA)) Empty)=>av.cs (fun(aa: (List aA))=>(itr (fun(ab: (List aA))=>((bif (decide ((ab.length:Int)>0)) then ((idx ab 0).bind fun(aw:aA)=>some (decide (aw.Y1≤j.2.2.2))) else (some false)).bind fun(ax:Bool)=>bif ax then ((oI ab 1 (ab.length:Int)).bind fun(ay: (List aA))=>some (.nx ay)) else (some (.br ab)):Option (Fl ((List aA)) Empty))) N j.2.1).bind fun(az:Fo ((List aA)) Empty)=>az.cs (fun(ab: (List aA))=>(hL N aa j.2.2.2 o.2).bind fun(ae: (List Int)×Int)=>(hL N ab j.2.2.2 o.2).bind fun(af: (List Int)×Int)=>(j9 N ae.1 af.1 p2).bind fun(a0: (List Int))=>(eF N j.2.2.1 (⟨j.2.2.2,(if af.2<ae.2 then af.2 else ae.2),a0⟩:aA)).bind fun(a1: (List aA))=>some (.nx (aa,ab,a1,(if af.2<ae.2 then af.2 else ae.2)))) (fun r=>r.elim)) (fun r=>r.elim)) else (some (.br (j.1,j.2.1,j.2.2.1,j.2.2.2))):Option (Fl ((List aA)×(List aA)×(List aA)×Int) Empty))) N (p0,p1,([]: (List aA)),o.1)).bind fun(a2:Fo ((List aA)×(List aA)×(List aA)×Int) Empty)=>a2.cs (fun(j: (List aA)×(List aA)×(List aA)×Int)=>some j.2.2.1) (fun r=>r.elim))
def iU (N:Nat) (p0:Bool) (p1:Bool):Option (Bool):=
  some (p0&&(!p1))
def fU (N:Nat) (p0: (List aA)) (p1: (List aA)):Option ((List aA)):=
  (jv N p0 p1 (iU N)).bind fun(j: (List aA))=>some j
def gT (N:Nat) (p0: (List aA)):Option (Int):=
  (gZ p0.length (fun(o:Nat) (j:Int)=>((idx p0 (o:Int)).bind fun(aa:aA)=>some (IntKind.wrap .i64 (j+ (IntKind.wrap .i64 (Int.tdiv (aa.Xs.length:Int) 2)))):Option (Int))) 0).bind fun(j:Int)=>some j
def cI (N:Nat) (p0:Int) (p1_0: (List Int)):Option (Int×(List Int)):=
  (itr (fun(j:Int×(List Int))=>((idx j.2 j.1).bind fun(aa:Int)=>bif (aa != j.1) then ((idx j.2 j.1).bind fun(ab:Int)=>(idx j.2 ab).bind fun(o:Int)=>(idx j.2 j.1).bind fun(af:Int)=>(idx (j.2.set (Int.toNat j.1) o) j.1).bind fun(ad:Int)=>some (.nx (ad,(j.2.set (Int.toNat j.1) o)))) else (some (.br (j.1,j.2))):Option (Fl (Int×(List Int)) Empty))) N (p0,p1_0)).bind fun(ae:Fo (Int×(List Int)) Empty)=>ae.cs (fun(j:Int×(List Int))=>some (j.1,j.2)) (fun r=>r.elim)
def gr (N:Nat) (p0: (List aA)):Option ((List (List aA))):=
  (eO N p0).bind fun(ab: (List aD))=>(mk 8 (0:Int) (ab.length:Int)).bind fun(an: (List Int))=>(gZ an.length (fun(ai:Nat) (ag: (List Int))=>((idx ag (ai:Int)).bind fun(bd:Int)=>some (ag.set (Int.toNat (ai:Int)) (ai:Int)):Option ((List Int)))) an).bind fun(ag: (List Int))=>(gZ p0.length (fun(aj:Nat) (aa: (List Int)×Int×Int)=>((idx p0 (aj:Int)).bind fun(ak:aA)=>(bif (decide ((aj:Int)>0)) then ((idx p0 (IntKind.wrap .i64 ((aj:Int) - 1))).bind fun(ar:aA)=>some (ar.Y1==ak.Y0)) else (some false)).bind fun(au:Bool)=>(bif au then ((itr (fun(j: (List Int)×Int×Int)=>(bif ((decide (j.2.1<aa.2.1))&&(decide (j.2.2< (IntKind.wrap .i64 (aa.2.1+ (IntKind.wrap .i64 (Int.tdiv (ak.Xs.length:Int) 2))))))) then (((idx ab j.2.1).bind fun(av:aD)=>(idx ab j.2.2).bind fun(aw:aD)=>bif (decide (av.X0<aw.X1)) then ((idx ab j.2.2).bind fun(ax:aD)=>(idx ab j.2.1).bind fun(ay:aD)=>some (decide (ax.X0<ay.X1))) else (some false)).bind fun(az:Bool)=>(bif az then ((cI N j.2.1 j.1).bind fun(ae:Int×(List Int))=>(cI N j.2.2 ae.2).bind fun(ad:Int×(List Int))=>(idx ad.2 (if ae.1<ad.1 then ad.1 else ae.1)).bind fun(bf:Int)=>some (ad.2.set (Int.toNat (if ae.1<ad.1 then ad.1 else ae.1)) (if ad.1<ae.1 then ad.1 else ae.1))) else (some j.1)).bind fun(a0: (List Int))=>(idx ab j.2.1).bind fun(a1:aD)=>(idx ab j.2.2).bind fun(a2:aD)=>(bif (decide (a1.X1<a2.X1)) then (some ((IntKind.wrap .i64 (j.2.1+1)),j.2.2)) else (some (j.2.1,(IntKind.wrap .i64 (j.2.2+1))))).bind fun(ao:Int×Int)=>some (.nx (a0,ao.1,ao.2))) else (some (.br (j.1,j.2.1,j.2.2))):Option (Fl ((List Int)×Int×Int) Empty))) N (aa.1,aa.2.2,aa.2.1)).bind fun(a3:Fo ((List Int)×Int×Int) Empty)=>a3.cs (fun(j: (List Int)×Int×Int)=>some j.1) (fun r=>r.elim)) else (some aa.1)).bind fun(a4: (List Int))=>some (a4,(IntKind.wrap .i64 (aa.2.1+ (IntKind.wrap .i64 (Int.tdiv (ak.Xs.length:Int) 2)))),aa.2.1):Option ((List Int)×Int×Int))) (ag,0,0)).bind fun(aa: (List Int)×Int×Int)=>(gZ ab.length (fun(aq:Nat) (o: (List Int)×(List (Int×Int))×(List (List aD)))=>((idx ab (aq:Int)).bind fun(a5:aD)=>(cI N (aq:Int) o.1).bind fun(ah:Int×(List Int))=>(bif (!(ma o.2.1 ah.1)) then ((app 24 o.2.2 [([]: (List aD))]).bind fun(a6: (List (List aD)))=>some ((mput o.2.1 ah.1 (o.2.2.length:Int)),a6,(o.2.2.length:Int))) else (some (o.2.1,o.2.2,(mget o.2.1 ah.1 (0:Int))))).bind fun(af: (List (Int×Int))×(List (List aD))×Int)=>(idx af.2.1 af.2.2).bind fun(a7: (List aD))=>(app 32 a7 ([a5]: (List aD))).bind fun(a8: (List aD))=>(idx af.2.1 af.2.2).bind fun(bg: (List aD))=>some (ah.2,af.1,(af.2.1.set (Int.toNat af.2.2) a8)):Option ((List Int)×(List (Int×Int))×(List (List aD))))) (aa.1,([]: (List (Int×Int))),([]: (List (List aD))))).bind fun(o: (List Int)×(List (Int×Int))×(List (List aD)))=>(gZ o.2.2.length (fun(a9:Nat) (al: (List (List aA)))=>((idx o.2.2 (a9:Int)).bind fun(ba: (List aD))=>(dJ N ba).bind fun(bb: (List aA))=>(app 24 al ([bb]: (List (List aA)))).bind fun(bc: (List (List aA)))=>some bc:Option ((List (List aA))))) ([]: (List (List aA)))).bind fun(al: (List (List aA)))=>some al
def fg (N:Nat) (p0_0: (List (List aD))) (p0_2: (List bB)) (p0_4: (List (List aA))) (p0_5: (List aC)):Option (Bool×(List (List aA))×(List aC)):=
  (gZ p0_0.length (fun(aa:Nat) (j: (List (List aA))×(List aC)×Bool)=>((idx p0_0 (aa:Int)).bind fun(ai: (List aD))=>(gZ p0_2.length (fun(aj:Nat) (o: (List aD))=>((idx p0_2 (aj:Int)).bind fun(af:bB)=>(fT N af (aa:Int)).bind fun(ak:Bool)=>(bif ak then ((cP N af).bind fun(al:aD)=>(app 32 o ([al]: (List aD))).bind fun(an: (List aD))=>some an) else (some o)).bind fun(ao: (List aD))=>some ao:Option ((List aD)))) ([]: (List aD))).bind fun(o: (List aD))=>(dJ N ai).bind fun(aq: (List aA))=>(dJ N o).bind fun(ar: (List aA))=>(fU N aq ar).bind fun(ab: (List aA))=>(bif j.2.2 then ((gT N ab).bind fun(au:Int)=>some ((decide (au≤2000)),ab)) else (some (false,ab))).bind fun(ad:Bool×(List aA))=>(app 24 j.1 ([ad.2]: (List (List aA)))).bind fun(av: (List (List aA)))=>(gr N ad.2).bind fun(ag: (List (List aA)))=>(gZ ag.length (fun(aw:Nat) (ae: (List aC))=>((idx ag (aw:Int)).bind fun(ah: (List aA))=>(eO N ah).bind fun(ax: (List aD))=>(app 56 ae ([(⟨(aa:Int),ah,ax⟩:aC)]: (List aC))).bind fun(ay: (List aC))=>some ay:Option ((List aC)))) j.2.1).bind fun(ae: (List aC))=>some (av,ae,ad.1):Option ((List (List aA))×(List aC)×Bool))) (p0_4,p0_5,true)).bind fun(j: (List (List aA))×(List aC)×Bool)=>(bif j.2.2 then (some (decide ((j.2.1.length:Int)≤2000))) else (some false)).bind fun(az:Bool)=>some (az,j.1,j.2.1)
def kP (N:Nat) (p0:aD) (p1:aD):Option (Bool):=
  some ((((decide (p0.X0<p1.X1))&&(decide (p1.X0<p0.X1)))&&((p0.Y1==p1.Y0)||(p1.Y1==p0.Y0)))||(((decide (p0.Y0<p1.Y1))&&(decide (p1.Y0<p0.Y1)))&&((p0.X1==p1.X0)||(p1.X1==p0.X0))))
def fp (N:Nat) (p0:aD) (p1:bB):Option (Bool):=
  (cP N p1).bind fun(j:aD)=>(kP N p0 j).bind fun(o:Bool)=>some o
def dA (N:Nat) (p0: (List aD)) (p1:aD→Option Bool):Option (Bool):=
  (gD N p0 p1).bind fun(j:Int)=>some (decide (j≥0))
def fh (N:Nat) (p0_2: (List bB)) (p0_5: (List aC)) (p0_6: (List (List Int))):Option ((List (List Int))):=
  (gZ p0_2.length (fun(ae:Nat) (o: (List (List Int)))=>((idx p0_2 (ae:Int)).bind fun(aa:bB)=>(gZ p0_5.length (fun(ab:Nat) (j: (List Int))=>((idx p0_5 (ab:Int)).bind fun(ad:aC)=>(bif aa.bP then ((fT N aa ad.bH).bind fun(af:Bool)=>bif af then ((dA N ad.fL (fun y0=>fp N y0 aa)).bind fun(ag:Bool)=>some ag) else (some false)) else (some false)).bind fun(ah:Bool)=>(bif ah then ((app 8 j ([(ab:Int)]: (List Int))).bind fun(ai: (List Int))=>some ai) else (some j)).bind fun(aj: (List Int))=>some aj:Option ((List Int)))) ([]: (List Int))).bind fun(j: (List Int))=>(app 24 o ([j]: (List (List Int)))).bind fun(ak: (List (List Int)))=>some ak:Option ((List (List Int))))) p0_6).bind fun(o: (List (List Int)))=>some o
def fV (N:Nat) (p0:Int):Option (((List Int))):=
  (mk 8 (0:Int) p0).bind fun(aa: (List Int))=>(gZ aa.length (fun(o:Nat) (j: (List Int))=>((idx j (o:Int)).bind fun(ab:Int)=>some (j.set (Int.toNat (o:Int)) (o:Int)):Option ((List Int)))) aa).bind fun(j: (List Int))=>some j
def cX (N:Nat) (p0_0: (List Int)) (p1:Int):Option (Int×(List Int)):=
  (itr (fun(j: (List Int)×Int)=>((idx j.1 j.2).bind fun(aa:Int)=>bif (aa != j.2) then ((idx j.1 j.2).bind fun(ab:Int)=>(idx j.1 ab).bind fun(o:Int)=>(idx j.1 j.2).bind fun(af:Int)=>(idx (j.1.set (Int.toNat j.2) o) j.2).bind fun(ad:Int)=>some (.nx ((j.1.set (Int.toNat j.2) o),ad))) else (some (.br (j.1,j.2))):Option (Fl ((List Int)×Int) Empty))) N (p0_0,p1)).bind fun(ae:Fo ((List Int)×Int) Empty)=>ae.cs (fun(j: (List Int)×Int)=>some (j.2,j.1)) (fun r=>r.elim)
def dH (N:Nat) (p0_0: (List Int)) (p1:Int) (p2:Int):Option ((List Int)):=
  (cX N p0_0 p1).bind fun(o:Int×(List Int))=>(cX N o.2 p2).bind fun(j:Int×(List Int))=>(idx j.2 (if o.1<j.1 then j.1 else o.1)).bind fun(aa:Int)=>some (j.2.set (Int.toNat (if o.1<j.1 then j.1 else o.1)) (if j.1<o.1 then j.1 else o.1))
def fj (N:Nat) (p0_0: (List Int)):Option ((List (List Int))×(List Int)):=
  (gZ p0_0.length (fun(aa:Nat) (j: (List Int)×(List (List Int))×(List (Int×Int)))=>((cX N j.1 (aa:Int)).bind fun(eH:Int×(List Int))=>(bif (eH.1==(aa:Int)) then ((app 24 j.2.1 [([]: (List Int))]).bind fun(ab: (List (List Int)))=>some (ab,(mput j.2.2 (aa:Int) (j.2.1.length:Int)))) else (some (j.2.1,j.2.2))).bind fun(o: (List (List Int))×(List (Int×Int)))=>(idx o.1 (mget o.2 eH.1 (0:Int))).bind fun(ad: (List Int))=>(app 8 ad ([(aa:Int)]: (List Int))).bind fun(ae: (List Int))=>(idx o.1 (mget o.2 eH.1 (0:Int))).bind fun(af: (List Int))=>some (eH.2,(o.1.set (Int.toNat (mget o.2 eH.1 (0:Int))) ae),o.2):Option ((List Int)×(List (List Int))×(List (Int×Int))))) (p0_0,([]: (List (List Int))),([]: (List (Int×Int))))).bind fun(j: (List Int)×(List (List Int))×(List (Int×Int)))=>some (j.2.1,j.1)
def gm (N:Nat) (p0:aD) (p1:bX):Option (Bool):=
  (bif (decide (p1.X≥p0.X0)) then (bif (decide (p1.X<p0.X1)) then (bif (decide (p1.Y≥p0.Y0)) then (some (decide (p1.Y<p0.Y1))) else (some false)) else (some false)) else (some false)).bind fun(j:Bool)=>some j
def fx (N:Nat) (p0: (List aD)) (p1:bX):Option (Bool):=
  (dA N p0 (fun y0=>gm N y0 p1)).bind fun(j:Bool)=>some j
def fk (N:Nat) (p0_2: (List bB)) (p0_5: (List aC)) (p1:cE):Option (fZ×Bool):=
  (mx p0_2.length (fun(o:Nat) (ad:Unit)=>((idx p0_2 (o:Int)).bind fun(j:bB)=>(bif j.bP then ((fT N j p1.bH).bind fun(ae:Bool)=>bif ae then ((cP N j).bind fun(af:aD)=>(fx N ([af]: (List aD)) p1.At).bind fun(ag:Bool)=>some ag) else (some false)) else (some false)).bind fun(ah:Bool)=>bif ah then (some (.rt ((⟨true,(o:Int)⟩:fZ),true))) else (some (.nx ())):Option (Fl (Unit) (fZ×Bool)))) ()).bind fun(ai:Fo (Unit) (fZ×Bool))=>ai.cs (fun(ad:Unit)=>(mx p0_5.length (fun(aa:Nat) (aj:Unit)=>((idx p0_5 (aa:Int)).bind fun(ab:aC)=>(bif (ab.bH==p1.bH) then ((fx N ab.fL p1.At).bind fun(ak:Bool)=>some ak) else (some false)).bind fun(al:Bool)=>bif al then (some (.rt ((⟨false,(aa:Int)⟩:fZ),true))) else (some (.nx ())):Option (Fl (Unit) (fZ×Bool)))) ()).bind fun(an:Fo (Unit) (fZ×Bool))=>an.cs (fun(aj:Unit)=>some ((⟨false,0⟩:fZ),false)) (fun r=>some r)) (fun r=>some r)
def dK (N:Nat) (p0_8: (List Int)) (p0_9: (List Int)) (p1:fZ):Option (Int):=
  bif p1.bB then ((idx p0_9 p1.Number).bind fun(j:Int)=>some j) else ((idx p0_8 p1.Number).bind fun(o:Int)=>some o)
def cN (N:Nat) (p0_2: (List bB)) (p0_3: (List cE)) (p0_5: (List aC)) (p0_6: (List (List Int))) (p0_8: (List Int)) (p0_9: (List Int)) (p0_10: (List Int)) (p0_11: (List fZ)):Option ((List aX)×(List Int)×(List Int)×(List Int)×(List fZ)):=
  (fV N (IntKind.wrap .i64 ((p0_5.length:Int)+ (p0_2.length:Int)))).bind fun(ar: ((List Int)))=>(gZ p0_6.length (fun(ai:Nat) (af: (List Int))=>((idx p0_6 (ai:Int)).bind fun(aj: (List Int))=>(gZ aj.length (fun(au:Nat) (ag: (List Int))=>((idx aj (au:Int)).bind fun(av:Int)=>(dH N ag av (IntKind.wrap .i64 ((p0_5.length:Int)+ (ai:Int)))).bind fun(aw: (List Int))=>some aw:Option ((List Int)))) af).bind fun(ag: (List Int))=>some ag:Option ((List Int)))) ar).bind fun(af: (List Int))=>(mk 8 (0:Int) (p0_5.length:Int)).bind fun(ax: (List Int))=>(mk 8 (0:Int) (p0_2.length:Int)).bind fun(ay: (List Int))=>(fj N af).bind fun(ak: (List (List Int))×(List Int))=>(gZ ak.1.length (fun(az:Nat) (aa: (List aX)×(List Int)×(List Int))=>((idx ak.1 (az:Int)).bind fun(al: (List Int))=>(gZ al.length (fun(a0:Nat) (j: (List Int)×(List Int)×(List Int)×(List Int))=>((idx al (a0:Int)).bind fun(ab:Int)=>(bif (decide (ab< (p0_5.length:Int))) then ((idx j.1 ab).bind fun(bd:Int)=>(app 8 j.2.2.1 ([ab]: (List Int))).bind fun(a1: (List Int))=>some ((j.1.set (Int.toNat ab) (aa.1.length:Int)),j.2.1,a1,j.2.2.2)) else ((idx p0_2 (IntKind.wrap .i64 (ab - (p0_5.length:Int)))).bind fun(a2:bB)=>(bif a2.bP then ((idx j.2.1 (IntKind.wrap .i64 (ab - (p0_5.length:Int)))).bind fun(bf:Int)=>(app 8 j.2.2.2 ([(IntKind.wrap .i64 (ab - (p0_5.length:Int)))]: (List Int))).bind fun(a3: (List Int))=>some ((j.2.1.set (Int.toNat (IntKind.wrap .i64 (ab - (p0_5.length:Int)))) (aa.1.length:Int)),a3)) else ((idx j.2.1 (IntKind.wrap .i64 (ab - (p0_5.length:Int)))).bind fun(bg:Int)=>some ((j.2.1.set (Int.toNat (IntKind.wrap .i64 (ab - (p0_5.length:Int)))) (-1)),j.2.2.2))).bind fun(an: (List Int)×(List Int))=>some (j.1,an.1,j.2.2.1,an.2))).bind fun(ad: (List Int)×(List Int)×(List Int)×(List Int))=>some (ad.1,ad.2.1,ad.2.2.1,ad.2.2.2):Option ((List Int)×(List Int)×(List Int)×(List Int)))) (aa.2.1,aa.2.2,([]: (List Int)),([]: (List Int)))).bind fun(j: (List Int)×(List Int)×(List Int)×(List Int))=>(bif (decide ((IntKind.wrap .i64 ((j.2.2.1.length:Int)+ (j.2.2.2.length:Int)))>0)) then ((app 72 aa.1 [(⟨j.2.2.1,j.2.2.2,([]: (List dC))⟩:aX)]).bind fun(a4: (List aX))=>some a4) else (some aa.1)).bind fun(a5: (List aX))=>some (a5,j.1,j.2.1):Option ((List aX)×(List Int)×(List Int)))) (([]: (List aX)),ax,ay)).bind fun(aa: (List aX)×(List Int)×(List Int))=>(gZ p0_3.length (fun(a6:Nat) (o: (List aX)×(List Int)×(List Int)×(List Int)×(List fZ))=>((idx p0_3 (a6:Int)).bind fun(ao:cE)=>(fk N p0_2 p0_5 ao).bind fun(ah:fZ×Bool)=>(bif ah.2 then ((dK N o.2.1 o.2.2.1 ah.1).bind fun(ae:Int)=>(idx o.1 ae).bind fun(a7:aX)=>(gl N ao).bind fun(a8:dC)=>(app 32 a7.cB ([a8]: (List dC))).bind fun(a9: (List dC))=>(idx o.1 ae).bind fun(ba:aX)=>some ((o.1.set (Int.toNat ae) {ba with cB:=a9}),ae)) else (some (o.1,(-1)))).bind fun(aq: (List aX)×Int)=>(app 8 o.2.2.2.1 ([aq.2]: (List Int))).bind fun(bb: (List Int))=>(app 16 o.2.2.2.2 ([ah.1]: (List fZ))).bind fun(bc: (List fZ))=>some (aq.1,o.2.1,o.2.2.1,bb,bc):Option ((List aX)×(List Int)×(List Int)×(List Int)×(List fZ)))) (aa.1,aa.2.1,aa.2.2,p0_10,p0_11)).bind fun(o: (List aX)×(List Int)×(List Int)×(List Int)×(List fZ))=>some (o.1,o.2.1,o.2.2.1,o.2.2.2.1,o.2.2.2.2)
def dL (N:Nat) (p0:ju):Option (Option ((List (List aD))×(List aD)×(List bB)×(List cE)×(List (List aA))×(List aC)×(List (List Int))×(List aX)×(List Int)×(List Int)×(List Int)×(List fZ))×Int):=
  bif ((p0.aJ.length:Int)==0) then (some (none,9)) else (bif (decide ((p0.aJ.length:Int)>16)) then (some (none,2)) else ((mx p0.aJ.length (fun(an:Nat) (aa:Int)=>((idx p0.aJ (an:Int)).bind fun(ae: (List aD))=>(eK N ae).bind fun(af:Int)=>bif (af != 0) then (some (.rt (none,af))) else (some (.nx (IntKind.wrap .i64 (aa+ (ae.length:Int))))):Option (Fl (Int) (Option ((List (List aD))×(List aD)×(List bB)×(List cE)×(List (List aA))×(List aC)×(List (List Int))×(List aX)×(List Int)×(List Int)×(List Int)×(List fZ))×Int)))) (p0.bZ.length:Int)).bind fun(ao:Fo (Int) (Option ((List (List aD))×(List aD)×(List bB)×(List cE)×(List (List aA))×(List aC)×(List (List Int))×(List aX)×(List Int)×(List Int)×(List Int)×(List fZ))×Int))=>ao.cs (fun(aa:Int)=>(eK N p0.bZ).bind fun(ag:Int)=>bif (ag != 0) then (some (none,ag)) else (bif (decide (aa>2000)) then (some (none,2)) else ((fC N p0).bind fun(ah:Int)=>bif (ah != 0) then (some (none,ah)) else ((fE N p0).bind fun(ai:Int)=>bif (ai != 0) then (some (none,ai)) else ((mx p0.aK.length (fun(aj:Nat) (aq:Unit)=>((idx p0.aK (aj:Int)).bind fun(ab:bB)=>(oI p0.aK 0 (aj:Int)).bind fun(ak: (List bB))=>(mx ak.length (fun(ar:Nat) (au:Unit)=>((idx ak (ar:Int)).bind fun(ad:bB)=>(bif ((decide (ab.bN≤ad.To))&&(decide (ad.bN≤ab.To))) then ((cP N ab).bind fun(av:aD)=>(cP N ad).bind fun(aw:aD)=>(k7 N av aw).bind fun(ax:Int)=>some (ax==0)) else (some false)).bind fun(ay:Bool)=>bif ay then (some (.rt (none,12))) else (some (.nx ())):Option (Fl (Unit) (Option ((List (List aD))×(List aD)×(List bB)×(List cE)×(List (List aA))×(List aC)×(List (List Int))×(List aX)×(List Int)×(List Int)×(List Int)×(List fZ))×Int)))) ()).bind fun(az:Fo (Unit) (Option ((List (List aD))×(List aD)×(List bB)×(List cE)×(List (List aA))×(List aC)×(List (List Int))×(List aX)×(List Int)×(List Int)×(List Int)×(List fZ))×Int))=>az.cs (fun(au:Unit)=>some (.nx ())) (fun r=>some (.rt r)):Option (Fl (Unit) (Option ((List (List aD))×(List aD)×(List bB)×(List cE)×(List (List aA))×(List aC)×(List (List Int))×(List aX)×(List Int)×(List Int)×(List Int)×(List fZ))×Int)))) ()).bind fun(a0:Fo (Unit) (Option ((List (List aD))×(List aD)×(List bB)×(List cE)×(List (List aA))×(List aC)×(List (List Int))×(List aX)×(List Int)×(List Int)×(List Int)×(List fZ))×Int))=>a0.cs (fun(aq:Unit)=>(fg N p0.aJ p0.aK ([]: (List (List aA))) ([]: (List aC))).bind fun(j:Bool×(List (List aA))×(List aC))=>bif (!j.1) then (some (none,2)) else ((fh N p0.aK j.2.2 ([]: (List (List Int)))).bind fun(al: (List (List Int)))=>(cN N p0.aK p0.aR j.2.2 al ([]: (List Int)) ([]: (List Int)) ([]: (List Int)) ([]: (List fZ))).bind fun(o: (List aX)×(List Int)×(List Int)×(List Int)×(List fZ))=>some (some (p0.aJ,p0.bZ,p0.aK,p0.aR,j.2.1,j.2.2,al,o.1,o.2.1,o.2.2.1,o.2.2.2.1,o.2.2.2.2),0))) (fun r=>some r)))))) (fun r=>some r)))
def fI (N:Nat) (p0:ju):Option ((List aX)×Int):=
  (dL N p0).bind fun(j:Option ((List (List aD))×(List aD)×(List bB)×(List cE)×(List (List aA))×(List aC)×(List (List Int))×(List aX)×(List Int)×(List Int)×(List Int)×(List fZ))×Int)=>AU j.1 (bif (j.2 != 0) then (some (([]: (List aX)),j.2)) else (none)) (fun(o: ((List (List aD))×(List aD)×(List bB)×(List cE)×(List (List aA))×(List aC)×(List (List Int))×(List aX)×(List Int)×(List Int)×(List Int)×(List fZ)))=>bif (j.2 != 0) then (some (([]: (List aX)),j.2)) else (some (o.2.2.2.2.2.2.2.1,0)))
def cU (N:Nat):Option (Bool):=
  (fH N (⟨⟨0,0⟩,2,0,0,false⟩:bB)).bind fun(j:aD×Int)=>(bif (j.2==0) then (some (decide (j.1= (⟨(-1),(-1),1,1⟩:aD)))) else (some false)).bind fun(o:Bool)=>some o
def gu (N:Nat) (p0: (List aA)):Option (bX):=
  (idx p0 0).bind fun(j:aA)=>(idx j.Xs 0).bind fun(o:Int)=>(idx p0 0).bind fun(aa:aA)=>some (⟨o,aa.Y0⟩:bX)
def iV (N:Nat) (p0: (List aD)):Option (Int):=
  (gZ p0.length (fun(aa:Nat) (o:Int)=>((idx p0 (aa:Int)).bind fun(j:aD)=>some (IntKind.wrap .i64 (o+ (IntKind.wrap .i64 ((IntKind.wrap .i64 (j.X1 - j.X0))* (IntKind.wrap .i64 (j.Y1 - j.Y0)))))):Option (Int))) 0).bind fun(o:Int)=>some o
def iq (N:Nat) (p0:ju):Option ((List Piece)×Int):=
  (dL N p0).bind fun(j:Option ((List (List aD))×(List aD)×(List bB)×(List cE)×(List (List aA))×(List aC)×(List (List Int))×(List aX)×(List Int)×(List Int)×(List Int)×(List fZ))×Int)=>AU j.1 (bif (j.2 != 0) then (some (([]: (List Piece)),j.2)) else (none)) (fun(ab: ((List (List aD))×(List aD)×(List bB)×(List cE)×(List (List aA))×(List aC)×(List (List Int))×(List aX)×(List Int)×(List Int)×(List Int)×(List fZ)))=>bif (j.2 != 0) then (some (([]: (List Piece)),j.2)) else ((gZ ab.2.2.2.2.2.1.length (fun(ad:Nat) (o: (List Piece))=>((idx ab.2.2.2.2.2.1 (ad:Int)).bind fun(aa:aC)=>(gu N aa.Set).bind fun(ae:bX)=>(iV N aa.fL).bind fun(af:Int)=>(app 32 o ([(⟨aa.bH,ae,af⟩:Piece)]: (List Piece))).bind fun(ag: (List Piece))=>some ag:Option ((List Piece)))) ([]: (List Piece))).bind fun(o: (List Piece))=>some (o,0)))
def jw (N:Nat) (p0:ju):Option ((List (List dC))×Int):=
  (dL N p0).bind fun(j:Option ((List (List aD))×(List aD)×(List bB)×(List cE)×(List (List aA))×(List aC)×(List (List Int))×(List aX)×(List Int)×(List Int)×(List Int)×(List fZ))×Int)=>AU j.1 (bif (j.2 != 0) then (some (([]: (List (List dC))),j.2)) else (none)) (fun(o: ((List (List aD))×(List aD)×(List bB)×(List cE)×(List (List aA))×(List aC)×(List (List Int))×(List aX)×(List Int)×(List Int)×(List Int)×(List fZ)))=>bif (j.2 != 0) then (some (([]: (List (List dC))),j.2)) else ((gZ o.2.2.2.2.2.2.2.1.length (fun(af:Nat) (aa: (List (List dC)))=>((idx o.2.2.2.2.2.2.2.1 (af:Int)).bind fun(ad:aX)=>(bif (decide ((ad.cB.length:Int)>0)) then ((app 24 aa ([ad.cB]: (List (List dC)))).bind fun(ag: (List (List dC)))=>some ag) else (some aa)).bind fun(ah: (List (List dC)))=>some ah:Option ((List (List dC))))) ([]: (List (List dC)))).bind fun(aa: (List (List dC)))=>(gZ o.2.2.2.1.length (fun(ae:Nat) (ab: (List (List dC)))=>((idx o.2.2.2.1 (ae:Int)).bind fun(ai:cE)=>(idx o.2.2.2.2.2.2.2.2.2.2.1 (ae:Int)).bind fun(aj:Int)=>(bif (decide (aj<0)) then ((gl N ai).bind fun(ak:dC)=>(app 24 ab ([([ak]: (List dC))]: (List (List dC)))).bind fun(al: (List (List dC)))=>some al) else (some ab)).bind fun(an: (List (List dC)))=>some an:Option ((List (List dC))))) aa).bind fun(ab: (List (List dC)))=>some (ab,0)))
def jh (N:Nat) (p0: (List Int)) (p1:Int):Option (Int):=
  (mx p0.length (fun(j:Nat) (o:Unit)=>((idx p0 (j:Int)).bind fun(aa:Int)=>bif (p1==aa) then (some (.rt (j:Int))) else (some (.nx ())):Option (Fl (Unit) Int))) ()).bind fun(ab:Fo (Unit) Int)=>ab.cs (fun(o:Unit)=>some (-1)) (fun r=>some r)
def fM (N:Nat) (p0: (List Int)) (p1:Int):Option (Bool):=
  (jh N p0 p1).bind fun(j:Int)=>some (decide (j≥0))
def cM (N:Nat) (p0:ju):Option (Bool):=
  (fI N p0).bind fun(aa: (List aX)×Int)=>bif (aa.2 != 0) then ((bif ((aa.1.length:Int)==0) then ((cU N).bind fun(ah:Bool)=>some ah) else (some false)).bind fun(ai:Bool)=>some ai) else ((iq N p0).bind fun(ag: (List Piece)×Int)=>(jw N p0).bind fun(af: (List (List dC))×Int)=>bif ((ag.2 != 0)||(af.2 != 0)) then (some false) else ((itr (fun(j:Int×Int×Int)=>(bif (decide (j.2.2< (aa.1.length:Int))) then ((idx aa.1 j.2.2).bind fun(aj:aX)=>(idx aa.1 j.2.2).bind fun(ak:aX)=>(itr (fun(ad:Int)=>(bif (decide (ad<j.2.2)) then ((itr (fun(ae:Int)=>((idx aa.1 j.2.2).bind fun(al:aX)=>bif (decide (ae< (al.bY.length:Int))) then ((idx aa.1 ad).bind fun(an:aX)=>(idx aa.1 j.2.2).bind fun(ao:aX)=>(idx ao.bY ae).bind fun(aq:Int)=>(fM N an.bY aq).bind fun(ar:Bool)=>bif ar then (some (.rt false)) else (some (.nx (IntKind.wrap .i64 (ae+1))))) else (some (.br ae)):Option (Fl (Int) Bool))) N 0).bind fun(au:Fo (Int) Bool)=>au.cs (fun(ae:Int)=>some (.nx (IntKind.wrap .i64 (ad+1)))) (fun r=>some (.rt r))) else (some (.br ad)):Option (Fl (Int) Bool))) N 0).bind fun(av:Fo (Int) Bool)=>av.cs (fun(ad:Int)=>some (.nx ((IntKind.wrap .i64 (j.1+ (aj.bY.length:Int))),(IntKind.wrap .i64 (j.2.1+ (ak.aK.length:Int))),(IntKind.wrap .i64 (j.2.2+1))))) (fun r=>some (.rt r))) else (some (.br (j.1,j.2.1,j.2.2))):Option (Fl (Int×Int×Int) Bool))) N (0,0,0)).bind fun(aw:Fo (Int×Int×Int) Bool)=>aw.cs (fun(j:Int×Int×Int)=>(itr (fun(o:Int×Int)=>(bif (decide (o.2< (p0.aK.length:Int))) then ((idx p0.aK o.2).bind fun(ax:bB)=>(bif ax.bP then (some (IntKind.wrap .i64 (o.1+1))) else (some o.1)).bind fun(ay:Int)=>some (.nx (ay,(IntKind.wrap .i64 (o.2+1))))) else (some (.br (o.1,o.2))):Option (Fl (Int×Int) Empty))) N (0,0)).bind fun(az:Fo (Int×Int) Empty)=>az.cs (fun(o:Int×Int)=>(itr (fun(ab:Int×Int)=>(bif (decide (ab.2< (af.1.length:Int))) then ((idx af.1 ab.2).bind fun(a0: (List dC))=>some (.nx ((IntKind.wrap .i64 (ab.1+ (a0.length:Int))),(IntKind.wrap .i64 (ab.2+1))))) else (some (.br (ab.1,ab.2))):Option (Fl (Int×Int) Empty))) N (0,0)).bind fun(a1:Fo (Int×Int) Empty)=>a1.cs (fun(ab:Int×Int)=>(bif ((j.1==(ag.1.length:Int))&&(j.2.1==o.1)) then (bif (ab.1==(p0.aR.length:Int)) then ((cU N).bind fun(a2:Bool)=>some a2) else (some false)) else (some false)).bind fun(a3:Bool)=>some a3) (fun r=>r.elim)) (fun r=>r.elim)) (fun r=>some r)))
end
end Go.Gk
namespace Go.Gk
open Go
def qR {R:Type} (m:Nat) (e:Nat→Option R):Option R:=(List.range m).findSome? e
theorem j6 {R:Type} {m:Nat} {e:Nat→Option R}:qR m e=none↔∀k,k<m→e k=none:=by
  simp [qR]
theorem lj {R:Type} {m:Nat} {e:Nat→Option R} {r:R}:qR m e=some r↔∃k,k<m∧e k=some r∧∀j,j<k→e j=none:=by
  constructor
  · intro h
    obtain⟨l1,a,l2,hl,ha,hn⟩:=List.findSome?_eq_some_iff.1 h
    have hlen:l1.length<m:=by have:=congrArg List.length hl;simp at this;omega
    have hget: ∀i,i<l1.length→l1[i]? =some i:=fun i hi=>by
      have:=congrArg (·[i]?) hl
      simp only [List.getElem?_append_left hi,List.getElem?_range (show i<m by omega)] at this
      exact this.symm
    have hat:a=l1.length:=by
      have:=congrArg (·[l1.length]?) hl
      simp [List.getElem?_range hlen] at this
      exact this.symm
    refine⟨a,by omega,ha,fun j hj=>hn j ?_⟩
    exact List.mem_of_getElem? (hget j (by omega))
  · rintro⟨k,hk,he,hn⟩
    refine List.findSome?_eq_some_iff.2 ⟨List.range k,k,(List.range (m - k - 1)).map (· + (k+1)),?_,he,fun x hx=>hn x (List.mem_range.1 hx)⟩
    refine List.ext_getElem? fun i=>?_
    by_cases h1:i<k
    · rw [List.getElem?_append_left (by simpa using h1),List.getElem?_range (by omega),List.getElem?_range h1]
    · rw [List.getElem?_append_right (by simpa using h1),List.length_range]
      by_cases h2:i=k
      · subst h2;simp [List.getElem?_range hk]
      · obtain⟨d,rfl⟩: ∃d,i=k+1+d:=⟨i - (k+1),by omega⟩
        rw [show k+1+d - k=d+1 by omega,List.getElem?_cons_succ,List.getElem?_map]
        by_cases h3:k+1+d<m
        · rw [List.getElem?_range h3,List.getElem?_range (by omega)];simp;omega
        · rw [List.getElem?_eq_none (by simp;omega),List.getElem?_eq_none (by simp;omega)];rfl
section
variable {S R:Type}
def rtnx (o:Option R) (s:S):Fl S R:=match o with | some r=> .rt r | none=> .nx s
def wv (o:Option R) (s:S):Fo S R:=match o with | some r=> .rt r | none=> .go s
theorem vh {body:Nat→S→Option (Fl S R)} (F:Nat→S) (e:Nat→Option R) (m:Nat): ∀(n k:Nat),k+n=m→
    (∀j,k≤j→j<m→(∀i,k≤i→i<j→e i=none)→body j (F j)=some (rtnx (e j) (F (j+1))))→
    ∃o,rngA body n k (F k)=some o∧((∀j,k≤j→j<m→e j=none)∧o = .go (F m)∨∃j r,k≤j∧j<m∧e j=some r∧(∀i,k≤i→i<j→e i=none)∧o = .rt r)
  | 0,k,hk,_=>⟨_,rfl, .inl ⟨fun j h1 h2=>by omega,by rw [show k=m by omega]⟩⟩
  | n+1,k,hk,h=>by
    have hb:=h k (Nat.le_refl _) (by omega) (fun i h1 h2=>by omega)
    unfold rngA
    rw [hb]
    cases hx:e k with
    | some r=>exact⟨_,rfl, .inr ⟨k,r,Nat.le_refl _,by omega,hx,fun i h1 h2=>by omega,rfl⟩⟩
    | none=>
      obtain⟨o,ho,hc⟩:=vh F e m n (k+1) (by omega) (fun j h1 h2 h3=>h j (by omega) h2 fun i h4 h5=>by
        by_cases h6:i=k
        · subst h6;exact hx
        · exact h3 i (by omega) h5)
      refine⟨o,ho,?_⟩
      rcases hc with ⟨h1,h2⟩ | ⟨j,r,h1,h2,h3,h4,h5⟩
      · refine .inl ⟨fun j h3 h4=>?_,h2⟩
        by_cases h6:j=k
        · subst h6;exact hx
        · exact h1 j (by omega) h4
      · refine .inr ⟨j,r,by omega,h2,h3,fun i h6 h7=>?_,h5⟩
        by_cases h8:i=k
        · subst h8;exact hx
        · exact h4 i (by omega) h7
theorem Ax {body:Nat→S→Option (Fl S R)} {m:Nat} {s:S} (F:Nat→S) (e:Nat→Option R) (hm:m≤4611686018427387904) (hs:F 0=s)
    (h: ∀k,k<m→(∀i,i<k→e i=none)→body k (F k)=some (rtnx (e k) (F (k+1)))):mx m body s=some (wv (qR m e) (F m)):=by
  subst hs
  unfold mx
  rw [if_pos hm]
  obtain⟨o,ho,hc⟩:=vh F e m m 0 (by omega) (fun j _ h2 h3=>h j h2 fun i hi=>h3 i (Nat.zero_le _) hi)
  rw [ho]
  rcases hc with ⟨h1,h2⟩ | ⟨j,r,_,h2,h3,h4,h5⟩
  · rw [j6.2 fun k hk=>h1 k (Nat.zero_le _) hk,h2];rfl
  · rw [lj.2 ⟨j,h2,h3,fun i hi=>h4 i (Nat.zero_le _) hi⟩,h5];rfl
theorem lk {body:Nat→Unit→Option (Fl Unit R)} {m:Nat} (e:Nat→Option R) (hm:m≤4611686018427387904)
    (h: ∀k,k<m→(∀i,i<k→e i=none)→body k ()=some (rtnx (e k) ())):mx m body ()=some (wv (qR m e) ()):=
  Ax (fun _=>()) e hm rfl h
theorem itr_inv {body:S→Option (Fl S R)} (Inv:S→Prop) (μ:S→Nat) (Go:S→Prop) (Rt:R→Prop)
    (h: ∀s,Inv s→∃fl,body s=some fl∧match fl with | .nx s'=>Inv s'∧μ s'<μ s | .br s'=>Go s' | .rt r=>Rt r):
    ∀(N:Nat) (s:S),Inv s→μ s<N→∃o,itr body N s=some o∧match o with | .go s'=>Go s' | .rt r=>Rt r
  | 0,s,_,hn=>by omega
  | N+1,s,hi,hn=>by
    obtain⟨fl,hb,hf⟩:=h s hi
    unfold itr
    rw [hb]
    cases fl with
    | nx s'=>exact itr_inv Inv μ Go Rt h N s' hf.1 (by have:=hf.2;omega)
    | br s'=>exact⟨_,rfl,hf⟩
    | rt r=>exact⟨_,rfl,hf⟩
theorem vj {body:Nat→S→Option (Fl S R)} (Inv:Nat→S→Prop) (Go:S→Prop) (Rt:R→Prop) (m:Nat)
    (h: ∀k s,k<m→Inv k s→∃fl,body k s=some fl∧match fl with | .nx s'=>Inv (k+1) s' | .br s'=>Go s' | .rt r=>Rt r) (hg: ∀s,Inv m s→Go s):
    ∀(n k:Nat) (s:S),k+n=m→Inv k s→∃o,rngA body n k s=some o∧match o with | .go s'=>Go s' | .rt r=>Rt r
  | 0,k,s,hk,hi=>⟨_,rfl,hg s (by rw [←hk];exact hi)⟩
  | n+1,k,s,hk,hi=>by
    obtain⟨fl,hb,hf⟩:=h k s (by omega) hi
    unfold rngA
    rw [hb]
    cases fl with
    | nx s'=>exact vj Inv Go Rt m h hg n (k+1) s' (by omega) hf
    | br s'=>exact⟨_,rfl,hf⟩
    | rt r=>exact⟨_,rfl,hf⟩
theorem Ay {body:Nat→S→Option (Fl S R)} {m:Nat} {s:S} (Inv:Nat→S→Prop) (Go:S→Prop) (Rt:R→Prop) (hm:m≤4611686018427387904) (h0:Inv 0 s)
    (h: ∀k s,k<m→Inv k s→∃fl,body k s=some fl∧match fl with | .nx s'=>Inv (k+1) s' | .br s'=>Go s' | .rt r=>Rt r) (hg: ∀s,Inv m s→Go s):
    ∃o,mx m body s=some o∧match o with | .go s'=>Go s' | .rt r=>Rt r:=by
  unfold mx
  rw [if_pos hm]
  exact vj Inv Go Rt m h hg m 0 s (by omega) h0
theorem vk {body:Nat→S→Option S} (Inv:Nat→S→Prop) (m:Nat) (h: ∀k s,k<m→Inv k s→∃s',body k s=some s'∧Inv (k+1) s'):
    ∀(n k:Nat) (s:S),k+n=m→Inv k s→∃s',yr body n k s=some s'∧Inv m s'
  | 0,k,s,hk,hi=>⟨_,rfl,by rw [←hk];exact hi⟩
  | n+1,k,s,hk,hi=>by
    obtain⟨s',hb,hf⟩:=h k s (by omega) hi
    unfold yr
    rw [hb]
    exact vk Inv m h n (k+1) s' (by omega) hf
theorem rh {body:Nat→S→Option S} {m:Nat} {s:S} (Inv:Nat→S→Prop) (hm:m≤4611686018427387904) (h0:Inv 0 s)
    (h: ∀k s,k<m→Inv k s→∃s',body k s=some s'∧Inv (k+1) s'): ∃s',gZ m body s=some s'∧Inv m s':=by
  unfold gZ
  rw [if_pos hm]
  exact vk Inv m h m 0 s (by omega) h0
end
section
variable {α β:Type}
theorem aB (x:α) (f:α→Option β): (some x).bind f=f x:=rfl
theorem fN (l:List α) (k:Nat) (h:k<l.length):idx l ((k:Nat):Int)=some l[k]:=by
  unfold idx;rw [if_pos (by omega),Int.toNat_natCast,List.getElem?_eq_getElem h]
theorem gU {l:List α} {k:Nat} {x:α} (h:l[k]? =some x):idx l ((k:Nat):Int)=some x:=by
  unfold idx;rw [if_pos (by omega),Int.toNat_natCast,h]
theorem zf (s:bS) (k:Nat) (h:k<s.bM.length):xy s ((k:Nat):Int)=some s.bM[k]:=by
  unfold xy;rw [if_pos (by omega),Int.toNat_natCast,List.getElem?_eq_getElem h]
theorem jm {k:Nat} (h:0<k) (hk:k≤4611686018427387904):IntKind.wrap .i64 (((k:Nat):Int) - 1)= ((k - 1:Nat):Int):=by
  rw [dD (by omega) (by omega)];omega
theorem oW (l:List α) (k:Nat) (h:k≤l.length):oI l 0 ((k:Nat):Int)=some (l.take k):=by
  unfold oI;rw [if_pos ⟨by omega,by omega,by omega⟩]
  simp only [Int.toNat_zero,List.drop_zero,Int.sub_zero,Int.toNat_natCast]
theorem oX (l:List α) (k:Nat) (h:k≤l.length):oI l ((k:Nat):Int) ((l.length:Nat):Int)=some (l.drop k):=by
  unfold oI;rw [if_pos ⟨by omega,by omega,by omega⟩]
  simp only [Int.toNat_natCast,Option.some.injEq]
  rw [List.take_of_length_le];rw [List.length_drop];omega
theorem eR {b:Nat} {l ys:List α} (h: (l.length+ys.length)*b≤140737488355328):app b l ys=some (l++ys):=by unfold app;rw [if_pos h]
theorem oY {b:Nat} (z:α) {n:Nat} (h:n*b≤140737488355328):mk b z ((n:Nat):Int)=some (List.replicate n z):=by
  unfold mk
  have e: ((n:Nat):Int)* ((b:Nat):Int)= ((n*b:Nat):Int):=(Int.natCast_mul n b).symm
  rw [e]
  generalize n*b=q at h ⊢
  rw [if_pos ⟨by omega,by omega⟩,Int.toNat_natCast]
end
theorem bS.ext' {a b:bS} (h:a.bM=b.bM):a=b:=by cases a;cases b;simp at h;rw [h]
theorem Az {a b:bS}:a.vQ b=true↔a=b:=by
  unfold bS.vQ;rw [beq_iff_eq];exact⟨bS.ext',fun h=>by rw [h]⟩
theorem qJ: ∀(a:List UInt8),Op.bytesLess a a=false
  | []=>rfl
  | a::l=>by
    unfold Op.bytesLess
    rw [qJ l];simp
def bS.lt (a b:bS):Prop:=a.A7 b=true
theorem bS.lt_irrefl (a:bS): ¬bS.lt a a:=by unfold bS.lt bS.A7;rw [qJ];decide
theorem bS.AY {a b:bS} (h:bS.lt a b):a≠b:=fun e=>by subst e;exact bS.lt_irrefl a h
end Go.Gk
namespace Go.Gk
open Go
class Bk (α:Type) where
  bk:α→Nat
  pos: ∀x,1≤bk x
def bk {α:Type} [Bk α] (x:α):Nat:=Bk.bk x
theorem zg {α:Type} [Bk α] (x:α):1≤bk x:=Bk.pos x
instance:Bk bS:=⟨fun s=>s.bM.length+1,fun _=>by omega⟩
instance:Bk Int:=⟨fun _=>1,fun _=>by omega⟩
instance:Bk Bool:=⟨fun _=>1,fun _=>by omega⟩
instance {α:Type} [Bk α]:Bk (List α):=⟨fun l=>(l.map bk).sum+1,fun _=>by omega⟩
theorem zh {α:Type} [Bk α]:bk ([]:List α)=1:=rfl
theorem t4 {α:Type} [Bk α] (x:α) (l:List α):bk (x::l)=bk x+bk l:=by
  show (List.map bk (x::l)).sum+1=bk x+ ((List.map bk l).sum+1)
  simp;omega
theorem wx {α:Type} [Bk α]: ∀{l:List α} {x:α},x∈l→bk x+1≤bk l
  | y::l,x,h=>by
    rw [t4]
    rcases List.mem_cons.1 h with h | h
    · subst h;have:=zg l;omega
    · have:=wx h;omega
theorem qc {α:Type} [Bk α]: ∀(l:List α),l.length+1≤bk l
  | []=>by rw [zh];simp
  | x::l=>by rw [t4,List.length_cons];have:=qc l;have:=zg x;omega
theorem zi (s:bS):bk s=s.bM.length+1:=rfl
section
variable {α R:Type}
theorem xQ {l:List α} {e:Nat→Option R} (f:α→Option R) (h: ∀k x,l[k]? =some x→e k=f x):qR l.length e=l.findSome? f:=by
  cases hx:qR l.length e with
  | none=>
    refine(List.findSome?_eq_none_iff.2 fun x hm=>?_).symm
    obtain⟨k,hk⟩:=List.getElem?_of_mem hm
    rw [←h k x hk];exact j6.1 hx k (List.getElem?_eq_some_iff.1 hk).1
  | some r=>
    obtain⟨k,hk,he,hn⟩:=lj.1 hx
    refine(List.findSome?_eq_some_iff.2 ⟨l.take k,l[k],l.drop (k+1),?_,?_,fun y hy=>?_⟩).symm
    · rw [←List.drop_eq_getElem_cons hk,List.take_append_drop]
    · rw [←h k l[k] (List.getElem?_eq_getElem hk)];exact he
    · obtain⟨j,hj⟩:=List.getElem?_of_mem hy
      have hjk:j<k:=by have:=(List.getElem?_eq_some_iff.1 hj).1;rw [List.length_take] at this;omega
      rw [List.getElem?_take_of_lt hjk] at hj
      rw [←h j y hj];exact hn j hjk
theorem t5 (l:List α) (p:α→Bool) (r:R):l.findSome? (fun x=>if p x=true then some r else none)=if l.any p=true then some r else none:=by
  induction l with
  | nil=>simp
  | cons x l ih=>
    rw [List.findSome?_cons,List.any_cons]
    cases h:p x <;> simp [ih]
theorem rK {l:List α} {body:Nat→Unit→Option (Fl Unit R)} (f:α→Option R) (hl:l.length≤4611686018427387904)
    (h: ∀k x,l[k]? =some x→body k ()=some (rtnx (f x) ())):mx l.length body ()=some (wv (l.findSome? f) ()):=by
  have h2:=lk (body:=body) (m:=l.length) (fun k=>(l[k]?).bind f) hl (fun k hk _=>by
    rw [h k l[k] (List.getElem?_eq_getElem hk),List.getElem?_eq_getElem hk];rfl)
  rw [h2,xQ f (fun k x hx=>by rw [hx];rfl)]
theorem AA {l:List α} {body:Nat→Unit→Option (Fl Unit R)} (p:α→Bool) (r:R) (hl:l.length≤4611686018427387904)
    (h: ∀k x,l[k]? =some x→body k ()=some (if p x=true then .rt r else .nx ())):mx l.length body ()=some (if l.any p=true then .rt r else .go ()):=by
  rw [rK (fun x=>if p x=true then some r else none) hl (fun k x hx=>by rw [h k x hx];cases p x <;> rfl),t5]
  cases l.any p <;> rfl
end
theorem AB {β:Type} (b:Bool) (x y:β): (bif b then some x else some y)=some (bif b then x else y):=by cases b <;> rfl
section
variable {α β:Type}
def BN (l:List α) (p:α→Bool):Int:=match l.findIdx? p with | some k=>((k:Nat):Int) | none=> -1
theorem qd (l:List α) (p:α→Bool): (BN l p = -1∧∀x∈l,p x=false)∨∃k x,BN l p= ((k:Nat):Int)∧l[k]? =some x∧p x=true∧∀j y,j<k→l[j]? =some y→p y=false:=by
  unfold BN
  cases h:l.findIdx? p with
  | none=>exact .inl ⟨rfl,fun x hx=>by have:=List.findIdx?_eq_none_iff.1 h x hx;simpa using this⟩
  | some k=>
    obtain⟨hk,hp,hn⟩:=List.findIdx?_eq_some_iff_getElem.1 h
    refine .inr ⟨k,l[k],rfl,List.getElem?_eq_getElem hk,hp,fun j y hj hy=>?_⟩
    have:=hn j hj
    rw [List.getElem?_eq_getElem (by omega)] at hy
    injection hy with hy
    subst hy;simpa using this
theorem zj (l:List α) (p:α→Bool):decide (BN l p≥0)=l.any p:=by
  rcases qd l p with ⟨h,hn⟩ | ⟨k,x,h,hx,hp,_⟩
  · rw [h,List.any_eq_false.2 (fun x hx=>by rw [hn x hx];decide)];decide
  · rw [h,List.any_eq_true.2 ⟨x,List.mem_of_getElem? hx,hp⟩];simp
def lR (p0:List α) (p1:α→Option Bool):Option Int:=
  (mx p0.length (fun(k1:Nat) (_:Unit)=>((idx p0 ((k1:Nat):Int)).bind fun(x7:α)=>(p1 x7).bind fun(x10:Bool)=>bif x10 then (some (.rt ((k1:Nat):Int))) else (some (.nx ())):Option (Fl (Unit) Int))) ()).bind fun(o11:Fo (Unit) Int)=>o11.cs (fun(_:Unit)=>some (-1)) (fun r=>some r)
theorem kR {l:List α} {φ:α→Option Bool} (p:α→Bool) (hl:l.length≤4611686018427387904) (h: ∀x∈l,φ x=some (p x)):lR l φ=some (BN l p):=by
  unfold lR
  rw [lk (fun k=>(l[k]?).bind fun x=>if p x=true then some ((k:Nat):Int) else none) hl (fun k hk _=>by
    rw [fN l k hk,aB,h _ (List.getElem_mem hk),aB,List.getElem?_eq_getElem hk]
    cases hp:p l[k] <;> simp [rtnx,hp]),aB]
  rcases qd l p with ⟨h1,h2⟩ | ⟨k,x,h1,h2,h3,h4⟩
  · rw [j6.2 (fun k hk=>by rw [List.getElem?_eq_getElem hk];simp [h2 _ (List.getElem_mem hk)])]
    simp [wv,Fo.cs,h1]
  · rw [(lj (r:=((k:Nat):Int))).2 ⟨k,(List.getElem?_eq_some_iff.1 h2).1,by rw [h2];simp [h3],fun j hj=>by
      cases hy:l[j]? with
      | none=>rfl
      | some y=>simp [h4 j y hj hy]⟩]
    simp [wv,Fo.cs,h1]
def kS (p0:List α) (p1:α→Option Bool):Option Bool:=
  (lR p0 p1).bind fun(x1:Int)=>some (decide (x1≥0))
theorem ll {l:List α} {φ:α→Option Bool} (p:α→Bool) (hl:l.length≤4611686018427387904) (h: ∀x∈l,φ x=some (p x)):kS l φ=some (l.any p):=by
  unfold kS
  rw [kR p hl h,aB,zj]
def zk [DecidableEq α] (p0:List α) (p1:α):Option Int:=
  (mx p0.length (fun(k2:Nat) (_:Unit)=>((idx p0 ((k2:Nat):Int)).bind fun(x12:α)=>bif (decide (p1=x12)) then (some (.rt ((k2:Nat):Int))) else (some (.nx ())):Option (Fl (Unit) Int))) ()).bind fun(o18:Fo (Unit) Int)=>o18.cs (fun(_:Unit)=>some (-1)) (fun r=>some r)
theorem xR [DecidableEq α] {l:List α} {a:α} (hl:l.length≤4611686018427387904):zk l a=some (BN l (fun x=>decide (a=x))):=by
  have:=kR (l:=l) (φ:=fun x=>some (decide (a=x))) (fun x=>decide (a=x)) hl (fun _ _=>rfl)
  rw [←this];rfl
def ti [DecidableEq α] (p0:List α) (p1:α):Option Bool:=(zk p0 p1).bind fun(x3:Int)=>some (decide (x3≥0))
theorem t6 [DecidableEq α] {l:List α} {a:α} (hl:l.length≤4611686018427387904):ti l a=some (decide (a∈l)):=by
  unfold ti
  rw [xR hl,aB,zj,Option.some.injEq,Bool.eq_iff_iff]
  simp
def wy [DecidableEq α] (p0 p1:List α):Option Bool:=
  bif (((p0.length:Nat):Int) != ((p1.length:Nat):Int)) then (some false) else ((mx p0.length (fun(k1:Nat) (_:Unit)=>((idx p0 ((k1:Nat):Int)).bind fun(x13:α)=>(idx p1 ((k1:Nat):Int)).bind fun(x16:α)=>bif (!(decide (x13=x16))) then (some (.rt false)) else (some (.nx ())):Option (Fl (Unit) Bool))) ()).bind fun(o23:Fo (Unit) Bool)=>o23.cs (fun(_:Unit)=>some true) (fun r=>some r))
theorem tj [DecidableEq α] {l m:List α} (hl:l.length≤4611686018427387904):wy l m=some (decide (l=m)):=by
  unfold wy
  by_cases h:l.length=m.length
  · have e: (((l.length:Nat):Int) != ((m.length:Nat):Int))=false:=by rw [h];simp
    rw [e,cond_false]
    rw [lk (fun k=>if l[k]? =m[k]? then none else some false) hl (fun k hk _=>by
      rw [fN l k hk,aB,fN m k (by omega),aB,List.getElem?_eq_getElem hk,List.getElem?_eq_getElem (by omega:k<m.length)]
      by_cases hx:l[k]=m[k] <;> simp [rtnx,hx]),aB]
    by_cases hx:l=m
    · subst hx;rw [j6.2 (fun k _=>if_pos rfl)];simp [wv,Fo.cs]
    · have: ∃r,qR l.length (fun k=>if l[k]? =m[k]? then none else some false)=some r:=by
        cases hf:qR l.length (fun k=>if l[k]? =m[k]? then none else some false) with
        | some r=>exact⟨r,rfl⟩
        | none=>
          exfalso;refine hx (List.ext_getElem? fun i=>?_)
          by_cases hi:i<l.length
          · have:=j6.1 hf i hi
            by_cases h6:l[i]? =m[i]?
            · exact h6
            · rw [if_neg h6] at this;cases this
          · rw [List.getElem?_eq_none (by omega),List.getElem?_eq_none (by omega)]
      obtain⟨r,hr⟩:=this
      have hr2:r=false:=by
        obtain⟨k,_,hk,_⟩:=lj.1 hr
        split at hk
        · cases hk
        · injection hk with hk;exact hk.symm
      rw [hr,hr2];simp [wv,Fo.cs,hx]
  · have e: (((l.length:Nat):Int) != ((m.length:Nat):Int))=true:=by simp;omega
    rw [e,cond_true,decide_eq_false (fun h'=>h (by rw [h']))]
def zm (key:α→bS) (l:List α):Prop:=∀(i j:Nat) (x y:α),i<j→l[i]? =some x→l[j]? =some y→bS.lt (key x) (key y)
theorem zm.inj {key:α→bS} {l:List α} (h:zm key l) {i j:Nat} {x y:α} (hx:l[i]? =some x) (hy:l[j]? =some y) (e:key x=key y):i=j:=by
  rcases Nat.lt_trichotomy i j with h1 | h1 | h1
  · exact absurd e (bS.AY (h i j x y h1 hx hy))
  · exact h1
  · exact absurd e.symm (bS.AY (h j i y x h1 hy hx))
end
end Go.Gk
namespace Go.Gk
open Go Go.ChangeShapes Go.WideShapes Go.RowKit
structure UB (ub: (H:Type)→DataW H→Nat) (ua: (H:Type)→List (DataW H)→Nat):Prop where
  str: ∀(H:Type) (b:List UInt8),ub H (.lit (.string b))=b.length+1
  pos: ∀(H:Type) (d:DataW H),1≤ub H d
  sl: ∀(H:Type) (e s:List (DataW H)),ub H (.slice e s)=ua H e+ua H s+1
  ag: ∀(H:Type) (l:List (DataW H)),ub H (.agg l)=ua H l+1
  nil: ∀(H:Type),ua H []=0
  cons: ∀(H:Type) (x:DataW H) (l:List (DataW H)),ua H (x::l)=ub H x+ua H l
def Hw (w:World):cA:=fun b=>w.heap[b]?
structure gK (ub: (H:Type)→DataW H→Nat) (P:Program) (T:TypeId) (α:Type) [GT α] [Bk α]:Prop where
  trod: ∀{H:Type} {enc:TypeId×Value→H} {w:World} {base:Nat} {spare:Nat→Bool} {held:Bool} {fuel:Nat} {cs:List Value} {d:DataW H×List MemPlace},
    DataW.trod enc P w base spare held fuel T cs=some d→∃x:α,GT.ok (Hw w) cs x∧bk x≤ub H d.1
  CD: ∀{w:World} {r:Reach} {base:Nat} {v:Value},Value.okWide P w r base T v→v=pR α v.cells.toList
section
variable {ub: (H:Type)→DataW H→Nat} {ua: (H:Type)→List (DataW H)→Nat} {P:Program} {T e:TypeId}
theorem xS (u:UB ub ua) (ht:P.underlying T=some (.int .i64)):gK ub P T Int where
  trod:=fun h=>by
    obtain⟨n,rfl,rfl,_⟩:=DataW.trod_int ht h
    exact⟨n,rfl,u.pos _ _⟩
  CD:=fun h=>by obtain⟨n,rfl⟩:=okWide_int ht h;rfl
theorem wz (u:UB ub ua) (ht:P.underlying T=some .bool):gK ub P T Bool where
  trod:=fun h=>by
    obtain⟨n,rfl,rfl⟩:=DataW.trod_bool ht h
    exact⟨n,rfl,u.pos _ _⟩
  CD:=fun h=>by obtain⟨n,rfl⟩:=okWide_bool ht h;rfl
theorem xT (u:UB ub ua) (ht:P.underlying T=some .string):gK ub P T bS where
  trod:=fun h=>by
    obtain⟨s,rfl,rfl,_⟩:=DataW.trod_string ht h
    refine⟨⟨s.data.toList⟩,?_,?_⟩
    · show [Value.string s]= [Gk.str ⟨s.data.toList⟩]
      cases s;rfl
    · rw [u.str];exact Nat.le_refl _
  CD:=fun h=>by obtain⟨n,rfl⟩:=okWide_string ht h;rfl
theorem qK {α:Type} {R:Nat→α→Prop}: ∀(n:Nat),(∀i,i<n→∃x,R i x)→∃l:List α,l.length=n∧∀i x,l[i]? =some x→R i x
  | 0,_=>⟨[],rfl,fun i x h=>by simp at h⟩
  | n+1,h=>by
    obtain⟨l,h1,h2⟩:=qK n (fun i hi=>h i (by omega))
    obtain⟨x,hx⟩:=h n (by omega)
    refine⟨l++[x],by simp [h1],fun i y hy=>?_⟩
    by_cases hi:i<n
    · rw [List.getElem?_append_left (by omega)] at hy;exact h2 i y hy
    · have:=(List.getElem?_eq_some_iff.1 hy).1
      rw [List.length_append] at this
      have:i=n:=by simp at this;omega
      subst this
      rw [List.getElem?_append_right (by omega),h1] at hy
      simp at hy;subst hy;exact hx
theorem tk {H:Type} {α:Type} [Bk α] (u:UB ub ua): ∀{l:List α} {es:List (DataW H×List MemPlace)},l.length=es.length→
    (∀(i:Nat) (x:α) (y:DataW H×List MemPlace),l[i]? =some x→es[i]? =some y→bk x≤ub H y.1)→bk l≤ua H (es.map (·.1))+1
  | [],[],_,_=>by rw [zh];omega
  | x::l,y::es,hl,h=>by
    have h1:=h 0 x y rfl rfl
    have h2:=tk (H:=H) u (l:=l) (es:=es) (by simpa using hl) (fun i x y hx hy=>h (i+1) x y (by simpa using hx) (by simpa using hy))
    rw [t4,List.map_cons,u.cons];omega
theorem vl {w:World} {base:Nat} {a:Addr} {n:Nat} {cs:List Value} (h:w.cells? base a n=some cs):At (Hw w) a cs:=by
  intro j v hv
  obtain⟨_,hlen,hc⟩:=World.cells?_some h
  have hj:=(List.getElem?_eq_some_iff.1 hv).1
  have h2:=hc j (by omega)
  rw [hv] at h2
  unfold cellM Hw
  unfold World.cell? at h2
  exact h2
theorem lS {α:Type} [GT α] [Bk α] (u:UB ub ua) (ht:P.underlying T=some (.slice e)) (hc:P.cellsOf e=GT.sz α) (he:gK ub P e α):gK ub P T (List α) where
  trod:=fun{H enc w base spare held fuel cs d} h=>by
    rcases DataW.trod_slice ht h with ⟨rfl,rfl⟩ | ⟨a,len,cap,elems,rest,n,_,rfl,rfl,_,hlc,hcm,hlen,hel,_⟩
    · exact⟨[],⟨_,rfl,none,0,0,rfl,rfl,Nat.le_refl _,by simp [maxLen],fun i x hx=>by simp at hx⟩,u.pos _ _⟩
    · have each: ∀i,i<len→∃x:α,(∃c y,GT.ok (Hw w) c x∧At (Hw w) (a.add (i*GT.sz α)) c∧elems[i]? =some y∧bk x≤ub H y.1):=by
        intro i hi
        have h1:=hel i hi
        rw [List.getElem?_eq_getElem (by omega:i<elems.length),Option.bind_eq_some_iff] at h1
        obtain⟨c,h2,h3⟩:=h1
        obtain⟨x,h4,h5⟩:=he.trod h3
        refine⟨x,c,_,h4,?_,List.getElem?_eq_getElem (by omega),h5⟩
        rw [hc] at h2
        exact vl h2
      obtain⟨l,hl,hr⟩:=qK len each
      refine⟨l,⟨_,rfl,some a,len,cap,rfl,hl.symm,hlc,hcm,fun i x hx=>?_⟩,?_⟩
      · obtain⟨c,y,h1,h2,_⟩:=hr i x hx
        exact⟨a,c,rfl,h1,h2⟩
      · have:=tk (H:=H) u (l:=l) (es:=elems) (by omega) (fun i x y hx hy=>by
          obtain⟨c,y',_,_,h3,h4⟩:=hr i x hx
          rw [hy] at h3;injection h3 with h3;subst h3;exact h4)
        rw [u.sl];omega
  CD:=fun h=>by obtain⟨a,n,c,rfl⟩:=okWide_slice ht h;rfl
def w4 (ub: (H:Type)→DataW H→Nat) (ua: (H:Type)→List (DataW H)→Nat) (P:Program) (off:Nat) (fs:List Field) (β:Type) [GT β] (m:β→Nat):Prop:=
  ∀{H:Type} {enc:TypeId×Value→H} {w:World} {base:Nat} {spare:Nat→Bool} {held:Bool} {n:Nat} {cs:List Value} {ys:List (DataW H×List MemPlace)},
    (∀(i:Nat) (f:Field),fs[i]? =some f→DataW.trod enc P w base spare held n f.type ((cs.drop f.offset).take (P.cellsOf f.type))=ys[i]?)→ys.length=fs.length→
    cs.length=off+GT.sz β→∃x:β,GT.ok (Hw w) (cs.drop off) x∧m x≤ua H (ys.map (·.1))
theorem ln {β:Type} [GT β] [Bk β] {off:Nat} {f:Field} (u:UB ub ua) (h:gK ub P f.type β) (ho:f.offset=off) (hc:P.cellsOf f.type=GT.sz β):w4 ub ua P off [f] β bk:=by
  intro H enc w base spare held n cs ys hf hl hcs
  match ys,hl with
  | [y],_=>
    have h1:=hf 0 f rfl
    rw [ho,hc,List.take_of_length_le (by rw [List.length_drop];omega)] at h1
    obtain⟨x,h2,h3⟩:=h.trod (d:=y) h1
    exact⟨x,h2,by rw [List.map_cons,u.cons];omega⟩
theorem dV {α β:Type} [GT α] [GT β] [Bk α] {off off':Nat} {f:Field} {fs:List Field} {m:β→Nat} (u:UB ub ua) (h:gK ub P f.type α) (ho:f.offset=off) (hc:P.cellsOf f.type=GT.sz α)
    (hoff:off'=off+GT.sz α) (hr:w4 ub ua P off' fs β m):w4 ub ua P off (f::fs) (α×β) (fun x=>bk x.1+m x.2):=by
  intro H enc w base spare held n cs ys hf hl hcs
  have hsz:GT.sz (α×β)=GT.sz α+GT.sz β:=rfl
  match ys,hl with
  | y::ys,hl=>
    have h1:=hf 0 f rfl
    rw [ho,hc] at h1
    obtain⟨x,h2,h3⟩:=h.trod (d:=y) h1
    obtain⟨x',h4,h5⟩:=hr (n:=n) (cs:=cs) (ys:=ys) (fun i g hg=>hf (i+1) g hg) (by simpa using hl) (by omega)
    refine⟨(x,x'),⟨_,_,?_,h2,h4⟩,?_⟩
    · rw [hoff,←List.drop_drop,List.take_append_drop]
    · rw [List.map_cons,u.cons];show bk x+m x'≤_;omega
theorem iZ {γ β:Type} [GT β] [Bk γ] {fs:Array Field} {m:β→Nat} (u:UB ub ua) (f:γ→β) (g:β→γ) (hfg: ∀b,f (g b)=b) (ht:P.underlying T=some (.struct fs)) (hc:P.cellsOf T=GT.sz β)
    (h:w4 ub ua P 0 fs.toList β m) (hm: ∀b,bk (g b)≤m b+1): @gK ub P T γ (GT.via f) _:=
  @gK.mk ub P T γ (GT.via f) _
    (fun{H enc w base spare held fuel cs d} hd=>by
      obtain⟨xs,n,_,rfl,hl,hlen,hf⟩:=DataW.trod_struct ht hd
      obtain⟨b,h1,h2⟩:=h (n:=n) (cs:=cs) (ys:=xs) (fun i g hg=>hf i g (by rw [←Array.getElem?_toList];exact hg)) (by rw [hlen];simp) (by omega)
      refine⟨g b,?_,?_⟩
      · show GT.ok (Hw w) cs (f (g b))
        rw [hfg];exact h1
      · rw [u.ag];have:=hm b;omega)
    (fun hv=>by
      obtain⟨cs,rfl,_⟩:=okWide_struct ht hv
      cases cs;rfl)
theorem gK.arg {H:Type} {enc:TypeId×Value→H} {w:World} {base:Nat} {spare:Nat→Bool} {held:Bool} {r:Reach} {b0:Nat} {v:Value} {d:DataW H} {ps:List MemPlace} {α:Type} [GT α] [Bk α] (o:gK ub P T α)
    (hv:Value.okWide P w r b0 T v) (hd:DataW.Trod enc P w base spare held T v d ps): ∃x:α,nY (Hw w) v x∧bk x≤ub H d:=by
  obtain⟨fuel,hf⟩:=hd
  obtain⟨x,h1,h2⟩:=o.trod hf
  exact⟨x,⟨_,o.CD hv,h1⟩,h2⟩
end
theorem Calls.fin {P:Program} {f:FuncId} {args:Array Value} {w:World} {R Q:Value→World→Prop} (h:Calls P f args w (fu R)) (k: ∀v w',R v w'→Q v w'):
    Calls P f args w (fun e W'=>∃v,e = .returned v∧Q v W'):=Calls.mono h fun _ w' ⟨v,e,hr⟩=>⟨v,e,k v w' hr⟩
def gp (W:World):HP:=⟨fun M h=>hle (Hw W) M∧h=kO,fun k ⟨a,b⟩=>⟨xu a k,b⟩⟩
theorem Holds.begin (W:World):Holds W W [gp W]:=by
  refine⟨Hw W,fun _=>kO,⟨rfl,rfl,rfl,Nat.le_refl _,fun b o h=>h,fun i Pr hq=>?_,fun _ _ _ _ h=>(by cases h),fun _ _ _ _ h=>(by cases h),fun _ _ _ _ _ _ _ h=>(by cases h)⟩⟩
  match i,hq with
  | 0,hq=>simp at hq;subst hq;exact⟨yp _,rfl⟩
theorem Holds.CE {α:Type} [GT α] {W:World} {Γ:List HP} {v:Value} {x:α} (h:Holds W W (Γ++[gp W])) (hv:Gk.nY (Hw W) v x):Holds W W (rd v x::(Γ++[gp W])):=
  h.sE fun M hs g=>by
    have h1:=(g.sat Γ.length (gp W) (by simp)).1
    exact⟨hv.mono h1,rfl⟩
theorem Holds.kept {E W w:World} {Γ:List HP} (h:Holds E w (Γ++[gp W])) (he:E=W):Below W.heap.size W w:=by
  subst he
  obtain⟨M,hs,g⟩:=h
  have h1:=(g.sat Γ.length (gp E) (by simp)).1
  have h2: ∀k o,E.heap[k]? =some o→w.heap[k]? =some o:=fun k o ho=>g.im k o (h1 k o ho)
  refine⟨g.os,g.tape,g.out,?_,fun k hk=>?_⟩
  · by_cases h0:E.heap.size=0
    · omega
    · have h3:=h2 (E.heap.size - 1) _ (Array.getElem?_eq_getElem (by omega))
      have:=(Array.getElem?_eq_some_iff.1 h3).1
      omega
  · rw [Array.getElem?_eq_getElem hk];exact h2 k _ (Array.getElem?_eq_getElem hk)
section
variable {H:Type} {enc:TypeId×Value→H} {P:Program}
theorem xU {f:Func} {s:ChangeSpec} {apart fresh handsOn again:Bool} {W W':World} {args:Array Value} {v:Value} {ds gs:List (DataW H)} {before pa pv:List MemPlace}
    (hW:DataW.Whole enc P f.params.toList s.vars apart W args.toList ds gs before)
    (hres: ∀(b:Nat) (sp:Nat→Bool) (hd:Bool),DataW.TrodAll enc P W' b sp hd f.resultTypes.toList (v.resultList f.resultTypes.size) (s.fn H (ds++gs)).results [])
    (hargs: ∀sp:Nat→Bool,(∀p∈before,sp p.block=true)→DataW.TrodAll enc P W' 0 sp true f.params.toList args.toList (s.fn H (ds++gs)).args pa)
    (hvars: ∀sp:Nat→Bool,(∀p∈before,sp p.block=true)→DataW.TrodVars enc P W' sp s.vars (s.fn H (ds++gs)).vars pv)
    (hps:before=pa++pv) (hb:Below W.heap.size W W')
    (hok: ∀(j:Nat) (t:TypeId) (r:Value),f.resultTypes[j]? =some t→(v.resultList f.resultTypes.size)[j]? =some r→Value.okWide P W' .any 0 t r):
    s.post enc P f apart fresh handsOn again W args v W':=by
  have hlt: ∀p∈before,p.block<W.heap.size:=fun p hp=>hW.lt p hp
  have hold: ∀p∈before,(fun b=>decide (b<W.heap.size)) p.block=true:=fun p hp=>by simpa using hlt p hp
  refine⟨ds,gs,before,[],pa,pv,hW,hres _ _ _,hargs _ hold,hvars _ hold,World.keptBut_mono (fun p hp=>⟨hp,?_⟩) (hb.frame (· ∈before)),fun _=>?_⟩
  · rw [hps,List.mem_append] at hp
    exact Or.inr hp
  · obtain⟨_,_,_,_,_,hz,hn⟩:=hW
    refine⟨hok,_,_,([]++pa)++pv,⟨[]++pa,pv,trodAll_append (hargs _ (fun _ _=>rfl)) (hres _ _ _),hvars _ (fun _ _=>rfl),rfl,?_,?_⟩,?_⟩
    · intro b off hp
      have hin:MemPlace.cell b off∈before:=by rw [hps];simpa using hp
      rw [hb.frozen (hlt _ hin)]
      exact hz b off hin
    · intro ha
      have:=hn ha
      rw [hps] at this
      simpa using this
    · intro p hp _
      rw [hps]
      simpa using hp
theorem nU {W W':World} (hl:laidOutB P=true) (hb:Below W.heap.size W W') {sp:Nat→Bool}: ∀{ts:List TypeId} {vs:List Value} {ds:List (DataW H)} {ps:List MemPlace},
    (∀t∈ts,P.readableRec t=true∧t<P.types.size)→DataW.TrodAll enc P W 0 (fun _=>true) true ts vs ds ps→(∀p∈ps,p.block<W.heap.size)→(∀p∈ps,sp p.block=true)→DataW.TrodAll enc P W' 0 sp true ts vs ds ps
  | [],_,_,_,_,h,_,_=>by
    obtain⟨rfl,rfl,rfl⟩:=trodAll_nil h
    rfl
  | t::ts,_,_,_,ht,h,hlt,hsp=>by
    obtain⟨v,vs,d,ds,p,q,rfl,rfl,rfl,h1,h2⟩:=trodAll_cons h
    refine⟨p,q,?_,nU hl hb (fun t h=>ht t (by simp [h])) h2 (fun x hx=>hlt x (by simp [hx])) (fun x hx=>hsp x (by simp [hx])),rfl⟩
    exact WideElems.Trod_stays hl (ht t (by simp)).1 (ht t (by simp)).2 h1 (fun x hx=>hb.same (hlt x (by simp [hx]))) (fun x hx=>hsp x (by simp [hx]))
end
end Go.Gk
namespace Go.Gk
open Go
instance:Bk aD:=⟨fun x=>bk x.X0+bk x.Y0+bk x.X1+bk x.Y1+1,fun _=>by omega⟩
theorem AD (x:aD):bk x=bk x.X0+bk x.Y0+bk x.X1+bk x.Y1+1:=rfl
instance:Bk bX:=⟨fun x=>bk x.X+bk x.Y+1,fun _=>by omega⟩
theorem zn (x:bX):bk x=bk x.X+bk x.Y+1:=rfl
instance:Bk bB:=⟨fun x=>bk x.At+bk x.cH+bk x.bN+bk x.To+bk x.bP+1,fun _=>by omega⟩
theorem AE (x:bB):bk x=bk x.At+bk x.cH+bk x.bN+bk x.To+bk x.bP+1:=rfl
instance:Bk cE:=⟨fun x=>bk x.Part+bk x.dC+bk x.bH+bk x.At+1,fun _=>by omega⟩
theorem w5 (x:cE):bk x=bk x.Part+bk x.dC+bk x.bH+bk x.At+1:=rfl
instance:Bk ju:=⟨fun x=>bk x.aJ+bk x.bZ+bk x.aK+bk x.aR+1,fun _=>by omega⟩
theorem zo (x:ju):bk x=bk x.aJ+bk x.bZ+bk x.aK+bk x.aR+1:=rfl
instance:Bk aA:=⟨fun x=>bk x.Y0+bk x.Y1+bk x.Xs+1,fun _=>by omega⟩
instance:Bk dC:=⟨fun x=>bk x.Part+bk x.dC+1,fun _=>by omega⟩
instance:Bk aC:=⟨fun x=>bk x.bH+bk x.Set+bk x.fL+1,fun _=>by omega⟩
instance:Bk aX:=⟨fun x=>bk x.bY+bk x.aK+bk x.cB+1,fun _=>by omega⟩
instance:Bk fZ:=⟨fun x=>bk x.bB+bk x.Number+1,fun _=>by omega⟩
instance:Bk Piece:=⟨fun x=>bk x.bH+bk x.rA+bk x.v5+1,fun _=>by omega⟩
end Go.Gk
namespace Go.Gk
open Go Go.Proofs Go.Sort
section
variable {α:Type}
theorem qL {β:Type} (a:Array β) {n:Nat} (h:a.size=n):a.extract 0 n=a:=by subst h;exact Array.extract_size
theorem BE {φ:α→α→Option Int} {l:List α} (cf:α→α→Int) (hφ: ∀x∈l,∀y∈l,φ x y=some (cf x y)) (h1: ∀x∈l,¬cf x x<0)
    (h2: ∀x∈l,∀y∈l,∀z∈l,cf x y<0→cf y z<0→cf x z<0) (h3: ∀x∈l,∀y∈l,∀z∈l,¬cf x y<0→¬cf y z<0→¬cf x z<0):SWO (ltOf (vM φ l)):=by
  have hm: ∀i:Fin l.length,l[i]∈l:=fun i=>List.getElem_mem i.isLt
  have e: ∀i j:Fin l.length,vM φ l i j=cf l[i] l[j]:=fun i j=>by unfold vM;rw [hφ _ (hm i) _ (hm j)];rfl
  refine⟨fun x=>?_,fun x y z=>?_,fun x y z=>?_⟩
  · simp only [ltOf,e,decide_eq_false_iff_not];exact h1 _ (hm _)
  · simp only [ltOf,e,decide_eq_true_iff];exact h2 _ (hm _) _ (hm _) _ (hm _)
  · simp only [ltOf,e,decide_eq_false_iff_not];exact h3 _ (hm _) _ (hm _) _ (hm _)
theorem rS {φ:α→α→Option Int} {l:List α} (cf:α→α→Int) (hφ: ∀x∈l,∀y∈l,φ x y=some (cf x y)) (h1: ∀x∈l,¬cf x x<0)
    (h2: ∀x∈l,∀y∈l,∀z∈l,cf x y<0→cf y z<0→cf x z<0) (h3: ∀x∈l,∀y∈l,∀z∈l,¬cf x y<0→¬cf y z<0→¬cf x z<0) (hl:l.length<4611686018427387904):
    ∃m,oL φ l=some m∧m.Perm l∧m.Pairwise (fun x y=>¬cf y x<0):=by
  have hO:=BE cf hφ h1 h2 h3
  have hm: ∀i:Fin l.length,l[i]∈l:=fun i=>List.getElem_mem i.isLt
  have hc: (∀i j:Fin l.length,∃c,φ l[i] l[j]=some c):=fun i j=>⟨_,hφ _ (hm i) _ (hm j)⟩
  refine⟨wV φ l,by unfold oL;rw [if_pos ⟨⟨hc,hO⟩,hl⟩],?_⟩
  unfold wV
  by_cases hn:0<l.length
  · rw [dif_pos hn]
    letI inh:Inhabited (Fin l.length):=⟨⟨0,hn⟩⟩
    have hds: (Array.ofFn fun i:Fin l.length=>i).size=l.length:=by simp
    obtain⟨hp,hs⟩:=pdq_sorts (ltOf (vM φ l)) hO (Array.ofFn fun i:Fin l.length=>i) 0 l.length (Lib.bitLen l.length) true true (Nat.zero_le _) (by rw [hds];exact Nat.le_refl _) (Or.inl rfl)
    show (List.map (fun i=>l[i]) (pdq (ltOf (vM φ l)) (Array.ofFn fun i:Fin l.length=>i) 0 l.length (Lib.bitLen l.length) true true).toList).Perm l∧_
    generalize pdq (ltOf (vM φ l)) (Array.ofFn fun i:Fin l.length=>i) 0 l.length (Lib.bitLen l.length) true true=d' at hp hs
    obtain⟨hz,_,hpm⟩:=hp
    have hz':d'.size=l.length:=hz.trans hds
    rw [qL d' hz',qL _ hds] at hpm
    have hof: (Array.ofFn fun i:Fin l.length=>i).toList.map (fun i=>l[i])=l:=by
      rw [Array.toList_ofFn,List.map_ofFn]
      exact List.ofFn_getElem
    refine⟨(hpm.map (fun i=>l[i])).trans (List.Perm.of_eq hof),?_⟩
    rw [List.pairwise_map,List.pairwise_iff_getElem]
    intro i j hi hj hij
    rw [Array.length_toList] at hi hj
    have:=hs i j (Nat.zero_le _) hij (by rw [←hz'];exact hj)
    rw [getElem!_pos d' i hi,getElem!_pos d' j hj] at this
    have hij2:=hφ _ (hm (d'[j])) _ (hm (d'[i]))
    have hij3:vM φ l d'[j] d'[i]=cf l[d'[j]] l[d'[i]]:=by unfold vM;rw [hij2];rfl
    unfold ltOf at this
    rw [decide_eq_false_iff_not,hij3] at this
    exact this
  · rw [dif_neg hn]
    have:l= []:=List.length_eq_zero_iff.1 (by omega)
    subst this
    exact⟨List.Perm.refl _,List.Pairwise.nil⟩
theorem tl {φ:α→α→Option Int} {x:α} (h:φ x x=some 0):oL φ [x]=some [x]:=by
  obtain⟨m,h1,h2,_⟩:=rS (φ:=φ) (l:=[x]) (fun _ _=>0) (fun a ha b hb=>by simp at ha hb;rw [ha,hb];exact h) (fun _ _=>by decide) (fun _ _ _ _ _ _ h=>by simp at h) (fun _ _ _ _ _ _ _ _=>by decide) (by simp)
  rw [h1,List.perm_singleton.1 h2]
theorem sQ {l:List Int} (h:l.Pairwise (fun x y=>x≤y)) (hl:l.length<4611686018427387904):mA l=some l:=by
  unfold mA
  rw [if_pos hl,List.mergeSort_of_pairwise (by simpa using h)]
end
end Go.Gk
namespace Go.Gk
open Go
def w6 (l:List Int) (x:Int):Nat:=l.countP (fun a=>decide (a≤x))
def kE (l:List Int) (x:Int):Bool:=w6 l x % 2==1
def jE (l:List Int):Prop:=l.Pairwise (· < ·)
theorem w7 (x:Int):w6 [] x=0:=rfl
theorem lC (a:Int) (l:List Int) (x:Int):w6 (a::l) x= (if a≤x then 1 else 0)+w6 l x:=by
  unfold w6
  rw [List.countP_cons]
  by_cases h:a≤x <;> simp [h];omega
theorem rT (l m:List Int) (x:Int):w6 (l++m) x=w6 l x+w6 m x:=List.countP_append
theorem w8 {l:List Int} {x:Int} (h: ∀a∈l,a≤x):w6 l x=l.length:=by
  unfold w6;rw [List.countP_eq_length];intro a ha;simpa using h a ha
theorem vn {l:List Int} {x:Int} (h: ∀a∈l,x<a):w6 l x=0:=by
  unfold w6;rw [List.countP_eq_zero];intro a ha;have:=h a ha;simp;omega
theorem ud {l:List Int} {x:Int}:kE l x=true↔w6 l x % 2=1:=by unfold kE;simp
theorem pj {l:List Int} {x:Int} (h: ∀a∈l,x<a):kE l x=false:=by unfold kE;rw [vn h];rfl
theorem jE.head {a:Int} {l:List Int} (h:jE (a::l)): ∀b∈l,a<b:=(List.pairwise_cons.1 h).1
theorem jE.tail {a:Int} {l:List Int} (h:jE (a::l)):jE l:=(List.pairwise_cons.1 h).2
theorem po {a:Int} {l:List Int} (h:jE (a::l)):kE (a::l) a=true:=by
  rw [ud,lC,if_pos (Int.le_refl _),vn h.head]
theorem rU: ∀{l m:List Int},jE l→jE m→(∀x,kE l x=kE m x)→l=m
  | [],[],_,_,_=>rfl
  | [],b::m,_,hm,h=>by have:=h b;rw [po hm] at this;cases this
  | a::l,[],hl,_,h=>by have:=h a;rw [po hl] at this;cases this
  | a::l,b::m,hl,hm,h=>by
    have hab:a=b:=by
      rcases Int.lt_trichotomy a b with h1 | h1 | h1
      · have h2:=h a
        rw [po hl,pj (l:=b::m) (fun c hc=>by
          rcases List.mem_cons.1 hc with rfl | hc
          · exact h1
          · have:=hm.head c hc;omega)] at h2
        cases h2
      · exact h1
      · have h2:=h b
        rw [po hm,pj (l:=a::l) (fun c hc=>by
          rcases List.mem_cons.1 hc with rfl | hc
          · exact h1
          · have:=hl.head c hc;omega)] at h2
        cases h2
    subst hab
    rw [rU hl.tail hm.tail (fun x=>?_)]
    by_cases hx:a≤x
    · have h2:=h x
      unfold kE at h2 ⊢
      rw [lC,lC,if_pos hx] at h2
      rw [Bool.eq_iff_iff] at h2 ⊢
      simp only [beq_iff_eq] at h2 ⊢
      omega
    · rw [pj (fun c hc=>by have:=hl.head c hc;omega),pj (fun c hc=>by have:=hm.head c hc;omega)]
theorem pq {l:List Int} {a b:Int} (hl: ∀c∈l,c<a) (he:l.length % 2=0) (hab:a<b) (x:Int):kE (l++[a,b]) x= (kE l x||(decide (a≤x)&&decide (x<b))):=by
  rw [Bool.eq_iff_iff,Bool.or_eq_true,Bool.and_eq_true,decide_eq_true_eq,decide_eq_true_eq,ud,ud,rT,lC,lC,w7]
  by_cases h1:a≤x
  · have h2:w6 l x=l.length:=w8 fun c hc=>by have:=hl c hc;omega
    rw [h2,if_pos h1]
    by_cases h3:b≤x
    · rw [if_pos h3];omega
    · rw [if_neg h3];omega
  · rw [if_neg h1,if_neg (by omega)];omega
theorem zp {l:List Int} {s e a b:Int} (hl: ∀c∈l,c<s) (he:l.length % 2=0) (hs:s<e) (h1:s≤a) (h2:a≤e) (hab:a<b) (x:Int):kE (l++[s,max e b]) x= (kE (l++[s,e]) x||(decide (a≤x)&&decide (x<b))):=by
  rw [pq hl he (by omega),pq hl he hs]
  rw [Bool.eq_iff_iff]
  simp only [Bool.or_eq_true,Bool.and_eq_true,decide_eq_true_eq]
  constructor
  · rintro(h | h)
    · exact .inl (.inl h)
    · by_cases hx:x<e
      · exact .inl (.inr ⟨h.1,hx⟩)
      · exact .inr ⟨by omega,by omega⟩
  · rintro((h | h) | h)
    · exact .inl h
    · exact .inr ⟨h.1,by omega⟩
    · exact .inr ⟨by omega,by omega⟩
theorem jE.snoc {l:List Int} {a b:Int} (h:jE l) (hl: ∀c∈l,c<a) (hab:a<b):jE (l++[a,b]):=by
  unfold jE
  rw [List.pairwise_append]
  refine⟨h,by simp [hab],fun c hc d hd=>?_⟩
  have:=hl c hc
  simp at hd
  rcases hd with rfl | rfl <;> omega
structure Bd where
  y0:Int
  y1:Int
  xs:List Int
def rowAt:List Bd→Int→List Int
  | [],_=>[]
  | b::s,y=>if b.y0≤y∧y<b.y1 then b.xs else rowAt s y
theorem lV (b:Bd) (s:List Bd) (y:Int):rowAt (b::s) y=if b.y0≤y∧y<b.y1 then b.xs else rowAt s y:=rfl
structure cV (s:List Bd):Prop where
  each: ∀b∈s,b.y0<b.y1∧b.xs≠[]∧jE b.xs∧b.xs.length % 2=0
  ord:s.Pairwise (fun b c=>b.y1≤c.y0∧(b.y1=c.y0→b.xs≠c.xs))
theorem cV.nil:cV []:=⟨fun b h=>by simp at h,List.Pairwise.nil⟩
theorem cV.tail {b:Bd} {s:List Bd} (h:cV (b::s)):cV s:=⟨fun c hc=>h.each c (List.mem_cons_of_mem _ hc),(List.pairwise_cons.1 h.ord).2⟩
theorem iH {s:List Bd} {y:Int} (h: ∀b∈s,y<b.y0∨b.y1≤y):rowAt s y= []:=by
  induction s with
  | nil=>rfl
  | cons b s ih=>
    unfold rowAt
    have:=h b (by simp)
    rw [if_neg (by omega)]
    exact ih fun c hc=>h c (List.mem_cons_of_mem _ hc)
theorem jX (s t:List Bd) (y:Int):rowAt (s++t) y=if (∃b∈s,b.y0≤y∧y<b.y1) then rowAt s y else rowAt t y:=by
  induction s with
  | nil=>simp
  | cons b s ih=>
    rw [List.cons_append,lV,lV]
    by_cases h:b.y0≤y∧y<b.y1
    · rw [if_pos h,if_pos ⟨b,by simp,h⟩,if_pos h]
    · rw [if_neg h,ih]
      by_cases h2: ∃c∈s,c.y0≤y∧y<c.y1
      · obtain⟨c,hc,hc2⟩:=h2
        rw [if_pos ⟨c,hc,hc2⟩,if_pos ⟨c,List.mem_cons_of_mem _ hc,hc2⟩,if_neg h]
      · rw [if_neg h2,if_neg (show ¬∃c∈b::s,c.y0≤y∧y<c.y1 from ?_)]
        rintro⟨c,hc,hc2⟩
        rcases List.mem_cons.1 hc with rfl | hc
        · exact h hc2
        · exact h2 ⟨c,hc,hc2⟩
theorem cV.gY {b:Bd} {s:List Bd} {y:Int} (h0:b.y0≤y) (h1:y<b.y1):rowAt (b::s) y=b.xs:=by unfold rowAt;rw [if_pos ⟨h0,h1⟩]
theorem cV.w9 {b:Bd} {s:List Bd} (h:cV (b::s)): ∀c∈s,b.y1≤c.y0:=fun c hc=>((List.pairwise_cons.1 h.ord).1 c hc).1
theorem cV.nj {b:Bd} {s:List Bd} (h:cV (b::s)) {y:Int} (hy:y<b.y0):rowAt (b::s) y= []:=iH fun c hc=>by
  rcases List.mem_cons.1 hc with rfl | hc
  · exact .inl hy
  · have:=h.w9 c hc;have:=(h.each b (by simp)).1;exact .inl (by omega)
theorem cV.xc {b:Bd} {s:List Bd} (h:cV (b::s)):rowAt (b::s) b.y1≠b.xs:=by
  rw [lV,if_neg (by omega)]
  cases s with
  | nil=>exact fun e=>(h.each b (by simp)).2.1 e.symm
  | cons c s=>
    have h1:=(List.pairwise_cons.1 h.ord).1 c (by simp)
    by_cases e:b.y1=c.y0
    · rw [cV.gY (by omega) (by have:=(h.tail.each c (by simp)).1;omega)]
      exact fun h=>h1.2 e h.symm
    · rw [h.tail.nj (by have:=h1.1;omega)]
      exact fun e=>(h.each b (by simp)).2.1 e.symm
theorem rV: ∀{s t:List Bd},cV s→cV t→(∀y,rowAt s y=rowAt t y)→s=t
  | [],[],_,_,_=>rfl
  | [],c::t,_,ht,h=>by
    have hc:=ht.each c (by simp)
    have:=h c.y0
    rw [cV.gY (Int.le_refl _) hc.1] at this
    exact absurd this.symm hc.2.1
  | b::s,[],hs,_,h=>by
    have hb:=hs.each b (by simp)
    have:=h b.y0
    rw [cV.gY (Int.le_refl _) hb.1] at this
    exact absurd this hb.2.1
  | b::s,c::t,hs,ht,h=>by
    have hb:=hs.each b (by simp)
    have hc:=ht.each c (by simp)
    have e0:b.y0=c.y0:=by
      rcases Int.lt_trichotomy b.y0 c.y0 with h1 | h1 | h1
      · have h2:=h b.y0
        rw [cV.gY (Int.le_refl _) hb.1,ht.nj h1] at h2
        exact absurd h2 hb.2.1
      · exact h1
      · have h2:=h c.y0
        rw [cV.gY (Int.le_refl _) hc.1,hs.nj h1] at h2
        exact absurd h2.symm hc.2.1
    have ex:b.xs=c.xs:=by
      have h2:=h b.y0
      rw [cV.gY (Int.le_refl _) hb.1,cV.gY (by omega) (by omega)] at h2
      exact h2
    have e1:b.y1=c.y1:=by
      rcases Int.lt_trichotomy b.y1 c.y1 with h1 | h1 | h1
      · have h2:=h b.y1
        rw [cV.gY (b:=c) (by omega) h1] at h2
        exact absurd (h2.trans ex.symm) hs.xc
      · exact h1
      · have h2:=h c.y1
        rw [cV.gY (b:=b) (by omega) h1] at h2
        exact absurd (h2.symm.trans ex) ht.xc
    have ebc:b=c:=by cases b;cases c;simp_all
    subst ebc
    rw [rV hs.tail ht.tail (fun y=>?_)]
    by_cases hy:b.y1≤y
    · have h2:=h y
      unfold rowAt at h2
      rw [if_neg (by omega),if_neg (by omega)] at h2
      exact h2
    · rw [iH (fun d hd=>by have:=hs.w9 d hd;exact .inl (by omega)),iH (fun d hd=>by have:=ht.w9 d hd;exact .inl (by omega))]
def ri (s:List Bd) (x y:Int):Bool:=kE (rowAt s y) x
theorem tm {s:List Bd} (h: ∀b∈s,jE b.xs) (y:Int):jE (rowAt s y):=by
  induction s with
  | nil=>exact List.Pairwise.nil
  | cons b s ih=>
    unfold rowAt
    split
    · exact h b (by simp)
    · exact ih fun c hc=>h c (List.mem_cons_of_mem _ hc)
theorem wA {s t:List Bd} (hs:cV s) (ht:cV t) (h: ∀x y,ri s x y=ri t x y):s=t:=
  rV hs ht fun y=>rU (tm (fun b hb=>(hs.each b hb).2.2.1) y) (tm (fun b hb=>(ht.each b hb).2.2.1) y) fun x=>h x y
def pushB (s:List Bd) (b:Bd):List Bd:=
  if b.xs= []∨b.y1≤b.y0 then s else
    match s.getLast? with
    | some c=>if c.y1=b.y0∧c.xs=b.xs then s.dropLast++[⟨c.y0,b.y1,c.xs⟩] else s++[b]
    | none=>[b]
theorem oy {α:Type} {s:List α} {c:α} (h:s.getLast? =some c):s=s.dropLast++[c]:=by
  have hne:s≠[]:=fun e=>by rw [e] at h;cases h
  rw [List.getLast?_eq_some_getLast hne] at h
  injection h with h
  rw [←h];exact(List.dropLast_concat_getLast hne).symm
theorem tn {s:List Bd} {b:Bd} (hs: ∀c∈s,c.y1≤b.y0) (hg: ∀c∈s,c.y0<c.y1) (hb:b.y1≤b.y0→b.y1=b.y0) (y:Int):rowAt (pushB s b) y=if b.y0≤y∧y<b.y1 then b.xs else rowAt s y:=by
  have key: ∀(s:List Bd) (c:Bd),(∀d∈s,d.y1≤c.y0)→rowAt (s++[c]) y=if c.y0≤y∧y<c.y1 then c.xs else rowAt s y:=by
    intro s c h
    rw [jX]
    by_cases h1:c.y0≤y∧y<c.y1
    · rw [if_pos h1,if_neg (by rintro⟨d,hd,hd2⟩;have:=h d hd;omega),cV.gY h1.1 h1.2]
    · rw [if_neg h1]
      by_cases h2: ∃d∈s,d.y0≤y∧y<d.y1
      · rw [if_pos h2]
      · rw [if_neg h2,lV,if_neg h1]
        refine(show rowAt [] y=_ from (iH (s:=s) fun d hd=>?_).symm)
        by_cases h3:d.y0≤y
        · exact .inr (by have: ¬(d.y0≤y∧y<d.y1):=fun h4=>h2 ⟨d,hd,h4⟩;omega)
        · exact .inl (by omega)
  unfold pushB
  by_cases h0:b.xs= []∨b.y1≤b.y0
  · rw [if_pos h0]
    by_cases h1:b.y0≤y∧y<b.y1
    · rw [if_pos h1]
      rcases h0 with h0 | h0
      · rw [h0];exact iH fun c hc=> .inr (by have:=hs c hc;omega)
      · omega
    · rw [if_neg h1]
  · rw [if_neg h0]
    cases hl:s.getLast? with
    | none=>
      have:s= []:=by simpa using hl
      subst this
      rfl
    | some c=>
      dsimp only
      have hsp:=oy hl
      have hcm:c∈s:=by rw [hsp];simp
      by_cases h1:c.y1=b.y0∧c.xs=b.xs
      · rw [if_pos h1]
        have hd: ∀d∈s.dropLast,d.y1≤c.y0∨True:=fun _ _=> .inr trivial
        rw [jX]
        have hrow:rowAt s y=if (∃d∈s.dropLast,d.y0≤y∧y<d.y1) then rowAt s.dropLast y else (if c.y0≤y∧y<c.y1 then c.xs else []):=by
          conv=>lhs;rw [hsp]
          rw [jX];rfl
        rw [hrow]
        have hcg:=hg c hcm
        by_cases h2: ∃d∈s.dropLast,d.y0≤y∧y<d.y1
        · obtain⟨d,hd,hd2⟩:=h2
          have:=hs d (List.dropLast_subset _ hd)
          have he: ∃d∈s.dropLast,d.y0≤y∧y<d.y1:=⟨d,hd,hd2⟩
          rw [if_pos he,if_pos he,if_neg (by omega)]
        · rw [if_neg h2,if_neg h2]
          show (if c.y0≤y∧y<b.y1 then c.xs else [])=_
          by_cases h3:b.y0≤y∧y<b.y1
          · rw [if_pos h3,if_pos ⟨by omega,h3.2⟩,h1.2]
          · rw [if_neg h3]
            by_cases h4:c.y0≤y∧y<c.y1
            · rw [if_pos h4,if_pos ⟨h4.1,by omega⟩]
            · rw [if_neg h4,if_neg (by omega)]
      · rw [if_neg h1]
        exact key s b hs
theorem tp {s:List Bd} {b:Bd} (h:cV s) (hs: ∀c∈s,c.y1≤b.y0) (hb:jE b.xs) (he:b.xs.length % 2=0):cV (pushB s b):=by
  unfold pushB
  by_cases h0:b.xs= []∨b.y1≤b.y0
  · rw [if_pos h0];exact h
  · rw [if_neg h0]
    have hbg:b.y0<b.y1∧b.xs≠[]∧jE b.xs∧b.xs.length % 2=0:=⟨by omega,fun e=>h0 (.inl e),hb,he⟩
    cases hl:s.getLast? with
    | none=>exact⟨fun c hc=>by simp at hc;subst hc;exact hbg,List.pairwise_singleton _ _⟩
    | some c=>
      dsimp only
      have hsp:=oy hl
      have hcm:c∈s:=by rw [hsp];simp
      have hc:=h.each c hcm
      have hord:=h.ord
      rw [hsp,List.pairwise_append] at hord
      by_cases h1:c.y1=b.y0∧c.xs=b.xs
      · rw [if_pos h1]
        refine⟨fun d hd=>?_,?_⟩
        · rcases List.mem_append.1 hd with hd | hd
          · exact h.each d (List.dropLast_subset _ hd)
          · simp at hd;subst hd;exact⟨by show c.y0<b.y1;omega,hc.2⟩
        · rw [List.pairwise_append]
          refine⟨hord.1,List.pairwise_singleton _ _,fun d hd e he=>?_⟩
          simp at he;subst he
          exact hord.2.2 d hd c (by simp)
      · rw [if_neg h1]
        refine⟨fun d hd=>?_,?_⟩
        · rcases List.mem_append.1 hd with hd | hd
          · exact h.each d hd
          · simp at hd;subst hd;exact hbg
        · rw [List.pairwise_append]
          refine⟨h.ord,List.pairwise_singleton _ _,fun d hd e he=>?_⟩
          simp at he;subst he
          refine⟨hs d hd,fun e1 e2=>?_⟩
          rw [hsp] at hd
          rcases List.mem_append.1 hd with hd | hd
          · have h2:=(hord.2.2 d hd c (by simp)).1
            have:=hs c hcm
            omega
          · simp at hd;subst hd;exact h1 ⟨e1,e2⟩
theorem tq {s:List Bd} {b:Bd} (hs: ∀c∈s,c.y1≤b.y0) (hb:b.y0≤b.y1): ∀c∈pushB s b,c.y1≤b.y1:=by
  intro c hc
  unfold pushB at hc
  split at hc
  · have:=hs c hc;omega
  · split at hc
    · split at hc
      · rcases List.mem_append.1 hc with hc | hc
        · have:=hs c (List.dropLast_subset _ hc);omega
        · simp at hc;subst hc;exact Int.le_refl _
      · rcases List.mem_append.1 hc with hc | hc
        · have:=hs c hc;omega
        · simp at hc;subst hc;exact Int.le_refl _
    · simp at hc;subst hc;exact Int.le_refl _
end Go.Gk
namespace Go.Gk
open Go
section
variable {N:Nat}
def bG (b:aA):Bd:=⟨b.Y0,b.Y1,b.Xs⟩
def small (a:Int):Prop:= -1099511627776≤a∧a≤1099511627776
structure xd (r:aD):Prop where
  x:r.X0<r.X1
  y:r.Y0<r.Y1
  s1:small r.X0
  s2:small r.X1
  s3:small r.Y0
  s4:small r.Y1
def wB (l:List aD) (x:Int):Bool:=l.any (fun r=>decide (r.X0≤x)&&decide (x<r.X1))
def z5 (l:List aD) (x y:Int):Bool:=l.any (fun r=>(decide (r.X0≤x)&&decide (x<r.X1))&&(decide (r.Y0≤y)&&decide (y<r.Y1)))
theorem rW {l:List aD} {x:Int}:wB l x=true↔∃r∈l,r.X0≤x∧x<r.X1:=by unfold wB;simp [List.any_eq_true]
theorem pr {l:List aD} {x y:Int}:z5 l x y=true↔∃r∈l,(r.X0≤x∧x<r.X1)∧r.Y0≤y∧y<r.Y1:=by unfold z5;simp [List.any_eq_true]
theorem wrap_small {a b:Int} (ha:small a) (hb:small b):IntKind.wrap .i64 (a - b)=a - b:=by unfold small at *;exact dD (by omega) (by omega)
theorem vo {n:Nat} (h:0<n) (hn:n≤4611686018427387904):IntKind.wrap .i64 (((n:Nat):Int) - 1)= ((n - 1:Nat):Int):=jm h hn
structure En (out:List Int) (m:List aD) (k:Nat):Prop where
  row: (k=0∧out= [])∨∃A s e,out=A++[s,e]∧jE A∧(∀c∈A,c<s)∧A.length % 2=0∧s<e∧∃j r,j<k∧m[j]? =some r∧s=r.X0
  kE: ∀x,kE out x=wB (m.take k) x
  len:out.length≤2*k
  mem: ∀c∈out,∃r∈m,c=r.X0∨c=r.X1
theorem qu (l:List aD) (r:aD) (x:Int):wB (l++[r]) x= (wB l x||(decide (r.X0≤x)&&decide (x<r.X1))):=by unfold wB;rw [List.any_append];simp
theorem ue {l:List aD} (hl:l.length≤268435456) (hok: ∀r∈l,xd r): ∃row l',eN N l=some (row,l')∧l'.Perm l∧jE row∧row.length % 2=0∧(∀x,kE row x=wB l x)∧row.length≤2*l.length∧∀c∈row,∃r∈l,c=r.X0∨c=r.X1:=by
  unfold eN
  obtain⟨m,h1,h2,h3⟩:=rS (φ:=dG N) (l:=l) (fun a b=>a.X0 - b.X0) (fun a ha b hb=>by
    unfold dG;rw [wrap_small (hok a ha).s1 (hok b hb).s1]) (fun a _=>by omega) (fun a _ b _ c _ h1 h2=>by omega) (fun a _ b _ c _ h1 h2=>by omega) (by omega)
  have hml:m.length=l.length:=h2.length_eq
  have hmok: ∀r∈m,xd r:=fun r hr=>hok r (h2.subset hr)
  rw [h1,aB]
  obtain⟨out,a1,a2⟩:=rh (m:=m.length) (s:=([]:List Int)) (body:=fun(k32:Nat) (s33: (List Int))=>((idx m (k32:Int)).bind fun(x79:aD)=>(bif (decide ((IntKind.wrap .i64 ((s33.length:Int) - 1))≥0)) then ((idx s33 (IntKind.wrap .i64 ((s33.length:Int) - 1))).bind fun(x86:Int)=>some (decide (x79.X0≤x86))) else (some false)).bind fun(s84:Bool)=>(bif s84 then ((idx s33 (IntKind.wrap .i64 ((s33.length:Int) - 1))).bind fun(x94:Int)=>(idx s33 (IntKind.wrap .i64 ((s33.length:Int) - 1))).bind fun(x95:Int)=>some (s33.set (Int.toNat (IntKind.wrap .i64 ((s33.length:Int) - 1))) (if x94<x79.X1 then x79.X1 else x94))) else ((app 8 s33 ([x79.X0,x79.X1]: (List Int))).bind fun(x97: (List Int))=>some x97)).bind fun(s92: (List Int))=>some s92:Option ((List Int))))
    (fun k out=>En out m k) (by omega) ⟨.inl ⟨rfl,rfl⟩,fun x=>rfl,by simp,fun c hc=>by cases hc⟩ (fun k out hk ⟨i1,i2,i3,i4⟩=>by
      have hx:m[k]? =some m[k]:=List.getElem?_eq_getElem hk
      have hr:=hmok _ (List.getElem_mem hk)
      rw [gU hx,aB]
      have hts:m.take (k+1)=m.take k++[m[k]]:=List.take_succ_eq_append_getElem hk
      rcases i1 with ⟨rfl,rfl⟩ | ⟨A,s,e,rfl,hA,hAs,hAe,hse,j,r,hj,hjr,hsr⟩
      · rw [show decide (IntKind.wrap .i64 (((([]:List Int).length:Nat):Int) - 1)≥0)=false by decide,cond_false,aB,cond_false,eR (by simp),aB,aB]
        refine⟨_,rfl, .inr ⟨[],_,_,rfl,List.Pairwise.nil,fun c hc=>by simp at hc,rfl,hr.x,0,m[0],by omega,hx,rfl⟩,fun x=>?_,by simp,fun c hc=>⟨m[0],List.getElem_mem hk,by simpa using hc⟩⟩
        rw [hts,qu,←i2 x]
        exact pq (l:=[]) (fun c hc=>by simp at hc) rfl hr.x x
      · have hlen: (A++[s,e]).length=A.length+2:=by simp
        have hwp:IntKind.wrap .i64 ((((A++[s,e]).length:Nat):Int) - 1)= ((A.length+1:Nat):Int):=by rw [vo (by omega) (by omega),hlen];rfl
        have hlast: (A++[s,e])[A.length+1]? =some e:=by rw [List.getElem?_append_right (by omega)];simp
        have hs:s≤m[k].X0:=by
          have:=List.pairwise_iff_getElem.1 h3 j k (by have:=(List.getElem?_eq_some_iff.1 hjr).1;omega) hk hj
          rw [hsr,←(List.getElem?_eq_some_iff.1 hjr).2];omega
        rw [hwp,decide_eq_true (by omega),cond_true,gU hlast,aB,aB]
        by_cases hc:m[k].X0≤e
        · rw [decide_eq_true hc,cond_true,aB,aB,aB,Int.toNat_natCast]
          have iE: (A++[s,e]).set (A.length+1) (if e<m[k].X1 then m[k].X1 else e)=A++[s,max e m[k].X1]:=by
            rw [List.set_append_right _ _ (by omega)]
            have:A.length+1 - A.length=1:=by omega
            rw [this,Int.max_def]
            simp only [List.set_cons_succ,List.set_cons_zero]
            congr 2
            split <;> split <;> simp <;> omega
          rw [iE]
          refine⟨_,rfl, .inr ⟨A,s,_,rfl,hA,hAs,hAe,by omega,j,r,by omega,hjr,hsr⟩,fun x=>?_,by simp at i3 ⊢;omega,fun c hc=>by
            rcases List.mem_append.1 hc with h | h
            · exact i4 c (List.mem_append_left _ h)
            · simp at h
              rcases h with h | h
              · exact i4 c (by simp [h])
              · rw [Int.max_def] at h
                split at h
                · exact⟨_,List.getElem_mem hk, .inr h⟩
                · exact i4 c (by simp [h])⟩
          rw [hts,qu,←i2 x]
          exact zp hAs hAe hse hs hc hr.x x
        · rw [decide_eq_false hc,cond_false,eR (by rw [hlen];simp;omega),aB,aB]
          have hall: ∀c∈A++[s,e],c<m[k].X0:=fun c hc'=>by
            rcases List.mem_append.1 hc' with h | h
            · have:=hAs c h;omega
            · simp at h;omega
          refine⟨_,rfl, .inr ⟨A++[s,e],_,_,rfl,hA.snoc hAs hse,hall,by rw [hlen];omega,hr.x,k,m[k],by omega,hx,rfl⟩,fun x=>?_,by simp at i3 ⊢;omega,fun c hc=>by
            rcases List.mem_append.1 hc with h | h
            · exact i4 c h
            · exact⟨m[k],List.getElem_mem hk,by simpa using h⟩⟩
          rw [hts,qu,←i2 x]
          exact pq hall (by rw [hlen];omega) hr.x x)
  rw [a1,aB]
  refine⟨out,m,rfl,h2,?_,?_,fun x=>?_,by rw [←hml];exact a2.len,fun c hc=>by obtain⟨r,hr,h⟩:=a2.mem c hc;exact⟨r,h2.subset hr,h⟩⟩
  · rcases a2.row with ⟨_,h⟩ | ⟨A,s,e,rfl,hA,hAs,hAe,hse,_⟩
    · rw [h];exact List.Pairwise.nil
    · exact hA.snoc hAs hse
  · rcases a2.row with ⟨_,h⟩ | ⟨A,s,e,rfl,hA,hAs,hAe,hse,_⟩
    · rw [h];rfl
    · simp;omega
  · rw [a2.kE x,List.take_length,Bool.eq_iff_iff,rW,rW]
    constructor
    · rintro⟨r,hr,h⟩;exact⟨r,h2.subset hr,h⟩
    · rintro⟨r,hr,h⟩;exact⟨r,h2.symm.subset hr,h⟩
theorem xV {l m:List Int} (hl:l.length≤4611686018427387904):g9 N l m=some (decide (l=m)):=tj hl
theorem xe {s:List aA} {b:aA} (hs:s.length≤1048576000) (hx: ∀c∈s,c.Xs.length≤1048576000): ∃s',eF N s b=some s'∧s'.map bG=pushB (s.map bG) (bG b):=by
  unfold eF pushB
  by_cases h0:b.Xs= []∨b.Y1≤b.Y0
  · have e: ((((b.Xs.length:Nat):Int)==0)||(decide (b.Y1≤b.Y0)))=true:=by
      rw [Bool.or_eq_true]
      rcases h0 with h | h
      · left;rw [h];rfl
      · right;exact decide_eq_true h
    rw [e,cond_true,if_pos (show (bG b).xs= []∨(bG b).y1≤(bG b).y0 from h0)]
    exact⟨s,rfl,rfl⟩
  · have e: ((((b.Xs.length:Nat):Int)==0)||(decide (b.Y1≤b.Y0)))=false:=by
      rw [Bool.or_eq_false_iff]
      constructor
      · rw [beq_eq_false_iff_ne];intro h;exact h0 (.inl (List.eq_nil_of_length_eq_zero (by omega)))
      · exact decide_eq_false fun h=>h0 (.inr h)
    rw [e,cond_false,if_neg (show ¬((bG b).xs= []∨(bG b).y1≤(bG b).y0) from h0)]
    rcases List.eq_nil_or_concat s with rfl | ⟨A,c,hA⟩
    · rw [show decide (IntKind.wrap .i64 (((([]:List aA).length:Nat):Int) - 1)≥0)=false by decide,cond_false,aB,cond_false,eR (by simp),aB]
      exact⟨_,rfl,rfl⟩
    · rw [List.concat_eq_append] at hA
      subst hA
      have hlen: (A++[c]).length=A.length+1:=by simp
      have hwp:IntKind.wrap .i64 ((((A++[c]).length:Nat):Int) - 1)= ((A.length:Nat):Int):=by rw [vo (by omega) (by omega),hlen];rfl
      have hlast: (A++[c])[A.length]? =some c:=by simp
      rw [hwp,decide_eq_true (by omega),cond_true,gU hlast,aB,aB,xV (by have:=hx c (by simp);omega),aB,aB,Int.toNat_natCast,eR (by rw [hlen];simp;omega),aB]
      have hl2: ((A++[c]).map bG).getLast? =some (bG c):=by simp
      have hd2: ((A++[c]).map bG).dropLast=A.map bG:=by simp
      rw [hl2,hd2]
      dsimp only
      by_cases h1:c.Y1=b.Y0∧c.Xs=b.Xs
      · rw [if_pos (show (bG c).y1= (bG b).y0∧(bG c).xs= (bG b).xs from h1),show (c.Y1==b.Y0)=true by rw [h1.1];simp,cond_true,decide_eq_true h1.2,aB,cond_true]
        refine⟨_,rfl,?_⟩
        rw [List.set_append_right _ _ (Nat.le_refl _),Nat.sub_self]
        simp [bG]
      · rw [if_neg (show ¬((bG c).y1= (bG b).y0∧(bG c).xs= (bG b).xs) from h1)]
        have e2: (bif (c.Y1==b.Y0) then (some (decide (c.Xs=b.Xs))) else (some false))=some false:=by
          by_cases h2:c.Y1=b.Y0
          · rw [show (c.Y1==b.Y0)=true by rw [h2];simp,cond_true,decide_eq_false (fun h=>h1 ⟨h2,h⟩)]
          · rw [show (c.Y1==b.Y0)=false by simpa using h2,cond_false]
        rw [e2,aB,cond_false]
        exact⟨_,rfl,by simp⟩
end
end Go.Gk
namespace Go.Gk
open Go
end Go.Gk
namespace Go.Gk
open Go
end Go.Gk
namespace Go.Gk
open Go
def Ok {β:Type} (o:Option β) (P:β→Prop):Prop:=∃r,o=some r∧P r
section
variable {α β S R:Type} {P:α→Prop} {Q:β→Prop}
theorem Ok.ret {x:β} (h:Q x):Ok (some x) Q:=⟨x,rfl,h⟩
theorem Ok.of {o:Option β} {x:β} (h:o=some x) (hq:Q x):Ok o Q:=⟨x,h,hq⟩
theorem Ok.mono {o:Option α} {P':α→Prop} (h:Ok o P) (k: ∀x,P x→P' x):Ok o P':=by obtain⟨x,h1,h2⟩:=h;exact⟨x,h1,k x h2⟩
theorem Ok.bind {o:Option α} {f:α→Option β} (h:Ok o P) (k: ∀x,P x→Ok (f x) Q):Ok (o.bind f) Q:=by
  obtain⟨x,h1,h2⟩:=h;rw [h1];exact k x h2
theorem Ok.eq {o:Option α} {f:α→Option β} {x:α} (h:o=some x) (k:Ok (f x) Q):Ok (o.bind f) Q:=by rw [h];exact k
theorem Ok.bif {b:Bool} {x y:Option β} (ht:b=true→Ok x Q) (hf:b=false→Ok y Q):Ok (bif b then x else y) Q:=by
  cases b with
  | true=>exact ht rfl
  | false=>exact hf rfl
theorem Ok.get {o:Option β} {x:β} (h:Ok o (fun r=>r=x)):o=some x:=by obtain⟨r,h1,h2⟩:=h;rw [h1,h2]
def CV (Go:S→Prop) (Rt:R→Prop):Fo S R→Prop | .go s=>Go s | .rt r=>Rt r
def BO (Nx Br:S→Prop) (Rt:R→Prop):Fl S R→Prop | .nx s=>Nx s | .br s=>Br s | .rt r=>Rt r
theorem Ok.nx {Nx Br:S→Prop} {Rt:R→Prop} {s:S} (h:Nx s):Ok (some (Fl.nx s)) (BO Nx Br Rt):=⟨_,rfl,h⟩
theorem Ok.br {Nx Br:S→Prop} {Rt:R→Prop} {s:S} (h:Br s):Ok (some (Fl.br s)) (BO Nx Br Rt):=⟨_,rfl,h⟩
theorem Ok.rt {Nx Br:S→Prop} {Rt:R→Prop} {r:R} (h:Rt r):Ok (some (Fl.rt r:Fl S R)) (BO Nx Br Rt):=⟨_,rfl,h⟩
theorem Ok.cs {Go:S→Prop} {Rt:R→Prop} {o:Fo S R} {f:S→Option β} {g:R→Option β} (h:CV Go Rt o) (hf: ∀s,Go s→Ok (f s) Q) (hg: ∀r,Rt r→Ok (g r) Q):Ok (o.cs f g) Q:=by
  cases o with
  | go s=>exact hf s h
  | rt r=>exact hg r h
theorem Ok.gZ {body:Nat→S→Option S} {m:Nat} {s:S} (Inv:Nat→S→Prop) (hm:m≤4611686018427387904) (h0:Inv 0 s) (h: ∀k s,k<m→Inv k s→Ok (body k s) (Inv (k+1))):Ok (gZ m body s) (Inv m):=
  rh Inv hm h0 h
theorem Ok.mx {body:Nat→S→Option (Fl S R)} {m:Nat} {s:S} (Inv:Nat→S→Prop) {Go:S→Prop} {Rt:R→Prop} (hm:m≤4611686018427387904) (h0:Inv 0 s)
    (h: ∀k s,k<m→Inv k s→Ok (body k s) (BO (Inv (k+1)) Go Rt)) (hg: ∀s,Inv m s→Go s):Ok (mx m body s) (CV Go Rt):=by
  obtain⟨o,h1,h2⟩:=Ay (R:=R) Inv Go Rt hm h0 (fun k s hk hi=>by
    obtain⟨fl,a1,a2⟩:=h k s hk hi
    exact⟨fl,a1,by cases fl <;> exact a2⟩) hg
  exact⟨o,h1,by cases o <;> exact h2⟩
theorem Ok.itr {body:S→Option (Fl S R)} {N:Nat} {s:S} (Inv:S→Prop) (μ:S→Nat) {Go:S→Prop} {Rt:R→Prop}
    (h: ∀s,Inv s→Ok (body s) (BO (fun s'=>Inv s'∧μ s'<μ s) Go Rt)) (hi:Inv s) (hn:μ s<N):Ok (itr body N s) (CV Go Rt):=by
  obtain⟨o,h1,h2⟩:=itr_inv (R:=R) Inv μ Go Rt (fun s hi=>by
    obtain⟨fl,a1,a2⟩:=h s hi
    exact⟨fl,a1,by cases fl <;> exact a2⟩) N s hi hn
  exact⟨o,h1,by cases o <;> exact h2⟩
theorem Ok.app {b:Nat} {l ys:List α} {f:List α→Option β} (h: (l.length+ys.length)*b≤140737488355328) (k:Ok (f (l++ys)) Q):Ok ((Go.Gk.app b l ys).bind f) Q:=by rw [eR h];exact k
theorem Ok.idx {l:List α} {i:Nat} {f:α→Option β} (h:i<l.length) (k:Ok (f l[i]) Q):Ok ((Go.Gk.idx l ((i:Nat):Int)).bind f) Q:=by rw [fN l i h];exact k
theorem Ok.ix {l:List α} {i:Nat} {x:α} {f:α→Option β} (h:l[i]? =some x) (k:Ok (f x) Q):Ok ((Go.Gk.idx l ((i:Nat):Int)).bind f) Q:=by rw [gU h];exact k
end
theorem vq {n:Nat} (h:n≤4611686018427387904):IntKind.wrap .i64 ((n:Nat):Int)= ((n:Nat):Int):=dD (by omega) (by omega)
theorem wrap_add {n m:Nat} (h:n+m≤4611686018427387904):IntKind.wrap .i64 (((n:Nat):Int)+ ((m:Nat):Int))= ((n+m:Nat):Int):=by rw [dD (by omega) (by omega)];simp
theorem dN {n:Nat} (h:n+1≤4611686018427387904):IntKind.wrap .i64 (((n:Nat):Int)+1)= ((n+1:Nat):Int):=by rw [dD (by omega) (by omega)];simp
theorem tr {n:Nat} (h:n+2≤4611686018427387904):IntKind.wrap .i64 (((n:Nat):Int)+2)= ((n+2:Nat):Int):=by rw [dD (by omega) (by omega)];simp
theorem fz {α:Type} [DecidableEq α]: ∀{l m:List α},l.Nodup→(∀x∈l,x∈m)→l.length≤m.length
  | [],m,_,_=>Nat.zero_le _
  | a::l,m,hn,hs=>by
    have ha:a∈m:=hs a (by simp)
    have hn':=List.nodup_cons.1 hn
    have:=fz (l:=l) (m:=m.erase a) hn'.2 (fun x hx=>by
      rw [List.mem_erase_of_ne (fun e=>hn'.1 (by rw [←e];exact hx))]
      exact hs x (List.mem_cons_of_mem _ hx))
    rw [List.length_erase_of_mem ha] at this
    have:=List.length_pos_of_mem ha
    simp;omega
section
variable {α:Type} {N:Nat}
def CI (z:α) (N:Nat) (p0:List α) (p1:α→Option Bool):Option (List α):=
  (lR p0 p1).bind fun(x31:Int)=>bif (x31==(-1)) then (some p0) else ((itr (fun(s33: (List α)×Int×Int)=>(bif (decide (s33.2.2< (s33.1.length:Int))) then ((idx s33.1 s33.2.2).bind fun(x54:α)=>(p1 x54).bind fun(x58:Bool)=>(bif (!x58) then ((idx s33.1 s33.2.1).bind fun(x63:α)=>some ((s33.1.set (Int.toNat s33.2.1) x54),(IntKind.wrap .i64 (s33.2.1+1)))) else (some (s33.1,s33.2.1))).bind fun(s61: (List α)×Int)=>some (.nx (s61.1,s61.2,(IntKind.wrap .i64 (s33.2.2+1))))) else (some (.br (s33.1,s33.2.1,s33.2.2))):Option (Fl ((List α)×Int×Int) Empty))) N (p0,x31,(IntKind.wrap .i64 (x31+1)))).bind fun(o67:Fo ((List α)×Int×Int) Empty)=>o67.cs (fun(s33: (List α)×Int×Int)=>(oI s33.1 s33.2.1 (s33.1.length:Int)).bind fun(x64: (List α))=>(oI (s33.1.take (Int.toNat s33.2.1)++List.replicate (s33.1.length - Int.toNat s33.2.1) z) 0 s33.2.1).bind fun(x65: (List α))=>some x65) (fun r=>r.elim))
theorem zq {z:α} {l:List α} {φ:α→Option Bool} (p:α→Bool) (hφ: ∀x∈l,φ x=some (p x)) (hl:l.length≤4611686018427387000) (hN:l.length<N):CI z N l φ=some (l.filter (fun x=> !p x)):=by
  unfold CI
  rw [kR p (by omega) hφ,aB]
  rcases qd l p with ⟨h1,h2⟩ | ⟨k,x,h1,h2,h3,h4⟩
  · rw [h1]
    have:l.filter (fun x=> !p x)=l:=List.filter_eq_self.2 fun a ha=>by rw [h2 a ha];rfl
    rw [this];rfl
  · rw [h1,show (((k:Nat):Int)== -1)=false by simp,cond_false]
    have hk:=(List.getElem?_eq_some_iff.1 h2).1
    have hpre: (l.take k).filter (fun x=> !p x)=l.take k:=List.filter_eq_self.2 fun a ha=>by
      obtain⟨j,hj⟩:=List.getElem?_of_mem ha
      have hjk:j<k:=by have:=(List.getElem?_eq_some_iff.1 hj).1;rw [List.length_take] at this;omega
      rw [List.getElem?_take_of_lt hjk] at hj
      rw [h4 j a hjk hj];rfl
    have hst:l.take (k+1)=l.take k++[x]:=by
      rw [List.take_succ_eq_append_getElem hk];congr 1
      have:=(List.getElem?_eq_some_iff.1 h2).2;rw [this]
    have hk1:IntKind.wrap .i64 (((k:Nat):Int)+1)= ((k+1:Nat):Int):=by rw [dD (by omega) (by omega)];omega
    rw [hk1]
    obtain⟨o,a1,a2⟩:=itr_inv (S:=(List α)×Int×Int) (R:=Empty) (body:=fun(s33: (List α)×Int×Int)=>(bif (decide (s33.2.2< (s33.1.length:Int))) then ((idx s33.1 s33.2.2).bind fun(x54:α)=>(φ x54).bind fun(x58:Bool)=>(bif (!x58) then ((idx s33.1 s33.2.1).bind fun(x63:α)=>some ((s33.1.set (Int.toNat s33.2.1) x54),(IntKind.wrap .i64 (s33.2.1+1)))) else (some (s33.1,s33.2.1))).bind fun(s61: (List α)×Int)=>some (.nx (s61.1,s61.2,(IntKind.wrap .i64 (s33.2.2+1))))) else (some (.br (s33.1,s33.2.1,s33.2.2))):Option (Fl ((List α)×Int×Int) Empty)))
      (fun s=>∃i j:Nat,s.2.1= ((i:Nat):Int)∧s.2.2= ((j:Nat):Int)∧i<j∧j≤l.length∧s.1.length=l.length∧s.1.take i= (l.take j).filter (fun x=> !p x)∧∀m,j≤m→s.1[m]? =l[m]?)
      (fun s=>l.length - s.2.2.toNat) (fun s=>∃i:Nat,s.2.1= ((i:Nat):Int)∧i≤l.length∧s.1.length=l.length∧s.1.take i=l.filter (fun x=> !p x)) (fun _=>True) (fun s ⟨i,j,e1,e2,hij,hj,hlen,ht,hd⟩=>by
        obtain⟨s,a,b⟩:=s
        dsimp only at e1 e2 hlen ht hd ⊢
        subst e1;subst e2
        by_cases hlt:j<l.length
        · rw [decide_eq_true (by rw [hlen];omega),cond_true]
          have hx:s[j]? =some l[j]:=by rw [hd j (Nat.le_refl _)];exact List.getElem?_eq_getElem hlt
          have w1:IntKind.wrap .i64 (((j:Nat):Int)+1)= ((j+1:Nat):Int):=by rw [dD (by omega) (by omega)];omega
          have w2:IntKind.wrap .i64 (((i:Nat):Int)+1)= ((i+1:Nat):Int):=by rw [dD (by omega) (by omega)];omega
          have hs2:l.take (j+1)=l.take j++[l[j]]:=List.take_succ_eq_append_getElem hlt
          rw [gU hx,aB,hφ _ (List.getElem_mem hlt),aB,w1]
          cases hp:p l[j] with
          | true=>
            refine⟨.nx (s,((i:Nat):Int),((j+1:Nat):Int)),by rw [Bool.not_true,cond_false,aB],⟨i,j+1,rfl,rfl,by omega,by omega,hlen,?_,fun m hm=>hd m (by omega)⟩,?_⟩
            · rw [hs2,List.filter_append,ht];simp [hp]
            · simp only [Int.toNat_natCast];omega
          | false=>
            refine⟨.nx (s.set i l[j],((i+1:Nat):Int),((j+1:Nat):Int)),by rw [Bool.not_false,cond_true,fN _ _ (by omega),aB,Int.toNat_natCast,w2,aB],⟨i+1,j+1,rfl,rfl,by omega,by omega,by simp [hlen],?_,fun m hm=>?_⟩,?_⟩
            · rw [hs2,List.filter_append,←ht]
              have: (s.set i l[j]).take (i+1)=s.take i++[l[j]]:=by
                rw [List.take_succ_eq_append_getElem (by simp;omega),List.take_set_of_le (Nat.le_refl _)];simp
              rw [this];simp [hp]
            · rw [List.getElem?_set,if_neg (by omega)];exact hd m (by omega)
            · simp only [Int.toNat_natCast];omega
        · rw [decide_eq_false (by rw [hlen];omega),cond_false]
          have hje:j=l.length:=by omega
          subst hje
          rw [List.take_length] at ht
          exact⟨.br (s,((i:Nat):Int),((l.length:Nat):Int)),rfl,i,rfl,by omega,hlen,ht⟩)
      N (l,((k:Nat):Int),((k+1:Nat):Int)) ⟨k,k+1,rfl,rfl,by omega,by omega,rfl,by rw [hst,List.filter_append,hpre];simp [h3],fun _ _=>rfl⟩ (by simp only [Int.toNat_natCast];omega)
    rw [a1,aB]
    cases o with
    | rt r=>exact r.elim
    | go s=>
      obtain⟨i,e1,hi,hlen,ht⟩:=a2
      obtain⟨s,a,b⟩:=s
      dsimp only at e1 hlen ht
      subst e1
      simp only [Fo.cs]
      rw [oX _ _ (by omega),aB,Int.toNat_natCast,oW _ _ (by simp;omega),aB,List.take_append_of_le_length (by simp;omega),List.take_take,Nat.min_self,ht]
end
section
variable {κ ν:Type} [DecidableEq κ]
theorem qw (m:List (κ×ν)) (k k':κ) (x z:ν):mget (mput m k x) k' z=if k'=k then x else mget m k' z:=by
  induction m with
  | nil=>unfold mput mget;by_cases h:k'=k <;> simp [h]
  | cons p m ih=>
    unfold mput
    by_cases h:k=p.1
    · rw [if_pos h]
      by_cases h':k'=k
      · subst h';simp [mget]
      · simp only [mget,List.find?_cons,if_neg h',decide_eq_false h']
        rw [decide_eq_false (fun e=>h' (e.trans h.symm))]
    · rw [if_neg h]
      by_cases h':k'=p.1
      · have:k'≠k:=fun e=>h (e.symm.trans h')
        simp only [mget,List.find?_cons,decide_eq_true h',if_neg this]
      · unfold mget at ih ⊢
        simp only [List.find?_cons,decide_eq_false h']
        exact ih
theorem xW (m:List (κ×ν)) (k k':κ) (x:ν):ma (mput m k x) k'= (decide (k'=k)||ma m k'):=by
  induction m with
  | nil=>unfold mput ma;simp
  | cons p m ih=>
    unfold mput
    by_cases h:k=p.1
    · rw [if_pos h]
      by_cases h':k'=k
      · simp [ma,h']
      · simp only [ma,List.any_cons,decide_eq_false h',Bool.false_or]
        rw [decide_eq_false (fun e=>h' (e.trans h.symm)),Bool.false_or]
    · rw [if_neg h]
      unfold ma at ih ⊢
      simp only [List.any_cons]
      rw [ih]
      cases decide (k'=p.1) <;> cases decide (k'=k) <;> simp
end
end Go.Gk
namespace Go.Gk
open Go
section
variable {N:Nat}
theorem rX (l:List Int) (a b:Nat) (h:a+b<l.length):vW l ((a:Nat):Int) ((b:Nat):Int)=some l[a+b]:=by
  unfold vW
  rw [if_pos (by omega),show ((a:Nat):Int)+ ((b:Nat):Int)= ((a+b:Nat):Int) by omega,fN _ _ h]
theorem jE.zu {l:List Int} {a:Int} (h:jE l) (hl: ∀c∈l,c<a):jE (l++[a]):=by
  unfold jE
  rw [List.pairwise_append]
  exact⟨h,List.pairwise_singleton _ _,fun c hc d hd=>by simp at hd;subst hd;exact hl c hc⟩
theorem jE.last {l:List Int} {a:Int} (h:jE l) (hl:l.getLast? =some a): ∀c∈l,c≤a:=by
  intro c hc
  have hs:=oy hl
  rw [hs] at h hc
  rcases List.mem_append.1 hc with h1 | h1
  · have:=(List.pairwise_append.1 h).2.2 c h1 a (by simp);omega
  · simp at h1;omega
theorem ug {l:List Int} (hs:l.Pairwise (fun x y=>x≤y)) (hl:l.length≤4611686018427387000) (hN:l.length<N):
    Ok (dF N l) (fun m=>jE m∧∀c,c∈m↔c∈l):=by
  unfold dF
  refine Ok.bif (fun h2=>Ok.ret ⟨?_,fun c=>Iff.rfl⟩) (fun h2=>?_)
  · have h2:=of_decide_eq_true h2
    match l,h2 with
    | [],_=>exact List.Pairwise.nil
    | [a],_=>exact List.pairwise_singleton _ _
    | a::b::l,h2=>simp at h2;omega
  · have h2:=of_decide_eq_false h2
    have le: ∀(i j:Nat) (x y:Int),i<j→l[i]? =some x→l[j]? =some y→x≤y:=fun i j x y hij hx hy=>by
      have:=List.pairwise_iff_getElem.1 hs i j (List.getElem?_eq_some_iff.1 hx).1 (List.getElem?_eq_some_iff.1 hy).1 hij
      rw [(List.getElem?_eq_some_iff.1 hx).2,(List.getElem?_eq_some_iff.1 hy).2] at this;exact this
    refine Ok.bind (Ok.itr (Go:=fun _=>jE l) (Rt:=fun m=>jE m∧∀c,c∈m↔c∈l) (fun s=>∃k:Nat,s= ((k:Nat):Int)∧1≤k∧k≤l.length∧jE (l.take k)) (fun s=>l.length - s.toNat) ?_ ⟨1,rfl,Nat.le_refl _,by omega,?_⟩ (by simp;omega)) ?_
    · rintro s ⟨k,rfl,hk1,hkl,hinc⟩
      refine Ok.bif (fun h=>?_) (fun h=>Ok.br ?_)
      · have hk:k<l.length:=by have:=of_decide_eq_true h;omega
        refine Ok.idx hk ?_
        rw [jm hk1 (by omega)]
        refine Ok.idx (by omega) ?_
        refine Ok.bif (fun he=>?_) (fun he=>?_)
        · have he:l[k]=l[k - 1]:=by simpa using he
          refine Ok.eq (oX l k hkl) ?_
          refine Ok.bind (Ok.itr (Go:=fun s=>∃i:Nat,s.2.1= ((i:Nat):Int)∧i≤l.length∧s.1.length=l.length∧jE (s.1.take i)∧∀c,c∈s.1.take i↔c∈l) (Rt:=fun _=>True)
            (fun s=>∃i j:Nat,s.2.1= ((i:Nat):Int)∧s.2.2= ((j:Nat):Int)∧1≤j∧k+j≤l.length∧i≤k+j - 1∧s.1.length=l.length∧jE (s.1.take i)∧(s.1.take i).getLast? =l[k+j - 1]? ∧
              (∀c,c∈s.1.take i↔c∈l.take (k+j))∧∀m,k+j - 1≤m→s.1[m]? =l[m]?) (fun s=>l.length - s.2.2.toNat) ?_ ?_ (by simp;omega)) ?_
          · rintro⟨u,a,b⟩ ⟨i,j,e1,e2,hj,hjl,hij,hlen,hi,hlast,hmem,hrest⟩
            dsimp only at e1 e2 hlen hi hlast hmem hrest ⊢
            subst e1;subst e2
            rw [Int.toNat_natCast]
            refine Ok.bif (fun h=>?_) (fun h=>Ok.br ?_)
            · have hlt:k+j<l.length:=by have:=of_decide_eq_true h;omega
              have hx:u[k+j]'(by omega)=l[k+j]:=by have:=hrest (k+j) (by omega);rw [List.getElem?_eq_getElem (by omega),List.getElem?_eq_getElem hlt] at this;injection this
              have hy:u[k+ (j - 1)]'(by omega)=l[k+ (j - 1)]:=by have:=hrest (k+ (j - 1)) (by omega);rw [List.getElem?_eq_getElem (by omega),List.getElem?_eq_getElem (by omega)] at this;injection this
              refine Ok.eq (rX u k j (by omega)) ?_
              rw [jm hj (by omega)]
              refine Ok.eq (rX u k (j - 1) (by omega)) ?_
              rw [hx,hy]
              have hts:l.take (k+j+1)=l.take (k+j)++[l[k+j]]:=List.take_succ_eq_append_getElem hlt
              have hlast': (u.take i).getLast? =some l[k+ (j - 1)]:=by rw [hlast,show k+j - 1=k+ (j - 1) by omega,List.getElem?_eq_getElem (by omega)]
              have hxy:l[k+ (j - 1)]≤l[k+j]:=le (k+ (j - 1)) (k+j) _ _ (by omega) (List.getElem?_eq_getElem _) (List.getElem?_eq_getElem _)
              refine Ok.bind (P:=fun s'=>s'.1.length=l.length∧∃i':Nat,s'.2= ((i':Nat):Int)∧i'≤k+j∧jE (s'.1.take i')∧(s'.1.take i').getLast? =l[k+j]? ∧(∀c,c∈s'.1.take i'↔c∈l.take (k+j+1))∧∀m,k+j≤m→s'.1[m]? =l[m]?) ?_ ?_
              · refine Ok.bif (fun hne=>?_) (fun hne=>Ok.ret ?_)
                · have hne:l[k+j]≠l[k+ (j - 1)]:=by simpa using hne
                  refine Ok.eq (rX u k j (by omega)) ?_
                  rw [hx]
                  refine Ok.idx (by omega) (Ok.ret ⟨by simp [hlen],i+1,?_,by omega,?_⟩)
                  · rw [dN (by omega)]
                  · dsimp only
                    rw [Int.toNat_natCast]
                    have ht: (u.set i l[k+j]).take (i+1)=u.take i++[l[k+j]]:=by
                      rw [List.take_succ_eq_append_getElem (by simp;omega),List.take_set_of_le (Nat.le_refl _)];simp
                    rw [ht]
                    refine⟨hi.zu fun c hc=>?_,by simp [List.getElem?_eq_getElem hlt],fun c=>?_,fun m hm=>?_⟩
                    · have:=hi.last hlast' c hc;omega
                    · rw [hts,List.mem_append,List.mem_append,hmem]
                    · rw [List.getElem?_set,if_neg (by omega)];exact hrest m (by omega)
                · have he:l[k+j]=l[k+ (j - 1)]:=by simpa using hne
                  refine⟨hlen,i,rfl,by omega,hi,?_,fun c=>?_,fun m hm=>hrest m (by omega)⟩
                  · dsimp only;rw [hlast',List.getElem?_eq_getElem hlt,he]
                  · rw [hts,List.mem_append,←hmem]
                    constructor
                    · exact .inl
                    · rintro(h | h)
                      · exact h
                      · simp at h;subst h
                        rw [he];exact List.mem_of_getLast? hlast'
              · rintro⟨v,a⟩ ⟨g1,i',g2,g3,g4,g5,g6,g7⟩
                dsimp only at g1 g2 g4 g5 g6 g7 ⊢
                refine Ok.nx ⟨⟨i',j+1,g2,?_,by omega,by omega,by omega,g1,g4,?_,g6,fun m hm=>g7 m (by omega)⟩,?_⟩
                · rw [dN (by omega)]
                · rw [show k+ (j+1) - 1=k+j by omega];exact g5
                · rw [dN (by omega)];simp only [Int.toNat_natCast];omega
            · have hge:k+j=l.length:=by have:=of_decide_eq_false h;omega
              refine⟨i,rfl,by omega,hlen,hi,fun c=>?_⟩
              rw [hmem,hge,List.take_length]
          · refine⟨k,1,rfl,rfl,Nat.le_refl _,by omega,by omega,rfl,hinc,?_,fun c=>?_,fun m _=>rfl⟩
            · dsimp only
              rw [show k+1 - 1=k by omega,List.getElem?_eq_getElem hk,he,List.getLast?_eq_getElem?,List.length_take,Nat.min_eq_left hkl,List.getElem?_take_of_lt (by omega),List.getElem?_eq_getElem (by omega)]
            · dsimp only
              rw [List.take_succ_eq_append_getElem hk,List.mem_append]
              constructor
              · exact .inl
              · rintro(h | h)
                · exact h
                · simp at h;subst h;rw [he]
                  refine List.mem_of_getElem? (i:=k - 1) ?_
                  rw [List.getElem?_take_of_lt (by omega),List.getElem?_eq_getElem (by omega)]
          · rintro o ho
            refine Ok.cs ho ?_ (fun r=>r.elim)
            rintro⟨u,a,b⟩ ⟨i,e1,hi,hlen,hinc',hmem⟩
            dsimp only at e1 hlen hinc' hmem ⊢
            subst e1
            refine Ok.eq (oX u i (by omega)) ?_
            rw [Int.toNat_natCast]
            refine Ok.eq (oW _ i (by simp;omega)) (Ok.rt ?_)
            rw [List.take_append_of_le_length (by simp;omega),List.take_take,Nat.min_self]
            exact⟨hinc',hmem⟩
        · have he:l[k]≠l[k - 1]:=by simpa using he
          refine Ok.nx ⟨⟨k+1,by rw [dN (by omega)],by omega,by omega,?_⟩,by rw [dN (by omega)];simp only [Int.toNat_natCast];omega⟩
          rw [List.take_succ_eq_append_getElem hk]
          refine hinc.zu fun c hc=>?_
          have hlast: (l.take k).getLast? =some l[k - 1]:=by
            rw [List.getLast?_eq_getElem?,List.length_take,Nat.min_eq_left hkl,List.getElem?_take_of_lt (by omega),List.getElem?_eq_getElem (by omega)]
          have h3:=hinc.last hlast c hc
          have h4:=le (k - 1) k _ _ (by omega) (List.getElem?_eq_getElem (by omega:k - 1<l.length)) (List.getElem?_eq_getElem hk)
          omega
      · have hge:k=l.length:=by have:=of_decide_eq_false h;omega
        subst hge;rw [List.take_length] at hinc;exact hinc
    · match l,h2 with
      | [],h2=>simp at h2
      | a::l,_=>exact List.pairwise_singleton _ _
    · rintro o ho
      exact Ok.cs ho (fun s h=>Ok.ret ⟨h,fun c=>Iff.rfl⟩) (fun r h=>Ok.ret h)
def nR (l:List aD):List Int:=l.flatMap fun r=>[r.X0,r.X1]
def jd (l:List aD):List Int:=l.flatMap fun r=>[r.Y0,r.Y1]
theorem pw {l:List aD} {c:Int}:c∈nR l↔∃r∈l,c=r.X0∨c=r.X1:=by unfold nR;simp [List.mem_flatMap]
theorem i6 {l:List aD} {c:Int}:c∈jd l↔∃r∈l,c=r.Y0∨c=r.Y1:=by unfold jd;simp [List.mem_flatMap]
theorem iv (l:List aD): (nR l).length=2*l.length:=by
  induction l with
  | nil=>rfl
  | cons r l ih=>unfold nR at *;simp [List.flatMap_cons,ih];omega
theorem fY (l:List aD): (jd l).length=2*l.length:=by
  induction l with
  | nil=>rfl
  | cons r l ih=>unfold jd at *;simp [List.flatMap_cons,ih];omega
def px (X Y:List Int) (s:List Bd):Prop:=∀b∈s,b.y0∈Y∧b.y1∈Y∧∀c∈b.xs,c∈X
theorem px.push {X Y:List Int} {s:List Bd} {b:Bd} (h:px X Y s) (h0:b.y0∈Y) (h1:b.y1∈Y) (h2: ∀c∈b.xs,c∈X):px X Y (pushB s b):=by
  intro c hc
  unfold pushB at hc
  split at hc
  · exact h c hc
  · split at hc
    · rename_i d hd
      have hdm:d∈s:=List.mem_of_getLast? hd
      split at hc
      · rcases List.mem_append.1 hc with hc | hc
        · exact h c (List.dropLast_subset _ hc)
        · simp at hc;subst hc;exact⟨(h d hdm).1,h1,(h d hdm).2.2⟩
      · rcases List.mem_append.1 hc with hc | hc
        · exact h c hc
        · simp at hc;subst hc;exact⟨h0,h1,h2⟩
    · simp at hc;subst hc;exact⟨h0,h1,h2⟩
theorem jE.nodup {l:List Int} (h:jE l):l.Nodup:=List.Pairwise.imp (fun h=>by omega) h
theorem px.row {X Y:List Int} {s:List Bd} (h:px X Y s) (hc:cV s) {b:Bd} (hb:b∈s):b.xs.length≤X.length:=fz (hc.each b hb).2.2.1.nodup (h b hb).2.2
theorem px.len {X Y:List Int} {s:List Bd} (h:px X Y s) (hc:cV s):s.length≤Y.length:=by
  have hn: (s.map Bd.y0).Nodup:=by
    unfold List.Nodup
    rw [List.pairwise_map]
    refine List.Pairwise.imp_of_mem (fun{a b} ha hb hab=>?_) hc.ord
    have:=(hc.each a ha).1
    have:=hab.1
    omega
  have:=fz hn (m:=Y) (fun x hx=>by
    obtain⟨b,hb,rfl⟩:=List.mem_map.1 hx
    exact(h b hb).1)
  rwa [List.length_map] at this
theorem px.mono {X Y X' Y':List Int} {s:List Bd} (h:px X Y s) (hx: ∀c∈X,c∈X') (hy: ∀c∈Y,c∈Y'):px X' Y' s:=fun b hb=>⟨hy _ (h b hb).1,hy _ (h b hb).2.1,fun c hc=>hx c ((h b hb).2.2 c hc)⟩
theorem jE.lt {l:List Int} (h:jE l) {i j:Nat} {x y:Int} (hij:i<j) (hx:l[i]? =some x) (hy:l[j]? =some y):x<y:=by
  have:=List.pairwise_iff_getElem.1 h i j (List.getElem?_eq_some_iff.1 hx).1 (List.getElem?_eq_some_iff.1 hy).1 hij
  rw [(List.getElem?_eq_some_iff.1 hx).2,(List.getElem?_eq_some_iff.1 hy).2] at this;exact this
theorem jE.next {l:List Int} (h:jE l) {k:Nat} {x y c:Int} (hx:l[k]? =some x) (hy:l[k+1]? =some y) (hc:c∈l) (hxc:x<c):y≤c:=by
  obtain⟨j,hj⟩:=List.getElem?_of_mem hc
  rcases Nat.lt_trichotomy j (k+1) with h1 | h1 | h1
  · exfalso
    by_cases e:j=k
    · subst e;rw [hx] at hj;injection hj with hj;omega
    · have:=h.lt (show j<k by omega) hj hx;omega
  · subst h1;rw [hy] at hj;injection hj with hj;omega
  · have:=h.lt h1 hy hj;omega
theorem oz {l:List aD} {φ:aD→Option Bool} (p:aD→Bool) (hφ: ∀x∈l,φ x=some (p x)) (hl:l.length≤4611686018427387000) (hN:l.length<N):dS N l φ=some (l.filter (fun x=> !p x)):=
  zq (z:=(⟨0,0,0,0⟩:aD)) p hφ hl hN
theorem sR {l:List aD} (hl:l.length≤268435456):eJ N l=some l:=by
  unfold eJ;rw [eR (by simp;omega),aB,List.nil_append]
structure CJ (l m:List aD) (ys:List Int) (k:Nat) (out:List aA) (now:List aD) (nx:Nat):Prop where
  can:cV (out.map bG)
  top: ∀c∈out,∀y,ys[k]? =some y→c.Y1≤y
  cover: ∀x y,ri (out.map bG) x y= (z5 l x y&&decide (∀a,ys[k]? =some a→y<a))
  lim:px (nR l) (jd l) (out.map bG)
  EN: ∀r∈now,r∈m.take nx
  EO: ∀r∈m.take nx,∀y,ys[k]? =some y→y<r.Y1→r∈now
  len:now.length≤nx
  Eo:nx≤m.length
  rest: ∀(j:Nat) r y,nx≤j→m[j]? =some r→ys[k]? =some y→y≤r.Y0
  low: ∀r∈now,∀y,ys[k]? =some y→r.Y0≤y
structure l9 (l:List aD) (s:List aA):Prop where
  can:cV (s.map bG)
  cover: ∀x y,ri (s.map bG) x y=z5 l x y
  lim:px (nR l) (jd l) (s.map bG)
theorem lW {l:List aD} (hl:l.length≤134217728) (hok: ∀r∈l,xd r) (hN:4294967296≤N):Ok (dJ N l) (l9 l):=by
  unfold dJ
  refine Ok.eq (sR (by omega)) ?_
  obtain⟨m,h1,h2,h3⟩:=rS (φ:=ff N) (l:=l) (fun a b=>a.Y0 - b.Y0) (fun a ha b hb=>by
    unfold ff;rw [wrap_small (hok a ha).s3 (hok b hb).s3]) (fun a _=>by omega) (fun a _ b _ c _ h1 h2=>by omega) (fun a _ b _ c _ h1 h2=>by omega) (by omega)
  refine Ok.eq h1 ?_
  have hml:m.length=l.length:=h2.length_eq
  have hmem: ∀r,r∈m↔r∈l:=fun r=>h2.mem_iff
  refine Ok.bind (Ok.gZ (fun k s=>s=jd (m.take k)) (by omega) rfl (fun k s hk e=>?_)) ?_
  · subst e
    refine Ok.idx hk (Ok.app ?_ (Ok.ret ?_))
    · rw [fY];simp;omega
    · rw [List.take_succ_eq_append_getElem hk]
      unfold jd;rw [List.flatMap_append];rfl
  rintro s rfl
  rw [List.take_length]
  have hgs:mA (jd m)=some ((jd m).mergeSort (fun x y=>decide (x≤y))):=by unfold mA;rw [if_pos (by rw [fY];omega)]
  refine Ok.eq hgs ?_
  have hsp: ((jd m).mergeSort (fun x y=>decide (x≤y))).Pairwise (fun x y=>x≤y):=by
    have:=List.pairwise_mergeSort (le:=fun(x y:Int)=>decide (x≤y)) (fun a b c h1 h2=>by simp at *;omega) (fun a b=>by simp;omega) (jd m)
    exact List.Pairwise.imp (fun h=>by simpa using h) this
  have hsm: ∀c,c∈(jd m).mergeSort (fun x y=>decide (x≤y))↔c∈jd m:=fun c=>List.mem_mergeSort
  have hsl: ((jd m).mergeSort (fun x y=>decide (x≤y))).length=2*m.length:=by rw [List.length_mergeSort,fY]
  generalize (jd m).mergeSort (fun x y=>decide (x≤y))=sy at hsp hsm hsl
  refine Ok.bind (ug (N:=N) hsp (by omega) (by omega)) ?_
  rintro ys ⟨hy,hym⟩
  have hyl:ys.length≤2*m.length:=by
    have:=fz hy.nodup (m:=sy) (fun c hc=>(hym c).1 hc)
    omega
  have y0m: ∀r∈m,r.Y0∈ys:=fun r hr=>(hym _).2 ((hsm _).2 (i6.2 ⟨r,hr, .inl rfl⟩))
  have y1m: ∀r∈m,r.Y1∈ys:=fun r hr=>(hym _).2 ((hsm _).2 (i6.2 ⟨r,hr, .inr rfl⟩))
  have yml: ∀c∈ys,c∈jd l:=fun c hc=>by
    obtain⟨r,hr,h⟩:=i6.1 ((hsm _).1 ((hym _).1 hc))
    exact i6.2 ⟨r,(hmem r).1 hr,h⟩
  refine Ok.bind (Ok.itr (Go:=fun s=>l9 l s.1) (Rt:=fun _=>True) (fun s=>∃k nx:Nat,s.2.2.2= ((k:Nat):Int)∧s.2.2.1= ((nx:Nat):Int)∧(k<ys.length∨k=0)∧CJ l m ys k s.1 s.2.1 nx) (fun s=>ys.length - s.2.2.2.toNat) ?_ ?_ (by simp;omega)) ?_
  · rintro⟨out,now,a,b⟩ ⟨k,nx,e1,e2,hk,I⟩
    dsimp only at e1 e2 I ⊢
    subst e1;subst e2
    rw [dN (by omega)]
    refine Ok.bif (fun h=>?_) (fun h=>Ok.br ?_)
    · have hk1:k+1<ys.length:=by have:=of_decide_eq_true h;omega
      have hyk:ys[k]? =some ys[k]:=List.getElem?_eq_getElem _
      have hyk1:ys[k+1]? =some ys[k+1]:=List.getElem?_eq_getElem hk1
      have hlt:=hy.lt (Nat.lt_succ_self k) hyk hyk1
      have hcov:=I.cover
      simp only [hyk,Option.some.injEq,forall_eq'] at hcov
      refine Ok.eq (oz (fun r=>decide (r.Y1≤ys[k])) (fun r _=>by unfold iS;rw [fN ys k (by omega),aB]) (by have:=I.len;have:=I.Eo;omega) (by have:=I.len;have:=I.Eo;omega)) ?_
      have hfl:=List.length_filter_le (fun r:aD=> !decide (r.Y1≤ys[k])) now
      have hIl:=I.len
      have hIn:=I.Eo
      refine Ok.bind (Ok.itr (Go:=fun s=>∃nx':Nat,s.2= ((nx':Nat):Int)∧nx'≤m.length∧s.1.length≤nx'∧(∀r∈s.1,r∈m.take nx')∧(∀r∈m.take nx',ys[k]<r.Y1→r∈s.1)∧(∀r∈s.1,r.Y0≤ys[k]∧ys[k]<r.Y1)∧(∀(j:Nat) r,nx'≤j→m[j]? =some r→ys[k]<r.Y0)) (Rt:=fun _=>True)
        (fun s=>∃nx':Nat,s.2= ((nx':Nat):Int)∧nx≤nx'∧nx'≤m.length∧s.1.length≤nx'∧(∀r∈s.1,r∈m.take nx')∧(∀r∈m.take nx',ys[k]<r.Y1→r∈s.1)∧(∀r∈s.1,r.Y0≤ys[k]∧ys[k]<r.Y1)) (fun s=>m.length - s.2.toNat) ?_ ?_ (by simp;omega)) ?_
      · rintro⟨nw,b⟩ ⟨nx',e1,g0,g1,g2,g3,g4,g5⟩
        dsimp only at e1 g2 g3 g4 g5 ⊢
        subst e1
        refine Ok.bind (P:=fun b=>b=true↔∃h:nx'<m.length,m[nx'].Y0≤ys[k]) ?_ ?_
        · refine Ok.bif (fun h=>?_) (fun h=>Ok.ret ?_)
          · have hlt:nx'<m.length:=by have:=of_decide_eq_true h;omega
            refine Ok.idx hlt (Ok.idx (by omega) (Ok.ret ?_))
            rw [decide_eq_true_eq];exact⟨fun h=>⟨hlt,h⟩,fun⟨_,h⟩=>h⟩
          · have:=of_decide_eq_false h
            constructor
            · intro h;cases h
            · rintro⟨h,_⟩;omega
        · intro bb hbb
          refine Ok.bif (fun h=>?_) (fun h=>Ok.br ?_)
          · obtain⟨hlt,h0⟩:=hbb.1 h
            have hts:m.take (nx'+1)=m.take nx'++[m[nx']]:=List.take_succ_eq_append_getElem hlt
            refine Ok.idx hlt (Ok.app (by simp;omega) (Ok.nx ⟨⟨nx'+1,by rw [dN (by omega)],by omega,by omega,by simp;omega,fun r hr=>?_,fun r hr hr2=>?_,fun r hr=>?_⟩,by rw [dN (by omega)];simp only [Int.toNat_natCast];omega⟩))
            · rw [hts]
              rcases List.mem_append.1 hr with h | h
              · exact List.mem_append_left _ (g3 r h)
              · exact List.mem_append_right _ h
            · rw [hts] at hr
              rcases List.mem_append.1 hr with h | h
              · exact List.mem_append_left _ (g4 r h hr2)
              · exact List.mem_append_right _ h
            · rcases List.mem_append.1 hr with h | h
              · exact g5 r h
              · simp at h;subst h
                refine⟨h0,?_⟩
                have:=(hok m[nx'] ((hmem _).1 (List.getElem_mem hlt))).y
                have:=I.rest nx' _ ys[k] g0 (List.getElem?_eq_getElem hlt) hyk
                omega
          · refine⟨nx',rfl,g1,g2,g3,g4,g5,fun j r hj hr=>?_⟩
            have hjl:=(List.getElem?_eq_some_iff.1 hr).1
            have hlt:nx'<m.length:=by omega
            have h0: ¬m[nx'].Y0≤ys[k]:=fun h0=>by rw [hbb.2 ⟨hlt,h0⟩] at h;cases h
            by_cases e:nx'=j
            · subst e;rw [List.getElem?_eq_getElem hlt] at hr;injection hr with hr;subst hr;omega
            · have:=List.pairwise_iff_getElem.1 h3 nx' j hlt hjl (by omega)
              have hr':=(List.getElem?_eq_some_iff.1 hr).2
              rw [hr'] at this;omega
      · refine⟨nx,rfl,Nat.le_refl _,hIn,by dsimp only;omega,fun r hr=>I.EN r (List.mem_filter.1 hr).1,fun r hr h=>List.mem_filter.2 ⟨I.EO r hr ys[k] hyk h,by simpa using h⟩,fun r hr=>?_⟩
        have hr:=List.mem_filter.1 hr
        have hr2:ys[k]<r.Y1:=by simpa using hr.2
        exact⟨I.low r hr.1 ys[k] hyk,hr2⟩
      · rintro o ho
        refine Ok.cs ho ?_ (fun r=>r.elim)
        rintro⟨nw,b⟩ ⟨nx',e1,g1,g2,g3,g4,g5,g6⟩
        dsimp only at e1 g2 g3 g4 g5 ⊢
        subst e1
        refine Ok.idx (by omega) (Ok.idx hk1 ?_)
        have hnm: ∀r∈nw,r∈l:=fun r hr=>(hmem r).1 (List.take_subset _ _ (g3 r hr))
        obtain⟨row,nw',s1,s2,s3,s4,s5,s6,s7⟩:=ue (N:=N) (l:=nw) (by omega) (fun r hr=>hok r (hnm r hr))
        refine Ok.eq s1 ?_
        have hlimx: ∀c∈row,c∈nR l:=fun c hc=>by
          obtain⟨r,hr,h⟩:=s7 c hc
          exact pw.2 ⟨r,hnm r hr,h⟩
        have hol:out.length≤2*l.length:=by have:=I.lim.len I.can;rw [fY,List.length_map] at this;exact this
        have hox: ∀c∈out,c.Xs.length≤2*l.length:=fun c hc=>by
          have:=I.lim.row I.can (b:=bG c) (List.mem_map.2 ⟨c,hc,rfl⟩)
          rw [iv] at this;exact this
        obtain⟨out',p1,p2⟩:=xe (N:=N) (s:=out) (b:=⟨ys[k],ys[k+1],row⟩) (by omega) (fun c hc=>by have:=hox c hc;omega)
        refine Ok.eq p1 ?_
        have htop: ∀c∈out.map bG,c.y1≤(bG ⟨ys[k],ys[k+1],row⟩).y0:=fun c hc=>by
          obtain⟨d,hd,rfl⟩:=List.mem_map.1 hc
          exact I.top d hd ys[k] hyk
        have hcan:=tp I.can htop s3 s4
        refine Ok.nx ⟨⟨k+1,nx',rfl,rfl, .inl hk1,⟨by dsimp only;rw [p2];exact hcan,fun c hc y hy1=>?_,fun x y=>?_,?_,fun r hr=>g3 r (s2.subset hr),fun r hr y hy1 h=>?_,by rw [s2.length_eq];exact g2,g1,fun j r y hj hr hy1=>?_,fun r hr y hy1=>?_⟩⟩,by simp only [Int.toNat_natCast];omega⟩
        · rw [hyk1] at hy1;injection hy1 with hy1;subst hy1
          have hm':bG c∈pushB (out.map bG) (bG ⟨ys[k],ys[k+1],row⟩):=by rw [←p2];exact List.mem_map.2 ⟨c,hc,rfl⟩
          exact tq htop (by show ys[k]≤ys[k+1];omega) _ hm'
        · simp only [hyk1,Option.some.injEq,forall_eq']
          unfold ri
          rw [p2,tn htop (fun c hc=>(I.can.each c hc).1) (fun h=>absurd h (by show ¬ys[k+1]≤ys[k];omega))]
          by_cases hyy:ys[k]≤y∧y<ys[k+1]
          · rw [if_pos (show (bG ⟨ys[k],ys[k+1],row⟩).y0≤y∧y< (bG ⟨ys[k],ys[k+1],row⟩).y1 from hyy),decide_eq_true hyy.2,Bool.and_true]
            show kE row x=_
            rw [s5,Bool.eq_iff_iff,rW,pr]
            constructor
            · rintro⟨r,hr,h⟩
              have hrm:=List.take_subset _ _ (g3 r hr)
              have h5:=g5 r hr
              have:=hy.next hyk hyk1 (y1m r hrm) h5.2
              exact⟨r,hnm r hr,h,by omega,by omega⟩
            · rintro⟨r,hr,h,h7,h8⟩
              have hrm:=(hmem r).2 hr
              have h9:r.Y0≤ys[k]:=by
                by_cases h10:r.Y0≤ys[k]
                · exact h10
                · have:=hy.next hyk hyk1 (y0m r hrm) (by omega);omega
              have h11:r∈m.take nx':=by
                obtain⟨j,hj⟩:=List.getElem?_of_mem hrm
                by_cases h12:j<nx'
                · exact List.mem_of_getElem? (i:=j) (by rw [List.getElem?_take_of_lt h12];exact hj)
                · have:=g6 j r (by omega) hj;omega
              exact⟨r,g4 r h11 (by omega),h⟩
          · rw [if_neg (show ¬((bG ⟨ys[k],ys[k+1],row⟩).y0≤y∧y< (bG ⟨ys[k],ys[k+1],row⟩).y1) from hyy)]
            show ri (out.map bG) x y=_
            rw [hcov]
            by_cases h1:y<ys[k]
            · rw [decide_eq_true h1,decide_eq_true (show y<ys[k+1] by omega)]
            · rw [decide_eq_false h1,decide_eq_false (show ¬y<ys[k+1] by omega)]
        · show px (nR l) (jd l) (out'.map bG)
          rw [p2]
          exact I.lim.push (yml _ (List.getElem_mem _)) (yml _ (List.getElem_mem _)) hlimx
        · rw [hyk1] at hy1;injection hy1 with hy1;subst hy1
          exact s2.symm.subset (g4 r hr (by omega))
        · rw [hyk1] at hy1;injection hy1 with hy1;subst hy1
          exact hy.next hyk hyk1 (y0m r (List.mem_of_getElem? hr)) (g6 j r hj hr)
        · rw [hyk1] at hy1;injection hy1 with hy1;subst hy1
          have:=(g5 r (s2.subset hr)).1;omega
    · have hge: ¬k+1<ys.length:=by have:=of_decide_eq_false h;omega
      refine⟨I.can,fun x y=>?_,I.lim⟩
      rw [I.cover]
      by_cases hyn:ys= []
      · have:z5 l x y=false:=by
          rw [←Bool.not_eq_true,pr]
          rintro⟨r,hr,_⟩
          have:=y0m r ((hmem r).2 hr)
          rw [hyn] at this;cases this
        rw [this];rfl
      · have hkl:k<ys.length:=by
          rcases hk with h | h
          · exact h
          · subst h;exact List.length_pos_iff.2 hyn
        rw [List.getElem?_eq_getElem hkl]
        simp only [Option.some.injEq,forall_eq']
        cases hc:z5 l x y with
        | false=>rfl
        | true=>
          obtain⟨r,hr,_,h7,h8⟩:=pr.1 hc
          have:=y1m r ((hmem r).2 hr)
          obtain⟨j,hj⟩:=List.getElem?_of_mem this
          have hjl:=(List.getElem?_eq_some_iff.1 hj).1
          have:r.Y1≤ys[k]:=by
            by_cases e:j=k
            · subst e;rw [List.getElem?_eq_getElem hkl] at hj;injection hj with hj;omega
            · have:=hy.lt (show j<k by omega) hj (List.getElem?_eq_getElem hkl);omega
          rw [decide_eq_true (show y<ys[k] by omega)];rfl
  · refine⟨0,0,rfl,rfl, .inr rfl,?_⟩
    show CJ l m ys 0 [] [] 0
    refine⟨cV.nil,fun c hc=>(by cases hc),fun x y=>?_,fun b hb=>(by cases hb),fun r hr=>(by cases hr),fun r hr=>(by rw [List.take_zero] at hr;cases hr),Nat.le_refl _,Nat.zero_le _,fun j r y _ hr hy0=>?_,fun r hr=>(by cases hr)⟩
    · show false=_
      symm
      rw [Bool.and_eq_false_iff]
      cases hc:z5 l x y with
      | false=>exact .inl rfl
      | true=>
        right
        obtain⟨r,hr,_,h7,h8⟩:=pr.1 hc
        have hr0:=y0m r ((hmem r).2 hr)
        have hpos:0<ys.length:=List.length_pos_of_mem hr0
        rw [decide_eq_false_iff_not]
        intro h
        have h:=h ys[0] (List.getElem?_eq_getElem hpos)
        obtain⟨j,hj⟩:=List.getElem?_of_mem hr0
        by_cases e:j=0
        · subst e;rw [List.getElem?_eq_getElem hpos] at hj;injection hj with hj;omega
        · have:=hy.lt (show 0<j by omega) (List.getElem?_eq_getElem hpos) hj;omega
    · obtain⟨j',hj'⟩:=List.getElem?_of_mem (y0m r (List.mem_of_getElem? hr))
      by_cases e:j'=0
      · subst e;rw [hy0] at hj';injection hj' with hj';omega
      · have:=hy.lt (show 0<j' by omega) hy0 hj';omega
  · rintro o ho
    refine Ok.cs ho (fun s h=>Ok.ret h) (fun r=>r.elim)
end
end Go.Gk
namespace Go.Gk
open Go
section
variable {N:Nat}
def prs:List Int→List (Int×Int)
  | a::b::l=>(a,b)::prs l
  | _=>[]
theorem rj: ∀(xs:List Int),(prs xs).length=xs.length / 2
  | []=>rfl
  | [a]=>by simp [prs]
  | a::b::l=>by unfold prs;rw [List.length_cons,rj l];simp only [List.length_cons];omega
theorem py: ∀(xs:List Int) (j:Nat) (h:2*j+1<xs.length),(prs xs)[j]? =some (xs[2*j],xs[2*j+1])
  | [],j,h=>by simp at h
  | [a],j,h=>by simp at h
  | a::b::l,0,h=>rfl
  | a::b::l,j+1,h=>by
    have:=py l j (by simp at h;omega)
    unfold prs
    rw [List.getElem?_cons_succ,this]
    have e1: (a::b::l)[2* (j+1)]=l[2*j]'(by simp at h;omega):=by simp [show 2* (j+1)=2*j+1+1 by omega]
    have e2: (a::b::l)[2* (j+1)+1]=l[2*j+1]'(by simp at h;omega):=by simp [show 2* (j+1)+1=2*j+1+1+1 by omega]
    rw [e1,e2]
theorem AF {xs:List Int}: ∀p∈prs xs,p.1∈xs∧p.2∈xs:=by
  intro p hp
  obtain⟨j,hj⟩:=List.getElem?_of_mem hp
  have hjl:=(List.getElem?_eq_some_iff.1 hj).1
  rw [rj] at hjl
  rw [py xs j (by omega)] at hj
  injection hj with hj;subst hj
  exact⟨List.getElem_mem _,List.getElem_mem _⟩
theorem zv {xs:List Int} (h:jE xs): ∀p∈prs xs,p.1<p.2:=by
  intro p hp
  obtain⟨j,hj⟩:=List.getElem?_of_mem hp
  have hjl:=(List.getElem?_eq_some_iff.1 hj).1
  rw [rj] at hjl
  rw [py xs j (by omega)] at hj
  injection hj with hj;subst hj
  exact h.lt (show 2*j<2*j+1 by omega) (List.getElem?_eq_getElem _) (List.getElem?_eq_getElem _)
def ko (b:aA):List aD:=(prs b.Xs).map fun p=>⟨p.1,b.Y0,p.2,b.Y1⟩
def aM (s:List aA):List aD:=s.flatMap ko
theorem qM (b:aA) (s:List aA):aM (b::s)=ko b++aM s:=rfl
theorem iL (b:aA): (ko b).length=b.Xs.length / 2:=by unfold ko;rw [List.length_map,rj]
theorem iw (s t:List aA):aM (s++t)=aM s++aM t:=List.flatMap_append
theorem qx (s:List aA) (k:Nat): (aM (s.take k)).length≤(aM s).length:=by
  conv=>rhs;rw [←List.take_append_drop k s,iw,List.length_append]
  omega
theorem rY {s:List aA} {A B:Nat} (h1:s.length≤A) (h2: ∀b∈s,b.Xs.length≤B): (aM s).length≤A*B:=by
  induction s generalizing A with
  | nil=>simp [aM]
  | cons b s ih=>
    rw [qM,List.length_append,iL]
    simp at h1
    obtain⟨A',rfl⟩: ∃A',A=A'+1:=⟨A - 1,by omega⟩
    have:=ih (A:=A') (by omega) (fun c hc=>h2 c (List.mem_cons_of_mem _ hc))
    have:=h2 b (by simp)
    rw [Nat.add_mul];omega
theorem rZ {s:List aA} (he: ∀b∈s,b.Xs.length % 2=0) (h1:s.length≤1099511627776) (h2: ∀b∈s,b.Xs.length≤1099511627776∧b.Xs.length<N) (h3: (aM s).length≤1099511627776):eO N s=some (aM s):=by
  refine Ok.get ?_
  unfold eO
  refine Ok.bind (Ok.gZ (fun k t=>t=aM (s.take k)) (by omega) rfl (fun k t hk e=>?_)) (fun t e=>Ok.ret (by rw [e,List.take_length]))
  subst e
  refine Ok.idx hk ?_
  have hm:=List.getElem_mem hk
  generalize hb:s[k]=b at hm ⊢
  have heb:=he b hm
  have hbl:=h2 b hm
  have hts:aM (s.take (k+1))=aM (s.take k)++ko b:=by
    rw [List.take_succ_eq_append_getElem hk,iw,hb];simp [aM]
  have hle:=qx s (k+1)
  rw [hts,List.length_append,iL] at hle
  refine Ok.bind (Ok.itr (Go:=fun s'=>s'.1=aM (s.take (k+1))) (Rt:=fun _=>True) (fun s'=>∃j:Nat,s'.2= ((2*j:Nat):Int)∧2*j≤b.Xs.length∧s'.1=aM (s.take k)++(ko b).take j) (fun s'=>b.Xs.length - s'.2.toNat) ?_ ⟨0,rfl,by omega,by simp⟩ (by simp;omega)) ?_
  · rintro⟨acc,i⟩ ⟨j,e1,hj,e2⟩
    dsimp only at e1 e2 ⊢
    subst e1;subst e2
    refine Ok.bif (fun h=>?_) (fun h=>Ok.br ?_)
    · have hlt:2*j+1<b.Xs.length:=by have:=of_decide_eq_true h;omega
      refine Ok.idx (by omega) ?_
      rw [dN (by omega)]
      refine Ok.idx hlt (Ok.app ?_ (Ok.nx ⟨⟨j+1,?_,by omega,?_⟩,?_⟩))
      · simp;rw [iL];omega
      · rw [tr (by omega)];congr 1
      · rw [List.append_assoc]
        congr 1
        have hg: (ko b)[j]? =some ⟨b.Xs[2*j],b.Y0,b.Xs[2*j+1],b.Y1⟩:=by
          unfold ko;rw [List.getElem?_map,py _ _ hlt];rfl
        have hjl:=(List.getElem?_eq_some_iff.1 hg).1
        rw [List.take_succ_eq_append_getElem hjl,(List.getElem?_eq_some_iff.1 hg).2]
      · rw [tr (by omega)];simp only [Int.toNat_natCast];omega
    · have hge:2*j=b.Xs.length:=by have:=of_decide_eq_false h;omega
      show aM (s.take k)++(ko b).take j=_
      rw [hts,List.take_of_length_le (l:=ko b) (by rw [iL];omega)]
  · rintro o ho
    exact Ok.cs ho (fun s' h=>Ok.ret h) (fun r=>r.elim)
theorem AG {s:List aA} (h1:s.length≤1099511627776) (h2: ∀b∈s,b.Xs.length≤1099511627776) (h3: (aM s).length≤1099511627776):gT N s=some (((aM s).length:Nat):Int):=by
  refine Ok.get ?_
  unfold gT
  refine Ok.bind (Ok.gZ (fun k t=>t= (((aM (s.take k)).length:Nat):Int)) (by omega) rfl (fun k t hk e=>?_)) (fun t e=>Ok.ret (by rw [e,List.take_length]))
  subst e
  refine Ok.idx hk (Ok.ret ?_)
  have hm:=List.getElem_mem hk
  have hbl:=h2 _ hm
  have hts:aM (s.take (k+1))=aM (s.take k)++ko s[k]:=by
    rw [List.take_succ_eq_append_getElem hk,iw];simp [aM]
  have hle:=qx s (k+1)
  rw [hts,List.length_append,iL] at hle
  have e:Int.tdiv ((s[k].Xs.length:Nat):Int) 2= ((s[k].Xs.length / 2:Nat):Int):=by
    rw [show (2:Int)= ((2:Nat):Int) by rfl,←Int.ofNat_tdiv]
  rw [e,vq (by omega),wrap_add (by omega),hts,List.length_append,iL]
theorem tt {s:List aA} {r:aD} (h:r∈aM s): ∃b∈s,∃p∈prs b.Xs,r= ⟨p.1,b.Y0,p.2,b.Y1⟩:=by
  unfold aM ko at h
  obtain⟨b,hb,h⟩:=List.mem_flatMap.1 h
  obtain⟨p,hp,rfl⟩:=List.mem_map.1 h
  exact⟨b,hb,p,hp,rfl⟩
theorem r5 {s:List aA} {X Y:List Int} (h:cV (s.map bG)) (hl:px X Y (s.map bG)) (hx: ∀c∈X,small c) (hy: ∀c∈Y,small c): ∀r∈aM s,xd r∧(r.X0∈X∧r.X1∈X)∧r.Y0∈Y∧r.Y1∈Y:=by
  intro r hr
  obtain⟨b,hb,p,hp,rfl⟩:=tt hr
  have hm:bG b∈s.map bG:=List.mem_map.2 ⟨b,hb,rfl⟩
  have hc:=h.each _ hm
  have hll:=hl _ hm
  have h1:=AF p hp
  have h2:=hll.2.2 p.1 h1.1
  have h3:=hll.2.2 p.2 h1.2
  exact⟨⟨zv hc.2.2.1 p hp,hc.1,hx _ h2,hx _ h3,hy _ hll.1,hy _ hll.2.1⟩,⟨h2,h3⟩,hll.1,hll.2.1⟩
theorem oA {l:List Int} {x:Int} (h: ∀c∈l,c≤x):kE l x= (l.length % 2==1):=by unfold kE;rw [w8 h]
theorem qy {l:List Int} {a x:Int} (h:x<a):kE (l++[a]) x=kE l x:=by unfold kE;rw [rT,lC,if_neg (by omega),w7];rfl
def xX (l:List Int):Bool:=l.length % 2==1
theorem r6 (l:List Int) (a:Int):xX (l++[a]) = !xX l:=by
  unfold xX
  rw [List.length_append,Bool.eq_iff_iff,Bool.not_eq_true',beq_iff_eq,beq_eq_false_iff_ne]
  simp;omega
structure vr (gp:Bool→Bool→Bool) (a b a' b' out:List Int) (inA inB is:Bool) (pa pb:List Int):Prop where
  ea:a=pa++a'
  eb:b=pb++b'
  oa:inA=xX pa
  ob:inB=xX pb
  oo:is=xX out
  ok:is=gp inA inB
  low: ∀c,(c∈pa∨c∈pb∨c∈out)→∀d,(d∈a'∨d∈b')→c<d
  inc:jE out
  CK: ∀x,(∀d,(d∈a'∨d∈b')→x<d)→kE out x=gp (kE pa x) (kE pb x)
  mem: ∀c∈out,c∈pa∨c∈pb
  len:out.length≤pa.length+pb.length
theorem vr.step {gp:Bool→Bool→Bool} {a b a' b' out:List Int} {inA inB is:Bool} {pa pb:List Int} (I:vr gp a b a' b' out inA inB is pa pb) (ha:jE a) (hb:jE b) (x:Int) (ta tb:List Int) (wa wb:Bool)
    (h1:a'= (if wa then x::ta else ta)) (h2:b'= (if wb then x::tb else tb)) (hw:wa=true∨wb=true) (hx: ∀d,(d∈ta∨d∈tb)→x<d):
    vr gp a b ta tb (if gp (inA ^^ wa) (inB ^^ wb)=is then out else out++[x]) (inA ^^ wa) (inB ^^ wb) (gp (inA ^^ wa) (inB ^^ wb)) (if wa then pa++[x] else pa) (if wb then pb++[x] else pb):=by
  have hxm:x∈a'∨x∈b':=by
    rcases hw with h | h
    · left;rw [h1,if_pos h];simp
    · right;rw [h2,if_pos h];simp
  have hsub: ∀d,(d∈ta∨d∈tb)→d∈a'∨d∈b':=fun d hd=>by
    rcases hd with h | h
    · left;rw [h1];split
      · exact List.mem_cons_of_mem _ h
      · exact h
    · right;rw [h2];split
      · exact List.mem_cons_of_mem _ h
      · exact h
  have hlow: ∀c,(c∈pa∨c∈pb∨c∈out)→c<x:=fun c hc=>I.low c hc x hxm
  have hpa: ∀c∈(if wa then pa++[x] else pa),c∈pa∨(wa=true∧c=x):=fun c hc=>by
    split at hc
    · rename_i h
      rcases List.mem_append.1 hc with h' | h'
      · exact .inl h'
      · simp at h';exact .inr ⟨h,h'⟩
    · exact .inl hc
  have hpb: ∀c∈(if wb then pb++[x] else pb),c∈pb∨(wb=true∧c=x):=fun c hc=>by
    split at hc
    · rename_i h
      rcases List.mem_append.1 hc with h' | h'
      · exact .inl h'
      · simp at h';exact .inr ⟨h,h'⟩
    · exact .inl hc
  have hout: ∀c∈(if gp (inA ^^ wa) (inB ^^ wb)=is then out else out++[x]),c∈out∨c=x:=fun c hc=>by
    split at hc
    · exact .inl hc
    · rcases List.mem_append.1 hc with h' | h'
      · exact .inl h'
      · simp at h';exact .inr h'
  have ooA: (inA ^^ wa)=xX (if wa then pa++[x] else pa):=by
    rw [I.oa];cases wa <;> simp [r6]
  have ooB: (inB ^^ wb)=xX (if wb then pb++[x] else pb):=by
    rw [I.ob];cases wb <;> simp [r6]
  have ooO:gp (inA ^^ wa) (inB ^^ wb)=xX (if gp (inA ^^ wa) (inB ^^ wb)=is then out else out++[x]):=by
    split
    · rename_i h;rw [h];exact I.oo
    · rename_i h
      rw [r6,←I.oo]
      cases hk:gp (inA ^^ wa) (inB ^^ wb) <;> cases his:is <;> simp_all
  refine⟨?_,?_,ooA,ooB,ooO,rfl,?_,?_,?_,?_,?_⟩
  · rw [I.ea,h1];split <;> simp
  · rw [I.eb,h2];split <;> simp
  · intro c hc d hd
    have hd':=hx d hd
    have hdd:=hsub d hd
    rcases hc with h | h | h
    · rcases hpa c h with h' | ⟨_,rfl⟩
      · exact I.low c (.inl h') d hdd
      · exact hd'
    · rcases hpb c h with h' | ⟨_,rfl⟩
      · exact I.low c (.inr (.inl h')) d hdd
      · exact hd'
    · rcases hout c h with h' | rfl
      · exact I.low c (.inr (.inr h')) d hdd
      · exact hd'
  · split
    · exact I.inc
    · exact I.inc.zu fun c hc=>hlow c (.inr (.inr hc))
  · intro y hy
    by_cases hxy:y<x
    · have e1:kE (if wa then pa++[x] else pa) y=kE pa y:=by split;exact qy hxy;rfl
      have e2:kE (if wb then pb++[x] else pb) y=kE pb y:=by split;exact qy hxy;rfl
      have e3:kE (if gp (inA ^^ wa) (inB ^^ wb)=is then out else out++[x]) y=kE out y:=by split;rfl;exact qy hxy
      rw [e1,e2,e3]
      refine I.CK y fun d hd=>?_
      have:x≤d:=by
        rcases hd with h | h
        · rw [h1] at h
          split at h
          · rcases List.mem_cons.1 h with rfl | h
            · exact Int.le_refl _
            · have:=hx d (.inl h);omega
          · have:=hx d (.inl h);omega
        · rw [h2] at h
          split at h
          · rcases List.mem_cons.1 h with rfl | h
            · exact Int.le_refl _
            · have:=hx d (.inr h);omega
          · have:=hx d (.inr h);omega
      omega
    · rw [oA (l:=if wa then pa++[x] else pa),oA (l:=if wb then pb++[x] else pb),oA]
      · have e1:=ooA;have e2:=ooB;have e3:=ooO
        unfold xX at e1 e2 e3
        rw [←e1,←e2,←e3]
      · intro c hc
        rcases hout c hc with h | rfl
        · have:=hlow c (.inr (.inr h));omega
        · omega
      · intro c hc
        rcases hpb c hc with h | ⟨_,rfl⟩
        · have:=hlow c (.inr (.inl h));omega
        · omega
      · intro c hc
        rcases hpa c hc with h | ⟨_,rfl⟩
        · have:=hlow c (.inl h);omega
        · omega
  · intro c hc
    have m1: ∀c,c∈pa→c∈(if wa then pa++[x] else pa):=fun c h=>by split;exact List.mem_append_left _ h;exact h
    have m2: ∀c,c∈pb→c∈(if wb then pb++[x] else pb):=fun c h=>by split;exact List.mem_append_left _ h;exact h
    rcases hout c hc with h | rfl
    · rcases I.mem c h with h | h
      · exact .inl (m1 c h)
      · exact .inr (m2 c h)
    · rcases hw with h | h
      · left;rw [if_pos h];simp
      · right;rw [if_pos h];simp
  · have:=I.len
    have h3: (if wa then pa++[x] else pa).length+ (if wb then pb++[x] else pb).length≥pa.length+pb.length+1:=by
      rcases hw with h | h
      · subst h;cases wb <;> simp <;> omega
      · subst h;cases wa <;> simp <;> omega
    split
    · omega
    · simp at h3 ⊢;omega
end
end Go.Gk
namespace Go.Gk
open Go
section
variable {N:Nat}
theorem eT (x:Int) (l:List Int):idx (x::l) 0=some x:=rfl
theorem lD {α:Type} (x:α) (l:List α):oI (x::l) 1 (((x::l).length:Nat):Int)=some l:=oX (x::l) 1 (by simp)
theorem fF {α:Type} (x:α) (l:List α):decide ((((x::l).length:Nat):Int)>0)=true:=decide_eq_true (by simp)
theorem nk {α:Type} (x:α) (l:List α): ((((x::l).length:Nat):Int)==0)=false:=by rw [beq_eq_false_iff_ne];simp;omega
theorem wC {a b:List Int} (ha:jE a) (hb:jE b) (h:a≠[]∨b≠[]): ∃x ta tb wa wb,a= (if wa then x::ta else ta)∧b= (if wb then x::tb else tb)∧(wa=true∨wb=true)∧(∀d,(d∈ta∨d∈tb)→x<d):=by
  match a,b,ha,hb,h with
  | [],[],_,_,h=>rcases h with h | h <;> exact absurd rfl h
  | x::ta,[],ha,_,_=>exact⟨x,ta,[],true,false,rfl,rfl, .inl rfl,fun d hd=>by rcases hd with h | h;exact ha.head d h;cases h⟩
  | [],y::tb,_,hb,_=>exact⟨y,[],tb,false,true,rfl,rfl, .inr rfl,fun d hd=>by rcases hd with h | h;cases h;exact hb.head d h⟩
  | x::ta,y::tb,ha,hb,_=>
    rcases Int.lt_trichotomy x y with h | h | h
    · refine⟨x,ta,y::tb,true,false,rfl,rfl, .inl rfl,fun d hd=>?_⟩
      rcases hd with h1 | h1
      · exact ha.head d h1
      · rcases List.mem_cons.1 h1 with rfl | h1
        · exact h
        · have:=hb.head d h1;omega
    · subst h
      exact⟨x,ta,tb,true,true,rfl,rfl, .inl rfl,fun d hd=>by rcases hd with h | h;exact ha.head d h;exact hb.head d h⟩
    · refine⟨y,x::ta,tb,false,true,rfl,rfl, .inr rfl,fun d hd=>?_⟩
      rcases hd with h1 | h1
      · rcases List.mem_cons.1 h1 with rfl | h1
        · exact h
        · have:=ha.head d h1;omega
      · exact hb.head d h1
theorem xY {φ:Bool→Bool→Option Bool} {gp:Bool→Bool→Bool} (hφ: ∀p q,φ p q=some (gp p q)) (hk:gp false false=false) {a b:List Int} (ha:jE a) (hb:jE b) (hae:a.length % 2=0) (hbe:b.length % 2=0)
    (hal:a.length≤1099511627776) (hbl:b.length≤1099511627776) (hN:a.length+b.length<N):
    Ok (j9 N a b φ) (fun m=>jE m∧m.length % 2=0∧(∀x,kE m x=gp (kE a x) (kE b x))∧∀c∈m,c∈a∨c∈b):=by
  unfold j9
  refine Ok.bind (Ok.itr (Go:=fun s=>jE s.2.2.1∧s.2.2.1.length % 2=0∧(∀x,kE s.2.2.1 x=gp (kE a x) (kE b x))∧∀c∈s.2.2.1,c∈a∨c∈b) (Rt:=fun _=>True)
    (fun s=>∃pa pb,vr gp a b s.1 s.2.1 s.2.2.1 s.2.2.2.1 s.2.2.2.2.1 s.2.2.2.2.2 pa pb) (fun s=>s.1.length+s.2.1.length) ?_ ?_ hN) ?_
  · rintro⟨a',b',out,inA,inB,is⟩ ⟨pa,pb,I⟩
    dsimp only at I ⊢
    have ha':jE a':=by have:=ha;rw [I.ea] at this;exact(List.pairwise_append.1 this).2.1
    have hb':jE b':=by have:=hb;rw [I.eb] at this;exact(List.pairwise_append.1 this).2.1
    have hle:pa.length+a'.length=a.length:=by rw [I.ea];simp
    have hlb:pb.length+b'.length=b.length:=by rw [I.eb];simp
    have hlo:=I.len
    by_cases hne:a'≠[]∨b'≠[]
    · obtain⟨x,ta,tb,wa,wb,h1,h2,hw,hx⟩:=wC ha' hb' hne
      have J:=I.step ha hb x ta tb wa wb h1 h2 hw hx
      have fin: ∀(sa sb:List Int×Bool),sa= (ta,inA ^^ wa)→sb= (tb,inB ^^ wb)→
          Ok ((φ sa.2 sb.2).bind fun(x220:Bool)=>(bif (x220 != is) then ((app 8 out ([x]: (List Int))).bind fun(x227: (List Int))=>some (x227,x220)) else (some (out,is))).bind fun(s224: (List Int)×Bool)=>some (Fl.nx (sa.1,sb.1,s224.1,sa.2,sb.2,s224.2)))
            (BO (fun s':List Int×List Int×List Int×Bool×Bool×Bool=>(∃pa pb,vr gp a b s'.1 s'.2.1 s'.2.2.1 s'.2.2.2.1 s'.2.2.2.2.1 s'.2.2.2.2.2 pa pb)∧s'.1.length+s'.2.1.length<a'.length+b'.length) (fun s=>jE s.2.2.1∧s.2.2.1.length % 2=0∧(∀x,kE s.2.2.1 x=gp (kE a x) (kE b x))∧∀c∈s.2.2.1,c∈a∨c∈b) (fun _:Empty=>True)):=by
        rintro _ _ rfl rfl
        refine Ok.eq (hφ _ _) ?_
        have hlt:ta.length+tb.length<a'.length+b'.length:=by
          rw [h1,h2]
          rcases hw with h | h
          · subst h;cases wb <;> simp <;> omega
          · subst h;cases wa <;> simp <;> omega
        by_cases he:gp (inA ^^ wa) (inB ^^ wb)=is
        · rw [if_pos he] at J
          refine Ok.eq (x:=(out,is)) (by rw [he,show (is != is)=false by simp,cond_false]) ?_
          rw [he] at J
          exact Ok.nx ⟨⟨_,_,J⟩,hlt⟩
        · rw [if_neg he] at J
          refine Ok.eq (x:=(out++[x],gp (inA ^^ wa) (inB ^^ wb))) (by rw [show (gp (inA ^^ wa) (inB ^^ wb) != is)=true by simp [he],cond_true,eR (by simp;omega),aB]) (Ok.nx ⟨⟨_,_,J⟩,hlt⟩)
      rcases hw with rfl | rfl
      · rw [if_pos rfl] at h1
        subst h1
        refine Ok.eq (x:=true) (by rw [fF,cond_true]) ?_
        rw [cond_true]
        have hle2: (bif (((b'.length:Nat):Int)==0) then (some true) else (bif (decide ((((x::ta).length:Nat):Int)>0)) then ((idx (x::ta) 0).bind fun(x181:Int)=>(idx b' 0).bind fun(x183:Int)=>some (decide (x181≤x183))) else (some false)))=some true:=by
          cases b' with
          | nil=>rfl
          | cons y b''=>
            rw [nk,cond_false,fF,cond_true,eT,aB,eT,aB]
            have:x≤y:=by
              cases wb with
              | true=>simp at h2;omega
              | false=>have:=hx y (.inr (by simp at h2;rw [←h2];simp));omega
            rw [decide_eq_true this]
        refine Ok.eq hle2 ?_
        rw [cond_true]
        refine Ok.eq (x:=x) (by rw [eT,aB]) ?_
        refine Ok.eq (x:=true) (by rw [fF,cond_true,eT,aB];simp) ?_
        refine Ok.eq (x:=(ta,!inA)) (by rw [cond_true,lD,aB]) ?_
        cases wb with
        | true=>
          rw [if_pos rfl] at h2
          subst h2
          refine Ok.eq (x:=true) (by rw [fF,cond_true,eT,aB];simp) ?_
          refine Ok.eq (x:=(tb,!inB)) (by rw [cond_true,lD,aB]) ?_
          exact fin _ _ (by simp) (by simp)
        | false=>
          have h2:b'=tb:=h2
          subst h2
          refine Ok.eq (x:=false) ?_ ?_
          · cases b' with
            | nil=>rfl
            | cons y b''=>
              have:=hx y (.inr (by simp))
              rw [fF,cond_true,eT,aB,show (y==x)=false by rw [beq_eq_false_iff_ne];omega]
          · refine Ok.eq (x:=(b',inB)) (by rw [cond_false]) ?_
            exact fin _ _ (by simp) (by simp)
      · cases wa with
        | true=>
          rw [if_pos rfl] at h1 h2
          subst h1;subst h2
          refine Ok.eq (x:=true) (by rw [fF,cond_true]) ?_
          rw [cond_true]
          refine Ok.eq (x:=true) (by rw [nk,cond_false,fF,cond_true,eT,aB,eT,aB];simp) ?_
          rw [cond_true]
          refine Ok.eq (x:=x) (by rw [eT,aB]) ?_
          refine Ok.eq (x:=true) (by rw [fF,cond_true,eT,aB];simp) ?_
          refine Ok.eq (x:=(ta,!inA)) (by rw [cond_true,lD,aB]) ?_
          refine Ok.eq (x:=true) (by rw [fF,cond_true,eT,aB];simp) ?_
          refine Ok.eq (x:=(tb,!inB)) (by rw [cond_true,lD,aB]) ?_
          exact fin _ _ (by simp) (by simp)
        | false=>
          have h1:a'=ta:=h1
          rw [if_pos rfl] at h2
          subst h1;subst h2
          refine Ok.eq (x:=true) (by rw [fF,AB];simp) ?_
          rw [cond_true]
          refine Ok.eq (x:=false) ?_ ?_
          · rw [nk,cond_false]
            cases a' with
            | nil=>rfl
            | cons y a''=>
              have:=hx y (.inl (by simp))
              rw [fF,cond_true,eT,aB,eT,aB,decide_eq_false (by omega)]
          · rw [cond_false]
            refine Ok.eq (x:=x) (by rw [eT,aB]) ?_
            refine Ok.eq (x:=false) ?_ ?_
            · cases a' with
              | nil=>rfl
              | cons y a''=>
                have:=hx y (.inl (by simp))
                rw [fF,cond_true,eT,aB,show (y==x)=false by rw [beq_eq_false_iff_ne];omega]
            · refine Ok.eq (x:=(a',inA)) (by rw [cond_false]) ?_
              refine Ok.eq (x:=true) (by rw [fF,cond_true,eT,aB];simp) ?_
              refine Ok.eq (x:=(tb,!inB)) (by rw [cond_true,lD,aB]) ?_
              exact fin _ _ (by simp) (by simp)
    · have ea:a'= []:=Classical.byContradiction fun h=>hne (.inl h)
      have eb:b'= []:=Classical.byContradiction fun h=>hne (.inr h)
      subst ea;subst eb
      refine Ok.eq (x:=false) rfl ?_
      refine Ok.br ⟨I.inc,?_,fun x=>?_,fun c hc=>?_⟩
      · have h1:=I.ea;have h2:=I.eb
        rw [List.append_nil] at h1 h2
        have h3:xX out=false:=by
          rw [←I.oo,I.ok,I.oa,I.ob,←h1,←h2]
          unfold xX;rw [hae,hbe];exact hk
        unfold xX at h3
        rw [beq_eq_false_iff_ne] at h3
        dsimp only;omega
      · have:=I.CK x (fun d hd=>by rcases hd with h | h <;> cases h)
        have h1:=I.ea;have h2:=I.eb
        rw [List.append_nil] at h1 h2
        rw [h1,h2];exact this
      · have h1:=I.ea;have h2:=I.eb
        rw [List.append_nil] at h1 h2
        rw [h1,h2];exact I.mem c hc
  · exact⟨[],[],rfl,rfl,rfl,rfl,rfl,hk.symm,fun c hc=>(by rcases hc with h | h | h <;> cases h),List.Pairwise.nil,fun x _=>hk.symm,fun c hc=>(by cases hc),Nat.le_refl _⟩
  · rintro o ho
    exact Ok.cs ho (fun s h=>Ok.ret h) (fun r=>r.elim)
theorem cV.app {s t:List Bd} (h:cV (s++t)):cV t:=⟨fun b hb=>h.each b (List.mem_append_right _ hb),(List.pairwise_append.1 h.ord).2.1⟩
theorem cV.low {b:Bd} {s:List Bd} (h:cV (b::s)): ∀c∈b::s,b.y0≤c.y0:=fun c hc=>by
  rcases List.mem_cons.1 hc with rfl | hc
  · exact Int.le_refl _
  · have:=h.w9 c hc;have:=(h.each b (by simp)).1;omega
theorem cV.high {s:List Bd} {b:Bd} (h:cV (s++[b])): ∀c∈s++[b],c.y1≤b.y1:=fun c hc=>by
  rcases List.mem_append.1 hc with hc | hc
  · have:=((List.pairwise_append.1 h.ord).2.2 c hc b (by simp)).1
    have:=(h.each b (by simp)).1;omega
  · simp at hc;subst hc;exact Int.le_refl _
def vN (s:List aA) (y e:Int):List Int×Int:=match s with
  | []=>([],e)
  | b::_=>if y<b.Y0 then ([],if b.Y0<e then b.Y0 else e) else (b.Xs,if b.Y1<e then b.Y1 else e)
theorem uh {α:Type} (x:α) (l:List α):idx (x::l) 0=some x:=rfl
theorem AZ (s:List aA) (y e:Int):hL N s y e=some (vN s y e):=by
  unfold hL vN
  cases s with
  | nil=>rfl
  | cons b s=>
    dsimp only
    rw [nk,cond_false,uh,aB,aB,aB,aB]
    by_cases h:y<b.Y0
    · rw [decide_eq_true h,cond_true,if_pos h]
    · rw [decide_eq_false h,cond_false,if_neg h]
theorem xf {s:List aA} {y e:Int} {X Y:List Int} (hc:cV (s.map bG)) (hl:px X Y (s.map bG)) (hh: ∀b t,s=b::t→y<b.Y1) (hy:y<e):
    y< (vN s y e).2∧(vN s y e).2≤e∧(∀y',y≤y'→y'< (vN s y e).2→rowAt (s.map bG) y'= (vN s y e).1)∧jE (vN s y e).1∧(vN s y e).1.length % 2=0∧((vN s y e).2=e∨(vN s y e).2∈Y)∧∀c∈(vN s y e).1,c∈X:=by
  cases s with
  | nil=>exact⟨hy,Int.le_refl _,fun y' _ _=>rfl,List.Pairwise.nil,rfl, .inl rfl,fun c hc=>(by cases hc)⟩
  | cons b t=>
    have hb:=hc.each (bG b) (by simp)
    have hlb:=hl (bG b) (by simp)
    have h1:=hh b t rfl
    unfold vN
    dsimp only
    by_cases h:y<b.Y0
    · rw [if_pos h]
      dsimp only
      refine⟨by split <;> omega,by split <;> omega,fun y' h2 h3=>?_,List.Pairwise.nil,rfl,?_,fun c hc=>(by cases hc)⟩
      · exact hc.nj (by show y'<b.Y0;split at h3 <;> omega)
      · split
        · exact .inr hlb.1
        · exact .inl rfl
    · rw [if_neg h]
      dsimp only
      refine⟨by split <;> omega,by split <;> omega,fun y' h2 h3=>?_,hb.2.2.1,hb.2.2.2,?_,hlb.2.2⟩
      · exact cV.gY (b:=bG b) (by show b.Y0≤y';omega) (by show y'<b.Y1;split at h3 <;> omega)
      · split
        · exact .inr hlb.2.1
        · exact .inl rfl
theorem tu {y:Int} {a:List aA} (hN:a.length<N) {body:List aA→Option (Fl (List aA) Empty)}
    (hb:body=fun(s373: (List aA))=>((bif (decide ((s373.length:Int)>0)) then ((idx s373 0).bind fun(x407:aA)=>some (decide (x407.Y1≤y))) else (some false)).bind fun(s405:Bool)=>bif s405 then ((oI s373 1 (s373.length:Int)).bind fun(x410: (List aA))=>some (.nx x410)) else (some (.br s373)):Option (Fl ((List aA)) Empty))):
    Ok (itr body N a) (CV (fun a'=>∃p,a=p++a'∧(∀c∈p,c.Y1≤y)∧∀b t,a'=b::t→y<b.Y1) (fun _=>True)):=by
  subst hb
  refine Ok.itr (fun a'=>∃p,a=p++a'∧∀c∈p,c.Y1≤y) List.length ?_ ⟨[],rfl,fun c hc=>(by cases hc)⟩ hN
  rintro a' ⟨p,e,hp⟩
  cases a' with
  | nil=>exact Ok.eq (x:=false) rfl (Ok.br ⟨p,e,hp,fun b t h=>(by cases h)⟩)
  | cons b t=>
    refine Ok.eq (x:=decide (b.Y1≤y)) (by rw [fF,cond_true,uh,aB]) ?_
    refine Ok.bif (fun h=>?_) (fun h=>Ok.br ⟨p,e,hp,fun b' t' h'=>?_⟩)
    · have h:=of_decide_eq_true h
      refine Ok.eq (lD b t) (Ok.nx ⟨⟨p++[b],by rw [e];simp,fun c hc=>?_⟩,by simp⟩)
      rcases List.mem_append.1 hc with hc | hc
      · exact hp c hc
      · simp at hc;subst hc;exact h
    · have h:=of_decide_eq_false h
      injection h' with h1 h2;subst h1;omega
theorem vt {p a':List Bd} {y y':Int} (hp: ∀c∈p,c.y1≤y) (h:y≤y'):rowAt (p++a') y'=rowAt a' y':=by
  rw [jX,if_neg]
  rintro⟨b,hb,h1⟩
  have:=hp b hb;omega
structure ui (gp:Bool→Bool→Bool) (X Y:List Int) (a b s:List aA):Prop where
  can:cV (s.map bG)
  cover: ∀x y,ri (s.map bG) x y=gp (ri (a.map bG) x y) (ri (b.map bG) x y)
  lim:px X Y (s.map bG)
theorem r7 {s:List aA} (hs:s≠[]) (hl:s.length≤1099511627776) (hc:cV (s.map bG)): ∃f l,idx s 0=some f∧idx s (IntKind.wrap .i64 (((s.length:Nat):Int) - 1))=some l∧f∈s∧l∈s∧∀c∈s,f.Y0≤c.Y0∧c.Y1≤l.Y1:=by
  cases s with
  | nil=>exact absurd rfl hs
  | cons f t=>
    rw [jm (by simp) (by omega)]
    have hlt: (f::t).length - 1< (f::t).length:=by simp
    refine⟨f,(f::t)[(f::t).length - 1],rfl,fN _ _ hlt,by simp,List.getElem_mem _,fun c hcm=>⟨?_,?_⟩⟩
    · exact hc.low (bG c) (List.mem_map.2 ⟨c,hcm,rfl⟩)
    · have e: (f::t)= (f::t).dropLast++[(f::t)[(f::t).length - 1]]:=by
        have:=List.dropLast_concat_getLast (show f::t≠[] by simp)
        rw [←List.getLast_eq_getElem (h:=by simp)];exact this.symm
      generalize (f::t)[(f::t).length - 1]=l at e
      have hc2:=hc
      rw [e,List.map_append] at hc2
      have hm:bG c∈(List.map bG (f::t).dropLast++[bG l]):=by
        have:bG c∈(f::t).map bG:=List.mem_map.2 ⟨c,hcm,rfl⟩
        rw [e,List.map_append] at this;exact this
      exact cV.high hc2 (bG c) hm
theorem wD {φ:Bool→Bool→Option Bool} {gp:Bool→Bool→Bool} (hφ: ∀p q,φ p q=some (gp p q)) (hk:gp false false=false) {a b:List aA} {X Y:List Int} (ca:cV (a.map bG)) (cb:cV (b.map bG))
    (la:px X Y (a.map bG)) (lb:px X Y (b.map bG)) (hX:X.length≤1048576000) (hY:Y.length≤1048576000) (hs: ∀c∈Y,small c) (hN:4398046511104≤N):Ok (jv N a b φ) (ui gp X Y a b):=by
  have hal:a.length≤Y.length:=by have:=la.len ca;rwa [List.length_map] at this
  have hbl:b.length≤Y.length:=by have:=lb.len cb;rwa [List.length_map] at this
  unfold jv
  rw [wrap_add (by omega)]
  refine Ok.bif (fun h=>Ok.ret ?_) (fun h=>?_)
  · have h:a.length+b.length=0:=by have:=beq_iff_eq.1 h;omega
    have e1:a= []:=List.eq_nil_of_length_eq_zero (by omega)
    have e2:b= []:=List.eq_nil_of_length_eq_zero (by omega)
    subst e1;subst e2
    exact⟨cV.nil,fun x y=>hk.symm,fun c hc=>(by cases hc)⟩
  have h0:a≠[]∨b≠[]:=by
    rw [beq_eq_false_iff_ne] at h
    by_cases e:a= []
    · right;intro e2;subst e;subst e2;exact h rfl
    · exact .inl e
  refine Ok.bind (Ok.gZ (fun k s=>match k with | 0=>True | 1=>a= []∨((∀c∈a,s.1≤c.Y0∧c.Y1≤s.2)∧s.1∈Y∧s.2∈Y) | _=>((∀c∈a,s.1≤c.Y0∧c.Y1≤s.2)∧(∀c∈b,s.1≤c.Y0∧c.Y1≤s.2)∧s.1∈Y∧s.2∈Y)) (by simp) trivial (fun k s hk hI=>?_)) ?_
  · obtain⟨y,e⟩:=s
    have hk:k=0∨k=1:=by simp at hk;omega
    rcases hk with rfl | rfl
    · refine Ok.ix (x:=a) rfl ?_
      by_cases ea:a= []
      · subst ea
        exact Ok.eq (x:=(y,e)) rfl (Ok.ret (.inl rfl))
      · obtain⟨f,l,f1,f2,f3,f4,f5⟩:=r7 ea (by omega) ca
        have hpos:decide (((a.length:Nat):Int)>0)=true:=decide_eq_true (by have:=List.length_pos_iff.2 ea;omega)
        refine Ok.eq (x:=(f.Y0,l.Y1)) ?_ (Ok.ret (.inr ⟨f5,(la _ (List.mem_map.2 ⟨f,f3,rfl⟩)).1,(la _ (List.mem_map.2 ⟨l,f4,rfl⟩)).2.1⟩))
        rw [hpos,cond_true]
        show ((some true).bind _)=_
        rw [aB,cond_true,f1,aB,f2,aB,aB,aB,aB]
        simp
    · refine Ok.ix (x:=b) rfl ?_
      have hI:a= []∨((∀c∈a,y≤c.Y0∧c.Y1≤e)∧y∈Y∧e∈Y):=hI
      by_cases eb:b= []
      · subst eb
        refine Ok.eq (x:=(y,e)) rfl (Ok.ret ?_)
        rcases hI with h | ⟨h1,h2,h3⟩
        · rcases h0 with h' | h'
          · exact absurd h h'
          · exact absurd rfl h'
        · exact⟨h1,fun c hc=>(by cases hc),h2,h3⟩
      · obtain⟨f,l,f1,f2,f3,f4,f5⟩:=r7 eb (by omega) cb
        have hpos:decide (((b.length:Nat):Int)>0)=true:=decide_eq_true (by have:=List.length_pos_iff.2 eb;omega)
        have g1:f.Y0∈Y:=(lb _ (List.mem_map.2 ⟨f,f3,rfl⟩)).1
        have g2:l.Y1∈Y:=(lb _ (List.mem_map.2 ⟨l,f4,rfl⟩)).2.1
        by_cases ea:a= []
        · subst ea
          refine Ok.eq (x:=(f.Y0,l.Y1)) ?_ (Ok.ret ⟨fun c hc=>(by cases hc),f5,g1,g2⟩)
          rw [hpos,cond_true]
          show ((some true).bind _)=_
          rw [aB,cond_true,f1,aB,f2,aB,aB,aB,aB]
          simp
        · obtain⟨h1,h2,h3⟩:=hI.resolve_left ea
          refine Ok.eq (x:=(if f.Y0<y then f.Y0 else y,if e<l.Y1 then l.Y1 else e)) ?_ (Ok.ret ⟨fun c hc=>?_,fun c hc=>?_,?_,?_⟩)
          · rw [hpos,cond_true]
            have ez: (((a.length:Nat):Int)==0)=false:=by rw [beq_eq_false_iff_ne];have:=List.length_pos_iff.2 ea;omega
            rw [ez]
            show ((some false).bind _)=_
            rw [aB,cond_false,aB,f1,aB,f2,aB]
          · have:=h1 c hc;dsimp only;split <;> split <;> omega
          · have:=f5 c hc;dsimp only;split <;> split <;> omega
          · dsimp only;split
            · exact g1
            · exact h2
          · dsimp only;split
            · exact g2
            · exact h3
  · rintro⟨y0,e0⟩ hI
    have hI: (∀c∈a,y0≤c.Y0∧c.Y1≤e0)∧(∀c∈b,y0≤c.Y0∧c.Y1≤e0)∧y0∈Y∧e0∈Y:=hI
    obtain⟨ia,ib,iy,ie⟩:=hI
    have sy:=hs _ iy
    have se:=hs _ ie
    unfold small at sy se
    dsimp only
    refine Ok.bind (Ok.itr (Go:=fun s=>ui gp X Y a b s.2.2.1) (Rt:=fun _=>True)
      (fun s=>∃pa pb,a=pa++s.1∧b=pb++s.2.1∧(∀c∈pa,c.Y1≤s.2.2.2)∧(∀c∈pb,c.Y1≤s.2.2.2)∧y0≤s.2.2.2∧s.2.2.2≤max y0 e0∧s.2.2.2∈Y∧cV (s.2.2.1.map bG)∧px X Y (s.2.2.1.map bG)∧(∀c∈s.2.2.1,c.Y1≤s.2.2.2)∧
        ∀x y,ri (s.2.2.1.map bG) x y= (gp (ri (a.map bG) x y) (ri (b.map bG) x y)&&decide (y<s.2.2.2)))
      (fun s=>(e0 - s.2.2.2).toNat) ?_ ?_ (by dsimp only;omega)) ?_
    · rintro⟨a',b',out,y⟩ ⟨pa,pb,ea,eb,hpa,hpb,hy0,hye,hyY,hcan,hlim,htop,hcov⟩
      dsimp only at ea eb hpa hpb hy0 hye hyY hcan hlim htop hcov ⊢
      refine Ok.bif (fun h=>?_) (fun h=>Ok.br ?_)
      · have hlt:y<e0:=of_decide_eq_true h
        have hsl: ∀(p s t:List aA),t=p++s→s.length≤t.length:=fun p s t e=>by rw [e];simp
        have hal':=hsl _ _ _ ea
        have hbl':=hsl _ _ _ eb
        refine Ok.bind (tu (y:=y) (a:=a') (by omega) rfl) (fun o ho=>Ok.cs ho ?_ (fun r=>r.elim))
        rintro a2 ⟨qa,ea2,hqa,hha⟩
        refine Ok.bind (tu (y:=y) (a:=b') (by omega) rfl) (fun o ho=>Ok.cs ho ?_ (fun r=>r.elim))
        rintro b2 ⟨qb,eb2,hqb,hhb⟩
        have ea3:a= (pa++qa)++a2:=by rw [ea,ea2];simp
        have eb3:b= (pb++qb)++b2:=by rw [eb,eb2];simp
        have hPa: ∀c∈pa++qa,c.Y1≤y:=fun c hc=>by rcases List.mem_append.1 hc with h | h;exact hpa c h;exact hqa c h
        have hPb: ∀c∈pb++qb,c.Y1≤y:=fun c hc=>by rcases List.mem_append.1 hc with h | h;exact hpb c h;exact hqb c h
        have ca2:cV (a2.map bG):=by have:=ca;rw [ea3,List.map_append] at this;exact this.app
        have cb2:cV (b2.map bG):=by have:=cb;rw [eb3,List.map_append] at this;exact this.app
        have la2:px X Y (a2.map bG):=fun c hc=>la c (by rw [ea3,List.map_append];exact List.mem_append_right _ hc)
        have lb2:px X Y (b2.map bG):=fun c hc=>lb c (by rw [eb3,List.map_append];exact List.mem_append_right _ hc)
        refine Ok.eq (AZ a2 y e0) (Ok.eq (AZ b2 y e0) ?_)
        obtain⟨a1,a3,a4,a5,a6,a7,a8⟩:=xf ca2 la2 hha hlt
        obtain⟨b1,b3,b4,b5,b6,b7,b8⟩:=xf cb2 lb2 hhb hlt
        have hal2: (vN a2 y e0).1.length≤X.length:=fz a5.nodup a8
        have hbl2: (vN b2 y e0).1.length≤X.length:=fz b5.nodup b8
        generalize vN a2 y e0=pa2 at *
        generalize vN b2 y e0=pb2 at *
        obtain⟨xa,n⟩:=pa2
        obtain⟨xb,m⟩:=pb2
        dsimp only at *
        refine Ok.bind (xY hφ hk a5 b5 a6 b6 (by omega) (by omega) (by omega)) ?_
        rintro row ⟨r1,r2,r3,r4⟩
        have hnx: ∃nx,nx= (if m<n then m else n)∧y<nx∧nx≤e0∧nx≤n∧nx≤m∧nx∈Y:=by
          refine⟨_,rfl,by split <;> omega,by split <;> omega,by split <;> omega,by split <;> omega,?_⟩
          split
          · rcases b7 with h | h
            · rw [h];exact ie
            · exact h
          · rcases a7 with h | h
            · rw [h];exact ie
            · exact h
        obtain⟨nx,hnx,n1,n2,n3,n4,n5⟩:=hnx
        rw [←hnx]
        have hol:out.length≤Y.length:=by have:=hlim.len hcan;rwa [List.length_map] at this
        obtain⟨out',p1,p2⟩:=xe (N:=N) (s:=out) (b:=⟨y,nx,row⟩) (by omega) (fun c hc=>by
          have:=hlim.row hcan (b:=bG c) (List.mem_map.2 ⟨c,hc,rfl⟩)
          have e: (bG c).xs=c.Xs:=rfl
          rw [e] at this;omega)
        refine Ok.eq p1 ?_
        have htop': ∀c∈out.map bG,c.y1≤(bG ⟨y,nx,row⟩).y0:=fun c hc=>by
          obtain⟨d,hd,rfl⟩:=List.mem_map.1 hc
          exact htop d hd
        refine Ok.nx ⟨⟨pa++qa,pb++qb,ea3,eb3,fun c hc=>by have:=hPa c hc;dsimp only;omega,fun c hc=>by have:=hPb c hc;dsimp only;omega,by dsimp only;omega,by dsimp only;omega,n5,by dsimp only;rw [p2];exact tp hcan htop' r1 r2,?_,fun c hc=>?_,fun x y'=>?_⟩,by dsimp only;omega⟩
        · dsimp only;rw [p2]
          refine hlim.push hyY n5 (fun c hc=>?_)
          rcases r4 c hc with h | h
          · exact a8 c h
          · exact b8 c h
        · have hm':bG c∈pushB (out.map bG) (bG ⟨y,nx,row⟩):=by rw [←p2];exact List.mem_map.2 ⟨c,hc,rfl⟩
          exact tq htop' (by show y≤nx;omega) _ hm'
        · show kE (rowAt (out'.map bG) y') x=_
          rw [p2,tn htop' (fun c hc=>(hcan.each c hc).1) (fun h=>absurd h (by show ¬nx≤y;omega))]
          by_cases hyy:y≤y'∧y'<nx
          · rw [if_pos (show (bG ⟨y,nx,row⟩).y0≤y'∧y'< (bG ⟨y,nx,row⟩).y1 from hyy),decide_eq_true hyy.2,Bool.and_true]
            show kE row x=_
            have mp: ∀p q:List aA,(∀c∈p++q,c.Y1≤y)→∀c∈(p++q).map bG,c.y1≤y:=fun p q h c hc=>by
              obtain⟨d,hd,rfl⟩:=List.mem_map.1 hc
              exact h d hd
            have q1:ri (a.map bG) x y'=kE xa x:=by
              unfold ri
              rw [ea3,List.map_append,vt (mp _ _ hPa) hyy.1,a4 y' hyy.1 (by omega)]
            have q2:ri (b.map bG) x y'=kE xb x:=by
              unfold ri
              rw [eb3,List.map_append,vt (mp _ _ hPb) hyy.1,b4 y' hyy.1 (by omega)]
            rw [r3,q1,q2]
          · rw [if_neg (show ¬((bG ⟨y,nx,row⟩).y0≤y'∧y'< (bG ⟨y,nx,row⟩).y1) from hyy)]
            show ri (out.map bG) x y'=_
            rw [hcov]
            by_cases h1:y'<y
            · rw [decide_eq_true h1,decide_eq_true (show y'<nx by omega)]
            · rw [decide_eq_false h1,decide_eq_false (show ¬y'<nx by omega)]
      · have hge:e0≤y:=by have:=of_decide_eq_false h;omega
        refine⟨hcan,fun x y'=>?_,hlim⟩
        dsimp only
        rw [hcov]
        by_cases h1:y'<y
        · rw [decide_eq_true h1,Bool.and_true]
        · have z: ∀s:List aA,(∀c∈s,y0≤c.Y0∧c.Y1≤e0)→ri (s.map bG) x y'=false:=fun s h=>by
            unfold ri
            rw [iH fun c hc=>?_]
            · rfl
            · obtain⟨d,hd,rfl⟩:=List.mem_map.1 hc
              exact .inr (by have:=(h d hd).2;show d.Y1≤y';omega)
          rw [z a ia,z b ib,hk];rfl
    · refine⟨[],[],rfl,rfl,fun c hc=>(by cases hc),fun c hc=>(by cases hc),Int.le_refl _,by dsimp only;omega,iy,cV.nil,fun c hc=>(by cases hc),fun c hc=>(by cases hc),fun x y=>?_⟩
      dsimp only
      show false=_
      by_cases h1:y<y0
      · have z: ∀s:List aA,(∀c∈s,y0≤c.Y0∧c.Y1≤e0)→ri (s.map bG) x y=false:=fun s h=>by
          unfold ri
          rw [iH fun c hc=>?_]
          · rfl
          · obtain⟨d,hd,rfl⟩:=List.mem_map.1 hc
            exact .inl (by have:=(h d hd).1;show y<d.Y0;omega)
        rw [z a ia,z b ib,hk];rfl
      · rw [decide_eq_false h1,Bool.and_false]
    · rintro o ho
      exact Ok.cs ho (fun s h=>Ok.ret h) (fun r=>r.elim)
theorem xZ {a b:List aA} {X Y:List Int} (ca:cV (a.map bG)) (cb:cV (b.map bG)) (la:px X Y (a.map bG)) (lb:px X Y (b.map bG)) (hX:X.length≤1048576000) (hY:Y.length≤1048576000) (hs: ∀c∈Y,small c) (hN:4398046511104≤N):
    Ok (fU N a b) (ui (fun p q=>p&& !q) X Y a b):=by
  unfold fU
  exact Ok.bind (wD (gp:=fun p q=>p&& !q) (fun p q=>rfl) rfl ca cb la lb hX hY hs hN) (fun s h=>Ok.ret h)
end
end Go.Gk
namespace Go.Gk
open Go
section
variable {N:Nat}
structure UF (n:Nat) (up:List Int) (r:Nat→Nat):Prop where
  len:up.length=n
  rt: ∀i,i<n→∃u:Nat,up[i]? =some ((u:Nat):Int)∧u≤i∧r u=r i∧(u=i↔r i=i)
theorem UF.le {n:Nat} {up:List Int} {r:Nat→Nat} (h:UF n up r): ∀i,i<n→r i≤i:=by
  intro i
  induction i using Nat.strongRecOn with
  | ind i ih=>
    intro hi
    obtain⟨u,_,h2,h3,h4⟩:=h.rt i hi
    by_cases e:u=i
    · rw [h4.1 e];exact Nat.le_refl _
    · rw [←h3];have:=ih u (by omega) (by omega);omega
theorem UF.rr {n:Nat} {up:List Int} {r:Nat→Nat} (h:UF n up r): ∀i,i<n→r (r i)=r i:=by
  intro i
  induction i using Nat.strongRecOn with
  | ind i ih=>
    intro hi
    obtain⟨u,_,h2,h3,h4⟩:=h.rt i hi
    by_cases e:u=i
    · rw [h4.1 e,h4.1 e]
    · rw [←h3];exact ih u (by omega) (by omega)
theorem iD {l:List Int} {j:Nat} {v:Int} {i:Nat} (hj:j<l.length): (l.set j v)[i]? =if i=j then some v else l[i]? :=by
  rw [List.getElem?_set]
  by_cases e:j=i
  · rw [if_pos e,if_pos e.symm,if_pos hj]
  · rw [if_neg e,if_neg (fun h=>e h.symm)]
theorem UF.init (n:Nat) (up:List Int) (h1:up.length=n) (h2: ∀i,i<n→up[i]? =some ((i:Nat):Int)):UF n up (fun i=>i):=
  ⟨h1,fun i hi=>⟨i,h2 i hi,Nat.le_refl _,rfl,by simp⟩⟩
theorem vu {n:Nat} (hn:n≤1048576000): ∃up,fV N ((n:Nat):Int)=some up∧UF n up (fun i=>i):=by
  unfold fV
  rw [oY 0 (by omega),aB]
  have h0: (List.replicate n (0:Int)).length=n:=by simp
  obtain⟨s',h1,h2⟩:=rh (m:=(List.replicate n (0:Int)).length) (s:=List.replicate n (0:Int)) (body:=fun(k34:Nat) (s35: (List Int))=>((idx s35 (k34:Int)).bind fun(x38:Int)=>some (s35.set (Int.toNat (k34:Int)) (k34:Int)):Option ((List Int))))
    (fun k s=>s.length=n∧∀i,i<k→s[i]? =some ((i:Nat):Int)) (by omega) ⟨h0,fun i hi=>by omega⟩ (fun k s hk ⟨hs,hi⟩=>by
      refine⟨s.set k ((k:Nat):Int),?_,by simp [hs],fun i hi'=>?_⟩
      · rw [fN _ _ (by omega),aB,Int.toNat_natCast]
      · rw [iD (by omega)]
        split
        · rename_i e;rw [e]
        · exact hi i (by omega))
  rw [h1,aB]
  exact⟨s',rfl,UF.init n s' h2.1 (fun i hi=>h2.2 i (by omega))⟩
theorem uj {n:Nat} {up:List Int} {r:Nat→Nat} (h:UF n up r) {i:Nat} (hi:i<n) (hn:n<N): ∃up',cX N up ((i:Nat):Int)=some (((r i:Nat):Int),up')∧UF n up' r:=by
  unfold cX
  obtain⟨o,h1,h2⟩:=itr_inv (R:=Empty) (body:=fun(s32: (List Int)×Int)=>((idx s32.1 s32.2).bind fun(x43:Int)=>bif (x43 != s32.2) then ((idx s32.1 s32.2).bind fun(x44:Int)=>(idx s32.1 x44).bind fun(x45:Int)=>(idx s32.1 s32.2).bind fun(x46:Int)=>(idx (s32.1.set (Int.toNat s32.2) x45) s32.2).bind fun(x47:Int)=>some (.nx ((s32.1.set (Int.toNat s32.2) x45),x47))) else (some (.br (s32.1,s32.2))):Option (Fl ((List Int)×Int) Empty)))
    (fun s=>UF n s.1 r∧∃j:Nat,s.2= ((j:Nat):Int)∧j<n∧r j=r i) (fun s=>s.2.toNat) (fun s=>s.2= ((r i:Nat):Int)∧UF n s.1 r) (fun _=>True) (fun s ⟨hu,j,hj,hjn,hr⟩=>by
      obtain⟨l,y⟩:=s
      dsimp only at hu hj ⊢
      subst hj
      obtain⟨u,a1,a2,a3,a4⟩:=hu.rt j hjn
      rw [gU a1,aB]
      by_cases e:u=j
      · subst e
        refine⟨.br (l,((u:Nat):Int)),by rw [show (((u:Nat):Int) != ((u:Nat):Int))=false by simp,cond_false],?_,hu⟩
        show ((u:Nat):Int)=_
        rw [←hr,a4.1 rfl]
      · obtain⟨v,b1,b2,b3,b4⟩:=hu.rt u (by omega)
        have hl:=hu.len
        refine⟨.nx (l.set j ((v:Nat):Int),((v:Nat):Int)),by
          rw [show (((u:Nat):Int) != ((j:Nat):Int))=true by simp;omega,cond_true,aB,gU b1,aB,aB,Int.toNat_natCast,
            gU (x:=((v:Nat):Int)) (by rw [iD (by omega),if_pos rfl]),aB],⟨⟨by simp [hl],fun k hk=>?_⟩,v,rfl,by omega,?_⟩,?_⟩
        · rw [iD (by omega)]
          by_cases e2:k=j
          · subst e2
            rw [if_pos rfl]
            refine⟨v,rfl,by omega,by rw [b3,a3],?_⟩
            constructor
            · intro h;omega
            · intro h;exact absurd (a4.2 h) e
          · rw [if_neg e2];exact hu.rt k hk
        · rw [b3,a3,hr]
        · simp only [Int.toNat_natCast];omega)
    N (up,((i:Nat):Int)) ⟨h,i,rfl,hi,rfl⟩ (by simp only [Int.toNat_natCast];omega)
  rw [h1,aB]
  cases o with
  | go s'=>exact⟨s'.1,by rw [←h2.1];rfl,h2.2⟩
  | rt r=>exact r.elim
def jf (r:Nat→Nat) (a b:Nat):Nat→Nat:=fun x=>if r x=max a b then min a b else r x
theorem zw (a b:Nat): (if ((a:Nat):Int)< ((b:Nat):Int) then ((b:Nat):Int) else ((a:Nat):Int))= ((max a b:Nat):Int):=by
  rw [Nat.max_def];split <;> split <;> omega
theorem zx (a b:Nat): (if ((b:Nat):Int)< ((a:Nat):Int) then ((b:Nat):Int) else ((a:Nat):Int))= ((min a b:Nat):Int):=by
  rw [Nat.min_def];split <;> split <;> omega
theorem AH {n:Nat} {up:List Int} {r:Nat→Nat} (h:UF n up r) {i k:Nat} (hi:i<n) (hk:k<n) (hn:n<N):
    ∃up',dH N up ((i:Nat):Int) ((k:Nat):Int)=some up'∧UF n up' (jf r (r i) (r k)):=by
  obtain⟨u1,a1,a2⟩:=uj h hi hn
  obtain⟨u2,b1,b2⟩:=uj a2 hk hn
  have hri:=h.le i hi
  have hrk:=h.le k hk
  have rri:=h.rr i hi
  have rrk:=h.rr k hk
  unfold dH
  rw [a1,aB,b1,aB]
  dsimp only
  rw [zw,zx]
  have hm:max (r i) (r k)<n:=by omega
  have hl:=b2.len
  rw [fN _ _ (by omega),aB,Int.toNat_natCast]
  refine⟨_,rfl,by simp [hl],fun x hx=>?_⟩
  have rmax:r (max (r i) (r k))=max (r i) (r k):=by rcases Nat.le_total (r i) (r k) with e | e <;> simp [Nat.max_def] <;> split <;> omega
  have rmin:r (min (r i) (r k))=min (r i) (r k):=by rcases Nat.le_total (r i) (r k) with e | e <;> simp [Nat.min_def] <;> split <;> omega
  rw [iD (by omega)]
  by_cases e:x=max (r i) (r k)
  · subst e
    rw [if_pos rfl]
    refine⟨min (r i) (r k),rfl,by omega,?_,?_⟩
    · unfold jf;rw [rmin,rmax,if_pos rfl];split <;> rfl
    · unfold jf;rw [rmax,if_pos rfl]
  · rw [if_neg e]
    obtain⟨u,c1,c2,c3,c4⟩:=b2.rt x hx
    refine⟨u,c1,c2,?_,?_⟩
    · unfold jf;rw [c3]
    · unfold jf
      split
      · rename_i e2
        constructor
        · intro hu;have:=c4.1 hu;omega
        · intro hu
          have h1:=b2.le x hx
          have:min (r i) (r k)=max (r i) (r k)∨x<max (r i) (r k):=by omega
          have h3:x=max (r i) (r k):=by omega
          exact absurd h3 e
      · exact c4
def kp (r:Nat→Nat) (E:List (Nat×Nat)):Prop:=∀p∈E,r p.1=r p.2
def r8 (n:Nat) (r:Nat→Nat) (E:List (Nat×Nat)):Prop:=∀S:Nat→Prop,(∀p∈E,S p.1↔S p.2)→∀i j,i<n→j<n→r i=r j→S i→S j
theorem kp.join {r:Nat→Nat} {E:List (Nat×Nat)} (h:kp r E) (i k:Nat) (_h2:r (r i)=r i):kp (jf r (r i) (r k)) (E++[(i,k)]):=fun p hp=>by
  rcases List.mem_append.1 hp with hp | hp
  · unfold jf;rw [h p hp]
  · simp at hp;subst hp
    unfold jf
    dsimp only
    split <;> split <;> omega
theorem r8.join {n:Nat} {r:Nat→Nat} {E:List (Nat×Nat)} (h:r8 n r E) {i k:Nat} (hi:i<n) (hk:k<n):r8 n (jf r (r i) (r k)) (E++[(i,k)]):=fun S hS x y hx hy hr hSx=>by
  have hE: ∀p∈E,S p.1↔S p.2:=fun p hp=>hS p (List.mem_append_left _ hp)
  have hik:S i↔S k:=hS (i,k) (by simp)
  have key:=h S hE
  unfold jf at hr
  by_cases h1:r x=r y
  · exact key x y hx hy h1 hSx
  · have: (r x=r i∧r y=r k)∨(r x=r k∧r y=r i):=by
      split at hr <;> split at hr <;> omega
    rcases this with ⟨e1,e2⟩ | ⟨e1,e2⟩
    · exact key k y hk hy e2.symm (hik.1 (key x i hx hi e1 hSx))
    · exact key i y hi hy e2.symm (hik.2 (key x k hx hk e1 hSx))
theorem r8.id (n:Nat):r8 n (fun i=>i) []:=fun S _ i j _ _ h hs=>by
  have h:i=j:=h
  subst h;exact hs
theorem kp.id:kp (fun i=>i) []:=fun p hp=>by simp at hp
def bE (n:Nat) (r:Nat→Nat):List Nat:=(List.range n).filter (fun k=>decide (r k=k))
def cls (n:Nat) (r:Nat→Nat) (k:Nat):List Nat:=(List.range n).filter (fun i=>decide (r i=k))
theorem fK (n:Nat) (r:Nat→Nat):bE (n+1) r=if r n=n then bE n r++[n] else bE n r:=by
  unfold bE
  rw [List.range_succ,List.filter_append]
  by_cases h:r n=n
  · rw [if_pos h];simp [h]
  · rw [if_neg h];simp [h]
theorem mW (n:Nat) (r:Nat→Nat) (k:Nat):cls (n+1) r k=if r n=k then cls n r k++[n] else cls n r k:=by
  unfold cls
  rw [List.range_succ,List.filter_append]
  by_cases h:r n=k
  · rw [if_pos h];simp [h]
  · rw [if_neg h];simp [h]
theorem jo (n:Nat) (r:Nat→Nat): (bE n r).length≤n:=by
  have:=List.length_filter_le (fun k=>decide (r k=k)) (List.range n)
  rw [List.length_range] at this;exact this
theorem uk (n:Nat) (r:Nat→Nat) (k:Nat): (cls n r k).length≤n:=by
  have:=List.length_filter_le (fun i=>decide (r i=k)) (List.range n)
  rw [List.length_range] at this;exact this
theorem eY {n k:Nat} {r:Nat→Nat}:k∈bE n r↔k<n∧r k=k:=by unfold bE;simp
theorem ga (n:Nat) (r:Nat→Nat): (bE n r).Nodup:=List.Nodup.sublist List.filter_sublist List.nodup_range
def kq (n:Nat) (r:Nat→Nat):List (List Int):=(bE n r).map (fun k=>(cls n r k).map (fun i=>((i:Nat):Int)))
theorem xg {n k:Nat} {r:Nat→Nat} (h: ∀i,i<n→r i≤i) (hk:n≤k):cls n r k= []:=by
  unfold cls
  rw [List.filter_eq_nil_iff]
  intro i hi
  have h1:=List.mem_range.1 hi
  have:=h i h1
  simp;omega
theorem mX {α β:Type} (f g:α→β) (l:List α) (j:Nat) (a:α) (hn:l.Nodup) (hj:l[j]? =some a) (hf: ∀b,b∈l→b≠a→f b=g b): (l.map f).set j (g a)=l.map g:=by
  apply List.ext_getElem?
  intro i
  have hjl:=(List.getElem?_eq_some_iff.1 hj).1
  rw [List.getElem?_set,List.length_map,List.getElem?_map,List.getElem?_map]
  by_cases e:j=i
  · subst e;rw [if_pos rfl,if_pos hjl,hj];rfl
  · rw [if_neg e]
    cases hb:l[i]? with
    | none=>rfl
    | some b=>
      have hne:b≠a:=fun he=>by
        subst he
        have hil:=(List.getElem?_eq_some_iff.1 hb).1
        exact e ((List.getElem_inj hn).1 (by rw [(List.getElem?_eq_some_iff.1 hb).2,(List.getElem?_eq_some_iff.1 hj).2]) |>.symm)
      show some (f b)=some (g b)
      rw [hf b (List.mem_of_getElem? hb) hne]
def CL (n:Nat) (r:Nat→Nat) (m:List (Int×Int)):Prop:=∀(j k:Nat),(bE n r)[j]? =some k→mget m ((k:Nat):Int) 0= ((j:Nat):Int)
theorem AJ {n:Nat} {up:List Int} {r:Nat→Nat} (h:UF n up r) (hn:n<N) (hn2:n≤1048576000): ∃up',fj N up=some (kq n r,up')∧UF n up' r:=by
  unfold fj
  have hlen:=h.len
  have hle:=h.le
  have hrr:=h.rr
  obtain⟨s',h1,h2⟩:=rh (m:=up.length) (s:=(up,([]: (List (List Int))),([]: (List (Int×Int)))))
    (body:=fun(k32:Nat) (s33: (List Int)×(List (List Int))×(List (Int×Int)))=>((cX N s33.1 (k32:Int)).bind fun(eH: (Int×(List Int)))=>(bif (eH.1==(k32:Int)) then ((app 24 s33.2.1 [([]: (List Int))]).bind fun(x126: (List (List Int)))=>some (x126,(mput s33.2.2 (k32:Int) (s33.2.1.length:Int)))) else (some (s33.2.1,s33.2.2))).bind fun(s122: (List (List Int))×(List (Int×Int)))=>(idx s122.1 (mget s122.2 eH.1 (0:Int))).bind fun(x128: (List Int))=>(app 8 x128 ([(k32:Int)]: (List Int))).bind fun(x134: (List Int))=>(idx s122.1 (mget s122.2 eH.1 (0:Int))).bind fun(x136: (List Int))=>some (eH.2,(s122.1.set (Int.toNat (mget s122.2 eH.1 (0:Int))) x134),s122.2):Option ((List Int)×(List (List Int))×(List (Int×Int)))))
    (fun k s=>UF n s.1 r∧s.2.1=kq k r∧CL k r s.2.2) (by omega) ⟨h,rfl,fun j k hj=>by simp [bE] at hj⟩ (fun k s hk ⟨hu,hs,hm⟩=>by
      obtain⟨l,ss,m⟩:=s
      dsimp only at hu hs hm ⊢
      subst hs
      rw [hlen] at hk
      obtain⟨u',a1,a2⟩:=uj hu hk hn
      rw [a1,aB]
      dsimp only
      have hhl:=jo k r
      have hsl: (kq k r).length= (bE k r).length:=by unfold kq;simp
      have hrk:=hle k hk
      by_cases e:r k=k
      ·
        rw [show (((r k:Nat):Int)==((k:Nat):Int))=true by rw [e];simp,cond_true,eR (by rw [hsl];simp;omega),aB,aB]
        dsimp only
        rw [e,qw,if_pos rfl,hsl]
        have hi: (kq k r++[([]:List Int)])[(bE k r).length]? =some []:=by rw [←hsl,List.getElem?_append_right (Nat.le_refl _),Nat.sub_self];rfl
        rw [gU hi,aB,eR (by simp),aB,aB,Int.toNat_natCast]
        refine⟨_,rfl,a2,?_,fun j q hj=>?_⟩
        · dsimp only
          rw [←hsl,List.set_append_right _ _ (Nat.le_refl _),Nat.sub_self]
          unfold kq
          rw [fK,if_pos e,List.map_append]
          congr 1
          · apply List.map_congr_left
            intro a ha
            have:=(eY.1 ha).1
            rw [mW,if_neg (by omega)]
          · simp only [List.set_cons_zero,List.map_cons,List.map_nil,List.nil_append]
            rw [mW,if_pos e,xg (fun i hi=>hle i (by omega)) (Nat.le_refl _)];rfl
        · dsimp only
          rw [fK,if_pos e] at hj
          rw [qw]
          by_cases e2:j< (bE k r).length
          · rw [List.getElem?_append_left e2] at hj
            have:=(eY.1 (List.mem_of_getElem? hj)).1
            rw [if_neg (by omega)];exact hm j q hj
          · rw [List.getElem?_append_right (by omega)] at hj
            have hj0:j - (bE k r).length=0:=by
              have:=(List.getElem?_eq_some_iff.1 hj).1;simp at this;omega
            rw [hj0] at hj;simp at hj;subst hj
            rw [if_pos rfl];congr 1;omega
      · rw [show (((r k:Nat):Int)==((k:Nat):Int))=false by simp;omega,cond_false,aB]
        dsimp only
        have hh:r k∈bE k r:=eY.2 ⟨by omega,hrr k hk⟩
        obtain⟨j,hj⟩:=List.getElem?_of_mem hh
        rw [hm j (r k) hj]
        have hcl:=uk k r (r k)
        have hi: (kq k r)[j]? =some ((cls k r (r k)).map (fun i=>((i:Nat):Int))):=by unfold kq;rw [List.getElem?_map,hj];rfl
        rw [gU hi,aB,eR (by simp;omega),aB,aB,Int.toNat_natCast]
        refine⟨_,rfl,a2,?_,fun j' q hj'=>?_⟩
        · unfold kq
          rw [fK,if_neg e]
          have:=mX (fun a=>(cls k r a).map (fun i=>((i:Nat):Int))) (fun a=>(cls (k+1) r a).map (fun i=>((i:Nat):Int))) (bE k r) j (r k) (ga k r) hj (fun b hb hne=>by
            rw [mW,if_neg (fun h=>hne h.symm)])
          rw [mW,if_pos rfl,List.map_append] at this
          exact this
        · rw [fK,if_neg e] at hj';exact hm j' q hj')
  rw [h1,aB]
  obtain⟨l,ss,m⟩:=s'
  dsimp only at h2
  rw [hlen] at h2
  refine⟨l,?_,h2.1⟩
  rw [←h2.2.1]
end
end Go.Gk
namespace Go.Gk
open Go
section
variable {N:Nat}
theorem um {n:Nat} {up:List Int} {r:Nat→Nat} (h:UF n up r) {i:Nat} (hi:i<n) (hn:n<N): ∃up',cI N ((i:Nat):Int) up=some (((r i:Nat):Int),up')∧UF n up' r:=by
  unfold cI
  have:=Ok.bind (β:=Int×List Int) (Q:=fun x=>x.1= ((r i:Nat):Int)∧UF n x.2 r) (Ok.itr (body:=fun(s32:Int×(List Int))=>((idx s32.2 s32.1).bind fun(x43:Int)=>bif (x43 != s32.1) then ((idx s32.2 s32.1).bind fun(x44:Int)=>(idx s32.2 x44).bind fun(x45:Int)=>(idx s32.2 s32.1).bind fun(x46:Int)=>(idx (s32.2.set (Int.toNat s32.1) x45) s32.1).bind fun(x47:Int)=>some (.nx (x47,(s32.2.set (Int.toNat s32.1) x45)))) else (some (.br (s32.1,s32.2))):Option (Fl (Int×(List Int)) Empty)))
    (N:=N) (s:=(((i:Nat):Int),up)) (Go:=fun s=>s.1= ((r i:Nat):Int)∧UF n s.2 r) (Rt:=fun _=>True) (fun s=>UF n s.2 r∧∃j:Nat,s.1= ((j:Nat):Int)∧j<n∧r j=r i) (fun s=>s.1.toNat) (by
      rintro⟨y,l⟩ ⟨hu,j,hj,hjn,hr⟩
      dsimp only at hu hj ⊢
      subst hj
      obtain⟨u,a1,a2,a3,a4⟩:=hu.rt j hjn
      refine Ok.ix a1 ?_
      by_cases e:u=j
      · subst e
        rw [show (((u:Nat):Int) != ((u:Nat):Int))=false by simp,cond_false]
        refine Ok.br ⟨?_,hu⟩
        show ((u:Nat):Int)=_
        rw [←hr,a4.1 rfl]
      · obtain⟨v,b1,b2,b3,b4⟩:=hu.rt u (by omega)
        have hl:=hu.len
        rw [show (((u:Nat):Int) != ((j:Nat):Int))=true by simp;omega,cond_true]
        refine Ok.ix a1 (Ok.ix b1 (Ok.ix a1 (Ok.ix (x:=((v:Nat):Int)) (by rw [Int.toNat_natCast,iD (by omega),if_pos rfl]) (Ok.nx ⟨⟨⟨by simp [hl],fun k hk=>?_⟩,v,rfl,by omega,?_⟩,?_⟩))))
        · rw [Int.toNat_natCast,iD (by omega)]
          by_cases e2:k=j
          · subst e2
            rw [if_pos rfl]
            refine⟨v,rfl,by omega,by rw [b3,a3],?_⟩
            constructor
            · intro h;omega
            · intro h;exact absurd (a4.2 h) e
          · rw [if_neg e2];exact hu.rt k hk
        · rw [b3,a3,hr]
        · simp only [Int.toNat_natCast];omega)
    ⟨h,i,rfl,hi,rfl⟩ (by simp only [Int.toNat_natCast];omega))
    (fun o ho=>Ok.cs (f:=fun(s32:Int×(List Int))=>some (s32.1,s32.2)) (g:=fun r:Empty=>r.elim) ho (fun s h=>Ok.ret h) (fun r=>r.elim))
  obtain⟨⟨x,up'⟩,h1,h2,h3⟩:=this
  exact⟨up',by rw [←h2];exact h1,h3⟩
theorem zy {n:Nat} {up:List Int} {r:Nat→Nat} (h:UF n up r) {i k:Nat} (hi:i<n) (hk:k<n) {f:List Int→Option (List Int)} (hn:n<N):
    ∃up',((cI N ((i:Nat):Int) up).bind fun(x840:Int×(List Int))=>(cI N ((k:Nat):Int) x840.2).bind fun(x842:Int×(List Int))=>(idx x842.2 (if x840.1<x842.1 then x842.1 else x840.1)).bind fun(x844:Int)=>some (x842.2.set (Int.toNat (if x840.1<x842.1 then x842.1 else x840.1)) (if x842.1<x840.1 then x842.1 else x840.1)))=some up'∧UF n up' (jf r (r i) (r k)):=by
  obtain⟨u1,a1,a2⟩:=um h hi hn
  obtain⟨u2,b1,b2⟩:=um a2 hk hn
  obtain⟨v1,c1,c2⟩:=uj h hi hn
  have hri:=h.le i hi
  have hrk:=h.le k hk
  have rri:=h.rr i hi
  have rrk:=h.rr k hk
  rw [a1,aB,b1,aB]
  dsimp only
  rw [zw,zx]
  have hm:max (r i) (r k)<n:=by omega
  have hl:=b2.len
  rw [fN _ _ (by omega),aB,Int.toNat_natCast]
  refine⟨_,rfl,by simp [hl],fun x hx=>?_⟩
  have rmax:r (max (r i) (r k))=max (r i) (r k):=by rcases Nat.le_total (r i) (r k) with e | e <;> simp [Nat.max_def] <;> split <;> omega
  have rmin:r (min (r i) (r k))=min (r i) (r k):=by rcases Nat.le_total (r i) (r k) with e | e <;> simp [Nat.min_def] <;> split <;> omega
  rw [iD (by omega)]
  by_cases e:x=max (r i) (r k)
  · subst e
    rw [if_pos rfl]
    refine⟨min (r i) (r k),rfl,by omega,?_,?_⟩
    · unfold jf;rw [rmin,rmax,if_pos rfl];split <;> rfl
    · unfold jf;rw [rmax,if_pos rfl]
  · rw [if_neg e]
    obtain⟨u,c1,c2,c3,c4⟩:=b2.rt x hx
    refine⟨u,c1,c2,?_,?_⟩
    · unfold jf;rw [c3]
    · unfold jf
      split
      · rename_i e2
        constructor
        · intro hu;have:=c4.1 hu;omega
        · intro hu
          have h1:=b2.le x hx
          have h3:x=max (r i) (r k):=by omega
          exact absurd h3 e
      · exact c4
def dY (s:List aA) (k:Nat):Nat:=(aM (s.take k)).length
theorem qz {s:List aA} {k:Nat} (h:k<s.length):dY s (k+1)=dY s k+s[k].Xs.length / 2:=by
  unfold dY
  rw [List.take_succ_eq_append_getElem h,iw,List.length_append]
  show _+ (aM [s[k]]).length=_
  rw [show aM [s[k]]=ko s[k] by simp [aM],iL]
theorem qA {s:List aA} {k m:Nat} (h:k≤m):dY s k≤dY s m:=by
  unfold dY
  have:=qx (s.take m) k
  rwa [List.take_take,Nat.min_eq_left h] at this
theorem vv (s:List aA):dY s s.length= (aM s).length:=by unfold dY;rw [List.take_length]
theorem AK {s:List aA} {k t:Nat} (h:k<s.length) (ht:2*t+1<s[k].Xs.length): (aM s)[dY s k+t]? =some ⟨s[k].Xs[2*t],s[k].Y0,s[k].Xs[2*t+1],s[k].Y1⟩:=by
  have e:aM s=aM (s.take k)++(ko s[k]++aM (s.drop (k+1))):=by
    conv=>lhs;rw [←List.take_append_drop k s,List.drop_eq_getElem_cons h]
    rw [iw,qM]
  rw [e]
  unfold dY
  rw [List.getElem?_append_right (by omega),Nat.add_sub_cancel_left,List.getElem?_append_left (by rw [iL];omega)]
  unfold ko
  rw [List.getElem?_map,py _ _ ht];rfl
theorem xh {s:List aA} {i:Nat} (h:i< (aM s).length): ∃k,k<s.length∧dY s k≤i∧i<dY s (k+1):=by
  have key: ∀m,m≤s.length→i<dY s m→∃k,k<m∧dY s k≤i∧i<dY s (k+1):=by
    intro m
    induction m with
    | zero=>intro _ h;unfold dY at h;simp [aM] at h
    | succ m ih=>
      intro hm hi
      by_cases h1:i<dY s m
      · obtain⟨k,hk,h2⟩:=ih (by omega) h1
        exact⟨k,by omega,h2⟩
      · exact⟨m,by omega,by omega,hi⟩
  exact key s.length (Nat.le_refl _) (by rw [vv];exact h)
def BF (a c:aD):Prop:=a.Y1=c.Y0∧a.X0<c.X1∧c.X0<a.X1
def x0 (all:List aD) (i j:Nat):Prop:=∃a c,all[i]? =some a∧all[j]? =some c∧BF a c
theorem nn {s:List aA} (he: ∀b∈s,b.Xs.length % 2=0) {k i:Nat} (hk:k<s.length) (h1:dY s k≤i) (h2:i<dY s (k+1)): ∃t,i=dY s k+t∧∃h:2*t+1<s[k].Xs.length,(aM s)[i]? =some ⟨s[k].Xs[2*t],s[k].Y0,s[k].Xs[2*t+1],s[k].Y1⟩:=by
  rw [qz hk] at h2
  have:=he _ (List.getElem_mem hk)
  refine⟨i - dY s k,by omega,by omega,?_⟩
  have h3:=AK (t:=i - dY s k) hk (by omega)
  rwa [show dY s k+ (i - dY s k)=i by omega] at h3
theorem r9 {s:List aA} (hc:cV (s.map bG)) {p q:Nat} (hp:p<s.length) (hq:q<s.length) (h:p<q):s[p].Y1≤s[q].Y0:=by
  have:=List.pairwise_iff_getElem.1 hc.ord p q (by simp;omega) (by simp;omega) h
  simp only [List.getElem_map] at this
  exact this.1
theorem sd {s:List aA} (hc:cV (s.map bG)) {p:Nat} (hp:p<s.length):s[p].Y0<s[p].Y1:=(hc.each (bG s[p]) (List.mem_map.2 ⟨_,List.getElem_mem hp,rfl⟩)).1
theorem mY {s:List aA} (hc:cV (s.map bG)): ∀b∈s,b.Xs.length % 2=0:=fun b hb=>(hc.each (bG b) (List.mem_map.2 ⟨b,hb,rfl⟩)).2.2.2
theorem AL {s:List aA} (hc:cV (s.map bG)): ∀b∈s,jE b.Xs:=fun b hb=>(hc.each (bG b) (List.mem_map.2 ⟨b,hb,rfl⟩)).2.2.1
theorem vx {s:List aA} (hc:cV (s.map bG)) {i j q:Nat} (hq:q<s.length) (h1:dY s q≤j) (h2:j<dY s (q+1)) (ht:x0 (aM s) i j): ∃hq0:0<q,s[q - 1].Y1=s[q].Y0∧dY s (q - 1)≤i∧i<dY s q:=by
  obtain⟨a,c,ha,hb,e1,e2,e3⟩:=ht
  obtain⟨t,e4,ht,hj⟩:=nn (mY hc) hq h1 h2
  rw [hj] at hb;injection hb with hb;subst hb
  have hil:=(List.getElem?_eq_some_iff.1 ha).1
  obtain⟨p,hp,p1,p2⟩:=xh hil
  obtain⟨u,e5,hu,hi⟩:=nn (mY hc) hp p1 p2
  rw [hi] at ha;injection ha with ha;subst ha
  have e1:s[p].Y1=s[q].Y0:=e1
  have hpp:=sd hc hp
  have hqq:=sd hc hq
  have hpq:p+1=q:=by
    rcases Nat.lt_trichotomy p q with h | h | h
    · by_cases h':p+1=q
      · exact h'
      · have h3:=r9 hc hp (show p+1<s.length by omega) (by omega)
        have h4:=r9 hc (show p+1<s.length by omega) hq (by omega)
        have h5:=sd hc (show p+1<s.length by omega)
        omega
    · subst h;omega
    · have:=r9 hc hq hp h;omega
  subst hpq
  exact⟨by omega,e1,p1,p2⟩
structure PJ (all:List aD) (n:Nat) (up:List Int) (r:Nat→Nat) (E:List (Nat×Nat)):Prop where
  uf:UF n up r
  co:kp r E
  fi:r8 n r E
  so: ∀p∈E,x0 all p.1 p.2
theorem PJ.join {all:List aD} {n:Nat} {up up':List Int} {r:Nat→Nat} {E:List (Nat×Nat)} (h:PJ all n up r E) {i j:Nat} (hi:i<n) (hj:j<n) (hu:UF n up' (jf r (r i) (r j))) (ht:x0 all i j):PJ all n up' (jf r (r i) (r j)) (E++[(i,j)]):=
  ⟨hu,h.co.join i j (h.uf.rr i hi),h.fi.join hi hj,fun p hp=>by
    rcases List.mem_append.1 hp with hp | hp
    · exact h.so p hp
    · simp at hp;subst hp;exact ht⟩
structure Joined (all:List aD) (r:Nat→Nat):Prop where
  le: ∀i,i<all.length→r i≤i
  rr: ∀i,i<all.length→r (r i)=r i
  co: ∀i j,x0 all i j→r i=r j
  fi: ∀S:Nat→Prop,(∀i j,x0 all i j→(S i↔S j))→∀i j,i<all.length→j<all.length→r i=r j→S i→S j
def jF (all:List aD) (n:Nat) (r:Nat→Nat) (h:Nat):List aD:=(cls n r h).filterMap (fun i=>all[i]?)
theorem vz (all:List aD) (n:Nat) (r:Nat→Nat) (h:Nat): (jF all n r h).length≤n:=by
  have h1:=List.length_filterMap_le (fun i=>all[i]?) (cls n r h)
  have h2:=uk n r h
  unfold jF;omega
theorem np {all:List aD} {n:Nat} {r:Nat→Nat} (h:Nat) {x:aD} (hx:all[n]? =some x):jF all (n+1) r h=if r n=h then jF all n r h++[x] else jF all n r h:=by
  unfold jF
  rw [mW]
  split
  · rw [List.filterMap_append];simp [hx]
  · rfl
theorem pz {all:List aD} {n:Nat} {r:Nat→Nat} {h:Nat} {x:aD}:x∈jF all n r h↔∃i,i<n∧r i=h∧all[i]? =some x:=by
  unfold jF cls
  rw [List.mem_filterMap]
  constructor
  · rintro⟨i,hi,h⟩
    have:=List.mem_filter.1 hi
    exact⟨i,List.mem_range.1 this.1,by simpa using this.2,h⟩
  · rintro⟨i,h1,h2,h3⟩
    exact⟨i,List.mem_filter.2 ⟨List.mem_range.2 h1,by simpa using h2⟩,h3⟩
structure nr (s:List aA) (r:Nat→Nat) (ps:List (List aA)):Prop where
  join:Joined (aM s) r
  len:ps.length= (bE (aM s).length r).length
  each: ∀(j h:Nat) (p:List aA),(bE (aM s).length r)[j]? =some h→ps[j]? =some p→l9 (jF (aM s) (aM s).length r h) p
def Ep (n:Nat) (r:Nat→Nat) (m:List (Int×Int)):Prop:=(∀(j k:Nat),(bE n r)[j]? =some k→mget m ((k:Nat):Int) 0= ((j:Nat):Int))∧∀k:Nat,ma m ((k:Nat):Int)=decide (k∈bE n r)
theorem wE {s:List aA} {X Y:List Int} (hc:cV (s.map bG)) (hl:px X Y (s.map bG)) (hX: ∀c∈X,small c) (hY: ∀c∈Y,small c) (h1:s.length≤1073741824) (h2: ∀b∈s,b.Xs.length≤1073741824) (h3: (aM s).length≤134217728) (hN:4398046511104≤N):
    Ok (gr N s) (fun ps=>∃r,nr s r ps):=by
  unfold gr
  have hev:=mY hc
  have hinc:=AL hc
  refine Ok.eq (rZ hev (by omega) (fun b hb=>by have:=h2 b hb;omega) (by omega)) ?_
  have hok:=r5 hc hl hX hY
  have hall:dY s s.length= (aM s).length:=vv s
  generalize hn: (aM s).length=n at *
  refine Ok.eq (oY 0 (by omega)) ?_
  rw [show ((List.replicate n (0:Int)).length)=n by simp]
  refine Ok.bind (Ok.gZ (fun k up=>up.length=n∧∀i,i<k→up[i]? =some ((i:Nat):Int)) (by omega) ⟨by simp,fun i hi=>by omega⟩ (fun k up hk hI=>?_)) ?_
  · obtain⟨hs,hi⟩:=hI
    refine Ok.idx (by omega) (Ok.ret ⟨by simp [hs],fun i hi'=>?_⟩)
    rw [Int.toNat_natCast,iD (by omega)]
    split
    · rename_i e;rw [e]
    · exact hi i (by omega)
  rintro up0 ⟨hu1,hu2⟩
  refine Ok.bind (Ok.gZ (fun k st=>st.2.1= ((dY s k:Nat):Int)∧(0<k→st.2.2= ((dY s (k - 1):Nat):Int))∧∃r E,PJ (aM s) n st.1 r E∧∀q,q<k→∀i j,dY s q≤j→j<dY s (q+1)→x0 (aM s) i j→(i,j)∈E) (by omega)
    ⟨rfl,fun h=>by omega,_,_,⟨UF.init n up0 hu1 hu2,kp.id,r8.id n,fun p hp=>(by cases hp)⟩,fun q hq=>by omega⟩ (fun k st hk hI=>?_)) ?_
  · obtain⟨up,a,b⟩:=st
    obtain⟨e1,e2,r,E,hP,hE⟩:=hI
    dsimp only at e1 e2 hP ⊢
    subst e1
    refine Ok.idx hk ?_
    have hoff:=qz hk
    have hoffle:dY s (k+1)≤n:=by rw [←hall];exact qA hk
    have hkm:=List.getElem_mem hk
    have hlen:IntKind.wrap .i64 (Int.tdiv ((s[k].Xs.length:Nat):Int) 2)= ((s[k].Xs.length / 2:Nat):Int):=by
      have:=h2 _ hkm
      rw [show (2:Int)= ((2:Nat):Int) by rfl,←Int.ofNat_tdiv,vq (by omega)]
    rw [hlen,wrap_add (by omega),←hoff]
    refine Ok.bind (P:=fun c=>c=true↔∃h0:0<k,s[k - 1].Y1=s[k].Y0) ?_ (fun c hcc=>?_)
    · refine Ok.bif (fun h=>?_) (fun h=>Ok.ret ?_)
      · have hpos:0<k:=by have:=of_decide_eq_true h;omega
        rw [jm hpos (by omega)]
        refine Ok.idx (by omega) (Ok.ret ?_)
        rw [beq_iff_eq]
        exact⟨fun h=>⟨hpos,h⟩,fun⟨_,h⟩=>h⟩
      · have:=of_decide_eq_false h
        constructor
        · intro h;cases h
        · rintro⟨h0,_⟩;omega
    refine Ok.bind (P:=fun up'=>∃r E,PJ (aM s) n up' r E∧∀q,q<k+1→∀i j,dY s q≤j→j<dY s (q+1)→x0 (aM s) i j→(i,j)∈E) ?_ (fun up' hI=>Ok.ret ⟨rfl,fun _=>rfl,hI⟩)
    refine Ok.bif (fun h=>?_) (fun h=>Ok.ret ⟨r,E,hP,fun q hq i j q1 q2 ht=>?_⟩)
    · obtain⟨hpos,hyy⟩:=hcc.1 h
      rw [e2 hpos]
      have hoffp:=qz (show k - 1<s.length by omega)
      rw [show k - 1+1=k by omega] at hoffp
      refine Ok.bind (Ok.itr (Go:=fun st=>∃r E,PJ (aM s) n st.1 r E∧∀q,q<k+1→∀i j,dY s q≤j→j<dY s (q+1)→x0 (aM s) i j→(i,j)∈E) (Rt:=fun _=>True)
        (fun st=>∃i j:Nat,st.2.1= ((i:Nat):Int)∧st.2.2= ((j:Nat):Int)∧dY s (k - 1)≤i∧i≤dY s k∧dY s k≤j∧j≤dY s (k+1)∧∃r E,PJ (aM s) n st.1 r E∧(∀q,q<k→∀i j,dY s q≤j→j<dY s (q+1)→x0 (aM s) i j→(i,j)∈E)∧
          ∀i' j',dY s (k - 1)≤i'→i'<dY s k→dY s k≤j'→j'<dY s (k+1)→(i'<i∨j'<j)→x0 (aM s) i' j'→(i',j')∈E)
        (fun st=>(n - st.2.1.toNat)+ (n - st.2.2.toNat)) ?_ ?_ (by simp only [Int.toNat_natCast];omega)) (fun o ho=>Ok.cs ho (fun st h=>Ok.ret h) (fun r=>r.elim))
      · rintro⟨up,a,b⟩ ⟨i,j,e3,e4,i1,i2,j1,j2,r,E,hP,hE,hE2⟩
        dsimp only at e3 e4 hP ⊢
        subst e3;subst e4
        refine Ok.bif (fun h=>?_) (fun h=>Ok.br ?_)
        · rw [Bool.and_eq_true,decide_eq_true_eq,decide_eq_true_eq] at h
          have hi:i<dY s k:=by omega
          have hj:j<dY s (k+1):=by omega
          obtain⟨t,et,_,hri⟩:=nn hev (show k - 1<s.length by omega) i1 (by rw [show k - 1+1=k by omega];exact hi)
          obtain⟨u,eu,_,hrj⟩:=nn hev hk j1 hj
          have xi:=hinc _ (List.getElem_mem (show k - 1<s.length by omega))
          have xj:=hinc _ hkm
          have farI: ∀i' a,i<i'→i'<dY s k→(aM s)[i']? =some a→s[k - 1].Xs[2*t+1]<a.X0:=fun i' a h4 h5 h6=>by
            obtain⟨t',et',ht',hr'⟩:=nn hev (show k - 1<s.length by omega) (show dY s (k - 1)≤i' by omega) (by rw [show k - 1+1=k by omega];exact h5)
            rw [hr'] at h6;injection h6 with h6;subst h6
            exact xi.lt (show 2*t+1<2*t' by omega) (List.getElem?_eq_getElem _) (List.getElem?_eq_getElem _)
          have farJ: ∀j' a,j<j'→j'<dY s (k+1)→(aM s)[j']? =some a→s[k].Xs[2*u+1]<a.X0:=fun j' a h4 h5 h6=>by
            obtain⟨u',eu',hu',hr'⟩:=nn hev hk (show dY s k≤j' by omega) h5
            rw [hr'] at h6;injection h6 with h6;subst h6
            exact xj.lt (show 2*u+1<2*u' by omega) (List.getElem?_eq_getElem _) (List.getElem?_eq_getElem _)
          refine Ok.bind (P:=fun c=>c=true↔x0 (aM s) i j) ?_ (fun c hct=>?_)
          · refine Ok.ix hri (Ok.ix hrj (Ok.bif (fun h=>Ok.ix hrj (Ok.ix hri (Ok.ret ?_))) (fun h=>Ok.ret ?_)))
            · rw [decide_eq_true_eq] at h ⊢
              constructor
              · intro h';exact⟨_,_,hri,hrj,hyy,h,h'⟩
              · rintro⟨a,c,ha,hc',_,_,h'⟩
                rw [hri] at ha;injection ha with ha;subst ha
                rw [hrj] at hc';injection hc' with hc';subst hc'
                exact h'
            · constructor
              · intro h;cases h
              · rintro⟨a,c,ha,hc',_,h',_⟩
                rw [hri] at ha;injection ha with ha;subst ha
                rw [hrj] at hc';injection hc' with hc';subst hc'
                rw [decide_eq_false_iff_not] at h;exact absurd h' h
          refine Ok.bind (P:=fun up'=>∃r E',PJ (aM s) n up' r E'∧(∀p∈E,p∈E')∧(x0 (aM s) i j→(i,j)∈E')) ?_ ?_
          · refine Ok.bif (fun h=>?_) (fun h=>Ok.ret ⟨r,E,hP,fun p hp=>hp,fun ht=>by rw [hct.2 ht] at h;cases h⟩)
            obtain⟨up',u1,u2⟩:=zy (N:=N) (f:=fun x=>some x) hP.uf (i:=i) (k:=j) (by omega) (by omega) (by omega)
            refine⟨up',u1,_,_,hP.join (by omega) (by omega) u2 (hct.1 h),fun p hp=>List.mem_append_left _ hp,fun _=>by simp⟩
          · rintro up' ⟨r',E',hP',hsub,hij⟩
            refine Ok.ix hri (Ok.ix hrj ?_)
            dsimp only
            by_cases hx:s[k - 1].Xs[2*t+1]<s[k].Xs[2*u+1]
            · rw [decide_eq_true hx,cond_true]
              refine Ok.eq (x:=(((i+1:Nat):Int),((j:Nat):Int))) (by rw [dN (by omega)]) (Ok.nx ⟨⟨i+1,j,rfl,rfl,by omega,by omega,j1,j2,r',E',hP',fun q hq i j q1 q2 ht=>hsub _ (hE q hq i j q1 q2 ht),fun i' j' g1 g2 g3 g4 g5 ht=>?_⟩,by simp only [Int.toNat_natCast];omega⟩)
              by_cases h5:i'<i∨j'<j
              · exact hsub _ (hE2 i' j' g1 g2 g3 g4 h5 ht)
              · have:i'=i:=by omega
                subst this
                by_cases h6:j'=j
                · subst h6;exact hij ht
                · exfalso
                  obtain⟨a,c,ha,hc',_,_,h'⟩:=ht
                  rw [hri] at ha;injection ha with ha;subst ha
                  have:=farJ j' c (by omega) g4 hc'
                  dsimp only at h';omega
            · rw [decide_eq_false hx,cond_false]
              refine Ok.eq (x:=(((i:Nat):Int),((j+1:Nat):Int))) (by rw [dN (by omega)]) (Ok.nx ⟨⟨i,j+1,rfl,rfl,i1,i2,by omega,by omega,r',E',hP',fun q hq i j q1 q2 ht=>hsub _ (hE q hq i j q1 q2 ht),fun i' j' g1 g2 g3 g4 g5 ht=>?_⟩,by simp only [Int.toNat_natCast];omega⟩)
              by_cases h5:i'<i∨j'<j
              · exact hsub _ (hE2 i' j' g1 g2 g3 g4 h5 ht)
              · have:j'=j:=by omega
                subst this
                by_cases h6:i'=i
                · subst h6;exact hij ht
                · exfalso
                  obtain⟨a,c,ha,hc',_,h',_⟩:=ht
                  rw [hrj] at hc';injection hc' with hc';subst hc'
                  have:=farI i' a (by omega) g2 ha
                  dsimp only at h';omega
        · refine⟨r,E,hP,fun q hq i' j' q1 q2 ht=>?_⟩
          by_cases hqk:q<k
          · exact hE q hqk i' j' q1 q2 ht
          · have:q=k:=by omega
            subst this
            obtain⟨_,_,g1,g2⟩:=vx hc hk q1 q2 ht
            refine hE2 i' j' g1 g2 q1 q2 ?_ ht
            rw [Bool.and_eq_false_iff,decide_eq_false_iff_not,decide_eq_false_iff_not] at h
            omega
      · exact⟨dY s (k - 1),dY s k,rfl,rfl,Nat.le_refl _,qA (by omega),Nat.le_refl _,qA (by omega),r,E,hP,hE,fun i' j' g1 g2 g3 g4 g5=>by omega⟩
    · by_cases hqk:q<k
      · exact hE q hqk i j q1 q2 ht
      · have:q=k:=by omega
        subst this
        obtain⟨g0,g1,_⟩:=vx hc hk q1 q2 ht
        rw [hcc.2 ⟨g0,g1⟩] at h;cases h
  · rintro⟨up,a,b⟩ ⟨_,_,r,E,hP,hE⟩
    dsimp only at hP ⊢
    have hEq: ∀i j,x0 (aM s) i j→(i,j)∈E:=fun i j ht=>by
      have hjl:j< (aM s).length:=by obtain⟨a,c,_,hb,_⟩:=ht;exact(List.getElem?_eq_some_iff.1 hb).1
      obtain⟨q,hq,q1,q2⟩:=xh hjl
      exact hE q hq i j q1 q2 ht
    have hJ:Joined (aM s) r:=⟨by rw [hn];exact hP.uf.le,by rw [hn];exact hP.uf.rr,fun i j ht=>hP.co (i,j) (hEq i j ht),fun S hS i j hi hj=>by
      rw [hn] at hi hj
      exact hP.fi S (fun p hp=>hS p.1 p.2 (hP.so p hp)) i j hi hj⟩
    refine Ok.bind (Ok.gZ (fun k st=>UF n st.1 r∧Ep k r st.2.1∧st.2.2= (bE k r).map (jF (aM s) k r)) (by omega) ⟨hP.uf,⟨fun j k hj=>by simp [bE] at hj,fun k=>rfl⟩,rfl⟩ (fun k st hk hI=>?_)) ?_
    · obtain⟨l,m,ls⟩:=st
      obtain⟨hu,⟨hm1,hm2⟩,hs⟩:=hI
      dsimp only at hu hm1 hm2 hs ⊢
      subst hs
      have hkx: (aM s)[k]? =some ((aM s)[k]'(by omega)):=List.getElem?_eq_getElem (by omega)
      refine Ok.ix hkx ?_
      obtain⟨u',a1,a2⟩:=um (N:=N) hu hk (by omega)
      refine Ok.eq a1 ?_
      dsimp only
      have hhl:=jo k r
      have hrk:=hP.uf.le k hk
      have hrr:=hP.uf.rr k hk
      have hcl:=vz (aM s) k r (r k)
      have hmap: ((bE k r).map (jF (aM s) k r)).length= (bE k r).length:=by simp
      rw [hm2]
      by_cases e:r k=k
      · have hnot:r k∉bE k r:=fun h=>by have:=(eY.1 h).1;omega
        refine Ok.eq (x:=(mput m ((r k:Nat):Int) (((bE k r).length:Nat):Int),(bE k r).map (jF (aM s) k r)++[([]:List aD)],(((bE k r).length:Nat):Int))) ?_ ?_
        · rw [decide_eq_false hnot,Bool.not_false,cond_true,eR (by simp;omega),aB,hmap]
        · dsimp only
          have hi: ((bE k r).map (jF (aM s) k r)++[([]:List aD)])[(bE k r).length]? =some []:=by rw [←hmap,List.getElem?_append_right (Nat.le_refl _),Nat.sub_self];rfl
          refine Ok.ix hi (Ok.app (by simp) (Ok.ix hi (Ok.ret ⟨a2,⟨fun j q hj=>?_,fun q=>?_⟩,?_⟩)))
          · dsimp only
            rw [fK,if_pos e] at hj
            rw [qw]
            by_cases e2:j< (bE k r).length
            · rw [List.getElem?_append_left e2] at hj
              have:=(eY.1 (List.mem_of_getElem? hj)).1
              rw [if_neg (by omega)];exact hm1 j q hj
            · rw [List.getElem?_append_right (by omega)] at hj
              have hj0:j - (bE k r).length=0:=by
                have:=(List.getElem?_eq_some_iff.1 hj).1;simp at this;omega
              rw [hj0] at hj;simp at hj;subst hj
              rw [if_pos (by rw [e])];congr 1;omega
          · dsimp only
            rw [xW,hm2,fK,if_pos e,Bool.eq_iff_iff]
            rw [Bool.or_eq_true,decide_eq_true_eq,decide_eq_true_eq,decide_eq_true_eq,List.mem_append,List.mem_singleton,e]
            constructor
            · rintro(h | h)
              · exact .inr (by omega)
              · exact .inl h
            · rintro(h | h)
              · exact .inr h
              · exact .inl (by omega)
          · dsimp only
            rw [Int.toNat_natCast,←hmap,List.set_append_right _ _ (Nat.le_refl _),Nat.sub_self,fK,if_pos e,List.map_append]
            congr 1
            · apply List.map_congr_left
              intro a ha
              have:=(eY.1 ha).1
              rw [np a hkx,if_neg (by omega)]
            · simp only [List.set_cons_zero,List.map_cons,List.map_nil,List.nil_append]
              rw [np k hkx,if_pos e]
              have:jF (aM s) k r k= []:=by unfold jF;rw [xg (fun i hi=>hP.uf.le i (by omega)) (Nat.le_refl _)];rfl
              rw [this];rfl
      · have hh:r k∈bE k r:=eY.2 ⟨by omega,hrr⟩
        obtain⟨j,hj⟩:=List.getElem?_of_mem hh
        refine Ok.eq (x:=(m,(bE k r).map (jF (aM s) k r),((j:Nat):Int))) ?_ ?_
        · rw [decide_eq_true hh,Bool.not_true,cond_false,hm1 j (r k) hj]
        · dsimp only
          have hi: ((bE k r).map (jF (aM s) k r))[j]? =some (jF (aM s) k r (r k)):=by rw [List.getElem?_map,hj];rfl
          refine Ok.ix hi (Ok.app (by simp;omega) (Ok.ix hi (Ok.ret ⟨a2,⟨fun j' q hj'=>?_,fun q=>?_⟩,?_⟩)))
          · rw [fK,if_neg e] at hj';exact hm1 j' q hj'
          · rw [fK,if_neg e];exact hm2 q
          · dsimp only
            rw [Int.toNat_natCast,fK,if_neg e]
            have:=mX (jF (aM s) k r) (jF (aM s) (k+1) r) (bE k r) j (r k) (ga k r) hj (fun b hb hne=>by
              rw [np b hkx,if_neg (fun h=>hne h.symm)])
            rw [np (r k) hkx,if_pos rfl] at this
            exact this
    · rintro⟨l,m,ls⟩ ⟨_,_,hs⟩
      dsimp only at hs ⊢
      subst hs
      have hhl:=jo n r
      refine Ok.bind (Ok.gZ (fun k ps=>ps.length=k∧∀(j h:Nat) (p:List aA),j<k→(bE n r)[j]? =some h→ps[j]? =some p→l9 (jF (aM s) n r h) p) (by simp;omega) ⟨rfl,fun j h p hj=>by omega⟩ (fun k ps hk hI=>?_)) ?_
      · obtain⟨hp1,hp2⟩:=hI
        have hk':k< (bE n r).length:=by simpa using hk
        refine Ok.ix (x:=jF (aM s) n r (bE n r)[k]) (by rw [List.getElem?_map,List.getElem?_eq_getElem hk'];rfl) ?_
        have hcl:=vz (aM s) n r (bE n r)[k]
        refine Ok.bind (lW (N:=N) (by omega) (fun x hx=>?_) (by omega)) ?_
        · obtain⟨i,_,_,h⟩:=pz.1 hx
          exact(hok x (List.mem_of_getElem? h)).1
        · intro p hp
          refine Ok.app (by rw [hp1];simp;omega) (Ok.ret ⟨by simp [hp1],fun j h q hj hh hq=>?_⟩)
          by_cases hjk:j<k
          · rw [List.getElem?_append_left (by omega)] at hq
            exact hp2 j h q hjk hh hq
          · have:j=k:=by omega
            subst this
            rw [List.getElem?_append_right (by omega),hp1,Nat.sub_self] at hq
            simp at hq;subst hq
            rw [List.getElem?_eq_getElem hk'] at hh;injection hh with hh;subst hh
            exact hp
      · rintro ps ⟨hp1,hp2⟩
        refine Ok.ret ⟨r,hJ,?_,fun j h p hh hp=>?_⟩
        · rw [hp1,hn];simp
        · rw [hn] at hh ⊢
          exact hp2 j h p (by have:=(List.getElem?_eq_some_iff.1 hp).1;omega) hh hp
end
end Go.Gk
namespace Go.Gk
open Go
section
variable {N:Nat}
theorem pA {n:Int} (h: -9223372036854775808≤n∧n≤9223372036854775807):IntKind.wrap .i64 n=n:=by rw [IntKind.wrap_i64];omega
def fq (n lo hi:Int):Bool:=decide (n≥lo)&&decide (n≤hi)
def kI (n:Int):Bool:=fq n (-1000000) 1000000
def pB (p:bX):Bool:=kI p.X&&kI p.Y
def eM (r:aD):Bool:=kI r.X0&&(kI r.Y0&&(kI r.X1&&kI r.Y1))
theorem sf (n:Int):gk N n=some (kI n):=rfl
theorem qN (p:bX):eX N p=some (pB p):=by
  unfold eX pB
  rw [sf,aB,sf]
  cases kI p.X <;> rfl
theorem sg (r:aD):g8 N r=some (eM r):=by
  unfold g8 eM
  simp only [sf,aB]
  cases kI r.X0 <;> cases kI r.Y0 <;> cases kI r.X1 <;> rfl
theorem vA {a b:Int} (h:a≠b):dF (N+4) [a,b]=some [a,b]:=by
  have e: (b==a)=false:=by rw [beq_eq_false_iff_ne];exact fun e=>h e.symm
  have w1:IntKind.wrap .i64 ((1:Int) - 1)=0:=by decide
  have w2:IntKind.wrap .i64 ((1:Int)+1)=2:=by decide
  unfold dF
  have e1:idx [a,b] 1=some b:=rfl
  have e2:idx [a,b] 0=some a:=rfl
  have l2: (([a,b]:List Int).length:Int)=2:=rfl
  rw [l2,show decide ((2:Int)<2)=false by decide,cond_false]
  rw [itr.eq_def]
  dsimp only
  rw [show decide ((1:Int)<2)=true by decide,cond_true,e1,aB,w1,e2,aB,e,cond_false,aB,w2]
  dsimp only
  rw [itr.eq_def]
  dsimp only
  rw [show decide ((2:Int)<2)=false by decide,cond_false,aB]
  rfl
theorem A0 (x:Int):IntKind.wrap .i64 (x - x)=0:=by rw [Int.sub_self];decide
theorem x4 {r:aD} (hx:r.X0<r.X1) (hy:r.Y0<r.Y1):dJ (N+16) [r]=some [⟨r.Y0,r.Y1,[r.X0,r.X1]⟩]:=by
  have s1:oL (ff (N+16)) [r]=some [r]:=tl (by unfold ff;rw [A0])
  have s2:oL (dG (N+16)) [r]=some [r]:=tl (by unfold dG;rw [A0])
  have s3:mA [r.Y0,r.Y1]=some [r.Y0,r.Y1]:=sQ (by simp;omega) (by simp)
  have c1:eJ (N+16) [r]=some [r]:=rfl
  have f1: ∀φ,dS (N+16) [] φ=some []:=fun φ=>rfl
  have st:eN (N+16) [r]=some ([r.X0,r.X1],[r]):=by
    unfold eN
    rw [s2,aB]
    rfl
  have pu: ∀b:aA,b.Xs= [r.X0,r.X1]→b.Y0<b.Y1→eF (N+16) [] b=some [b]:=fun b h1 h2=>by
    unfold eF
    rw [h1,decide_eq_false (show ¬b.Y1≤b.Y0 by omega)]
    rfl
  unfold dJ
  rw [c1,aB,s1,aB]
  have ys: (gZ ([r]:List aD).length (fun(k35:Nat) (s36: (List Int))=>((idx [r] (k35:Int)).bind fun(x54:aD)=>(app 8 s36 ([x54.Y0,x54.Y1]: (List Int))).bind fun(x58: (List Int))=>some x58:Option ((List Int)))) ([]: (List Int)))=some [r.Y0,r.Y1]:=rfl
  rw [ys,aB,s3,aB,vA (N:=N+12) (by omega),aB]
  have l2: (([r.Y0,r.Y1]:List Int).length:Int)=2:=rfl
  have l1: (([r]:List aD).length:Int)=1:=rfl
  have w1:IntKind.wrap .i64 ((0:Int)+1)=1:=by decide
  have w2:IntKind.wrap .i64 ((1:Int)+1)=2:=by decide
  have i0:idx [r.Y0,r.Y1] 0=some r.Y0:=rfl
  have i1:idx [r.Y0,r.Y1] 1=some r.Y1:=rfl
  have j0:idx [r] 0=some r:=rfl
  have a1:app 32 ([]:List aD) [r]=some [r]:=rfl
  rw [l2,l1]
  rw [itr.eq_def]
  dsimp only
  rw [w1,show decide ((1:Int)<2)=true by decide,cond_true,f1,aB]
  rw [itr.eq_def]
  dsimp only
  rw [show decide ((0:Int)<1)=true by decide,cond_true,j0,aB,i0,aB,aB,show decide (r.Y0≤r.Y0)=true by simp,cond_true,aB,a1,aB,w1,aB]
  dsimp only
  rw [itr.eq_def]
  dsimp only
  rw [show decide ((1:Int)<1)=false by decide,cond_false,aB,cond_false,aB,aB]
  unfold Fo.cs
  dsimp only
  rw [aB,i1,aB,st,aB,pu _ rfl hy,aB,aB]
  dsimp only
  rw [itr.eq_def]
  dsimp only
  rw [w2,show decide ((2:Int)<2)=false by decide,cond_false,aB]
  rfl
theorem zz {r:aD} (hx:r.X0<r.X1):gR N [⟨r.Y0,r.Y1,[r.X0,r.X1]⟩]=some (eM r):=by
  have ar:hB N [⟨r.Y0,r.Y1,[r.X0,r.X1]⟩]=some r:=by
    have e1: (if r.X0<r.X0 then r.X0 else r.X0)=r.X0:=by split <;> rfl
    have e2: (if r.X1<r.X1 then r.X1 else r.X1)=r.X1:=by split <;> rfl
    show some ({X0:=(if r.X0<r.X0 then r.X0 else r.X0),Y0:=r.Y0,X1:=(if r.X1<r.X1 then r.X1 else r.X1),Y1:=r.Y1}:aD)=some r
    rw [e1,e2]
  unfold gR
  rw [ar,aB,sg]
  rfl
def rk (b:bB):aD:=⟨b.At.X - b.cH / 2,b.At.Y - b.cH / 2,b.At.X - b.cH / 2+b.cH,b.At.Y - b.cH / 2+b.cH⟩
def mZ (b:bB):Bool:=fq b.cH 1 10000&&pB b.At
def jt (b:bB):aD×Int:=if mZ b&&eM (rk b) then (rk b,0) else (⟨0,0,0,0⟩,1)
theorem m0 {b:bB} (h:mZ b=true): (1≤b.cH∧b.cH≤10000)∧(-1000000≤b.At.X∧b.At.X≤1000000)∧(-1000000≤b.At.Y∧b.At.Y≤1000000):=by
  simp only [mZ,fq,pB,kI,Bool.and_eq_true,decide_eq_true_iff] at h
  omega
theorem iM {b:bB} (h:mZ b=true):cP N b=some (rk b):=by
  obtain⟨h1,h2,h3⟩:=m0 h
  have t:Int.tdiv b.cH 2=b.cH / 2:=Int.tdiv_eq_ediv_of_nonneg (by omega)
  unfold cP rk
  rw [t,pA (n:=b.cH / 2) (by omega),pA (n:=b.At.X - b.cH / 2) (by omega),pA (n:=b.At.Y - b.cH / 2) (by omega),pA (by omega),pA (by omega)]
theorem lE {b:bB}:fH (N+16) b=some (jt b):=by
  have e0:dR (N+16) b.cH 1 10000=some (fq b.cH 1 10000):=rfl
  have e1: (bif (!(fq b.cH 1 10000)) then (some true) else (some (!(pB b.At))))=some (!mZ b):=by unfold mZ;cases fq b.cH 1 10000 <;> rfl
  unfold fH jt
  rw [e0,aB,qN,aB,e1,aB]
  cases hf:mZ b with
  | false=>rfl
  | true=>
    obtain⟨h1,h2,h3⟩:=m0 hf
    have hx: (rk b).X0< (rk b).X1:=by simp only [rk];omega
    have hy: (rk b).Y0< (rk b).Y1:=by simp only [rk];omega
    rw [Bool.not_true,cond_false,iM hf,aB,x4 hx hy,aB,zz hx,aB]
    cases eM (rk b) <;> rfl
theorem x5:cU (N+16)=some true:=by
  unfold cU
  rw [lE,aB]
  rfl
end
end Go.Gk
namespace Go.Gk
open Go
section
variable {N:Nat}
def BG (c:UInt8):Bool:=
  ((((decide (((c.toNat:Nat):Int)<65))||(decide (((c.toNat:Nat):Int)>90)))&&((decide (((c.toNat:Nat):Int)<97))||(decide (((c.toNat:Nat):Int)>122))))&&((decide (((c.toNat:Nat):Int)<48))||(decide (((c.toNat:Nat):Int)>57))))&&decide (Lib.indexByte [95,43,45,35] c<0)
def isWord (s:bS):Bool:= !s.bM.any BG&&(decide (1≤s.bM.length)&&decide (s.bM.length≤40))
theorem pC (s:bS) (c:UInt8):eL N s ((c.toNat:Nat):Int)=some (Lib.indexByte s.bM c):=by
  show some (Lib.indexByte s.bM (Int.toNat ((c.toNat:Nat):Int)).toUInt8)=_
  rw [Int.toNat_natCast];simp
theorem wF {R:Type} (b1:Bool) (c:UInt8) (r:R):
    ((bif b1 then ((eL N (⟨[95,43,45,35]⟩) ((c.toNat:Nat):Int)).bind fun(x14:Int)=>some (decide (x14<0))) else (some false)).bind fun(s12:Bool)=>bif s12 then (some (.rt r)) else (some (.nx ())):Option (Fl Unit R))=some (if (b1&&decide (Lib.indexByte [95,43,45,35] c<0))=true then .rt r else .nx ()):=by
  rw [pC,aB]
  cases b1
  · rfl
  · rw [cond_true,aB,Bool.true_and]
    cases decide (Lib.indexByte [95,43,45,35] c<0) <;> rfl
theorem kJ {s:bS} (h:s.bM.length≤1048576):eG N s=some (isWord s):=by
  unfold eG
  rw [AA BG false (by omega) (fun k x hx=>by
    have hk:=(List.getElem?_eq_some_iff.1 hx).1
    have e:xy s ((k:Nat):Int)=some x:=by rw [zf s k hk,←List.getElem?_eq_getElem hk,hx]
    rw [e,aB]
    exact wF (R:=Bool) _ x false),aB]
  unfold isWord
  cases s.bM.any BG
  · simp only [Fo.cs,Bool.not_false,Bool.true_and,Bool.false_eq_true,if_false,Option.some.injEq]
    rw [Bool.eq_iff_iff,Bool.and_eq_true,Bool.and_eq_true]
    simp only [decide_eq_true_eq]
    omega
  · simp [Fo.cs]
def cutAt (c:UInt8):List UInt8→List (List UInt8)
  | []=>[[]]
  | b::l=>if b==c then []::cutAt c l else match cutAt c l with | h::t=>(b::h)::t | []=>[[b]]
theorem si {c:UInt8}: ∀{l:List UInt8},c∉l→cutAt c l= [l]
  | [],_=>rfl
  | b::l,h=>by
    unfold cutAt
    have hb: (b==c)=false:=by rw [beq_eq_false_iff_ne];rintro rfl;exact h (by simp)
    rw [hb,si (fun h'=>h (by simp [h']))];rfl
theorem vB {c:UInt8}: ∀{a:List UInt8} {b:List UInt8},c∉a→cutAt c (a++c::b)=a::cutAt c b
  | [],b,_=>by rw [List.nil_append];show (if (c==c)=true then _ else _)=_;simp
  | x::a,b,h=>by
    have hb: (x==c)=false:=by rw [beq_eq_false_iff_ne];rintro rfl;exact h (by simp)
    have ih:=vB (c:=c) (a:=a) (b:=b) (fun h'=>h (by simp [h']))
    show (if (x==c)=true then []::cutAt c (a++c::b) else match cutAt c (a++c::b) with | h::t=>(x::h)::t | []=>[[x]])=_
    rw [hb,ih];rfl
theorem m4: ∀(l:List UInt8) (c:UInt8),(Lib.indexByte l c = -1∧c∉l)∨∃a b,l=a++c::b∧c∉a∧Lib.indexByte l c= ((a.length:Nat):Int)
  | [],c=> .inl ⟨rfl,by simp⟩
  | x::l,c=>by
    unfold Lib.indexByte
    by_cases hx:x=c
    · subst hx;exact .inr ⟨[],l,rfl,by simp,by simp⟩
    · have hb: (x==c)=false:=by rw [beq_eq_false_iff_ne];exact hx
      rcases m4 l c with ⟨h1,h2⟩ | ⟨a,b,h1,h2,h3⟩
      · left;rw [hb,h1];refine⟨by simp,?_⟩;simp [h2];exact fun h=>hx h.symm
      · right
        refine⟨x::a,b,by rw [h1];rfl,by simp [h2];exact fun h=>hx h.symm,?_⟩
        rw [hb,h3]
        have: (((a.length:Nat):Int)== -1)=false:=by rw [beq_eq_false_iff_ne];omega
        rw [this];simp
theorem zA (s:bS) (c:UInt8):gx N s ⟨[c]⟩=some (Lib.indexByte s.bM c):=by
  show (fD N s ⟨[c]⟩).bind _=_
  unfold fD
  by_cases h:bS.vQ ⟨[c]⟩ s=true
  · have:s= ⟨[c]⟩:=(Az.1 h).symm
    subst this
    rw [h];simp [Lib.indexByte]
  · rw [Bool.not_eq_true] at h
    rw [h]
    show ((dW N s ((c.toNat:Nat):Int)).bind _).bind _=_
    have:=pC (N:=N) s c
    simp only [eL] at this
    rw [this];rfl
theorem zB (s:bS) (c:UInt8):ik N s ⟨[c]⟩=some ((s.bM.count c:Nat):Int):=by
  unfold ik
  show (some _:Option Int)=_
  simp [Lib.countByte]
theorem x6 {s:bS} {k:Nat} (h:k≤s.bM.length):n0 s 0 ((k:Nat):Int)=some ⟨s.bM.take k⟩:=by
  unfold n0;rw [if_pos ⟨by omega,by omega,by omega⟩]
  simp only [Int.toNat_zero,List.drop_zero,Int.sub_zero,Int.toNat_natCast]
theorem x8 {s:bS} {k:Nat} (h:k≤s.bM.length):n0 s ((k:Nat):Int) ((s.bM.length:Nat):Int)=some ⟨s.bM.drop k⟩:=by
  unfold n0;rw [if_pos ⟨by omega,by omega,by omega⟩]
  simp only [Int.toNat_natCast]
  rw [List.take_of_length_le];rw [List.length_drop];omega
def lX (s:bS) (c:UInt8):List bS:=(cutAt c s.bM).map bS.mk
theorem zC {s:bS} (c:UInt8) (h:s.bM.length≤1048576) (hN:4194304≤N):il N s ⟨[c]⟩=some (lX s c):=by
  have hc:s.bM.count c≤s.bM.length:=List.count_le_length
  unfold il hG
  rw [show ((-1:Int)==0)=false by decide,cond_false,show bS.vQ ⟨[c]⟩ ⟨[]⟩=false by simp [bS.vQ],cond_false,zB,aB]
  rw [dD (x:=((s.bM.count c:Nat):Int)+1) (by omega) (by omega),show decide ((-1:Int)<0)=true by decide,cond_true,aB]
  rw [dD (x:=((s.bM.length:Nat):Int)+1) (by omega) (by omega)]
  have e1: (if ((s.bM.length:Nat):Int)+1< ((s.bM.count c:Nat):Int)+1 then ((s.bM.length:Nat):Int)+1 else ((s.bM.count c:Nat):Int)+1)= ((s.bM.count c+1:Nat):Int):=by
    rw [if_neg (by omega)];omega
  rw [e1,oY _ (by omega),aB]
  rw [dD (x:=((s.bM.count c+1:Nat):Int) - 1) (by omega) (by omega)]
  have key:=itr_inv (S:=bS×List bS×Int) (R:=Empty) (body:=(fun(s7:bS×(List bS)×Int)=>(bif (decide (s7.2.2< ((s.bM.count c+1:Nat):Int) - 1)) then ((gx N s7.1 ⟨[c]⟩).bind fun(x23:Int)=>bif (decide (x23<0)) then (some (.br (s7.1,s7.2.1,s7.2.2))) else ((n0 s7.1 0 (IntKind.wrap .i64 (x23+0))).bind fun(x24:bS)=>(idx s7.2.1 s7.2.2).bind fun(x25:bS)=>(n0 s7.1 (IntKind.wrap .i64 (x23+ (((⟨[c]⟩:bS).bM.length:Nat):Int))) ((s7.1.bM.length:Nat):Int)).bind fun(x27:bS)=>some (.nx (x27,(s7.2.1.set (Int.toNat s7.2.2) x24),(IntKind.wrap .i64 (s7.2.2+1)))))) else (some (.br (s7.1,s7.2.1,s7.2.2))):Option (Fl (bS×(List bS)×Int) Empty))))
    (fun st=>∃ws:List (List UInt8),st.2.2= ((ws.length:Nat):Int)∧cutAt c s.bM=ws++cutAt c st.1.bM∧ws.length+st.1.bM.count c=s.bM.count c∧st.1.bM.length≤s.bM.length∧st.2.1=ws.map bS.mk++List.replicate (s.bM.count c+1 - ws.length) ⟨[]⟩)
    (fun st=>s.bM.count c+1 - st.2.2.toNat)
    (fun st=>∃ws:List (List UInt8),st.2.2= ((ws.length:Nat):Int)∧cutAt c s.bM=ws++[st.1.bM]∧ws.length=s.bM.count c∧st.2.1=ws.map bS.mk++[⟨[]⟩])
    (fun _=>True) (by
      rintro⟨r,arr,i⟩ ⟨ws,h1,h2,h3,h4,h5⟩
      simp only at h1 h2 h3 h4 h5
      subst h1 h5
      by_cases hlt:ws.length<s.bM.count c
      · have hd:decide (((ws.length:Nat):Int)< ((s.bM.count c+1:Nat):Int) - 1)=true:=by rw [decide_eq_true_eq];omega
        simp only [hd,cond_true,zA,aB]
        rcases m4 r.bM c with ⟨_,hn⟩ | ⟨a,b,hr,ha,hi⟩
        · rw [List.count_eq_zero_of_not_mem hn] at h3;omega
        · have hrl:r.bM.length=a.length+ (b.length+1):=by rw [hr];simp
          rw [hi,decide_eq_false (by omega),cond_false]
          rw [show ((a.length:Nat):Int)+0= ((a.length:Nat):Int) by omega,dD (x:=((a.length:Nat):Int)) (by omega) (by omega),x6 (by omega),aB]
          rw [fN _ _ (by simp;omega),aB]
          rw [show ((a.length:Nat):Int)+ (((⟨[c]⟩:bS).bM.length:Nat):Int)= ((a.length+1:Nat):Int) by simp,dD (x:=((a.length+1:Nat):Int)) (by omega) (by omega),x8 (by omega),aB]
          refine⟨_,rfl,⟨ws++[a],?_,?_,?_,?_,?_⟩,?_⟩
          · simp only;rw [dD (by omega) (by omega)];simp
          · simp only
            rw [h2,hr,vB ha];simp
          · simp only
            rw [hr] at h3 ⊢
            simp [List.count_eq_zero_of_not_mem ha] at h3 ⊢;omega
          · simp;omega
          · simp only [Int.toNat_natCast]
            rw [List.set_append_right _ _ (by simp)]
            simp only [List.length_map,Nat.sub_self]
            obtain⟨d,hd'⟩: ∃d,s.bM.count c+1 - ws.length=d+1:=⟨s.bM.count c - ws.length,by omega⟩
            rw [hd',List.replicate_succ,List.set_cons_zero,show s.bM.count c+1 - (ws++[a]).length=d by simp;omega]
            simp [hr]
          · simp only;rw [dD (by omega) (by omega)];omega
      · have hd:decide (((ws.length:Nat):Int)< ((s.bM.count c+1:Nat):Int) - 1)=false:=by rw [decide_eq_false_iff_not];omega
        simp only [hd,cond_false]
        refine⟨_,rfl,ws,rfl,?_,by omega,?_⟩
        · have h0:r.bM.count c=0:=by omega
          rw [h2,si (List.count_eq_zero.1 h0)]
        · rw [show s.bM.count c+1 - ws.length=1 by omega];rfl)
    N (s,List.replicate (s.bM.count c+1) ⟨[]⟩,0) ⟨[],rfl,rfl,by simp,Nat.le_refl _,by simp⟩ (by simp only;omega)
  obtain⟨o,ho,hgo⟩:=key
  rw [ho,aB]
  cases o with
  | rt r=>exact r.elim
  | go st=>
    obtain⟨r,arr,i⟩:=st
    obtain⟨ws,h1,h2,h3,h4⟩:=hgo
    simp only at h1 h2 h3 h4
    subst h1 h4
    simp only [Fo.cs]
    rw [fN _ _ (by simp),aB,dD (by omega) (by omega)]
    rw [show ((ws.length:Nat):Int)+1= ((ws.length+1:Nat):Int) by omega,oW _ _ (by simp),aB,aB]
    unfold lX
    rw [h2]
    rw [Int.toNat_natCast,List.set_append_right _ _ (by simp),List.take_of_length_le (by simp)]
    simp
def lY (s:bS):Bool:=decide (s.bM.length≤200)&&(lX s 47).all isWord
theorem nu {c:UInt8}: ∀{l:List UInt8} {x:List UInt8},x∈cutAt c l→x.length≤l.length
  | [],x,h=>by simp [cutAt] at h;subst h;simp
  | b::l,x,h=>by
    unfold cutAt at h
    split at h
    · rcases List.mem_cons.1 h with h | h
      · subst h;simp
      · have:=nu h;simp;omega
    · split at h
      · rename_i t e
        rcases List.mem_cons.1 h with h | h
        · subst h;have:=nu (c:=c) (l:=l) (by rw [e];exact List.mem_cons_self);simp;omega
        · have:=nu (c:=c) (l:=l) (by rw [e];exact List.mem_cons_of_mem _ h);simp;omega
      · simp at h;subst h;simp
theorem tv (c:UInt8): ∀(l:List UInt8),(cutAt c l).length≤l.length+1
  | []=>by simp [cutAt]
  | b::l=>by
    have:=tv c l
    unfold cutAt
    split
    · simp;omega
    · split
      · rename_i e;rw [e] at this;simp at this ⊢;omega
      · simp
theorem x9 {s x:bS} {c:UInt8} (h:x∈lX s c):x.bM.length≤s.bM.length:=by
  obtain⟨y,hy,rfl⟩:=List.mem_map.1 h
  exact nu hy
theorem ya (s:bS) (c:UInt8): (lX s c).length≤s.bM.length+1:=by unfold lX;rw [List.length_map];exact tv c _
theorem pD {s:bS} (h:s.bM.length≤1048576) (hN:4194304≤N):gS N s=some (lY s):=by
  unfold gS lY
  by_cases hl:s.bM.length≤200
  · rw [decide_eq_true (by omega),cond_true,zC 47 h hN,aB]
    have e:=ll (l:=lX s 47) (φ:=dU N) (fun x=> !isWord x) (by have:=ya s 47;omega) (fun x hx=>by
      unfold dU
      rw [kJ (by have:=x9 hx;omega)];rfl)
    have e2:dT N (lX s 47) (dU N)=kS (lX s 47) (dU N):=rfl
    rw [e2,e,aB,aB,decide_eq_true hl,Bool.true_and]
    congr 1
    rw [Bool.eq_iff_iff]
    simp
  · rw [decide_eq_false (by omega),cond_false,aB,decide_eq_false hl,Bool.false_and]
end
end Go.Gk
namespace Go.Gk
open Go Classical
section
variable {N:Nat}
theorem zD {a b:aA} (h:bG a=bG b):a=b:=by cases a;cases b;unfold bG at h;simp at h;obtain⟨h1,h2,h3⟩:=h;subst h1;subst h2;subst h3;rfl
theorem pE: ∀{s t:List aA},s.map bG=t.map bG→s=t
  | [],[],_=>rfl
  | [],_::_,h=>by cases h
  | _::_,[],h=>by cases h
  | a::s,b::t,h=>by
    rw [List.map_cons,List.map_cons] at h
    injection h with h1 h2
    rw [zD h1,pE h2]
theorem zF {s t:List aA} (hs:cV (s.map bG)) (ht:cV (t.map bG)) (h: ∀x y,ri (s.map bG) x y=ri (t.map bG) x y):s=t:=pE (wA hs ht h)
theorem l9.unique {l:List aD} {s t:List aA} (hs:l9 l s) (ht:l9 l t):s=t:=zF hs.can ht.can fun x y=>by rw [hs.cover,ht.cover]
theorem l9.xk {l:List aD} {s:List aA} (h:l9 l s):s.length≤2*l.length∧(∀b∈s,b.Xs.length≤2*l.length)∧(aM s).length≤2*l.length* (2*l.length):=by
  have h1:s.length≤2*l.length:=by have:=h.lim.len h.can;rwa [List.length_map,fY] at this
  have h2: ∀b∈s,b.Xs.length≤2*l.length:=fun b hb=>by
    have:=h.lim.row h.can (b:=bG b) (List.mem_map.2 ⟨b,hb,rfl⟩)
    rwa [iv] at this
  exact⟨h1,h2,rY h1 h2⟩
theorem nv {n:Int} (h:kI n=true): -1000000≤n∧n≤1000000:=by
  unfold kI fq at h
  rw [Bool.and_eq_true,decide_eq_true_eq,decide_eq_true_eq] at h;omega
theorem m5 {r:aD} (h:eM r=true): (-1000000≤r.X0∧r.X0≤1000000)∧(-1000000≤r.Y0∧r.Y0≤1000000)∧(-1000000≤r.X1∧r.X1≤1000000)∧(-1000000≤r.Y1∧r.Y1≤1000000):=by
  unfold eM at h
  simp only [Bool.and_eq_true] at h
  exact⟨nv h.1,nv h.2.1,nv h.2.2.1,nv h.2.2.2⟩
theorem zG {r:aD} (h:eM r=true) (hx:r.X0<r.X1) (hy:r.Y0<r.Y1):xd r:=by
  have:=m5 h
  refine⟨hx,hy,?_,?_,?_,?_⟩ <;> unfold small <;> omega
def jY (r:aD):Option Int:=if eM r=true then (if r.X1≤r.X0∨r.Y1≤r.Y0 then some 13 else none) else some 1
def iz (l:List aD):Int:=if 2000<l.length then 2 else (l.findSome? jY).getD 0
theorem sS {l:List aD} (hl:l.length≤4611686018427387904):fR N l=some (iz l):=by
  unfold fR iz
  by_cases h:2000<l.length
  · rw [decide_eq_true (by omega),cond_true,if_pos h]
  · rw [decide_eq_false (by omega),cond_false,if_neg h,rK jY hl (fun k x hx=>by
      rw [gU hx,aB,sg,aB]
      unfold jY
      cases hr:eM x with
      | false=>rfl
      | true=>
        rw [Bool.not_true,cond_false,if_pos rfl]
        by_cases h2:x.X1≤x.X0∨x.Y1≤x.Y0
        · rw [if_pos h2,show (decide (x.X1≤x.X0)||decide (x.Y1≤x.Y0))=true by rw [Bool.or_eq_true,decide_eq_true_eq,decide_eq_true_eq];exact h2];rfl
        · rw [if_neg h2,show (decide (x.X1≤x.X0)||decide (x.Y1≤x.Y0))=false by rw [←Bool.not_eq_true,Bool.or_eq_true,decide_eq_true_eq,decide_eq_true_eq];exact h2];rfl),aB]
    cases l.findSome? jY <;> rfl
theorem pF {r:aD}:jY r=none↔eM r=true∧r.X0<r.X1∧r.Y0<r.Y1:=by
  unfold jY
  by_cases h:eM r=true
  · rw [if_pos h]
    by_cases h2:r.X1≤r.X0∨r.Y1≤r.Y0
    · rw [if_pos h2]
      constructor
      · intro h;cases h
      · rintro⟨_,h3,h4⟩;omega
    · rw [if_neg h2]
      exact⟨fun _=>⟨h,by omega,by omega⟩,fun _=>rfl⟩
  · rw [if_neg h]
    constructor
    · intro h;cases h
    · rintro⟨h3,_⟩;exact absurd h3 h
theorem vC {r:aD} {e:Int} (h:jY r=some e):e≠0:=by
  unfold jY at h
  split at h
  · split at h
    · injection h with h;omega
    · cases h
  · injection h with h;omega
theorem nW {l:List aD}:iz l=0↔l.length≤2000∧∀r∈l,eM r=true∧r.X0<r.X1∧r.Y0<r.Y1:=by
  unfold iz
  by_cases h:2000<l.length
  · rw [if_pos h];constructor
    · intro h;omega
    · intro h;omega
  · rw [if_neg h]
    cases hf:l.findSome? jY with
    | none=>
      rw [List.findSome?_eq_none_iff] at hf
      exact⟨fun _=>⟨by omega,fun r hr=>pF.1 (hf r hr)⟩,fun _=>rfl⟩
    | some e=>
      obtain⟨r,hr,he⟩:=List.exists_of_findSome?_eq_some hf
      constructor
      · intro h0;exact absurd h0 (vC he)
      · rintro⟨_,h2⟩
        rw [pF.2 (h2 r hr)] at he;cases he
def CM (l:List aD):Prop:=∀(k:Nat) a b,l[k]? =some a→l[k+1]? =some b→¬(b.Y0<a.Y0∨(b.Y0=a.Y0∧b.X0≤a.X0))
def uo (l:List aD):Prop:=∃s,l9 l s∧aM s=l
noncomputable def gI (l:List aD):Int:=if iz l≠0 then iz l else if CM l then (if uo l then 0 else 3) else 8
theorem zH {l:List aD} (h:iz l=0):l.length≤2000∧∀r∈l,xd r:=⟨(nW.1 h).1,fun r hr=>by have:=(nW.1 h).2 r hr;exact zG this.1 this.2.1 this.2.2⟩
theorem wG {l m:List aD} (hl:l.length≤4611686018427387904):fB N l m=some (decide (l=m)):=by
  have:=tj (l:=l) (m:=m) hl
  unfold wy at this
  unfold fB
  rw [show (decide (l=m)) = @decide (l=m) (instDecidableEqList l m) from decide_eq_decide.2 Iff.rfl]
  exact this
theorem m6 {l:List aD} (hl:l.length≤1073741824) (hN:4398046511104≤N):eK N l=some (gI l):=by
  refine Ok.get ?_
  unfold eK
  refine Ok.eq (sS (by omega)) ?_
  unfold gI
  refine Ok.bif (fun h=>Ok.ret ?_) (fun h=>?_)
  · rw [if_pos (by simpa using h)]
  · have h0:iz l=0:=by simpa using h
    rw [if_neg (by simpa using h0)]
    obtain⟨hlen,hok⟩:=zH h0
    refine Ok.bind (Ok.itr (Go:=fun _=>CM l) (Rt:=fun r=>r=8∧¬CM l) (fun s=>∃k:Nat,s= ((k:Nat):Int)∧1≤k∧∀(j:Nat) a b,j+1<k→l[j]? =some a→l[j+1]? =some b→¬(b.Y0<a.Y0∨(b.Y0=a.Y0∧b.X0≤a.X0))) (fun s=>l.length - s.toNat) ?_ ⟨1,rfl,Nat.le_refl _,fun j a b hj=>by omega⟩ (by simp;omega)) ?_
    · rintro s ⟨k,rfl,hk,hI⟩
      refine Ok.bif (fun h=>?_) (fun h=>Ok.br fun j a b ha hb=>hI j a b ?_ ha hb)
      · have hk2:k<l.length:=by have:=of_decide_eq_true h;omega
        rw [jm hk (by omega)]
        refine Ok.idx (by omega) (Ok.idx hk2 (Ok.bif (fun hb=>Ok.rt ⟨rfl,fun hu=>?_⟩) (fun hb=>Ok.nx ⟨⟨k+1,by rw [dN (by omega)],by omega,fun j a b hj ha hb'=>?_⟩,by rw [dN (by omega)];simp only [Int.toNat_natCast];omega⟩)))
        · refine hu (k - 1) l[k - 1] l[k] (List.getElem?_eq_getElem _) (by rw [show k - 1+1=k by omega];exact List.getElem?_eq_getElem _) ?_
          rw [Bool.or_eq_true,Bool.and_eq_true,decide_eq_true_eq,decide_eq_true_eq,beq_iff_eq] at hb;exact hb
        · by_cases e:j+1<k
          · exact hI j a b e ha hb'
          · have:j+1=k:=by omega
            subst this
            rw [List.getElem?_eq_getElem (by omega)] at ha hb'
            injection ha with ha;injection hb' with hb'
            subst ha;subst hb'
            rw [←Bool.not_eq_true,Bool.or_eq_true,Bool.and_eq_true,decide_eq_true_eq,decide_eq_true_eq,beq_iff_eq] at hb;exact hb
      · have:=of_decide_eq_false h
        have:=(List.getElem?_eq_some_iff.1 hb).1;omega
    · rintro o ho
      refine Ok.cs ho (fun s hu=>?_) (fun r hr=>Ok.ret (by rw [hr.1,if_neg hr.2]))
      rw [if_pos hu]
      refine Ok.bind (lW (N:=N) (by omega) hok (by omega)) ?_
      intro s hs
      obtain⟨z1,z2,z3⟩:=hs.xk
      have z4:2*l.length* (2*l.length)≤4000*4000:=Nat.mul_le_mul (by omega) (by omega)
      refine Ok.eq (rZ (mY hs.can) (by omega) (fun b hb=>by have:=z2 b hb;omega) (by omega)) (Ok.eq (wG (by omega)) ?_)
      have hiff:uo l↔aM s=l:=⟨fun⟨t,h1,h2⟩=>by rw [hs.unique h1];exact h2,fun h=>⟨s,hs,h⟩⟩
      refine Ok.bif (fun h=>Ok.ret ?_) (fun h=>Ok.ret ?_)
      · have h: ¬aM s=l:=by simpa using h
        rw [if_neg (fun h'=>h (hiff.1 h'))]
      · have h:aM s=l:=by simpa using h
        rw [if_pos (hiff.2 h)]
theorem vD {l:List aD}:gI l=0↔iz l=0∧CM l∧uo l:=by
  unfold gI
  by_cases h:iz l=0
  · rw [if_neg (by simpa using h)]
    by_cases h2:CM l
    · rw [if_pos h2]
      by_cases h3:uo l
      · rw [if_pos h3];exact⟨fun _=>⟨h,h2,h3⟩,fun _=>rfl⟩
      · rw [if_neg h3];constructor
        · intro h;omega
        · rintro⟨_,_,h4⟩;exact absurd h4 h3
    · rw [if_neg h2];constructor
      · intro h;omega
      · rintro⟨_,h4,_⟩;exact absurd h4 h2
  · rw [if_pos h]
    constructor
    · intro h2;exact absurd h2 h
    · rintro⟨h2,_⟩;exact absurd h2 h
theorem oC (n lo hi:Int):dR N n lo hi=some (fq n lo hi):=rfl
theorem yb {b:bB} (hN:16≤N):fH N b=some (jt b):=by
  have:=lE (N:=N - 16) (b:=b)
  rwa [show N - 16+16=N by omega] at this
def kK (n:Nat) (b:bB):Option Int:=if (jt b).2≠0 then some (jt b).2 else if fq b.bN 0 (((n:Nat):Int) - 1)=true∧fq b.To b.bN (((n:Nat):Int) - 1)=true then none else some 1
def i7 (a:ju):Int:=if 500<a.aK.length then 2 else (a.aK.findSome? (kK a.aJ.length)).getD 0
theorem sT {a:ju} (h1:a.aJ.length≤4611686018427387904) (h2:a.aK.length≤4611686018427387904) (hN:16≤N):fC N a=some (i7 a):=by
  unfold fC i7
  by_cases h:500<a.aK.length
  · rw [decide_eq_true (by omega),cond_true,if_pos h]
  · have hw:IntKind.wrap .i64 (((a.aJ.length:Nat):Int) - 1)= ((a.aJ.length:Nat):Int) - 1:=dD (by omega) (by omega)
    rw [decide_eq_false (by omega),cond_false,if_neg h,rK (kK a.aJ.length) h2 (fun k x hx=>by
      rw [gU hx,aB,yb hN,aB]
      unfold kK
      by_cases h0: (jt x).2=0
      · rw [if_neg (by simpa using h0),h0,show ((0:Int) != 0)=false by rfl,cond_false,hw,oC,aB,oC,aB]
        cases h3:fq x.bN 0 (((a.aJ.length:Nat):Int) - 1) <;> cases h4:fq x.To x.bN (((a.aJ.length:Nat):Int) - 1) <;> rfl
      · rw [if_pos h0,show ((jt x).2 != 0)=true by simpa using h0];rfl),aB]
    cases a.aK.findSome? (kK a.aJ.length) <;> rfl
theorem vE {b:bB} (h: (jt b).2=0):mZ b=true∧eM (rk b)=true:=by
  unfold jt at h
  split at h
  · rename_i h';rwa [Bool.and_eq_true] at h'
  · cases h
theorem kY {a:ju} (h:i7 a=0):a.aK.length≤500∧∀b∈a.aK,mZ b=true∧eM (rk b)=true∧0≤b.bN∧b.bN≤b.To∧b.To< ((a.aJ.length:Nat):Int):=by
  unfold i7 at h
  split at h
  · omega
  · refine⟨by omega,fun b hb=>?_⟩
    have hn:kK a.aJ.length b=none:=by
      cases hf:a.aK.findSome? (kK a.aJ.length) with
      | none=>exact List.findSome?_eq_none_iff.1 hf b hb
      | some e=>
        rw [hf] at h
        obtain⟨c,hc,he⟩:=List.exists_of_findSome?_eq_some hf
        have h:e=0:=h
        subst h
        unfold kK at he
        split at he
        · rename_i h';injection he with he;exact absurd he h'
        · split at he
          · cases he
          · injection he with he;omega
    unfold kK at hn
    split at hn
    · cases hn
    · rename_i h0
      split at hn
      · rename_i h1
        have h0: (jt b).2=0:=by simpa using h0
        have:=vE h0
        unfold fq at h1
        simp only [Bool.and_eq_true,decide_eq_true_eq] at h1
        exact⟨this.1,this.2,by omega,by omega,by omega⟩
      · cases hn
theorem CN {b:bB} (h1:mZ b=true) (h2:eM (rk b)=true):xd (rk b):=by
  have hf:=m0 h1
  refine zG h2 ?_ ?_
  · show b.At.X - b.cH / 2<b.At.X - b.cH / 2+b.cH;omega
  · show b.At.Y - b.cH / 2<b.At.Y - b.cH / 2+b.cH;omega
def pG (p q:dC):Int:=if Lib.compareBytes p.Part.bM q.Part.bM≠0 then Lib.compareBytes p.Part.bM q.Part.bM else Lib.compareBytes p.dC.bM q.dC.bM
theorem ra (p q:dC):eQ N p q=some (pG p q):=by
  unfold eQ pG
  show (bif (Lib.compareBytes p.Part.bM q.Part.bM != 0) then _ else _)=_
  by_cases h:Lib.compareBytes p.Part.bM q.Part.bM=0
  · rw [h,if_neg (by simp)];rfl
  · rw [if_pos h,show (Lib.compareBytes p.Part.bM q.Part.bM != 0)=true by simpa using h];rfl
def kr (l:cE):dC:=⟨l.Part,l.dC⟩
theorem ny (l:cE):gl N l=some (kr l):=rfl
def pH (a:ju) (k:Nat):Option Int:=(a.aR[k]?).bind fun x=>
  if (lY x.Part&&isWord x.dC)=true then
    if (fq x.bH 0 (((a.aJ.length:Nat):Int) - 1)&&pB x.At)=true then
      if 0<k∧(∃y,a.aR[k - 1]? =some y∧pG (kr x) (kr y)≤0) then some 8 else none
    else some 1
  else some 5
noncomputable def ku (a:ju):Int:=if 1000<a.aR.length then 2 else (qR a.aR.length (pH a)).getD 0
end
end Go.Gk
namespace Go.Gk
open Go Classical
section
variable {N:Nat}
def sj (a:ju):Prop:=∀x∈a.aR,x.Part.bM.length≤1048576∧x.dC.bM.length≤1048576
theorem sU {a:ju} (h1:a.aJ.length≤1073741824) (h2:a.aR.length≤1073741824) (h3:sj a) (hN:4194304≤N):fE N a=some (ku a):=by
  unfold fE ku
  by_cases h:1000<a.aR.length
  · rw [decide_eq_true (by omega),cond_true,if_pos h]
  · have hw:IntKind.wrap .i64 (((a.aJ.length:Nat):Int) - 1)= ((a.aJ.length:Nat):Int) - 1:=dD (by omega) (by omega)
    rw [decide_eq_false (by omega),cond_false,if_neg h,lk (pH a) (by omega) (fun k hk _=>by
      have hx:a.aR[k]? =some a.aR[k]:=List.getElem?_eq_getElem hk
      have hs:=h3 _ (List.getElem_mem hk)
      rw [gU hx,aB,pD hs.1 hN,aB]
      have hle:pH a k= (if (lY a.aR[k].Part&&isWord a.aR[k].dC)=true then
          if (fq a.aR[k].bH 0 (((a.aJ.length:Nat):Int) - 1)&&pB a.aR[k].At)=true then
            if 0<k∧(∃y,a.aR[k - 1]? =some y∧pG (kr a.aR[k]) (kr y)≤0) then some 8 else none
          else some 1
        else some 5):=by unfold pH;rw [hx];rfl
      rw [hle]
      have e1: ((bif (!lY a.aR[k].Part) then (some true) else ((eG N a.aR[k].dC).bind fun(x225:Bool)=>some (!x225))):Option Bool)=some (!(lY a.aR[k].Part&&isWord a.aR[k].dC)):=by
        rw [kJ hs.2,aB]
        cases lY a.aR[k].Part <;> rfl
      have e2: ((dR N a.aR[k].bH 0 (IntKind.wrap .i64 (((a.aJ.length:Nat):Int) - 1))).bind fun(x318:Bool)=>bif (!x318) then (some true) else ((eX N a.aR[k].At).bind fun(x321:Bool)=>some (!x321)))=some (!(fq a.aR[k].bH 0 (((a.aJ.length:Nat):Int) - 1)&&pB a.aR[k].At)):=by
        rw [hw,oC,aB,qN,aB]
        cases fq a.aR[k].bH 0 (((a.aJ.length:Nat):Int) - 1) <;> rfl
      show ((bif (!lY a.aR[k].Part) then (some true) else ((eG N a.aR[k].dC).bind fun(x225:Bool)=>some (!x225))):Option Bool).bind _=_
      rw [e1,aB]
      cases h4: (lY a.aR[k].Part&&isWord a.aR[k].dC) with
      | false=>rfl
      | true=>
        rw [Bool.not_true,cond_false,if_pos rfl]
        show (((dR N a.aR[k].bH 0 (IntKind.wrap .i64 (((a.aJ.length:Nat):Int) - 1))).bind fun(x318:Bool)=>bif (!x318) then (some true) else ((eX N a.aR[k].At).bind fun(x321:Bool)=>some (!x321)))).bind _=_
        rw [e2,aB]
        cases h5: (fq a.aR[k].bH 0 (((a.aJ.length:Nat):Int) - 1)&&pB a.aR[k].At) with
        | false=>rfl
        | true=>
          rw [Bool.not_true,cond_false,if_pos rfl]
          by_cases h0:0<k
          · rw [decide_eq_true (by omega),cond_true,ny,aB,jm h0 (by omega),fN _ _ (by omega:k - 1<a.aR.length),aB,ny,aB,ra,aB,aB]
            by_cases h6:pG (kr a.aR[k]) (kr a.aR[k - 1])≤0
            · rw [decide_eq_true h6,if_pos ⟨h0,_,List.getElem?_eq_getElem (by omega:k - 1<a.aR.length),h6⟩];rfl
            · rw [decide_eq_false h6,if_neg (by
                rintro⟨_,y,hy,h7⟩
                rw [List.getElem?_eq_getElem (by omega:k - 1<a.aR.length)] at hy;injection hy with hy
                rw [←hy] at h7;exact h6 h7)];rfl
          · rw [decide_eq_false (by omega),if_neg (fun h=>h0 h.1)];rfl),aB]
    cases qR a.aR.length (pH a) <;> rfl
def iA (b:bB) (k:Int):Bool:=decide (b.bN≤k)&&decide (k≤b.To)
theorem sm (b:bB) (k:Int):fT N b k=some (iA b k):=rfl
def kx (bs:List bB) (k:Int):List aD:=(bs.filter (fun b=>iA b k)).map rk
structure jq (bs:List bB):Prop where
  len:bs.length≤500
  ok: ∀b∈bs,mZ b=true∧eM (rk b)=true
structure pI (r hs:List aD) (s:List aA):Prop where
  can:cV (s.map bG)
  cover: ∀x y,ri (s.map bG) x y= (z5 r x y&& !z5 hs x y)
  lim:px (nR r++nR hs) (jd r++jd hs) (s.map bG)
theorem tw {bs:List bB} (h:jq bs) (k:Int): (kx bs k).length≤500:=by
  unfold kx
  rw [List.length_map]
  have:=List.length_filter_le (fun b=>iA b k) bs
  have:=h.len;omega
theorem vF {bs:List bB} (h:jq bs) (k:Int): ∀r∈kx bs k,xd r∧eM r=true:=by
  intro r hr
  unfold kx at hr
  obtain⟨b,hb,rfl⟩:=List.mem_map.1 hr
  have:=h.ok b (List.mem_filter.1 hb).1
  exact⟨CN this.1 this.2,this.2⟩
theorem pI.small {r hs:List aD} {s:List aA} (h:pI r hs s) (h1: ∀x∈r,xd x) (h2: ∀x∈hs,xd x): (∀c∈nR r++nR hs,small c)∧∀c∈jd r++jd hs,small c:=by
  constructor
  · intro c hc
    rcases List.mem_append.1 hc with h | h
    · obtain⟨x,hx,rfl | rfl⟩:=pw.1 h
      · exact(h1 x hx).s1
      · exact(h1 x hx).s2
    · obtain⟨x,hx,rfl | rfl⟩:=pw.1 h
      · exact(h2 x hx).s1
      · exact(h2 x hx).s2
  · intro c hc
    rcases List.mem_append.1 hc with h | h
    · obtain⟨x,hx,rfl | rfl⟩:=i6.1 h
      · exact(h1 x hx).s3
      · exact(h1 x hx).s4
    · obtain⟨x,hx,rfl | rfl⟩:=i6.1 h
      · exact(h2 x hx).s3
      · exact(h2 x hx).s4
theorem qB {s:List aA} {X Y:List Int} {A:Nat} (hc:cV (s.map bG)) (h:px X Y (s.map bG)) (hX:X.length≤A) (hY:Y.length≤A):s.length≤A∧(∀b∈s,b.Xs.length≤A)∧(aM s).length≤A*A:=by
  have h1:s.length≤A:=by have:=h.len hc;rw [List.length_map] at this;omega
  have h2: ∀b∈s,b.Xs.length≤A:=fun b hb=>by
    have:=h.row hc (b:=bG b) (List.mem_map.2 ⟨b,hb,rfl⟩)
    have e: (bG b).xs=b.Xs:=rfl
    rw [e] at this;omega
  exact⟨h1,h2,rY h1 h2⟩
theorem sV {r hs:List aD} (h1:r.length≤2000) (h2: ∀x∈r,xd x) (h3:hs.length≤500) (h4: ∀x∈hs,xd x) (hN:4398046511104≤N) {β:Type} {f:List aA→Option β} {Q:β→Prop} (k: ∀s,pI r hs s→Ok (f s) Q):
    Ok ((dJ N r).bind fun x378=>(dJ N hs).bind fun x380=>(fU N x378 x380).bind f) Q:=by
  refine Ok.bind (lW (N:=N) (by omega) h2 (by omega)) (fun s hs1=>?_)
  refine Ok.bind (lW (N:=N) (by omega) h4 (by omega)) (fun t ht=>?_)
  have hz: ∀c∈jd r++jd hs,small c:=by
    intro c hc
    rcases List.mem_append.1 hc with h | h
    · obtain⟨x,hx,rfl | rfl⟩:=i6.1 h
      · exact(h2 x hx).s3
      · exact(h2 x hx).s4
    · obtain⟨x,hx,rfl | rfl⟩:=i6.1 h
      · exact(h4 x hx).s3
      · exact(h4 x hx).s4
  refine Ok.bind (xZ (X:=nR r++nR hs) (Y:=jd r++jd hs) hs1.can ht.can (hs1.lim.mono (fun c h=>List.mem_append_left _ h) (fun c h=>List.mem_append_left _ h)) (ht.lim.mono (fun c h=>List.mem_append_right _ h) (fun c h=>List.mem_append_right _ h))
    (by rw [List.length_append,iv,iv];omega) (by rw [List.length_append,fY,fY];omega) hz hN) (fun u hu=>?_)
  exact k u ⟨hu.can,fun x y=>by rw [hu.cover,hs1.cover,ht.cover],hu.lim⟩
def pcsOf:Nat→List (List (List aA))→List aC
  | _,[]=>[]
  | k,ps::r=>ps.map (fun p=>⟨((k:Nat):Int),p,aM p⟩)++pcsOf (k+1) r
theorem oD (ps:List (List aA)): ∀(r:List (List (List aA))) (k:Nat),pcsOf k (r++[ps])=pcsOf k r++ps.map (fun p=>⟨((k+r.length:Nat):Int),p,aM p⟩)
  | [],k=>by unfold pcsOf;simp [pcsOf]
  | q::r,k=>by
    show _++pcsOf (k+1) (r++[ps])= (_++pcsOf (k+1) r)++_
    rw [oD ps r (k+1),List.append_assoc]
    congr 3
    simp only [List.length_cons]
    rw [show k+ (r.length+1)=k+1+r.length by omega]
theorem vG {s p:List aA} {ps:List (List aA)} {r:Nat→Nat} {X Y:List Int} (h:nr s r ps) (hc:cV (s.map bG)) (hl:px X Y (s.map bG)) (hX: ∀c∈X,small c) (hY: ∀c∈Y,small c) (hp:p∈ps):
    ∃j k:Nat,ps[j]? =some p∧(bE (aM s).length r)[j]? =some k∧l9 (jF (aM s) (aM s).length r k) p∧px X Y (p.map bG):=by
  obtain⟨j,hj⟩:=List.getElem?_of_mem hp
  have hjl:=(List.getElem?_eq_some_iff.1 hj).1
  rw [h.len] at hjl
  have hh: (bE (aM s).length r)[j]? =some (bE (aM s).length r)[j]:=List.getElem?_eq_getElem hjl
  have hs:=h.each j _ p hh hj
  refine⟨j,_,hj,hh,hs,hs.lim.mono (fun c hcx=>?_) (fun c hcx=>?_)⟩
  · obtain⟨x,hx,hxc⟩:=pw.1 hcx
    obtain⟨i,_,_,hi⟩:=pz.1 hx
    have:=r5 hc hl hX hY x (List.mem_of_getElem? hi)
    rcases hxc with rfl | rfl
    · exact this.2.1.1
    · exact this.2.1.2
  · obtain⟨x,hx,hxc⟩:=i6.1 hcx
    obtain⟨i,_,_,hi⟩:=pz.1 hx
    have:=r5 hc hl hX hY x (List.mem_of_getElem? hi)
    rcases hxc with rfl | rfl
    · exact this.2.2.1
    · exact this.2.2.2
structure qC (cs:List (List aD)) (bs:List bB) (k:Nat) (kL:List (List aA)) (dZ:List (List (List aA))):Prop where
  len:kL.length=k
  yc:dZ.length=k
  dr: ∀(i:Nat) r s,i<k→cs[i]? =some r→kL[i]? =some s→pI r (kx bs ((i:Nat):Int)) s
  pt: ∀(i:Nat) s ps,i<k→kL[i]? =some s→dZ[i]? =some ps→∃u,nr s u ps
  BH: (pcsOf 0 dZ).length≤k*25000000
theorem nr.BH {s:List aA} {u:Nat→Nat} {ps:List (List aA)} (h:nr s u ps):ps.length≤(aM s).length:=by
  rw [h.len];exact jo _ _
theorem wH {cs:List (List aD)} {bs:List bB} (hcs:cs.length≤16) (hc: ∀r∈cs,r.length≤2000∧∀x∈r,xd x) (hb:jq bs) (hN:4398046511104≤N):
    Ok (fg N cs bs [] []) (fun x=>∃dZ,qC cs bs cs.length x.2.1 dZ∧x.2.2=pcsOf 0 dZ∧(x.1=true↔(∀s∈x.2.1,(aM s).length≤2000)∧x.2.2.length≤2000)):=by
  unfold fg
  refine Ok.bind (P:=fun(st:List (List aA)×List aC×Bool)=>∃dZ,qC cs bs cs.length st.1 dZ∧st.2.1=pcsOf 0 dZ∧(st.2.2=true↔∀s∈st.1,(aM s).length≤2000)) (Ok.gZ (fun(k:Nat) (st:List (List aA)×List aC×Bool)=>∃dZ,qC cs bs k st.1 dZ∧st.2.1=pcsOf 0 dZ∧(st.2.2=true↔∀s∈st.1,(aM s).length≤2000)) (by omega)
    ⟨[],⟨rfl,rfl,fun i r s hi=>by omega,fun i s ps hi=>by omega,by simp [pcsOf]⟩,rfl,by simp⟩ (fun k st hk hI=>?_)) ?_
  · obtain⟨kL,pcs,okk⟩:=st
    obtain⟨dZ,D,e1,e2⟩:=hI
    dsimp only at D e1 e2 ⊢
    subst e1
    have hkx:cs[k]? =some cs[k]:=List.getElem?_eq_getElem hk
    obtain⟨hr1,hr2⟩:=hc _ (List.getElem_mem hk)
    refine Ok.ix hkx ?_
    refine Ok.bind (P:=fun t=>t=kx bs ((k:Nat):Int)) (Ok.mono (Ok.gZ (fun j t=>t=kx (bs.take j) ((k:Nat):Int)) (by have:=hb.len;omega) rfl (fun j t hj e=>?_)) (fun t e=>by rw [e,List.take_length])) (fun t e=>?_)
    · subst e
      refine Ok.idx hj (Ok.eq (sm _ _) ?_)
      have hts:bs.take (j+1)=bs.take j++[bs[j]]:=List.take_succ_eq_append_getElem hj
      have hgb:=hb.ok _ (List.getElem_mem hj)
      have hl: (kx (bs.take j) ((k:Nat):Int)).length≤500:=by
        unfold kx
        rw [List.length_map]
        have:=List.length_filter_le (fun b=>iA b ((k:Nat):Int)) (bs.take j)
        rw [List.length_take] at this
        have:=hb.len;omega
      cases ht:iA bs[j] ((k:Nat):Int) with
      | false=>
        rw [cond_false]
        refine Ok.eq rfl (Ok.ret ?_)
        unfold kx
        rw [hts,List.filter_append];simp [ht]
      | true=>
        rw [cond_true]
        refine Ok.eq (x:=kx (bs.take j) ((k:Nat):Int)++[rk bs[j]]) (by rw [iM hgb.1,aB,eR (by simp;omega),aB]) (Ok.ret ?_)
        unfold kx
        rw [hts,List.filter_append,List.map_append];simp [ht]
    · subst e
      have hho:=vF hb ((k:Nat):Int)
      have hhl:=tw hb ((k:Nat):Int)
      refine sV hr1 hr2 hhl (fun x hx=>(hho x hx).1) hN (fun s hs=>?_)
      obtain⟨sx,sy⟩:=hs.small hr2 (fun x hx=>(hho x hx).1)
      obtain⟨z1,z2,z3⟩:=qB (A:=5000) hs.can hs.lim (by rw [List.length_append,iv,iv];omega) (by rw [List.length_append,fY,fY];omega)
      have hmany:=AG (N:=N) (s:=s) (by omega) (fun b hb=>by have:=z2 b hb;omega) (by omega)
      refine Ok.eq (x:=(okk&&decide ((aM s).length≤2000),s)) ?_ ?_
      · cases okk with
        | false=>rfl
        | true=>
          rw [cond_true,hmany,aB,Bool.true_and]
          rw [show decide ((((aM s).length:Nat):Int)≤2000)=decide ((aM s).length≤2000) from decide_eq_decide.2 (by omega)]
      dsimp only
      refine Ok.app (by rw [D.len];simp;omega) ?_
      refine Ok.bind (wE (N:=N) hs.can hs.lim sx sy (by omega) (fun b hb=>by have:=z2 b hb;omega) (by omega) hN) ?_
      rintro ps ⟨u,hu⟩
      have hfew:=hu.BH
      have hk16:k*25000000≤16*25000000:=Nat.mul_le_mul_right _ (by omega)
      have hDf:=D.BH
      refine Ok.bind (P:=fun t=>t=pcsOf 0 dZ++ps.map (fun p=>(⟨((k:Nat):Int),p,aM p⟩:aC))) (Ok.mono (Ok.gZ (fun j t=>t=pcsOf 0 dZ++(ps.take j).map (fun p=>(⟨((k:Nat):Int),p,aM p⟩:aC))) (by omega) (by simp) (fun j t hj e=>?_)) (fun t e=>by rw [e,List.take_length])) (fun t e=>Ok.ret ?_)
      · subst e
        have hjx:ps[j]? =some ps[j]:=List.getElem?_eq_getElem hj
        refine Ok.ix hjx ?_
        obtain⟨_,_,_,_,iE,hpl⟩:=vG hu hs.can hs.lim sx sy (List.getElem_mem hj)
        obtain⟨y1,y2,y3⟩:=qB (A:=5000) iE.can hpl (by rw [List.length_append,iv,iv];omega) (by rw [List.length_append,fY,fY];omega)
        refine Ok.eq (rZ (mY iE.can) (by omega) (fun b hb=>by have:=y2 b hb;omega) (by omega)) (Ok.app ?_ (Ok.ret ?_))
        · simp only [List.length_append,List.length_map,List.length_take,List.length_singleton];omega
        · rw [List.take_succ_eq_append_getElem hj,List.map_append,List.append_assoc];rfl
      · subst e
        refine⟨dZ++[ps],⟨by simp [D.len],by simp [D.yc],fun i r s' hi hr hs'=>?_,fun i s' ps' hi hs' hps'=>?_,?_⟩,?_,?_⟩
        · dsimp only at hs'
          by_cases hik:i<k
          · rw [List.getElem?_append_left (by rw [D.len];exact hik)] at hs'
            exact D.dr i r s' hik hr hs'
          · have:i=k:=by omega
            subst this
            rw [List.getElem?_append_right (by rw [D.len];omega),D.len,Nat.sub_self] at hs'
            simp at hs';subst hs'
            rw [hkx] at hr;injection hr with hr;subst hr
            exact hs
        · dsimp only at hs'
          by_cases hik:i<k
          · rw [List.getElem?_append_left (by rw [D.len];exact hik)] at hs'
            rw [List.getElem?_append_left (by rw [D.yc];exact hik)] at hps'
            exact D.pt i s' ps' hik hs' hps'
          · have:i=k:=by omega
            subst this
            rw [List.getElem?_append_right (by rw [D.len];omega),D.len,Nat.sub_self] at hs'
            rw [List.getElem?_append_right (by rw [D.yc];omega),D.yc,Nat.sub_self] at hps'
            simp at hs' hps';subst hs';subst hps'
            exact⟨u,hu⟩
        · rw [oD,List.length_append,List.length_map];omega
        · dsimp only
          rw [oD,D.yc,Nat.zero_add]
        · dsimp only
          rw [Bool.and_eq_true,e2,decide_eq_true_eq]
          constructor
          · rintro⟨h1,h2⟩ s' hs'
            rcases List.mem_append.1 hs' with h | h
            · exact h1 s' h
            · simp at h;subst h;exact h2
          · intro h
            exact⟨fun s' hs'=>h s' (List.mem_append_left _ hs'),h s (by simp)⟩
  · rintro⟨kL,pcs,okk⟩ ⟨dZ,D,e1,e2⟩
    dsimp only at D e1 e2 ⊢
    subst e1
    refine Ok.bind (P:=fun b=>b=true↔(∀s∈kL,(aM s).length≤2000)∧(pcsOf 0 dZ).length≤2000) (Ok.bif (fun h=>Ok.ret ?_) (fun h=>Ok.ret ?_)) (fun b hb=>Ok.ret ⟨dZ,D,rfl,hb⟩)
    · rw [decide_eq_true_eq]
      constructor
      · intro h';exact⟨e2.1 h,by omega⟩
      · rintro⟨_,h'⟩;omega
    · constructor
      · intro h';cases h'
      · rintro⟨h',_⟩;rw [e2.2 h'] at h;cases h
end
end Go.Gk
namespace Go.Gk
open Go Classical
section
variable {N:Nat}
section
variable {α:Type}
def m7 (P:α→Bool) (l:List α) (n:Nat):List Nat:=(List.range n).filter (fun k=>(l[k]?).any P)
theorem wI {P:α→Bool} {l:List α} {n:Nat} {x:α} (h:l[n]? =some x):m7 P l (n+1)=if P x=true then m7 P l n++[n] else m7 P l n:=by
  unfold m7
  rw [List.range_succ,List.filter_append]
  by_cases hp:P x=true
  · rw [if_pos hp];simp [h,hp]
  · rw [if_neg hp];simp [h,hp]
theorem tx (P:α→Bool) (l:List α) (n:Nat): (m7 P l n).length≤n:=by
  have:=List.length_filter_le (fun k=>(l[k]?).any P) (List.range n)
  rw [List.length_range] at this;exact this
theorem yd {P:α→Bool} {l:List α} {n k:Nat}:k∈m7 P l n↔k<n∧(l[k]?).any P=true:=by unfold m7;simp
theorem pJ {β:Type} {l:List α} (P:α→Bool) (g:Nat→β):qR l.length (fun k=>(l[k]?).bind fun x=>if P x=true then some (g k) else none)= (l.findIdx? P).map g:=by
  cases h:l.findIdx? P with
  | none=>
    rw [List.findIdx?_eq_none_iff] at h
    refine j6.2 fun k hk=>?_
    rw [List.getElem?_eq_getElem hk]
    have:=h _ (List.getElem_mem hk)
    simp [this]
  | some j=>
    obtain⟨hj,hp,hn⟩:=List.findIdx?_eq_some_iff_getElem.1 h
    refine lj.2 ⟨j,hj,by rw [List.getElem?_eq_getElem hj];simp [hp],fun i hi=>?_⟩
    rw [List.getElem?_eq_getElem (by omega)]
    have:=hn i hi
    simp [this]
end
def ints (l:List Nat):List Int:=l.map fun i=>((i:Nat):Int)
theorem m8 (l m:List Nat):ints (l++m)=ints l++ints m:=List.map_append
theorem i9 (l:List Nat): (ints l).length=l.length:=List.length_map _
theorem sq {l:List Nat} {x:Int}:x∈ints l↔∃i∈l,x= ((i:Nat):Int):=by
  unfold ints;rw [List.mem_map]
  constructor
  · rintro⟨i,h1,h2⟩;exact⟨i,h1,h2.symm⟩
  · rintro⟨i,h1,h2⟩;exact⟨i,h1,h2.symm⟩
def xl (p0 p1:aD):Bool:=((((decide (p0.X0<p1.X1))&&(decide (p1.X0<p0.X1)))&&((p0.Y1==p1.Y0)||(p1.Y1==p0.Y0)))||(((decide (p0.Y0<p1.Y1))&&(decide (p1.Y0<p0.Y1)))&&((p0.X1==p1.X0)||(p1.X1==p0.X0))))
def ja (b:bB) (p:aC):Bool:=b.bP&&(iA b p.bH&&p.fL.any (fun r=>xl r (rk b)))
def ky (bs:List bB) (pcs:List aC):List (List Int):=bs.map fun b=>ints (m7 (ja b) pcs pcs.length)
theorem kM {l:List aD} {φ:aD→Option Bool} (p:aD→Bool) (hl:l.length≤4611686018427387904) (h: ∀x∈l,φ x=some (p x)):dA N l φ=some (l.any p):=
  ll p hl h
theorem zI {bs:List bB} {pcs:List aC} (hb:jq bs) (hp:pcs.length≤1073741824) (hr: ∀p∈pcs,p.fL.length≤1073741824):fh N bs pcs []=some (ky bs pcs):=by
  refine Ok.get ?_
  have hbl:=hb.len
  unfold fh
  refine Ok.bind (Ok.gZ (fun k st=>st=ky (bs.take k) pcs) (by omega) rfl (fun k st hk e=>?_)) (fun st e=>Ok.ret (by rw [e,List.take_length]))
  subst e
  have hg:=hb.ok _ (List.getElem_mem hk)
  refine Ok.idx hk ?_
  refine Ok.bind (P:=fun t=>t=ints (m7 (ja bs[k]) pcs pcs.length)) (Ok.gZ (fun j t=>t=ints (m7 (ja bs[k]) pcs j)) (by omega) rfl (fun j t hj e=>?_)) (fun t e=>?_)
  · subst e
    have hjx:pcs[j]? =some pcs[j]:=List.getElem?_eq_getElem hj
    have hl:=tx (ja bs[k]) pcs j
    refine Ok.ix hjx ?_
    refine Ok.eq (x:=ja bs[k] pcs[j]) ?_ ?_
    · unfold ja
      cases bs[k].bP with
      | false=>rfl
      | true=>
        rw [cond_true,sm,aB,Bool.true_and]
        cases iA bs[k] pcs[j].bH with
        | false=>rfl
        | true=>
          rw [cond_true,kM (fun r=>xl r (rk bs[k])) (by have:=hr _ (List.getElem_mem hj);omega) (fun r _=>by
            unfold fp;rw [iM hg.1];rfl),aB,Bool.true_and]
    · rw [wI hjx]
      cases ht:ja bs[k] pcs[j] with
      | false=>rw [cond_false,if_neg (by simp)];exact Ok.eq rfl (Ok.ret rfl)
      | true=>
        rw [cond_true,if_pos rfl]
        refine Ok.eq (x:=ints (m7 (ja bs[k]) pcs j)++[((j:Nat):Int)]) (by rw [eR (by rw [i9];simp;omega),aB]) (Ok.ret ?_)
        rw [m8];rfl
  · subst e
    refine Ok.app ?_ (Ok.ret ?_)
    · unfold ky;simp;omega
    · unfold ky
      rw [List.take_succ_eq_append_getElem hk,List.map_append];rfl
def vH (r:List aD) (p:bX):Bool:=r.any (fun x=>decide (p.X≥x.X0)&&(decide (p.X<x.X1)&&(decide (p.Y≥x.Y0)&&decide (p.Y<x.Y1))))
theorem pK {r:List aD} {p:bX} (hl:r.length≤4611686018427387904):fx N r p=some (vH r p):=by
  unfold fx
  rw [kM (fun x=>decide (p.X≥x.X0)&&(decide (p.X<x.X1)&&(decide (p.Y≥x.Y0)&&decide (p.Y<x.Y1)))) hl (fun x _=>by
    unfold gm
    cases decide (p.X≥x.X0) <;> cases decide (p.X<x.X1) <;> cases decide (p.Y≥x.Y0) <;> rfl)];rfl
def oE (l:cE) (b:bB):Bool:=b.bP&&(iA b l.bH&&vH [rk b] l.At)
def pL (l:cE) (p:aC):Bool:=(p.bH==l.bH)&&vH p.fL l.At
def uq (bs:List bB) (pcs:List aC) (l:cE):Option fZ:=match bs.findIdx? (oE l) with
  | some k=>some ⟨true,((k:Nat):Int)⟩
  | none=>(pcs.findIdx? (pL l)).map fun k=>⟨false,((k:Nat):Int)⟩
theorem zJ {bs:List bB} {pcs:List aC} (hb:jq bs) (hp:pcs.length≤1073741824) (hr: ∀p∈pcs,p.fL.length≤1073741824) (l:cE):
    fk N bs pcs l=some ((uq bs pcs l).getD ⟨false,0⟩,(uq bs pcs l).isSome):=by
  have hbl:=hb.len
  unfold fk
  rw [lk (fun k=>(bs[k]?).bind fun x=>if oE l x=true then some ((⟨true,((k:Nat):Int)⟩:fZ),true) else none) (by omega) (fun k hk _=>by
    have hkx:bs[k]? =some bs[k]:=List.getElem?_eq_getElem hk
    have hg:=hb.ok _ (List.getElem_mem hk)
    rw [gU hkx,aB,hkx,iM hg.1,aB,aB,pK (by simp)]
    unfold oE
    cases bs[k].bP with
    | false=>rfl
    | true=>
      show (((bif iA bs[k] l.bH then _ else _:Option Bool)).bind _)=_
      cases iA bs[k] l.bH with
      | false=>rfl
      | true=>
        cases vH [rk bs[k]] l.At <;> rfl),aB,pJ (oE l) (fun k=>((⟨true,((k:Nat):Int)⟩:fZ),true))]
  unfold uq
  cases bs.findIdx? (oE l) with
  | some k=>rfl
  | none=>
    show ((mx pcs.length _ ()).bind _)=_
    rw [lk (fun k=>(pcs[k]?).bind fun x=>if pL l x=true then some ((⟨false,((k:Nat):Int)⟩:fZ),true) else none) (by omega) (fun k hk _=>by
      have hkx:pcs[k]? =some pcs[k]:=List.getElem?_eq_getElem hk
      rw [gU hkx,aB,hkx,aB,pK (by have:=hr _ (List.getElem_mem hk);omega)]
      unfold pL
      cases pcs[k].bH==l.bH with
      | false=>rfl
      | true=>cases vH pcs[k].fL l.At <;> rfl),aB,pJ (pL l) (fun k=>((⟨false,((k:Nat):Int)⟩:fZ),true))]
    cases pcs.findIdx? (pL l) <;> rfl
def Lk (n:Nat) (tch:List (List Int)) (i j:Nat):Prop:=∃(k:Nat) (l:List Int),tch[k]? =some l∧((i:Nat):Int)∈l∧j=n+k
structure ye (n m:Nat) (tch:List (List Int)) (r:Nat→Nat):Prop where
  le: ∀i,i<n+m→r i≤i
  rr: ∀i,i<n+m→r (r i)=r i
  co: ∀i j,Lk n tch i j→r i=r j
  fi: ∀S:Nat→Prop,(∀i j,Lk n tch i j→(S i↔S j))→∀i j,i<n+m→j<n+m→r i=r j→S i→S j
theorem yf {n m:Nat} {tch:List (List Int)} (hm:tch.length=m) (ht: ∀l∈tch,l.length≤1073741824∧∀x∈l,∃i:Nat,i<n∧x= ((i:Nat):Int)) (hn:n≤1073741824) (hm2:m≤1073741824) {up:List Int} (hu:UF (n+m) up (fun i=>i)) (hN:4398046511104≤N):
    Ok (gZ tch.length (fun(k34:Nat) (s35: (List Int))=>((idx tch (k34:Int)).bind fun(x89: (List Int))=>(gZ x89.length (fun(k92:Nat) (s93: (List Int))=>((idx x89 (k92:Int)).bind fun(x107:Int)=>(dH N s93 x107 (IntKind.wrap .i64 ((n:Int)+ (k34:Int)))).bind fun(x109: (List Int))=>some x109:Option ((List Int)))) s35).bind fun(s93: (List Int))=>some s93:Option ((List Int)))) up)
      (fun up'=>∃r,UF (n+m) up' r∧ye n m tch r):=by
  have base:Ok (gZ tch.length (fun(k34:Nat) (s35: (List Int))=>((idx tch (k34:Int)).bind fun(x89: (List Int))=>(gZ x89.length (fun(k92:Nat) (s93: (List Int))=>((idx x89 (k92:Int)).bind fun(x107:Int)=>(dH N s93 x107 (IntKind.wrap .i64 ((n:Int)+ (k34:Int)))).bind fun(x109: (List Int))=>some x109:Option ((List Int)))) s35).bind fun(s93: (List Int))=>some s93:Option ((List Int)))) up)
      (fun up'=>∃r E,UF (n+m) up' r∧kp r E∧r8 (n+m) r E∧(∀p∈E,Lk n tch p.1 p.2)∧∀(k:Nat) l (i:Nat),k<tch.length→tch[k]? =some l→((i:Nat):Int)∈l→(i,n+k)∈E):=by
    refine Ok.gZ (fun q up'=>∃r E,UF (n+m) up' r∧kp r E∧r8 (n+m) r E∧(∀p∈E,Lk n tch p.1 p.2)∧∀(k:Nat) l (i:Nat),k<q→tch[k]? =some l→((i:Nat):Int)∈l→(i,n+k)∈E) (by omega)
      ⟨_,_,hu,kp.id,r8.id _,fun p hp=>(by cases hp),fun k l i hk=>by omega⟩ (fun q up' hq hI=>?_)
    obtain⟨r,E,h1,h2,h3,h4,h5⟩:=hI
    have hqx:tch[q]? =some tch[q]:=List.getElem?_eq_getElem hq
    obtain⟨hl1,hl2⟩:=ht _ (List.getElem_mem hq)
    refine Ok.ix hqx ?_
    rw [wrap_add (by omega)]
    refine Ok.bind (Ok.gZ (fun t up'=>∃r E,UF (n+m) up' r∧kp r E∧r8 (n+m) r E∧(∀p∈E,Lk n tch p.1 p.2)∧(∀(k:Nat) l (i:Nat),k<q→tch[k]? =some l→((i:Nat):Int)∈l→(i,n+k)∈E)∧∀i:Nat,((i:Nat):Int)∈tch[q].take t→(i,n+q)∈E) (by omega)
      ⟨r,E,h1,h2,h3,h4,h5,fun i hi=>by simp at hi⟩ (fun t up' htl hI=>?_)) (fun up' hI=>Ok.ret ?_)
    · obtain⟨r,E,h1,h2,h3,h4,h5,h6⟩:=hI
      refine Ok.idx htl ?_
      obtain⟨i,hi,e⟩:=hl2 _ (List.getElem_mem htl)
      rw [e]
      obtain⟨u2,a1,a2⟩:=AH (N:=N) h1 (i:=i) (k:=n+q) (by omega) (by omega) (by omega)
      refine Ok.eq a1 (Ok.ret ⟨_,_,a2,h2.join i (n+q) (h1.rr i (by omega)),h3.join (by omega) (by omega),fun p hp=>?_,fun k l j hk hl hj=>List.mem_append_left _ (h5 k l j hk hl hj),fun j hj=>?_⟩)
      · rcases List.mem_append.1 hp with hp | hp
        · exact h4 p hp
        · simp at hp;subst hp
          exact⟨q,tch[q],hqx,by rw [←e];exact List.getElem_mem htl,rfl⟩
      · rw [List.take_succ_eq_append_getElem htl,List.mem_append] at hj
        rcases hj with hj | hj
        · exact List.mem_append_left _ (h6 j hj)
        · rw [List.mem_singleton,e] at hj
          have:j=i:=by omega
          subst this;simp
    · obtain⟨r,E,h1,h2,h3,h4,h5,h6⟩:=hI
      refine⟨r,E,h1,h2,h3,h4,fun k l i hk hl hi=>?_⟩
      by_cases hkq:k<q
      · exact h5 k l i hkq hl hi
      · have:k=q:=by omega
        subst this
        rw [hqx] at hl;injection hl with hl;subst hl
        exact h6 i (by rw [List.take_length];exact hi)
  obtain⟨up',e,r,E,h1,h2,h3,h4,h5⟩:=base
  have hE: ∀i j,Lk n tch i j→(i,j)∈E:=fun i j ⟨k,l,hl,hi,hj⟩=>by
    rw [hj];exact h5 k l i (List.getElem?_eq_some_iff.1 hl).1 hl hi
  exact⟨up',e,r,h1,h1.le,h1.rr,fun i j h=>h2 (i,j) (hE i j h),fun S hS i j hi hj=>h3 S (fun p hp=>hS p.1 p.2 (h4 p hp)) i j hi hj⟩
def oF (bs:List bB) (j:Nat):Bool:=(bs[j]?).any (fun b=>b.bP)
def gP (n:Nat) (c:List Nat):List Nat:=c.filter (fun i=>decide (i<n))
def gB (bs:List bB) (n:Nat) (c:List Nat):List Nat:=(c.filter (fun i=> !decide (i<n)&&oF bs (i - n))).map (fun i=>i - n)
def xm (bs:List bB) (n:Nat) (c:List Nat):Bool:=decide (0< (gP n c).length+ (gB bs n c).length)
def Ew (bs:List bB) (n:Nat) (c:List Nat):aX:=⟨ints (gP n c),ints (gB bs n c),[]⟩
theorem xn (n:Nat) (c:List Nat) (i:Nat):gP n (c++[i])=if i<n then gP n c++[i] else gP n c:=by
  unfold gP;rw [List.filter_append];split <;> rename_i h <;> simp [h]
theorem xo (bs:List bB) (n:Nat) (c:List Nat) (i:Nat):gB bs n (c++[i])=if i<n then gB bs n c else if oF bs (i - n)=true then gB bs n c++[i - n] else gB bs n c:=by
  unfold gB;rw [List.filter_append,List.map_append]
  split
  · rename_i h;simp [h]
  · rename_i h
    split <;> rename_i h2 <;> simp [h,h2]
theorem zK (n:Nat) (c:List Nat): (gP n c).length≤c.length:=List.length_filter_le _ _
theorem zL (bs:List bB) (n:Nat) (c:List Nat): (gB bs n c).length≤c.length:=by unfold gB;rw [List.length_map];exact List.length_filter_le _ _
def live (bs:List bB) (n t:Nat) (r:Nat→Nat) (hs:List Nat):List Nat:=hs.filter (fun h=>xm bs n (cls t r h))
def jG (bs:List bB) (n t:Nat) (r:Nat→Nat) (hs:List Nat):List aX:=(live bs n t r hs).map (fun h=>Ew bs n (cls t r h))
theorem yg (bs:List bB) (n t:Nat) (r:Nat→Nat) (hs:List Nat) (h:Nat):live bs n t r (hs++[h])=if xm bs n (cls t r h)=true then live bs n t r hs++[h] else live bs n t r hs:=by
  unfold live;rw [List.filter_append];split <;> rename_i h2 <;> simp [h2]
theorem lF (bs:List bB) (n t:Nat) (r:Nat→Nat) (hs:List Nat): (jG bs n t r hs).length= (live bs n t r hs).length:=by unfold jG;rw [List.length_map]
def gi (bs:List bB) (n t:Nat) (r:Nat→Nat) (h:Nat):Nat:=(live bs n t r ((bE t r).takeWhile (fun x=>decide (x≠h)))).length
theorem nX {l:List Nat} (hn:l.Nodup) {k h:Nat} (hk:l[k]? =some h):l.takeWhile (fun x=>decide (x≠h))=l.take k:=by
  induction l generalizing k with
  | nil=>simp at hk
  | cons a l ih=>
    cases k with
    | zero=>simp at hk;subst hk;simp
    | succ k=>
      have hk:l[k]? =some h:=by simpa using hk
      have hne:a≠h:=fun e=>(List.nodup_cons.1 hn).1 (by rw [e];exact List.mem_of_getElem? hk)
      rw [List.takeWhile_cons,if_pos (by simpa using hne),List.take_succ_cons,ih (List.nodup_cons.1 hn).2 hk]
theorem lZ (bs:List bB) (n t:Nat) (r:Nat→Nat) (hs:List Nat): (live bs n t r hs).length≤hs.length:=List.length_filter_le _ _
theorem A1 {bs:List bB} {n t:Nat} {r:Nat→Nat} {h:Nat} (hh:h∈bE t r) (hne:xm bs n (cls t r h)=true):gi bs n t r h< (live bs n t r (bE t r)).length∧(live bs n t r (bE t r))[gi bs n t r h]? =some h:=by
  obtain⟨k,hk⟩:=List.getElem?_of_mem hh
  have hkl:=(List.getElem?_eq_some_iff.1 hk).1
  unfold gi
  rw [nX (ga t r) hk]
  have e:bE t r= (bE t r).take k++h::(bE t r).drop (k+1):=by
    have h1:=(List.take_append_drop k (bE t r)).symm
    rw [List.drop_eq_getElem_cons hkl,(List.getElem?_eq_some_iff.1 hk).2] at h1;exact h1
  have e2:live bs n t r (bE t r)=live bs n t r ((bE t r).take k)++h::live bs n t r ((bE t r).drop (k+1)):=by
    conv=>lhs;rw [e]
    unfold live
    rw [List.filter_append,List.filter_cons,if_pos hne]
  constructor
  · rw [e2];simp
  · rw [e2]
    simp
end
end Go.Gk
namespace Go.Gk
open Go Classical
section
variable {N:Nat}
theorem qD {l:List Nat} (h:l.Nodup) {i j a:Nat} (hi:l[i]? =some a) (hj:l[j]? =some a):i=j:=
  (List.getElem_inj (h₀:=(List.getElem?_eq_some_iff.1 hi).1) (h₁:=(List.getElem?_eq_some_iff.1 hj).1) h).1 (by rw [(List.getElem?_eq_some_iff.1 hi).2,(List.getElem?_eq_some_iff.1 hj).2])
theorem kN {n i k:Nat} {r:Nat→Nat}:i∈cls n r k↔i<n∧r i=k:=by unfold cls;simp
theorem yh (n:Nat) (r:Nat→Nat) (k:Nat): (cls n r k).Nodup:=List.Nodup.sublist List.filter_sublist List.nodup_range
structure CO (bs:List bB) (n m:Nat) (r:Nat→Nat) (hs:List Nat) (ofP ofB:List Int):Prop where
  lp:ofP.length=n
  lb:ofB.length=m
  pc: ∀i,i<n→r i∈hs→ofP[i]? =some ((gi bs n (n+m) r (r i):Nat):Int)
  bo: ∀j,j<m→r (n+j)∈hs→ofB[j]? =some (if oF bs j=true then ((gi bs n (n+m) r (r (n+j)):Nat):Int) else -1)
theorem vI {bs:List bB} {n m:Nat} {r:Nat→Nat} (hm:bs.length=m) (hn:n≤1073741824) (hm2:m≤1073741824) {op ob:List Int} (hop:op.length=n) (hob:ob.length=m)
    {body:Nat→List aX×List Int×List Int→Option (List aX×List Int×List Int)}
    (hbody:body= (fun(k123:Nat) (s124: (List aX)×(List Int)×(List Int))=>((idx (kq (n+m) r) (k123:Int)).bind fun(x455: (List Int))=>(gZ x455.length (fun(k458:Nat) (s459: (List Int)×(List Int)×(List Int)×(List Int))=>((idx x455 (k458:Int)).bind fun(x556:Int)=>(bif (decide (x556< (n:Int))) then ((idx s459.1 x556).bind fun(x580:Int)=>(app 8 s459.2.2.1 ([x556]: (List Int))).bind fun(x582: (List Int))=>some ((s459.1.set (Int.toNat x556) (s124.1.length:Int)),s459.2.1,x582,s459.2.2.2)) else ((idx bs (IntKind.wrap .i64 (x556 - (n:Int)))).bind fun(x584:bB)=>(bif x584.bP then ((idx s459.2.1 (IntKind.wrap .i64 (x556 - (n:Int)))).bind fun(x594:Int)=>(app 8 s459.2.2.2 ([(IntKind.wrap .i64 (x556 - (n:Int)))]: (List Int))).bind fun(x596: (List Int))=>some ((s459.2.1.set (Int.toNat (IntKind.wrap .i64 (x556 - (n:Int)))) (s124.1.length:Int)),x596)) else ((idx s459.2.1 (IntKind.wrap .i64 (x556 - (n:Int)))).bind fun(x598:Int)=>some ((s459.2.1.set (Int.toNat (IntKind.wrap .i64 (x556 - (n:Int)))) (-1)),s459.2.2.2))).bind fun(s592: (List Int)×(List Int))=>some (s459.1,s592.1,s459.2.2.1,s592.2))).bind fun(s577: (List Int)×(List Int)×(List Int)×(List Int))=>some (s577.1,s577.2.1,s577.2.2.1,s577.2.2.2):Option ((List Int)×(List Int)×(List Int)×(List Int)))) (s124.2.1,s124.2.2,([]: (List Int)),([]: (List Int)))).bind fun(s459: (List Int)×(List Int)×(List Int)×(List Int))=>(bif (decide ((IntKind.wrap .i64 ((s459.2.2.1.length:Int)+ (s459.2.2.2.length:Int)))>0)) then ((app 72 s124.1 [(⟨s459.2.2.1,s459.2.2.2,([]: (List dC))⟩:aX)]).bind fun(x610: (List aX))=>some x610) else (some s124.1)).bind fun(s606: (List aX))=>some (s606,s459.1,s459.2.1):Option ((List aX)×(List Int)×(List Int))))):
    Ok (gZ (kq (n+m) r).length body ([],op,ob)) (fun st=>st.1=jG bs n (n+m) r (bE (n+m) r)∧CO bs n m r (bE (n+m) r) st.2.1 st.2.2):=by
  subst hbody
  have hsl: (kq (n+m) r).length= (bE (n+m) r).length:=by unfold kq;simp
  have hhl:=jo (n+m) r
  refine Ok.mono (Ok.gZ (fun(k:Nat) (st:List aX×List Int×List Int)=>st.1=jG bs n (n+m) r ((bE (n+m) r).take k)∧CO bs n m r ((bE (n+m) r).take k) st.2.1 st.2.2) (by omega) ⟨rfl,hop,hob,fun i hi h=>by simp at h,fun j hj h=>by simp at h⟩ (fun k st hk hI=>?_)) (fun st h=>by rw [hsl,List.take_length] at h;exact h)
  obtain⟨gs,ofP,ofB⟩:=st
  obtain⟨e1,I⟩:=hI
  dsimp only at e1 I ⊢
  subst e1
  rw [hsl] at hk
  have hkx: (bE (n+m) r)[k]? =some (bE (n+m) r)[k]:=List.getElem?_eq_getElem hk
  have hts: (bE (n+m) r).take (k+1)= (bE (n+m) r).take k++[(bE (n+m) r)[k]]:=List.take_succ_eq_append_getElem hk
  have hgk:gi bs n (n+m) r (bE (n+m) r)[k]= (jG bs n (n+m) r ((bE (n+m) r).take k)).length:=by
    unfold gi;rw [nX (ga _ _) hkx,lF]
  generalize hh: (bE (n+m) r)[k]=h at *
  have hsx: (kq (n+m) r)[k]? =some (ints (cls (n+m) r h)):=by unfold kq;rw [List.getElem?_map,hkx];rfl
  refine Ok.ix hsx ?_
  have hcl:=uk (n+m) r h
  rw [i9]
  have hgl: (jG bs n (n+m) r ((bE (n+m) r).take k)).length≤n+m:=by
    rw [lF]
    have:=lZ bs n (n+m) r ((bE (n+m) r).take k)
    rw [List.length_take] at this;omega
  have hold: ∀i∈cls (n+m) r h,∀i',r i'∈(bE (n+m) r).take k→i≠i':=fun i hi i' hi' e=>by
    subst e
    rw [(kN.1 hi).2] at hi'
    obtain⟨j,hj⟩:=List.getElem?_of_mem hi'
    have hjk:j<k:=by have:=(List.getElem?_eq_some_iff.1 hj).1;rw [List.length_take] at this;omega
    rw [List.getElem?_take_of_lt hjk] at hj
    have:=qD (ga (n+m) r) hj hkx
    omega
  refine Ok.bind (P:=fun s'=>CO bs n m r ((bE (n+m) r).take (k+1)) s'.1 s'.2.1∧s'.2.2.1=ints (gP n (cls (n+m) r h))∧s'.2.2.2=ints (gB bs n (cls (n+m) r h))) (Ok.mono (Ok.gZ
    (fun(t:Nat) (s':List Int×List Int×List Int×List Int)=>CO bs n m r ((bE (n+m) r).take k) s'.1 s'.2.1∧s'.2.2.1=ints (gP n ((cls (n+m) r h).take t))∧s'.2.2.2=ints (gB bs n ((cls (n+m) r h).take t))∧
      (∀i∈(cls (n+m) r h).take t,i<n→s'.1[i]? =some ((gi bs n (n+m) r h:Nat):Int))∧∀i∈(cls (n+m) r h).take t,¬i<n→s'.2.1[i - n]? =some (if oF bs (i - n)=true then ((gi bs n (n+m) r h:Nat):Int) else -1)) (by omega)
      ⟨I,rfl,rfl,fun i hi=>by simp at hi,fun i hi=>by simp at hi⟩ (fun t s' ht hI'=>?_)) ?_) ?_
  · obtain⟨oP,oB,pp,bb⟩:=s'
    obtain⟨J,e2,e3,J1,J2⟩:=hI'
    dsimp only at J e2 e3 J1 J2 ⊢
    subst e2;subst e3
    have htx: (ints (cls (n+m) r h))[t]? =some (((cls (n+m) r h)[t]:Nat):Int):=by unfold ints;rw [List.getElem?_map,List.getElem?_eq_getElem ht];rfl
    refine Ok.ix htx ?_
    have htt: (cls (n+m) r h).take (t+1)= (cls (n+m) r h).take t++[(cls (n+m) r h)[t]]:=List.take_succ_eq_append_getElem ht
    have hcm:=List.getElem_mem ht
    have hdist: ∀i∈(cls (n+m) r h).take t,i≠(cls (n+m) r h)[t]:=fun i hi e=>by
      obtain⟨j,hj⟩:=List.getElem?_of_mem hi
      have hjt:j<t:=by have:=(List.getElem?_eq_some_iff.1 hj).1;rw [List.length_take] at this;omega
      rw [List.getElem?_take_of_lt hjt] at hj
      have:=qD (yh (n+m) r h) hj (by rw [e];exact List.getElem?_eq_getElem ht)
      omega
    generalize (cls (n+m) r h)[t]=c at *
    obtain⟨hc1,hc2⟩:=kN.1 hcm
    have hgp:=zK n ((cls (n+m) r h).take t)
    have hgb:=zL bs n ((cls (n+m) r h).take t)
    rw [List.length_take] at hgp hgb
    by_cases hcn:c<n
    · rw [decide_eq_true (by omega: ((c:Nat):Int)< ((n:Nat):Int)),cond_true]
      refine Ok.bind (P:=fun x=>x= (oP.set c ((gi bs n (n+m) r h:Nat):Int),oB,ints (gP n ((cls (n+m) r h).take t))++[((c:Nat):Int)],ints (gB bs n ((cls (n+m) r h).take t)))) ?_ ?_
      · refine Ok.idx (by rw [J.lp];exact hcn) (Ok.app (by rw [i9];simp;omega) (Ok.ret ?_))
        rw [Int.toNat_natCast,hgk]
      · rintro _ rfl
        refine Ok.ret ⟨⟨by simp [J.lp],J.lb,fun i hi hr=>?_,J.bo⟩,?_,?_,fun i hi hin=>?_,fun i hi hin=>?_⟩
        · dsimp only
          rw [iD (by rw [J.lp];exact hcn),if_neg (fun e=>hold c hcm i hr e.symm)];exact J.pc i hi hr
        · dsimp only;rw [htt,xn,if_pos hcn,m8];rfl
        · dsimp only;rw [htt,xo,if_pos hcn]
        · dsimp only
          rw [iD (by rw [J.lp];exact hcn)]
          split
          · rfl
          · rename_i hne
            rw [htt] at hi
            rcases List.mem_append.1 hi with hi | hi
            · exact J1 i hi hin
            · exact absurd (by simpa using hi) hne
        · rw [htt] at hi
          rcases List.mem_append.1 hi with hi | hi
          · exact J2 i hi hin
          · have:i=c:=by simpa using hi
            subst this;exact absurd hcn hin
    · rw [decide_eq_false (by omega: ¬((c:Nat):Int)< ((n:Nat):Int)),cond_false]
      have hw:IntKind.wrap .i64 (((c:Nat):Int) - ((n:Nat):Int))= ((c - n:Nat):Int):=by rw [dD (by omega) (by omega)];omega
      have hcm2:c - n<bs.length:=by omega
      have hpl:oF bs (c - n)=bs[c - n].bP:=by unfold oF;rw [List.getElem?_eq_getElem hcm2];rfl
      rw [hw]
      refine Ok.bind (P:=fun x=>x= (oP,oB.set (c - n) (if oF bs (c - n)=true then ((gi bs n (n+m) r h:Nat):Int) else -1),ints (gP n ((cls (n+m) r h).take t)),ints (gB bs n ((cls (n+m) r h).take t++[c])))) ?_ ?_
      · refine Ok.idx hcm2 ?_
        rw [xo,if_neg hcn,hpl]
        cases hp:bs[c - n].bP with
        | true=>
          rw [cond_true,if_pos rfl,if_pos rfl]
          refine Ok.eq (x:=(oB.set (c - n) ((gi bs n (n+m) r h:Nat):Int),ints (gB bs n ((cls (n+m) r h).take t)++[c - n]))) ?_ (Ok.ret rfl)
          rw [fN _ _ (by rw [J.lb];omega),aB,eR (by rw [i9];simp;omega),aB,Int.toNat_natCast,hgk,m8];rfl
        | false=>
          rw [cond_false,if_neg (by simp),if_neg (by simp)]
          refine Ok.eq (x:=(oB.set (c - n) (-1),ints (gB bs n ((cls (n+m) r h).take t)))) ?_ (Ok.ret rfl)
          rw [fN _ _ (by rw [J.lb];omega),aB,Int.toNat_natCast]
      · rintro _ rfl
        refine Ok.ret ⟨⟨J.lp,by simp [J.lb],J.pc,fun j hj hr=>?_⟩,?_,?_,fun i hi hin=>?_,fun i hi hin=>?_⟩
        · dsimp only
          rw [iD (by rw [J.lb];omega),if_neg (fun e=>hold c hcm (n+j) hr (by omega))];exact J.bo j hj hr
        · dsimp only;rw [htt,xn,if_neg hcn]
        · dsimp only;rw [htt]
        · rw [htt] at hi
          rcases List.mem_append.1 hi with hi | hi
          · exact J1 i hi hin
          · have:i=c:=by simpa using hi
            subst this;exact absurd hin hcn
        · dsimp only
          rw [iD (by rw [J.lb];omega)]
          split
          · rename_i e;rw [e]
          · rename_i hne
            rw [htt] at hi
            rcases List.mem_append.1 hi with hi | hi
            · exact J2 i hi hin
            · exact absurd (by have:i=c:=by simpa using hi
                               rw [this]) hne
  · rintro⟨oP,oB,pp,bb⟩ ⟨J,e2,e3,J1,J2⟩
    dsimp only at J e2 e3 J1 J2 ⊢
    rw [List.take_length] at e2 e3 J1 J2
    refine⟨⟨J.lp,J.lb,fun i hi hr=>?_,fun j hj hr=>?_⟩,e2,e3⟩
    · rw [hts] at hr
      rcases List.mem_append.1 hr with hr | hr
      · exact J.pc i hi hr
      · have hr:r i=h:=by simpa using hr
        rw [hr];exact J1 i (kN.2 ⟨by omega,hr⟩) hi
    · rw [hts] at hr
      rcases List.mem_append.1 hr with hr | hr
      · exact J.bo j hj hr
      · have hr:r (n+j)=h:=by simpa using hr
        rw [hr]
        have:=J2 (n+j) (kN.2 ⟨by omega,hr⟩) (by omega)
        rwa [Nat.add_sub_cancel_left] at this
  · rintro⟨oP,oB,pp,bb⟩ ⟨J,e2,e3⟩
    dsimp only at J e2 e3 ⊢
    subst e2;subst e3
    have hgp:=zK n (cls (n+m) r h)
    have hgb:=zL bs n (cls (n+m) r h)
    rw [i9,i9,wrap_add (by omega)]
    have hgs:jG bs n (n+m) r ((bE (n+m) r).take (k+1))=if xm bs n (cls (n+m) r h)=true then jG bs n (n+m) r ((bE (n+m) r).take k)++[Ew bs n (cls (n+m) r h)] else jG bs n (n+m) r ((bE (n+m) r).take k):=by
      unfold jG
      rw [hts,yg]
      split
      · rw [List.map_append];rfl
      · rfl
    refine Ok.bind (P:=fun x=>x=jG bs n (n+m) r ((bE (n+m) r).take (k+1))) (Ok.bif (fun hb=>?_) (fun hb=>Ok.ret ?_)) (fun x e=>Ok.ret ⟨e,J⟩)
    · have hne:xm bs n (cls (n+m) r h)=true:=decide_eq_true (by have:=of_decide_eq_true hb;omega)
      refine Ok.app (by simp;omega) (Ok.ret ?_)
      rw [hgs,if_pos hne];rfl
    · have hne: ¬xm bs n (cls (n+m) r h)=true:=fun h'=>by
        have h1:=of_decide_eq_true h'
        have h2:=of_decide_eq_false hb
        omega
      rw [hgs,if_neg hne]
end
end Go.Gk
