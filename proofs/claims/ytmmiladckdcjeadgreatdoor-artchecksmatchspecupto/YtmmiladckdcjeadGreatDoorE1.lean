/-
  Helping texts: plain functions and plain laws. No statement of the seed is proved here.
-/
import Derived.Test.YtmmiladckdcjeadGreatDoorA1
import Derived.ChangeShapes
import Derived.ChangeSame
import Derived.Carry
import Derived.RowKit
import Derived.Test.YtmmiladckdcjeadGreatDoorA2
set_option linter.unusedVariables false
set_option linter.unusedSimpArgs false
set_option linter.unusedSectionVars false
namespace Go.Gk
open Go
noncomputable section
structure aI where
 X0:Int
 Y0:Int
 X1:Int
 Y1:Int
 deriving DecidableEq,Inhabited
structure eQ where
 X:Int
 Y:Int
 deriving DecidableEq,Inhabited
structure cE where
 At:eQ
 dH:Int
 cR:Int
 To:Int
 fY:Bool
 deriving DecidableEq,Inhabited
structure fP where
 Part:eJ
 fG:eJ
 cK:Int
 At:eQ
 deriving DecidableEq,Inhabited
structure kH where
 aJ: (List (List aI))
 cH: (List aI)
 aO: (List cE)
 bV: (List fP)
 deriving DecidableEq,Inhabited
structure aA where
 Y0:Int
 Y1:Int
 Xs: (List Int)
 deriving DecidableEq,Inhabited
structure fG where
 Part:eJ
 fG:eJ
 deriving DecidableEq,Inhabited
structure aK where
 cK:Int
 Set: (List aA)
 gz: (List aI)
 deriving DecidableEq,Inhabited
structure cN where
 j9: (List Int)
 aO: (List Int)
 gq: (List fG)
 deriving DecidableEq,Inhabited
structure j4 where
 cE:Bool
 Number:Int
 deriving DecidableEq,Inhabited
structure aF where
 from_:Int
 to:Int
 deriving DecidableEq,Inhabited
structure aL where
 from_:Int
 to:Int
 ja: (List aF)
 deriving DecidableEq,Inhabited
structure Piece where
 cK:Int
 Dp:eQ
 Hr:Int
 deriving DecidableEq,Inhabited
def tt (N:Nat) (p0 p1 p2:Int):Option (Bool):=
 some ((decide (p0>=p1))&&(decide (p0<=p2)))
def lJ (N:Nat) (p0:Int):Option (Bool):=
 (tt N p0 (-1000000) 1000000).bind fun j=>some j
def m7 (N:Nat) (p0:aI):Option (Bool):=
 ((lJ N p0.X0).bind fun j=>bif j then ((lJ N p0.Y0).bind fun o=>bif o then ((lJ N p0.X1).bind fun aa=>bif aa then ((lJ N p0.Y1).bind fun ab=>some ab) else (some false)) else (some false)) else (some false)).bind fun ad=>some ad
def lj (N:Nat) (p0: (List aI)):Option (Int):=
 bif (decide ((p0.length:Int)>2000)) then (some 2) else ((ud p0.length (fun(o:Nat) (aa:Unit)=>((idx p0 (o:Int)).bind fun j=>(m7 N j).bind fun ab=>bif (!ab) then (some (.rt 1)) else (bif ((decide (j.X1<=j.X0))||(decide (j.Y1<=j.Y0))) then (some (.rt 13)) else (some (.nx ()))):Option (Fl (Unit) Int))) ()).bind fun ad=>ad.cs (fun(aa:Unit)=>some 0) (fun r=>some r))
def jK (N:Nat) (p0: (List aI)):Option ((List aI)):=
 (app 32 ([]: (List aI)) p0).bind fun j=>some j
def ka (N:Nat) (p0 p1:aI):Option (Int):=
 some (IntKind.wrap .i64 (p0.Y0 - p1.Y0))
def ir (N:Nat) (p0: (List Int)):Option ((List Int)):=
 bif (decide ((p0.length:Int)<2)) then (some p0) else ((jH (fun(o:Int)=>(bif (decide (o< (p0.length:Int))) then ((idx p0 o).bind fun ab=>(idx p0 (IntKind.wrap .i64 (o - 1))).bind fun ad=>bif (ab==ad) then ((tm p0 o (p0.length:Int)).bind fun ak=>(jH (fun(j: (List Int)×Int×Int)=>(bif (decide (j.2.2< (((j.1.length - Int.toNat o):Nat):Int))) then ((EM j.1 o j.2.2).bind fun ae=>(EM j.1 o (IntKind.wrap .i64 (j.2.2 - 1))).bind fun af=>(bif (ae != af) then ((EM j.1 o j.2.2).bind fun ag=>(idx j.1 j.2.1).bind fun al=>some ((j.1.set (Int.toNat j.2.1) ag),(IntKind.wrap .i64 (j.2.1+1)))) else (some (j.1,j.2.1))).bind fun aa=>some (.nx (aa.1,aa.2,(IntKind.wrap .i64 (j.2.2+1))))) else (some (.br (j.1,j.2.1,j.2.2))):Option (Fl ((List Int)×Int×Int) Empty))) N (p0,o,1)).bind fun ah=>ah.cs (fun(j: (List Int)×Int×Int)=>(tm j.1 j.2.1 (j.1.length:Int)).bind fun an=>(tm (j.1.take (Int.toNat j.2.1)++List.replicate (j.1.length - Int.toNat j.2.1) (0:Int)) 0 j.2.1).bind fun ai=>some (.rt ai)) (fun r=>r.elim)) else (some (.nx (IntKind.wrap .i64 (o+1))))) else (some (.br o)):Option (Fl (Int) (List Int)))) N 1).bind fun aj=>aj.cs (fun(o:Int)=>some p0) (fun r=>some r))
def oA (N:Nat) (p0:aI) (p1: (List Int)) (p2:Int):Option (Bool):=
 (idx p1 p2).bind fun j=>some (decide (p0.Y1<=j))
def mb (N:Nat) (p0: (List aI)) (p1:aI->Option Bool):Option (Int):=
 (ud p0.length (fun(j:Nat) (o:Unit)=>((idx p0 (j:Int)).bind fun aa=>(p1 aa).bind fun ab=>bif ab then (some (.rt (j:Int))) else (some (.nx ())):Option (Fl (Unit) Int))) ()).bind fun ad=>ad.cs (fun(o:Unit)=>some (-1)) (fun r=>some r)
def kU (N:Nat) (p0: (List aI)) (p1:aI->Option Bool):Option (Int):=
 (ud p0.length (fun(j:Nat) (o:Unit)=>((idx p0 (j:Int)).bind fun aa=>(p1 aa).bind fun ab=>bif ab then (some (.rt (j:Int))) else (some (.nx ())):Option (Fl (Unit) Int))) ()).bind fun ad=>ad.cs (fun(o:Unit)=>some (-1)) (fun r=>some r)
def iT (N:Nat) (p0: (List aI)) (p1:aI->Option Bool):Option ((List aI)):=
 (kU N p0 p1).bind fun o=>bif (o==(-1)) then (some p0) else ((jH (fun(j: (List aI)×Int×Int)=>(bif (decide (j.2.2< (j.1.length:Int))) then ((idx j.1 j.2.2).bind fun aa=>(p1 aa).bind fun ad=>(bif (!ad) then ((idx j.1 j.2.1).bind fun ag=>some ((j.1.set (Int.toNat j.2.1) aa),(IntKind.wrap .i64 (j.2.1+1)))) else (some (j.1,j.2.1))).bind fun ab=>some (.nx (ab.1,ab.2,(IntKind.wrap .i64 (j.2.2+1))))) else (some (.br (j.1,j.2.1,j.2.2))):Option (Fl ((List aI)×Int×Int) Empty))) N (p0,o,(IntKind.wrap .i64 (o+1)))).bind fun ae=>ae.cs (fun(j: (List aI)×Int×Int)=>(tm j.1 j.2.1 (j.1.length:Int)).bind fun ah=>(tm (j.1.take (Int.toNat j.2.1)++List.replicate (j.1.length - Int.toNat j.2.1) (⟨0,0,0,0⟩:aI)) 0 j.2.1).bind fun af=>some af) (fun r=>r.elim))
def iu (N:Nat) (p0 p1:aI):Option (Int):=
 some (IntKind.wrap .i64 (p0.X0 - p1.X0))
def jP (N:Nat) (p0: (List aI)):Option ((List Int)×(List aI)):=
 (w6 (iu N) p0).bind fun aa=>(mV aa.length (fun(ad:Nat) (j: (List Int))=>((idx aa (ad:Int)).bind fun o=>(bif (decide ((IntKind.wrap .i64 ((j.length:Int) - 1))>=0)) then ((idx j (IntKind.wrap .i64 ((j.length:Int) - 1))).bind fun ae=>some (decide (o.X0<=ae))) else (some false)).bind fun af=>(bif af then ((idx j (IntKind.wrap .i64 ((j.length:Int) - 1))).bind fun ab=>(idx j (IntKind.wrap .i64 ((j.length:Int) - 1))).bind fun ai=>some (j.set (Int.toNat (IntKind.wrap .i64 ((j.length:Int) - 1))) (if ab<o.X1 then o.X1 else ab))) else ((app 8 j ([o.X0,o.X1]: (List Int))).bind fun ag=>some ag)).bind fun ah=>some ah:Option ((List Int)))) ([]: (List Int))).bind fun j=>some (j,aa)
def m8 (N:Nat) (p0: (List Int)) (p1: (List Int)):Option (Bool):=
 bif ((p0.length:Int) != (p1.length:Int)) then (some false) else ((ud p0.length (fun(j:Nat) (o:Unit)=>((idx p0 (j:Int)).bind fun aa=>(idx p1 (j:Int)).bind fun ab=>bif (aa != ab) then (some (.rt false)) else (some (.nx ())):Option (Fl (Unit) Bool))) ()).bind fun ad=>ad.cs (fun(o:Unit)=>some true) (fun r=>some r))
def jB (N:Nat) (p0: (List aA)) (p1:aA):Option ((List aA)):=
 bif (((p1.Xs.length:Int)==0)||(decide (p1.Y1<=p1.Y0))) then (some p0) else ((bif (decide ((IntKind.wrap .i64 ((p0.length:Int) - 1))>=0)) then ((idx p0 (IntKind.wrap .i64 ((p0.length:Int) - 1))).bind fun j=>bif (j.Y1==p1.Y0) then ((idx p0 (IntKind.wrap .i64 ((p0.length:Int) - 1))).bind fun o=>(m8 N o.Xs p1.Xs).bind fun aa=>some aa) else (some false)) else (some false)).bind fun ab=>bif ab then ((idx p0 (IntKind.wrap .i64 ((p0.length:Int) - 1))).bind fun ad=>some (p0.set (Int.toNat (IntKind.wrap .i64 ((p0.length:Int) - 1))) ({ad with Y1:=p1.Y1}))) else ((app 40 p0 ([p1]: (List aA))).bind fun ae=>some ae))
def iC (N:Nat) (p0: (List aI)):Option ((List aA)):=
 (jK N p0).bind fun ag=>(w6 (ka N) ag).bind fun aa=>(mV aa.length (fun(ah:Nat) (ad: (List Int))=>((idx aa (ah:Int)).bind fun ae=>(app 8 ad ([ae.Y0,ae.Y1]: (List Int))).bind fun ai=>some ai:Option ((List Int)))) ([]: (List Int))).bind fun ad=>(uF ad).bind fun aj=>(ir N aj).bind fun ab=>(jH (fun(j: (List aA)×(List aI)×Int×Int)=>(bif (decide ((IntKind.wrap .i64 (j.2.2.2+1))< (ab.length:Int))) then ((iT N j.2.1 (fun y0=>oA N y0 ab j.2.2.2)).bind fun ak=>(jH (fun(o: (List aI)×Int)=>((bif (decide (o.2< (aa.length:Int))) then ((idx aa o.2).bind fun al=>(idx ab j.2.2.2).bind fun an=>some (decide (al.Y0<=an))) else (some false)).bind fun ao=>bif ao then ((idx aa o.2).bind fun aq=>(app 32 o.1 ([aq]: (List aI))).bind fun ar=>some (.nx (ar,(IntKind.wrap .i64 (o.2+1))))) else (some (.br (o.1,o.2))):Option (Fl ((List aI)×Int) Empty))) N (ak,j.2.2.1)).bind fun au=>au.cs (fun(o: (List aI)×Int)=>(idx ab j.2.2.2).bind fun av=>(idx ab (IntKind.wrap .i64 (j.2.2.2+1))).bind fun aw=>(jP N o.1).bind fun af=>(jB N j.1 (⟨av,aw,af.1⟩:aA)).bind fun ax=>some (.nx (ax,af.2,o.2,(IntKind.wrap .i64 (j.2.2.2+1))))) (fun r=>r.elim)) else (some (.br (j.1,j.2.1,j.2.2.1,j.2.2.2))):Option (Fl ((List aA)×(List aI)×Int×Int) Empty))) N (([]: (List aA)),([]: (List aI)),0,0)).bind fun ay=>ay.cs (fun(j: (List aA)×(List aI)×Int×Int)=>some j.1) (fun r=>r.elim)
def jc (N:Nat) (p0: (List aA)):Option ((List aI)):=
 (mV p0.length (fun(ab:Nat) (aa: (List aI))=>((idx p0 (ab:Int)).bind fun o=>(jH (fun(j: (List aI)×Int)=>(bif (decide (j.2< (o.Xs.length:Int))) then ((idx o.Xs j.2).bind fun ad=>(idx o.Xs (IntKind.wrap .i64 (j.2+1))).bind fun ae=>(app 32 j.1 ([(⟨ad,o.Y0,ae,o.Y1⟩:aI)]: (List aI))).bind fun af=>some (.nx (af,(IntKind.wrap .i64 (j.2+2))))) else (some (.br (j.1,j.2))):Option (Fl ((List aI)×Int) Empty))) N (aa,0)).bind fun ag=>ag.cs (fun(j: (List aI)×Int)=>some j.1) (fun r=>r.elim):Option ((List aI)))) ([]: (List aI))).bind fun aa=>some aa
def kI (N:Nat) (p0: (List aI)) (p1: (List aI)):Option (Bool):=
 bif ((p0.length:Int) != (p1.length:Int)) then (some false) else ((ud p0.length (fun(j:Nat) (o:Unit)=>((idx p0 (j:Int)).bind fun aa=>(idx p1 (j:Int)).bind fun ab=>bif (!(decide (aa=ab))) then (some (.rt false)) else (some (.nx ())):Option (Fl (Unit) Bool))) ()).bind fun ad=>ad.cs (fun(o:Unit)=>some true) (fun r=>some r))
def jL (N:Nat) (p0: (List aI)):Option (Int):=
 (lj N p0).bind fun ab=>bif (ab != 0) then (some ab) else ((jH (fun(j:Int)=>(bif (decide (j< (p0.length:Int))) then ((idx p0 (IntKind.wrap .i64 (j - 1))).bind fun o=>(idx p0 j).bind fun aa=>bif ((decide (aa.Y0<o.Y0))||((aa.Y0==o.Y0)&&(decide (aa.X0<=o.X0)))) then (some (.rt 8)) else (some (.nx (IntKind.wrap .i64 (j+1))))) else (some (.br j)):Option (Fl (Int) Int))) N 1).bind fun ad=>ad.cs (fun(j:Int)=>(iC N p0).bind fun ae=>(jc N ae).bind fun af=>(kI N af p0).bind fun ag=>bif (!ag) then (some 3) else (some 0)) (fun r=>some r))
def iQ (N:Nat) (p0 p1 p2:Int):Option (Bool):=
 some ((decide (p0>=p1))&&(decide (p0<=p2)))
def j5 (N:Nat) (p0:eQ):Option (Bool):=
 ((lJ N p0.X).bind fun j=>bif j then ((lJ N p0.Y).bind fun o=>some o) else (some false)).bind fun aa=>some aa
def gJ (N:Nat) (p0:cE):Option (aI):=
 some (⟨(IntKind.wrap .i64 (p0.At.X - (IntKind.wrap .i64 (Int.tdiv p0.dH 2)))),(IntKind.wrap .i64 (p0.At.Y - (IntKind.wrap .i64 (Int.tdiv p0.dH 2)))),(IntKind.wrap .i64 ((IntKind.wrap .i64 (p0.At.X - (IntKind.wrap .i64 (Int.tdiv p0.dH 2))))+p0.dH)),(IntKind.wrap .i64 ((IntKind.wrap .i64 (p0.At.Y - (IntKind.wrap .i64 (Int.tdiv p0.dH 2))))+p0.dH))⟩:aI)
def m9 (N:Nat) (p0: (List aA)):Option (aI):=
 (idx p0 0).bind fun ad=>(idx ad.Xs 0).bind fun ae=>(idx p0 0).bind fun af=>(idx p0 0).bind fun ag=>(idx ag.Xs 1).bind fun ah=>(idx p0 (IntKind.wrap .i64 ((p0.length:Int) - 1))).bind fun ai=>(mV p0.length (fun(aj:Nat) (j:aI)=>((idx p0 (aj:Int)).bind fun o=>(idx o.Xs 0).bind fun aa=>(idx o.Xs (IntKind.wrap .i64 ((o.Xs.length:Int) - 1))).bind fun ab=>some ({{j with X0:=(if aa<j.X0 then aa else j.X0)} with X1:=(if j.X1<ab then ab else j.X1)}):Option (aI))) (⟨ae,af.Y0,ah,ai.Y1⟩:aI)).bind fun j=>some j
def mC (N:Nat) (p0: (List aA)):Option (Bool):=
 (bif ((p0.length:Int)==0) then (some true) else ((m9 N p0).bind fun j=>(m7 N j).bind fun o=>some o)).bind fun aa=>some aa
def kV (N:Nat) (p0:cE):Option (aI×Int):=
 ((iQ N p0.dH 1 10000).bind fun o=>bif (!o) then (some true) else ((j5 N p0.At).bind fun aa=>some (!aa))).bind fun ab=>bif ab then (some ((⟨0,0,0,0⟩:aI),1)) else ((gJ N p0).bind fun j=>(iC N ([j]: (List aI))).bind fun ad=>(mC N ad).bind fun ae=>bif (!ae) then (some ((⟨0,0,0,0⟩:aI),1)) else (some (j,0)))
def kJ (N:Nat) (p0:kH):Option (Int):=
 bif (decide ((p0.aO.length:Int)>500)) then (some 2) else ((ud p0.aO.length (fun(aa:Nat) (ab:Unit)=>((idx p0.aO (aa:Int)).bind fun j=>(kV N j).bind fun o=>bif (o.2 != 0) then (some (.rt o.2)) else (((iQ N j.cR 0 (IntKind.wrap .i64 ((p0.aJ.length:Int) - 1))).bind fun ad=>bif (!ad) then (some true) else ((iQ N j.To j.cR (IntKind.wrap .i64 ((p0.aJ.length:Int) - 1))).bind fun ae=>some (!ae))).bind fun af=>bif af then (some (.rt 1)) else (some (.nx ()))):Option (Fl (Unit) Int))) ()).bind fun ag=>ag.cs (fun(ab:Unit)=>some 0) (fun r=>some r))
def jg (N:Nat) (p0:eJ) (p1:Int):Option (Int):=
 some (Lib.indexByte p0.dA (Int.toNat p1).toUInt8)
def kK (N:Nat) (p0 p1:eJ):Option (Int):=
 bif (((p1.dA.length:Int)==0)||(p1.tj p0)) then (some 0) else (bif ((p1.dA.length:Int)==1) then ((EH p1 0).bind fun j=>(jg N p0 (j.toNat:Int)).bind fun o=>some o) else (bif (decide ((p1.dA.length:Int)>=(p0.dA.length:Int))) then (some (-1)) else (none)))
def l3 (N:Nat) (p0 p1:eJ):Option (Int):=
 (kK N p0 p1).bind fun j=>some j
def nz (N:Nat) (p0 p1:eJ):Option (Int):=
 bif ((p1.dA.length:Int)==0) then (none) else (bif ((p1.dA.length:Int)==1) then ((EH p1 0).bind fun aa=>some ((Lib.countByte p0.dA (Int.toNat (aa.toNat:Int)).toUInt8:Nat):Int)) else ((jH (fun(j:eJ×Int)=>((l3 N j.1 p1).bind fun o=>bif (o==(-1)) then (some (.rt j.2)) else ((wo j.1 (IntKind.wrap .i64 (o+ (p1.dA.length:Int))) (j.1.dA.length:Int)).bind fun ab=>some (.nx (ab,(IntKind.wrap .i64 (j.2+1))))):Option (Fl (eJ×Int) Int))) N (p0,0)).bind fun ad=>ad.cs (fun(j:eJ×Int)=>some 0) (fun r=>some r)))
def na (N:Nat) (p0 p1:eJ) (p2 p3:Int):Option ((List eJ)):=
 bif (p3==0) then (some ([]: (List eJ))) else (bif (p1.tj (⟨[]⟩)) then (none) else ((bif (decide (p3<0)) then ((nz N p0 p1).bind fun ab=>some (IntKind.wrap .i64 (ab+1))) else (some p3)).bind fun o=>(mk 16 (⟨[]⟩:eJ) (if (IntKind.wrap .i64 ((p0.dA.length:Int)+1))<o then (IntKind.wrap .i64 ((p0.dA.length:Int)+1)) else o)).bind fun ad=>(jH (fun(j:eJ×(List eJ)×Int)=>(bif (decide (j.2.2< (IntKind.wrap .i64 ((if (IntKind.wrap .i64 ((p0.dA.length:Int)+1))<o then (IntKind.wrap .i64 ((p0.dA.length:Int)+1)) else o) - 1)))) then ((l3 N j.1 p1).bind fun aa=>bif (decide (aa<0)) then (some (.br (j.1,j.2.1,j.2.2))) else ((wo j.1 0 (IntKind.wrap .i64 (aa+p2))).bind fun ae=>(idx j.2.1 j.2.2).bind fun ai=>(wo j.1 (IntKind.wrap .i64 (aa+ (p1.dA.length:Int))) (j.1.dA.length:Int)).bind fun af=>some (.nx (af,(j.2.1.set (Int.toNat j.2.2) ae),(IntKind.wrap .i64 (j.2.2+1)))))) else (some (.br (j.1,j.2.1,j.2.2))):Option (Fl (eJ×(List eJ)×Int) Empty))) N (p0,ad,0)).bind fun ag=>ag.cs (fun(j:eJ×(List eJ)×Int)=>(idx j.2.1 j.2.2).bind fun aj=>(tm (j.2.1.set (Int.toNat j.2.2) j.1) 0 (IntKind.wrap .i64 (j.2.2+1))).bind fun ah=>some ah) (fun r=>r.elim)))
def l4 (N:Nat) (p0 p1:eJ):Option ((List eJ)):=
 (na N p0 p1 0 (-1)).bind fun j=>some j
def lk (N:Nat) (p0: (List eJ)) (p1:eJ->Option Bool):Option (Int):=
 (ud p0.length (fun(j:Nat) (o:Unit)=>((idx p0 (j:Int)).bind fun aa=>(p1 aa).bind fun ab=>bif ab then (some (.rt (j:Int))) else (some (.nx ())):Option (Fl (Unit) Int))) ()).bind fun ad=>ad.cs (fun(o:Unit)=>some (-1)) (fun r=>some r)
def iU (N:Nat) (p0: (List eJ)) (p1:eJ->Option Bool):Option (Bool):=
 (lk N p0 p1).bind fun j=>some (decide (j>=0))
def gX (N:Nat) (p0:eJ) (p1:Int):Option (Int):=
 (jg N p0 p1).bind fun j=>some j
def jC (N:Nat) (p0:eJ):Option (Bool):=
 (ud p0.dA.length (fun(o:Nat) (aa:Unit)=>((EH p0 (o:Int)).bind fun j=>(bif ((((decide ((j.toNat:Int)<65))||(decide ((j.toNat:Int)>90)))&&((decide ((j.toNat:Int)<97))||(decide ((j.toNat:Int)>122))))&&((decide ((j.toNat:Int)<48))||(decide ((j.toNat:Int)>57)))) then ((gX N (⟨[95,43,45,35]⟩) (j.toNat:Int)).bind fun ab=>some (decide (ab<0))) else (some false)).bind fun ad=>bif ad then (some (.rt false)) else (some (.nx ())):Option (Fl (Unit) Bool))) ()).bind fun ae=>ae.cs (fun(aa:Unit)=>some ((decide ((p0.dA.length:Int)>=1))&&(decide ((p0.dA.length:Int)<=40)))) (fun r=>some r)
def iV (N:Nat) (p0:eJ):Option (Bool):=
 (jC N p0).bind fun j=>some (!j)
def mD (N:Nat) (p0:eJ):Option (Bool):=
 (bif (decide ((p0.dA.length:Int)<=200)) then ((l4 N p0 (⟨[47]⟩)).bind fun j=>(iU N j (iV N)).bind fun o=>some (!o)) else (some false)).bind fun aa=>some aa
def nb (N:Nat) (p0:fP):Option (fG):=
 some (⟨p0.Part,p0.fG⟩:fG)
def mc (N:Nat) (p0 p1:eJ):Option (Int):=
 some (Lib.compareBytes p0.dA p1.dA)
def nL (N:Nat) (p0 p1:eJ):Option (Int):=
 (mc N p0 p1).bind fun j=>some j
def jS (N:Nat) (p0 p1:fG):Option (Int):=
 (nL N p0.Part p1.Part).bind fun j=>bif (j != 0) then (some j) else ((nL N p0.fG p1.fG).bind fun o=>some o)
def kL (N:Nat) (p0:kH):Option (Int):=
 bif (decide ((p0.bV.length:Int)>1000)) then (some 2) else ((ud p0.bV.length (fun(o:Nat) (aa:Unit)=>((idx p0.bV (o:Int)).bind fun j=>((mD N j.Part).bind fun ab=>bif (!ab) then (some true) else ((jC N j.fG).bind fun ad=>some (!ad))).bind fun ae=>bif ae then (some (.rt 5)) else (((iQ N j.cK 0 (IntKind.wrap .i64 ((p0.aJ.length:Int) - 1))).bind fun af=>bif (!af) then (some true) else ((j5 N j.At).bind fun ag=>some (!ag))).bind fun ah=>bif ah then (some (.rt 1)) else ((bif (decide ((o:Int)>0)) then ((idx p0.bV (IntKind.wrap .i64 ((o:Int) - 1))).bind fun ai=>(nb N j).bind fun aj=>(nb N ai).bind fun ak=>(jS N aj ak).bind fun al=>some (decide (al<=0))) else (some false)).bind fun an=>bif an then (some (.rt 8)) else (some (.nx ())))):Option (Fl (Unit) Int))) ()).bind fun ao=>ao.cs (fun(aa:Unit)=>some 0) (fun r=>some r))
def l5 (N:Nat) (p0 p1:Int) (p2 p3:Int):Option (Int):=
 some (if (if 0< (IntKind.wrap .i64 ((IntKind.wrap .i64 (p2 - p1))+1)) then (IntKind.wrap .i64 ((IntKind.wrap .i64 (p2 - p1))+1)) else 0)< (IntKind.wrap .i64 ((IntKind.wrap .i64 (p0 - p3))+1)) then (IntKind.wrap .i64 ((IntKind.wrap .i64 (p0 - p3))+1)) else (if 0< (IntKind.wrap .i64 ((IntKind.wrap .i64 (p2 - p1))+1)) then (IntKind.wrap .i64 ((IntKind.wrap .i64 (p2 - p1))+1)) else 0))
def si (N:Nat) (p0 p1:aI):Option (Int):=
 (l5 N p0.X0 p0.X1 p1.X0 p1.X1).bind fun j=>(l5 N p0.Y0 p0.Y1 p1.Y0 p1.Y1).bind fun o=>some (if j<o then o else j)
def ll (N:Nat) (p0:cE) (p1:Int):Option (Bool):=
 some ((decide (p0.cR<=p1))&&(decide (p1<=p0.To)))
def nc (N:Nat) (p0: (List aA)) (p1 p2:Int):Option ((List Int)×Int):=
 bif ((p0.length:Int)==0) then (some (([]: (List Int)),p2)) else ((idx p0 0).bind fun aa=>bif (decide (p1<aa.Y0)) then ((idx p0 0).bind fun j=>some (([]: (List Int)),(if j.Y0<p2 then j.Y0 else p2))) else ((idx p0 0).bind fun ab=>(idx p0 0).bind fun o=>some (ab.Xs,(if o.Y1<p2 then o.Y1 else p2))))
def qB (N:Nat) (p0: (List Int)) (p1: (List Int)) (p2:Bool->Bool->Option Bool):Option ((List Int)):=
 (jH (fun(j: (List Int)×(List Int)×(List Int)×Bool×Bool×Bool)=>((bif (decide ((j.1.length:Int)>0)) then (some true) else (some (decide ((j.2.1.length:Int)>0)))).bind fun af=>bif af then ((bif ((j.2.1.length:Int)==0) then (some true) else (bif (decide ((j.1.length:Int)>0)) then ((idx j.1 0).bind fun ag=>(idx j.2.1 0).bind fun ah=>some (decide (ag<=ah))) else (some false))).bind fun ai=>(bif ai then ((idx j.1 0).bind fun aj=>some aj) else ((idx j.2.1 0).bind fun ak=>some ak)).bind fun o=>(bif (decide ((j.1.length:Int)>0)) then ((idx j.1 0).bind fun al=>some (al==o)) else (some false)).bind fun an=>(bif an then ((tm j.1 1 (j.1.length:Int)).bind fun ao=>some (ao,(!j.2.2.2.1))) else (some (j.1,j.2.2.2.1))).bind fun aa=>(bif (decide ((j.2.1.length:Int)>0)) then ((idx j.2.1 0).bind fun aq=>some (aq==o)) else (some false)).bind fun ar=>(bif ar then ((tm j.2.1 1 (j.2.1.length:Int)).bind fun au=>some (au,(!j.2.2.2.2.1))) else (some (j.2.1,j.2.2.2.2.1))).bind fun ab=>(p2 aa.2 ab.2).bind fun ad=>(bif (ad != j.2.2.2.2.2) then ((app 8 j.2.2.1 ([o]: (List Int))).bind fun av=>some (av,ad)) else (some (j.2.2.1,j.2.2.2.2.2))).bind fun ae=>some (.nx (aa.1,ab.1,ae.1,aa.2,ab.2,ae.2))) else (some (.br (j.1,j.2.1,j.2.2.1,j.2.2.2.1,j.2.2.2.2.1,j.2.2.2.2.2))):Option (Fl ((List Int)×(List Int)×(List Int)×Bool×Bool×Bool) Empty))) N (p0,p1,([]: (List Int)),false,false,false)).bind fun aw=>aw.cs (fun(j: (List Int)×(List Int)×(List Int)×Bool×Bool×Bool)=>some j.2.2.1) (fun r=>r.elim)
def ph (N:Nat) (p0: (List aA)) (p1: (List aA)) (p2:Bool->Bool->Option Bool):Option ((List aA)):=
 bif ((IntKind.wrap .i64 ((p0.length:Int)+ (p1.length:Int)))==0) then (some ([]: (List aA))) else ((mV (([p0,p1]: (List (List aA))).length) (fun(ah:Nat) (o:Int×Int)=>((idx ([p0,p1]: (List (List aA))) (ah:Int)).bind fun ad=>(bif (decide ((ad.length:Int)>0)) then ((bif ((ah:Int)==0) then (some true) else (some ((p0.length:Int)==0))).bind fun al=>(bif al then ((idx ad 0).bind fun an=>(idx ad (IntKind.wrap .i64 ((ad.length:Int) - 1))).bind fun ao=>some (an.Y0,ao.Y1)) else (some (o.1,o.2))).bind fun ag=>(idx ad 0).bind fun ai=>(idx ad (IntKind.wrap .i64 ((ad.length:Int) - 1))).bind fun aj=>some ((if ai.Y0<ag.1 then ai.Y0 else ag.1),(if ag.2<aj.Y1 then aj.Y1 else ag.2))) else (some (o.1,o.2))).bind fun ak=>some (ak.1,ak.2):Option (Int×Int))) (0,0)).bind fun o=>(jH (fun(j: (List aA)×(List aA)×(List aA)×Int)=>(bif (decide (j.2.2.2<o.2)) then ((jH (fun(aa: (List aA))=>((bif (decide ((aa.length:Int)>0)) then ((idx aa 0).bind fun aq=>some (decide (aq.Y1<=j.2.2.2))) else (some false)).bind fun ar=>bif ar then ((tm aa 1 (aa.length:Int)).bind fun au=>some (.nx au)) else (some (.br aa)):Option (Fl ((List aA)) Empty))) N j.1).bind fun av=>av.cs (fun(aa: (List aA))=>(jH (fun(ab: (List aA))=>((bif (decide ((ab.length:Int)>0)) then ((idx ab 0).bind fun aw=>some (decide (aw.Y1<=j.2.2.2))) else (some false)).bind fun ax=>bif ax then ((tm ab 1 (ab.length:Int)).bind fun ay=>some (.nx ay)) else (some (.br ab)):Option (Fl ((List aA)) Empty))) N j.2.1).bind fun az=>az.cs (fun(ab: (List aA))=>(nc N aa j.2.2.2 o.2).bind fun ae=>(nc N ab j.2.2.2 o.2).bind fun af=>(qB N ae.1 af.1 p2).bind fun a0=>(jB N j.2.2.1 (⟨j.2.2.2,(if af.2<ae.2 then af.2 else ae.2),a0⟩:aA)).bind fun a1=>some (.nx (aa,ab,a1,(if af.2<ae.2 then af.2 else ae.2)))) (fun r=>r.elim)) (fun r=>r.elim)) else (some (.br (j.1,j.2.1,j.2.2.1,j.2.2.2))):Option (Fl ((List aA)×(List aA)×(List aA)×Int) Empty))) N (p0,p1,([]: (List aA)),o.1)).bind fun a2=>a2.cs (fun(j: (List aA)×(List aA)×(List aA)×Int)=>some j.2.2.1) (fun r=>r.elim))
def oC (N:Nat) (p0 p1:Bool):Option (Bool):=
 some (p0&&(!p1))
def ln (N:Nat) (p0: (List aA)) (p1: (List aA)):Option ((List aA)):=
 (ph N p0 p1 (oC N)).bind fun j=>some j
def mE (N:Nat) (p0: (List aA)):Option (Int):=
 (mV p0.length (fun(o:Nat) (j:Int)=>((idx p0 (o:Int)).bind fun aa=>some (IntKind.wrap .i64 (j+ (IntKind.wrap .i64 (Int.tdiv (aa.Xs.length:Int) 2)))):Option (Int))) 0).bind fun j=>some j
def fJ (N:Nat) (p0:Int) (p1_0: (List Int)):Option (Int×(List Int)):=
 (jH (fun(j:Int×(List Int))=>((idx j.2 j.1).bind fun aa=>bif (aa != j.1) then ((idx j.2 j.1).bind fun ab=>(idx j.2 ab).bind fun o=>(idx j.2 j.1).bind fun af=>(idx (j.2.set (Int.toNat j.1) o) j.1).bind fun ad=>some (.nx (ad,(j.2.set (Int.toNat j.1) o)))) else (some (.br (j.1,j.2))):Option (Fl (Int×(List Int)) Empty))) N (p0,p1_0)).bind fun ae=>ae.cs (fun(j:Int×(List Int))=>some (j.1,j.2)) (fun r=>r.elim)
def lT (N:Nat) (p0: (List aA)):Option ((List (List aA))):=
 (jc N p0).bind fun ab=>(mk 8 (0:Int) (ab.length:Int)).bind fun an=>(mV an.length (fun(ai:Nat) (ag: (List Int))=>((idx ag (ai:Int)).bind fun bd=>some (ag.set (Int.toNat (ai:Int)) (ai:Int)):Option ((List Int)))) an).bind fun ag=>(mV p0.length (fun(aj:Nat) (aa: (List Int)×Int×Int)=>((idx p0 (aj:Int)).bind fun ak=>(bif (decide ((aj:Int)>0)) then ((idx p0 (IntKind.wrap .i64 ((aj:Int) - 1))).bind fun ar=>some (ar.Y1==ak.Y0)) else (some false)).bind fun au=>(bif au then ((jH (fun(j: (List Int)×Int×Int)=>(bif ((decide (j.2.1<aa.2.1))&&(decide (j.2.2< (IntKind.wrap .i64 (aa.2.1+ (IntKind.wrap .i64 (Int.tdiv (ak.Xs.length:Int) 2))))))) then (((idx ab j.2.1).bind fun av=>(idx ab j.2.2).bind fun aw=>bif (decide (av.X0<aw.X1)) then ((idx ab j.2.2).bind fun ax=>(idx ab j.2.1).bind fun ay=>some (decide (ax.X0<ay.X1))) else (some false)).bind fun az=>(bif az then ((fJ N j.2.1 j.1).bind fun ae=>(fJ N j.2.2 ae.2).bind fun ad=>(idx ad.2 (if ae.1<ad.1 then ad.1 else ae.1)).bind fun bf=>some (ad.2.set (Int.toNat (if ae.1<ad.1 then ad.1 else ae.1)) (if ad.1<ae.1 then ad.1 else ae.1))) else (some j.1)).bind fun a0=>(idx ab j.2.1).bind fun a1=>(idx ab j.2.2).bind fun a2=>(bif (decide (a1.X1<a2.X1)) then (some ((IntKind.wrap .i64 (j.2.1+1)),j.2.2)) else (some (j.2.1,(IntKind.wrap .i64 (j.2.2+1))))).bind fun ao=>some (.nx (a0,ao.1,ao.2))) else (some (.br (j.1,j.2.1,j.2.2))):Option (Fl ((List Int)×Int×Int) Empty))) N (aa.1,aa.2.2,aa.2.1)).bind fun a3=>a3.cs (fun(j: (List Int)×Int×Int)=>some j.1) (fun r=>r.elim)) else (some aa.1)).bind fun a4=>some (a4,(IntKind.wrap .i64 (aa.2.1+ (IntKind.wrap .i64 (Int.tdiv (ak.Xs.length:Int) 2)))),aa.2.1):Option ((List Int)×Int×Int))) (ag,0,0)).bind fun aa=>(mV ab.length (fun(aq:Nat) (o: (List Int)×(List (Int×Int))×(List (List aI)))=>((idx ab (aq:Int)).bind fun a5=>(fJ N (aq:Int) o.1).bind fun ah=>(bif (!(ue o.2.1 ah.1)) then ((app 24 o.2.2 [([]: (List aI))]).bind fun a6=>some ((vF o.2.1 ah.1 (o.2.2.length:Int)),a6,(o.2.2.length:Int))) else (some (o.2.1,o.2.2,(jA o.2.1 ah.1 (0:Int))))).bind fun af=>(idx af.2.1 af.2.2).bind fun a7=>(app 32 a7 ([a5]: (List aI))).bind fun a8=>(idx af.2.1 af.2.2).bind fun bg=>some (ah.2,af.1,(af.2.1.set (Int.toNat af.2.2) a8)):Option ((List Int)×(List (Int×Int))×(List (List aI))))) (aa.1,([]: (List (Int×Int))),([]: (List (List aI))))).bind fun o=>(mV o.2.2.length (fun(a9:Nat) (al: (List (List aA)))=>((idx o.2.2 (a9:Int)).bind fun ba=>(iC N ba).bind fun bb=>(app 24 al ([bb]: (List (List aA)))).bind fun bc=>some bc:Option ((List (List aA))))) ([]: (List (List aA)))).bind fun al=>some al
def kb (N:Nat) (p0_0: (List (List aI))) (p0_2: (List cE)) (p0_4: (List (List aA))) (p0_5: (List aK)):Option (Bool×(List (List aA))×(List aK)):=
 (mV p0_0.length (fun(aa:Nat) (j: (List (List aA))×(List aK)×Bool)=>((idx p0_0 (aa:Int)).bind fun ai=>(mV p0_2.length (fun(aj:Nat) (o: (List aI))=>((idx p0_2 (aj:Int)).bind fun af=>(ll N af (aa:Int)).bind fun ak=>(bif ak then ((gJ N af).bind fun al=>(app 32 o ([al]: (List aI))).bind fun an=>some an) else (some o)).bind fun ao=>some ao:Option ((List aI)))) ([]: (List aI))).bind fun o=>(iC N ai).bind fun aq=>(iC N o).bind fun ar=>(ln N aq ar).bind fun ab=>(bif j.2.2 then ((mE N ab).bind fun au=>some ((decide (au<=2000)),ab)) else (some (false,ab))).bind fun ad=>(app 24 j.1 ([ad.2]: (List (List aA)))).bind fun av=>(lT N ad.2).bind fun ag=>(mV ag.length (fun(aw:Nat) (ae: (List aK))=>((idx ag (aw:Int)).bind fun ah=>(jc N ah).bind fun ax=>(app 56 ae ([(⟨(aa:Int),ah,ax⟩:aK)]: (List aK))).bind fun ay=>some ay:Option ((List aK)))) j.2.1).bind fun ae=>some (av,ae,ad.1):Option ((List (List aA))×(List aK)×Bool))) (p0_4,p0_5,true)).bind fun j=>(bif j.2.2 then (some (decide ((j.2.1.length:Int)<=2000))) else (some false)).bind fun az=>some (az,j.1,j.2.1)
def rM (N:Nat) (p0 p1:aI):Option (Bool):=
 some ((((decide (p0.X0<p1.X1))&&(decide (p1.X0<p0.X1)))&&((p0.Y1==p1.Y0)||(p1.Y1==p0.Y0)))||(((decide (p0.Y0<p1.Y1))&&(decide (p1.Y0<p0.Y1)))&&((p0.X1==p1.X0)||(p1.X1==p0.X0))))
def ko (N:Nat) (p0:aI) (p1:cE):Option (Bool):=
 (gJ N p1).bind fun j=>(rM N p0 j).bind fun o=>some o
def hU (N:Nat) (p0: (List aI)) (p1:aI->Option Bool):Option (Bool):=
 (mb N p0 p1).bind fun j=>some (decide (j>=0))
def kc (N:Nat) (p0_2: (List cE)) (p0_5: (List aK)) (p0_6: (List (List Int))):Option ((List (List Int))):=
 (mV p0_2.length (fun(ae:Nat) (o: (List (List Int)))=>((idx p0_2 (ae:Int)).bind fun aa=>(mV p0_5.length (fun(ab:Nat) (j: (List Int))=>((idx p0_5 (ab:Int)).bind fun ad=>(bif aa.fY then ((ll N aa ad.cK).bind fun af=>bif af then ((hU N ad.gz (fun y0=>ko N y0 aa)).bind fun ag=>some ag) else (some false)) else (some false)).bind fun ah=>(bif ah then ((app 8 j ([(ab:Int)]: (List Int))).bind fun ai=>some ai) else (some j)).bind fun aj=>some aj:Option ((List Int)))) ([]: (List Int))).bind fun j=>(app 24 o ([j]: (List (List Int)))).bind fun ak=>some ak:Option ((List (List Int))))) p0_6).bind fun o=>some o
def lq (N:Nat) (p0:Int):Option (((List Int))):=
 (mk 8 (0:Int) p0).bind fun aa=>(mV aa.length (fun(o:Nat) (j: (List Int))=>((idx j (o:Int)).bind fun ab=>some (j.set (Int.toNat (o:Int)) (o:Int)):Option ((List Int)))) aa).bind fun j=>some j
def gY (N:Nat) (p0_0: (List Int)) (p1:Int):Option (Int×(List Int)):=
 (jH (fun(j: (List Int)×Int)=>((idx j.1 j.2).bind fun aa=>bif (aa != j.2) then ((idx j.1 j.2).bind fun ab=>(idx j.1 ab).bind fun o=>(idx j.1 j.2).bind fun af=>(idx (j.1.set (Int.toNat j.2) o) j.2).bind fun ad=>some (.nx ((j.1.set (Int.toNat j.2) o),ad))) else (some (.br (j.1,j.2))):Option (Fl ((List Int)×Int) Empty))) N (p0_0,p1)).bind fun ae=>ae.cs (fun(j: (List Int)×Int)=>some (j.2,j.1)) (fun r=>r.elim)
def iv (N:Nat) (p0_0: (List Int)) (p1 p2:Int):Option ((List Int)):=
 (gY N p0_0 p1).bind fun o=>(gY N o.2 p2).bind fun j=>(idx j.2 (if o.1<j.1 then j.1 else o.1)).bind fun aa=>some (j.2.set (Int.toNat (if o.1<j.1 then j.1 else o.1)) (if j.1<o.1 then j.1 else o.1))
def kd (N:Nat) (p0_0: (List Int)):Option ((List (List Int))×(List Int)):=
 (mV p0_0.length (fun(ab:Nat) (j: (List Int)×(List (List Int))×(List (Int×Int)))=>((gY N j.1 (ab:Int)).bind fun aa=>(bif (aa.1==(ab:Int)) then ((app 24 j.2.1 [([]: (List Int))]).bind fun ad=>some (ad,(vF j.2.2 (ab:Int) (j.2.1.length:Int)))) else (some (j.2.1,j.2.2))).bind fun o=>(idx o.1 (jA o.2 aa.1 (0:Int))).bind fun ae=>(app 8 ae ([(ab:Int)]: (List Int))).bind fun af=>(idx o.1 (jA o.2 aa.1 (0:Int))).bind fun ag=>some (aa.2,(o.1.set (Int.toNat (jA o.2 aa.1 (0:Int))) af),o.2):Option ((List Int)×(List (List Int))×(List (Int×Int))))) (p0_0,([]: (List (List Int))),([]: (List (Int×Int))))).bind fun j=>some (j.2.1,j.1)
def lK (N:Nat) (p0:aI) (p1:eQ):Option (Bool):=
 (bif (decide (p1.X>=p0.X0)) then (bif (decide (p1.X<p0.X1)) then (bif (decide (p1.Y>=p0.Y0)) then (some (decide (p1.Y<p0.Y1))) else (some false)) else (some false)) else (some false)).bind fun j=>some j
def kA (N:Nat) (p0: (List aI)) (p1:eQ):Option (Bool):=
 (hU N p0 (fun y0=>lK N y0 p1)).bind fun j=>some j
def ke (N:Nat) (p0_2: (List cE)) (p0_5: (List aK)) (p1:fP):Option (j4×Bool):=
 (ud p0_2.length (fun(o:Nat) (ad:Unit)=>((idx p0_2 (o:Int)).bind fun j=>(bif j.fY then ((ll N j p1.cK).bind fun ae=>bif ae then ((gJ N j).bind fun af=>(kA N ([af]: (List aI)) p1.At).bind fun ag=>some ag) else (some false)) else (some false)).bind fun ah=>bif ah then (some (.rt ((⟨true,(o:Int)⟩:j4),true))) else (some (.nx ())):Option (Fl (Unit) (j4×Bool)))) ()).bind fun ai=>ai.cs (fun(ad:Unit)=>(ud p0_5.length (fun(aa:Nat) (aj:Unit)=>((idx p0_5 (aa:Int)).bind fun ab=>(bif (ab.cK==p1.cK) then ((kA N ab.gz p1.At).bind fun Hs=>some Hs) else (some false)).bind fun ak=>bif ak then (some (.rt ((⟨false,(aa:Int)⟩:j4),true))) else (some (.nx ())):Option (Fl (Unit) (j4×Bool)))) ()).bind fun al=>al.cs (fun(aj:Unit)=>some ((⟨false,0⟩:j4),false)) (fun r=>some r)) (fun r=>some r)
def iD (N:Nat) (p0_8: (List Int)) (p0_9: (List Int)) (p1:j4):Option (Int):=
 bif p1.cE then ((idx p0_9 p1.Number).bind fun j=>some j) else ((idx p0_8 p1.Number).bind fun o=>some o)
def gA (N:Nat) (p0_2: (List cE)) (p0_3: (List fP)) (p0_5: (List aK)) (p0_6: (List (List Int))) (p0_8: (List Int)) (p0_9: (List Int)) (p0_10: (List Int)) (p0_11: (List j4)):Option ((List cN)×(List Int)×(List Int)×(List Int)×(List j4)):=
 (lq N (IntKind.wrap .i64 ((p0_5.length:Int)+ (p0_2.length:Int)))).bind fun ar=>(mV p0_6.length (fun(ai:Nat) (af: (List Int))=>((idx p0_6 (ai:Int)).bind fun aj=>(mV aj.length (fun(au:Nat) (ag: (List Int))=>((idx aj (au:Int)).bind fun av=>(iv N ag av (IntKind.wrap .i64 ((p0_5.length:Int)+ (ai:Int)))).bind fun aw=>some aw:Option ((List Int)))) af).bind fun ag=>some ag:Option ((List Int)))) ar).bind fun af=>(mk 8 (0:Int) (p0_5.length:Int)).bind fun ax=>(mk 8 (0:Int) (p0_2.length:Int)).bind fun ay=>(kd N af).bind fun ak=>(mV ak.1.length (fun(az:Nat) (aa: (List cN)×(List Int)×(List Int))=>((idx ak.1 (az:Int)).bind fun al=>(mV al.length (fun(a0:Nat) (j: (List Int)×(List Int)×(List Int)×(List Int))=>((idx al (a0:Int)).bind fun ab=>(bif (decide (ab< (p0_5.length:Int))) then ((idx j.1 ab).bind fun bd=>(app 8 j.2.2.1 ([ab]: (List Int))).bind fun a1=>some ((j.1.set (Int.toNat ab) (aa.1.length:Int)),j.2.1,a1,j.2.2.2)) else ((idx p0_2 (IntKind.wrap .i64 (ab - (p0_5.length:Int)))).bind fun a2=>(bif a2.fY then ((idx j.2.1 (IntKind.wrap .i64 (ab - (p0_5.length:Int)))).bind fun bf=>(app 8 j.2.2.2 ([(IntKind.wrap .i64 (ab - (p0_5.length:Int)))]: (List Int))).bind fun a3=>some ((j.2.1.set (Int.toNat (IntKind.wrap .i64 (ab - (p0_5.length:Int)))) (aa.1.length:Int)),a3)) else ((idx j.2.1 (IntKind.wrap .i64 (ab - (p0_5.length:Int)))).bind fun bg=>some ((j.2.1.set (Int.toNat (IntKind.wrap .i64 (ab - (p0_5.length:Int)))) (-1)),j.2.2.2))).bind fun an=>some (j.1,an.1,j.2.2.1,an.2))).bind fun ad=>some (ad.1,ad.2.1,ad.2.2.1,ad.2.2.2):Option ((List Int)×(List Int)×(List Int)×(List Int)))) (aa.2.1,aa.2.2,([]: (List Int)),([]: (List Int)))).bind fun j=>(bif (decide ((IntKind.wrap .i64 ((j.2.2.1.length:Int)+ (j.2.2.2.length:Int)))>0)) then ((app 72 aa.1 [(⟨j.2.2.1,j.2.2.2,([]: (List fG))⟩:cN)]).bind fun a4=>some a4) else (some aa.1)).bind fun a5=>some (a5,j.1,j.2.1):Option ((List cN)×(List Int)×(List Int)))) (([]: (List cN)),ax,ay)).bind fun aa=>(mV p0_3.length (fun(a6:Nat) (o: (List cN)×(List Int)×(List Int)×(List Int)×(List j4))=>((idx p0_3 (a6:Int)).bind fun ao=>(ke N p0_2 p0_5 ao).bind fun ah=>(bif ah.2 then ((iD N o.2.1 o.2.2.1 ah.1).bind fun ae=>(idx o.1 ae).bind fun a7=>(nb N ao).bind fun a8=>(app 32 a7.gq ([a8]: (List fG))).bind fun a9=>(idx o.1 ae).bind fun ba=>some ((o.1.set (Int.toNat ae) {ba with gq:=a9}),ae)) else (some (o.1,(-1)))).bind fun aq=>(app 8 o.2.2.2.1 ([aq.2]: (List Int))).bind fun bb=>(app 16 o.2.2.2.2 ([ah.1]: (List j4))).bind fun bc=>some (aq.1,o.2.1,o.2.2.1,bb,bc):Option ((List cN)×(List Int)×(List Int)×(List Int)×(List j4)))) (aa.1,aa.2.1,aa.2.2,p0_10,p0_11)).bind fun o=>some (o.1,o.2.1,o.2.2.1,o.2.2.2.1,o.2.2.2.2)
def iE (N:Nat) (p0:kH):Option (Option ((List (List aI))×(List aI)×(List cE)×(List fP)×(List (List aA))×(List aK)×(List (List Int))×(List cN)×(List Int)×(List Int)×(List Int)×(List j4))×Int):=
 bif ((p0.aJ.length:Int)==0) then (some (none,9)) else (bif (decide ((p0.aJ.length:Int)>16)) then (some (none,2)) else ((ud p0.aJ.length (fun(an:Nat) (aa:Int)=>((idx p0.aJ (an:Int)).bind fun ae=>(jL N ae).bind fun af=>bif (af != 0) then (some (.rt (none,af))) else (some (.nx (IntKind.wrap .i64 (aa+ (ae.length:Int))))):Option (Fl (Int) (Option ((List (List aI))×(List aI)×(List cE)×(List fP)×(List (List aA))×(List aK)×(List (List Int))×(List cN)×(List Int)×(List Int)×(List Int)×(List j4))×Int)))) (p0.cH.length:Int)).bind fun ao=>ao.cs (fun(aa:Int)=>(jL N p0.cH).bind fun ag=>bif (ag != 0) then (some (none,ag)) else (bif (decide (aa>2000)) then (some (none,2)) else ((kJ N p0).bind fun ah=>bif (ah != 0) then (some (none,ah)) else ((kL N p0).bind fun ai=>bif (ai != 0) then (some (none,ai)) else ((ud p0.aO.length (fun(aj:Nat) (aq:Unit)=>((idx p0.aO (aj:Int)).bind fun ab=>(tm p0.aO 0 (aj:Int)).bind fun ak=>(ud ak.length (fun(ar:Nat) (au:Unit)=>((idx ak (ar:Int)).bind fun ad=>(bif ((decide (ab.cR<=ad.To))&&(decide (ad.cR<=ab.To))) then ((gJ N ab).bind fun av=>(gJ N ad).bind fun aw=>(si N av aw).bind fun ax=>some (ax==0)) else (some false)).bind fun ay=>bif ay then (some (.rt (none,12))) else (some (.nx ())):Option (Fl (Unit) (Option ((List (List aI))×(List aI)×(List cE)×(List fP)×(List (List aA))×(List aK)×(List (List Int))×(List cN)×(List Int)×(List Int)×(List Int)×(List j4))×Int)))) ()).bind fun az=>az.cs (fun(au:Unit)=>some (.nx ())) (fun r=>some (.rt r)):Option (Fl (Unit) (Option ((List (List aI))×(List aI)×(List cE)×(List fP)×(List (List aA))×(List aK)×(List (List Int))×(List cN)×(List Int)×(List Int)×(List Int)×(List j4))×Int)))) ()).bind fun a0=>a0.cs (fun(aq:Unit)=>(kb N p0.aJ p0.aO ([]: (List (List aA))) ([]: (List aK))).bind fun j=>bif (!j.1) then (some (none,2)) else ((kc N p0.aO j.2.2 ([]: (List (List Int)))).bind fun al=>(gA N p0.aO p0.bV j.2.2 al ([]: (List Int)) ([]: (List Int)) ([]: (List Int)) ([]: (List j4))).bind fun o=>some (some (p0.aJ,p0.cH,p0.aO,p0.bV,j.2.1,j.2.2,al,o.1,o.2.1,o.2.2.1,o.2.2.2.1,o.2.2.2.2),0))) (fun r=>some r)))))) (fun r=>some r)))
def kf (N:Nat) (p0:kH):Option ((List (List aI))×Int):=
 (iE N p0).bind fun j=>Iy j.1 (bif (j.2 != 0) then (some (([]: (List (List aI))),j.2)) else (none)) (fun(aa: ((List (List aI))×(List aI)×(List cE)×(List fP)×(List (List aA))×(List aK)×(List (List Int))×(List cN)×(List Int)×(List Int)×(List Int)×(List j4)))=>bif (j.2 != 0) then (some (([]: (List (List aI))),j.2)) else ((mV aa.2.2.2.2.1.length (fun(ab:Nat) (o: (List (List aI)))=>((idx aa.2.2.2.2.1 (ab:Int)).bind fun ad=>(jc N ad).bind fun ae=>(app 24 o ([ae]: (List (List aI)))).bind fun af=>some af:Option ((List (List aI))))) ([]: (List (List aI)))).bind fun o=>some (o,0)))
def mF (N:Nat) (p0 p1 p2:Int):Option (Bool):=
 some ((decide (p0>=p1))&&(decide (p0<=p2)))
def cT (N:Nat) (p0:Int):Option (Bool):=
 (mF N p0 (-1000000) 1000000).bind fun j=>some j
def hZ (N:Nat) (p0: (List aI)):Option (Int):=
 bif (decide ((p0.length:Int)>2000)) then (some 2) else ((jH (fun(o:Int)=>(bif (decide (o< (p0.length:Int))) then ((idx p0 o).bind fun j=>((cT N j.X0).bind fun aa=>bif (!aa) then (some true) else ((cT N j.Y0).bind fun ab=>bif (!ab) then (some true) else ((cT N j.X1).bind fun ad=>bif (!ad) then (some true) else ((cT N j.Y1).bind fun ae=>some (!ae))))).bind fun af=>bif af then (some (.rt 1)) else (bif ((decide (j.X1<=j.X0))||(decide (j.Y1<=j.Y0))) then (some (.rt 13)) else (some (.nx (IntKind.wrap .i64 (o+1)))))) else (some (.br o)):Option (Fl (Int) Int))) N 0).bind fun ag=>ag.cs (fun(o:Int)=>some 0) (fun r=>some r))
def iF (N:Nat) (p0 p1:aI):Option (Bool):=
 some ((decide (p0.Y0<p1.Y0))||((p0.Y0==p1.Y0)&&(decide (p0.X0<p1.X0))))
def fE (N:Nat) (p0: (List Int)) (p1:Int):Option ((List Int)):=
 (jH (fun(j:Int×Int)=>(bif (decide (j.1<j.2)) then ((idx p0 (IntKind.wrap .i64 (Int.tdiv (IntKind.wrap .i64 (j.1+j.2)) 2))).bind fun aa=>(bif (decide (aa<p1)) then (some ((IntKind.wrap .i64 ((IntKind.wrap .i64 (Int.tdiv (IntKind.wrap .i64 (j.1+j.2)) 2))+1)),j.2)) else (some (j.1,(IntKind.wrap .i64 (Int.tdiv (IntKind.wrap .i64 (j.1+j.2)) 2))))).bind fun o=>some (.nx (o.1,o.2))) else (some (.br (j.1,j.2))):Option (Fl (Int×Int) Empty))) N (0,(p0.length:Int))).bind fun ab=>ab.cs (fun(j:Int×Int)=>(bif (decide (j.1< (p0.length:Int))) then ((idx p0 j.1).bind fun ad=>some (ad==p1)) else (some false)).bind fun ae=>bif ae then (some p0) else ((tm p0 0 j.1).bind fun af=>(app 8 ([]: (List Int)) af).bind fun ag=>(app 8 ag ([p1]: (List Int))).bind fun ah=>(tm p0 j.1 (p0.length:Int)).bind fun ai=>(app 8 ah ai).bind fun aj=>some aj)) (fun r=>r.elim)
def g9 (N:Nat) (p0: (List aI)):Option ((List Int)):=
 (jH (fun(j: (List Int)×Int)=>(bif (decide (j.2< (p0.length:Int))) then ((idx p0 j.2).bind fun o=>(idx p0 j.2).bind fun aa=>(fE N j.1 o.Y0).bind fun ab=>(fE N ab aa.Y1).bind fun ad=>some (.nx (ad,(IntKind.wrap .i64 (j.2+1))))) else (some (.br (j.1,j.2))):Option (Fl ((List Int)×Int) Empty))) N (([]: (List Int)),0)).bind fun ae=>ae.cs (fun(j: (List Int)×Int)=>some j.1) (fun r=>r.elim)
def iG (N:Nat) (p0: (List aF)) (p1:aF):Option ((List aF)):=
 (jH (fun(o: (List aF)×Int)=>((bif (decide (o.2< (p0.length:Int))) then ((idx p0 o.2).bind fun ad=>some (decide (ad.to<p1.from_))) else (some false)).bind fun ae=>bif ae then ((idx p0 o.2).bind fun af=>(app 16 o.1 ([af]: (List aF))).bind fun ag=>some (.nx (ag,(IntKind.wrap .i64 (o.2+1))))) else (some (.br (o.1,o.2))):Option (Fl ((List aF)×Int) Empty))) N (([]: (List aF)),0)).bind fun ah=>ah.cs (fun(o: (List aF)×Int)=>(jH (fun(j:aF×Int)=>((bif (decide (j.2< (p0.length:Int))) then ((idx p0 j.2).bind fun ai=>some (decide (ai.from_<=j.1.to))) else (some false)).bind fun aj=>bif aj then ((idx p0 j.2).bind fun aa=>(idx p0 j.2).bind fun ab=>some (.nx ({{j.1 with from_:=(if aa.from_<j.1.from_ then aa.from_ else j.1.from_)} with to:=(if j.1.to<ab.to then ab.to else j.1.to)},(IntKind.wrap .i64 (j.2+1))))) else (some (.br (j.1,j.2))):Option (Fl (aF×Int) Empty))) N (p1,o.2)).bind fun ak=>ak.cs (fun(j:aF×Int)=>(app 16 o.1 ([j.1]: (List aF))).bind fun al=>(tm p0 j.2 (p0.length:Int)).bind fun an=>(app 16 al an).bind fun ao=>some ao) (fun r=>r.elim)) (fun r=>r.elim)
def gZ (N:Nat) (p0: (List aI)) (p1:Int):Option ((List aF)):=
 (jH (fun(j: (List aF)×Int)=>(bif (decide (j.2< (p0.length:Int))) then (((idx p0 j.2).bind fun o=>bif (decide (o.Y0<=p1)) then ((idx p0 j.2).bind fun aa=>some (decide (p1<aa.Y1))) else (some false)).bind fun ab=>(bif ab then ((idx p0 j.2).bind fun ad=>(idx p0 j.2).bind fun ae=>(iG N j.1 (⟨ad.X0,ae.X1⟩:aF)).bind fun af=>some af) else (some j.1)).bind fun ag=>some (.nx (ag,(IntKind.wrap .i64 (j.2+1))))) else (some (.br (j.1,j.2))):Option (Fl ((List aF)×Int) Empty))) N (([]: (List aF)),0)).bind fun ah=>ah.cs (fun(j: (List aF)×Int)=>some j.1) (fun r=>r.elim)
def jM (N:Nat) (p0: (List aF)) (p1: (List aF)):Option (Bool):=
 bif ((p0.length:Int) != (p1.length:Int)) then (some false) else ((jH (fun(j:Int)=>(bif (decide (j< (p0.length:Int))) then ((idx p0 j).bind fun o=>(idx p1 j).bind fun aa=>bif (!(decide (o=aa))) then (some (.rt false)) else (some (.nx (IntKind.wrap .i64 (j+1))))) else (some (.br j)):Option (Fl (Int) Bool))) N 0).bind fun ab=>ab.cs (fun(j:Int)=>some true) (fun r=>some r))
def fZ (N:Nat) (p0: (List aL)) (p1:aL):Option ((List aL)):=
 bif ((p1.ja.length:Int)==0) then (some p0) else ((bif (decide ((p0.length:Int)>0)) then ((idx p0 (IntKind.wrap .i64 ((p0.length:Int) - 1))).bind fun j=>bif (j.to==p1.from_) then ((idx p0 (IntKind.wrap .i64 ((p0.length:Int) - 1))).bind fun o=>(jM N o.ja p1.ja).bind fun aa=>some aa) else (some false)) else (some false)).bind fun ab=>bif ab then ((idx p0 (IntKind.wrap .i64 ((p0.length:Int) - 1))).bind fun ad=>some (p0.set (Int.toNat (IntKind.wrap .i64 ((p0.length:Int) - 1))) ({ad with to:=p1.to}))) else ((app 40 p0 ([p1]: (List aL))).bind fun ae=>some ae))
def jl (N:Nat) (p0: (List aL)):Option ((List aI)):=
 (jH (fun(j: (List aI)×Int)=>(bif (decide (j.2< (p0.length:Int))) then ((jH (fun(o: (List aI)×Int)=>((idx p0 j.2).bind fun aa=>bif (decide (o.2< (aa.ja.length:Int))) then ((idx p0 j.2).bind fun ab=>(idx ab.ja o.2).bind fun ad=>(idx p0 j.2).bind fun ae=>(idx p0 j.2).bind fun af=>(idx af.ja o.2).bind fun ag=>(idx p0 j.2).bind fun ah=>(app 32 o.1 ([(⟨ad.from_,ae.from_,ag.to,ah.to⟩:aI)]: (List aI))).bind fun ai=>some (.nx (ai,(IntKind.wrap .i64 (o.2+1))))) else (some (.br (o.1,o.2))):Option (Fl ((List aI)×Int) Empty))) N (j.1,0)).bind fun aj=>aj.cs (fun(o: (List aI)×Int)=>some (.nx (o.1,(IntKind.wrap .i64 (j.2+1))))) (fun r=>r.elim)) else (some (.br (j.1,j.2))):Option (Fl ((List aI)×Int) Empty))) N (([]: (List aI)),0)).bind fun ak=>ak.cs (fun(j: (List aI)×Int)=>some j.1) (fun r=>r.elim)
def fz (N:Nat) (p0: (List aI)):Option ((List aI)):=
 (g9 N p0).bind fun o=>(jH (fun(j: (List aL)×Int)=>(bif (decide (j.2< (o.length:Int))) then ((idx o (IntKind.wrap .i64 (j.2 - 1))).bind fun aa=>(idx o j.2).bind fun ab=>(idx o (IntKind.wrap .i64 (j.2 - 1))).bind fun ad=>(gZ N p0 ad).bind fun ae=>(fZ N j.1 (⟨aa,ab,ae⟩:aL)).bind fun af=>some (.nx (af,(IntKind.wrap .i64 (j.2+1))))) else (some (.br (j.1,j.2))):Option (Fl ((List aL)×Int) Empty))) N (([]: (List aL)),1)).bind fun ag=>ag.cs (fun(j: (List aL)×Int)=>(jl N j.1).bind fun ah=>some ah) (fun r=>r.elim)
def eF (N:Nat) (p0: (List aI)) (p1: (List aI)):Option (Bool):=
 bif ((p0.length:Int) != (p1.length:Int)) then (some false) else ((jH (fun(j:Int)=>(bif (decide (j< (p0.length:Int))) then ((idx p0 j).bind fun o=>(idx p1 j).bind fun aa=>bif (!(decide (o=aa))) then (some (.rt false)) else (some (.nx (IntKind.wrap .i64 (j+1))))) else (some (.br j)):Option (Fl (Int) Bool))) N 0).bind fun ab=>ab.cs (fun(j:Int)=>some true) (fun r=>some r))
def fH (N:Nat) (p0: (List aI)):Option (Int):=
 (hZ N p0).bind fun o=>bif (o != 0) then (some o) else ((jH (fun(j:Int)=>(bif (decide (j< (p0.length:Int))) then ((idx p0 (IntKind.wrap .i64 (j - 1))).bind fun aa=>(idx p0 j).bind fun ab=>(iF N aa ab).bind fun ad=>bif (!ad) then (some (.rt 8)) else (some (.nx (IntKind.wrap .i64 (j+1))))) else (some (.br j)):Option (Fl (Int) Int))) N 1).bind fun ae=>ae.cs (fun(j:Int)=>(fz N p0).bind fun af=>(eF N p0 af).bind fun ag=>bif (!ag) then (some 3) else (some 0)) (fun r=>some r))
def eA (N:Nat) (p0 p1 p2:Int):Option (Bool):=
 some ((decide (p0>=p1))&&(decide (p0<=p2)))
def f0 (N:Nat) (p0:eQ):Option (Bool):=
 ((cT N p0.X).bind fun j=>bif j then ((cT N p0.Y).bind fun o=>some o) else (some false)).bind fun aa=>some aa
def cJ (N:Nat) (p0:cE):Option (aI):=
 some (⟨(IntKind.wrap .i64 (p0.At.X - (IntKind.wrap .i64 (Int.tdiv p0.dH 2)))),(IntKind.wrap .i64 (p0.At.Y - (IntKind.wrap .i64 (Int.tdiv p0.dH 2)))),(IntKind.wrap .i64 ((IntKind.wrap .i64 (p0.At.X - (IntKind.wrap .i64 (Int.tdiv p0.dH 2))))+p0.dH)),(IntKind.wrap .i64 ((IntKind.wrap .i64 (p0.At.Y - (IntKind.wrap .i64 (Int.tdiv p0.dH 2))))+p0.dH))⟩:aI)
def gS (N:Nat) (p0:cE):Option (Int):=
 ((eA N p0.dH 1 10000).bind fun o=>bif (!o) then (some true) else ((f0 N p0.At).bind fun aa=>some (!aa))).bind fun ab=>bif ab then (some 1) else ((cJ N p0).bind fun j=>((cT N j.X0).bind fun ad=>bif (!ad) then (some true) else ((cT N j.Y0).bind fun ae=>bif (!ae) then (some true) else ((cT N j.X1).bind fun af=>bif (!af) then (some true) else ((cT N j.Y1).bind fun ag=>some (!ag))))).bind fun ah=>bif ah then (some 1) else (some 0))
def gC (N:Nat) (p0:eJ):Option (Bool):=
 (jH (fun(o:Int)=>(bif (decide (o< (p0.dA.length:Int))) then ((EH p0 o).bind fun j=>(bif (!((((decide ((j.toNat:Int)>=97))&&(decide ((j.toNat:Int)<=122)))||((decide ((j.toNat:Int)>=65))&&(decide ((j.toNat:Int)<=90))))||((decide ((j.toNat:Int)>=48))&&(decide ((j.toNat:Int)<=57))))) then ((gX N (⟨[95,43,45,35]⟩) (j.toNat:Int)).bind fun aa=>some (decide (aa<0))) else (some false)).bind fun ab=>bif ab then (some (.rt false)) else (some (.nx (IntKind.wrap .i64 (o+1))))) else (some (.br o)):Option (Fl (Int) Bool))) N 0).bind fun ad=>ad.cs (fun(o:Int)=>(eA N (p0.dA.length:Int) 1 40).bind fun ae=>some ae) (fun r=>some r)
def jD (N:Nat) (p0:eJ):Option (Bool):=
 (l4 N p0 (⟨[47]⟩)).bind fun o=>(jH (fun(j:Int)=>(bif (decide (j< (o.length:Int))) then ((idx o j).bind fun aa=>(gC N aa).bind fun ab=>bif (!ab) then (some (.rt false)) else (some (.nx (IntKind.wrap .i64 (j+1))))) else (some (.br j)):Option (Fl (Int) Bool))) N 0).bind fun ad=>ad.cs (fun(j:Int)=>some (decide ((p0.dA.length:Int)<=200))) (fun r=>some r)
def iH (N:Nat) (p0:kH) (p1:Int):Option (Int):=
 (idx p0.bV p1).bind fun j=>((jD N j.Part).bind fun aa=>bif (!aa) then (some true) else ((gC N j.fG).bind fun ab=>some (!ab))).bind fun ad=>bif ad then (some 5) else (((eA N j.cK 0 (IntKind.wrap .i64 ((p0.aJ.length:Int) - 1))).bind fun ae=>bif (!ae) then (some true) else ((f0 N j.At).bind fun af=>some (!af))).bind fun ag=>bif ag then (some 1) else (bif (decide (p1>0)) then ((idx p0.bV (IntKind.wrap .i64 (p1 - 1))).bind fun o=>bif ((j.Part.tk o.Part)||((j.Part.tj o.Part)&&(j.fG.tk o.fG||j.fG.tj o.fG))) then (some 8) else (some 0)) else (some 0)))
def ig (N:Nat) (p0:kH):Option (Int):=
 bif ((p0.aJ.length:Int)==0) then (some 9) else (bif (decide ((p0.aJ.length:Int)>16)) then (some 2) else ((jH (fun(j:Int×Int)=>(bif (decide (j.2< (p0.aJ.length:Int))) then ((idx p0.aJ j.2).bind fun ah=>(fH N ah).bind fun ad=>bif (ad != 0) then (some (.rt ad)) else ((idx p0.aJ j.2).bind fun ai=>some (.nx ((IntKind.wrap .i64 (j.1+ (ai.length:Int))),(IntKind.wrap .i64 (j.2+1)))))) else (some (.br (j.1,j.2))):Option (Fl (Int×Int) Int))) N ((p0.cH.length:Int),0)).bind fun aj=>aj.cs (fun(j:Int×Int)=>(fH N p0.cH).bind fun ae=>bif (ae != 0) then (some ae) else ((bif (decide (j.1>2000)) then (some true) else (some (decide ((p0.aO.length:Int)>500)))).bind fun ak=>bif ak then (some 2) else ((jH (fun(o:Int)=>(bif (decide (o< (p0.aO.length:Int))) then ((idx p0.aO o).bind fun ab=>(gS N ab).bind fun af=>bif (af != 0) then (some (.rt af)) else (((eA N ab.cR 0 (IntKind.wrap .i64 ((p0.aJ.length:Int) - 1))).bind fun al=>bif (!al) then (some true) else ((eA N ab.To ab.cR (IntKind.wrap .i64 ((p0.aJ.length:Int) - 1))).bind fun an=>some (!an))).bind fun ao=>bif ao then (some (.rt 1)) else (some (.nx (IntKind.wrap .i64 (o+1)))))) else (some (.br o)):Option (Fl (Int) Int))) N 0).bind fun aq=>aq.cs (fun(o:Int)=>bif (decide ((p0.bV.length:Int)>1000)) then (some 2) else ((jH (fun(aa:Int)=>(bif (decide (aa< (p0.bV.length:Int))) then ((iH N p0 aa).bind fun ag=>bif (ag != 0) then (some (.rt ag)) else (some (.nx (IntKind.wrap .i64 (aa+1))))) else (some (.br aa)):Option (Fl (Int) Int))) N 0).bind fun ar=>ar.cs (fun(aa:Int)=>some 0) (fun r=>some r))) (fun r=>some r)))) (fun r=>some r)))
def iI (N:Nat) (p0 p1:cE):Option (Bool):=
 some ((decide (p0.cR<=p1.To))&&(decide (p1.cR<=p0.To)))
def ga (N:Nat) (p0 p1:aI):Option (Bool):=
 (bif (decide ((if p1.X1<p0.X1 then p1.X1 else p0.X1)> (if p0.X0<p1.X0 then p1.X0 else p0.X0))) then (some (decide ((if p1.Y1<p0.Y1 then p1.Y1 else p0.Y1)> (if p0.Y0<p1.Y0 then p1.Y0 else p0.Y0)))) else (some false)).bind fun j=>some j
def eW (N:Nat) (p0:cE) (p1:Int):Option (Bool):=
 some ((decide (p0.cR<=p1))&&(decide (p1<=p0.To)))
def gD (N:Nat) (p0: (List aF)) (p1:Int):Option (Bool):=
 (jH (fun(j:Int)=>(bif (decide (j< (p0.length:Int))) then (((idx p0 j).bind fun o=>bif (decide (o.from_<=p1)) then ((idx p0 j).bind fun aa=>some (decide (p1<aa.to))) else (some false)).bind fun ab=>bif ab then (some (.rt true)) else (some (.nx (IntKind.wrap .i64 (j+1))))) else (some (.br j)):Option (Fl (Int) Bool))) N 0).bind fun ad=>ad.cs (fun(j:Int)=>some false) (fun r=>some r)
def jT (N:Nat) (p0: (List aF)) (p1: (List aF)) (p2:Int):Option ((List aF)):=
 (jH (fun(aa: (List Int)×Int)=>(bif (decide (aa.2< (p0.length:Int))) then ((idx p0 aa.2).bind fun ae=>(idx p0 aa.2).bind fun af=>(fE N aa.1 ae.from_).bind fun ag=>(fE N ag af.to).bind fun ah=>some (.nx (ah,(IntKind.wrap .i64 (aa.2+1))))) else (some (.br (aa.1,aa.2))):Option (Fl ((List Int)×Int) Empty))) N (([]: (List Int)),0)).bind fun ai=>ai.cs (fun(aa: (List Int)×Int)=>(jH (fun(j: (List Int)×Int)=>(bif (decide (j.2< (p1.length:Int))) then ((idx p1 j.2).bind fun aj=>(idx p1 j.2).bind fun ak=>(fE N j.1 aj.from_).bind fun al=>(fE N al ak.to).bind fun an=>some (.nx (an,(IntKind.wrap .i64 (j.2+1))))) else (some (.br (j.1,j.2))):Option (Fl ((List Int)×Int) Empty))) N (aa.1,0)).bind fun ao=>ao.cs (fun(j: (List Int)×Int)=>(jH (fun(o: (List aF)×Int)=>(bif (decide (o.2< (j.1.length:Int))) then ((idx j.1 (IntKind.wrap .i64 (o.2 - 1))).bind fun aq=>(idx j.1 (IntKind.wrap .i64 (o.2 - 1))).bind fun ar=>(gD N p0 aq).bind fun ab=>(gD N p1 ar).bind fun ad=>(bif ((((p2==1)&&(ab||ad))||(((p2==2)&&ab)&&ad))||(((p2==3)&&ab)&&(!ad))) then ((idx j.1 (IntKind.wrap .i64 (o.2 - 1))).bind fun au=>(idx j.1 o.2).bind fun av=>(iG N o.1 (⟨au,av⟩:aF)).bind fun aw=>some aw) else (some o.1)).bind fun ax=>some (.nx (ax,(IntKind.wrap .i64 (o.2+1))))) else (some (.br (o.1,o.2))):Option (Fl ((List aF)×Int) Empty))) N (([]: (List aF)),1)).bind fun ay=>ay.cs (fun(o: (List aF)×Int)=>some o.1) (fun r=>r.elim)) (fun r=>r.elim)) (fun r=>r.elim)
def gM (N:Nat) (p0: (List aI)) (p1: (List aI)) (p2:Int):Option ((List aI)):=
 (app 32 ([]: (List aI)) p0).bind fun aa=>(app 32 aa p1).bind fun ab=>(g9 N ab).bind fun o=>(jH (fun(j: (List aL)×Int)=>(bif (decide (j.2< (o.length:Int))) then ((idx o (IntKind.wrap .i64 (j.2 - 1))).bind fun ad=>(idx o j.2).bind fun ae=>(idx o (IntKind.wrap .i64 (j.2 - 1))).bind fun af=>(idx o (IntKind.wrap .i64 (j.2 - 1))).bind fun ag=>(gZ N p0 af).bind fun ah=>(gZ N p1 ag).bind fun ai=>(jT N ah ai p2).bind fun aj=>(fZ N j.1 (⟨ad,ae,aj⟩:aL)).bind fun ak=>some (.nx (ak,(IntKind.wrap .i64 (j.2+1))))) else (some (.br (j.1,j.2))):Option (Fl ((List aL)×Int) Empty))) N (([]: (List aL)),1)).bind fun al=>al.cs (fun(j: (List aL)×Int)=>(jl N j.1).bind fun an=>some an) (fun r=>r.elim)
def kp (N:Nat) (p0: (List aI)) (p1: (List aI)):Option ((List aI)):=
 (gM N p0 p1 3).bind fun j=>some j
def fA (N:Nat) (p0:kH) (p1:Int):Option ((List aI)):=
 (jH (fun(j: (List aI)×Int)=>(bif (decide (j.2< (p0.aO.length:Int))) then ((idx p0.aO j.2).bind fun o=>(eW N o p1).bind fun aa=>(bif aa then ((idx p0.aO j.2).bind fun ab=>(cJ N ab).bind fun ad=>(app 32 j.1 ([ad]: (List aI))).bind fun ae=>some ae) else (some j.1)).bind fun af=>some (.nx (af,(IntKind.wrap .i64 (j.2+1))))) else (some (.br (j.1,j.2))):Option (Fl ((List aI)×Int) Empty))) N (([]: (List aI)),0)).bind fun ag=>ag.cs (fun(j: (List aI)×Int)=>(idx p0.aJ p1).bind fun ah=>(fz N j.1).bind fun ai=>(kp N ah ai).bind fun aj=>some aj) (fun r=>r.elim)
def i7 (N:Nat) (p0 p1:aI):Option (Bool):=
 some (((decide ((IntKind.wrap .i64 ((if p1.X1<p0.X1 then p1.X1 else p0.X1) - (if p0.X0<p1.X0 then p1.X0 else p0.X0)))>0))&&(decide ((IntKind.wrap .i64 ((if p1.Y1<p0.Y1 then p1.Y1 else p0.Y1) - (if p0.Y0<p1.Y0 then p1.Y0 else p0.Y0)))>=0)))||((decide ((IntKind.wrap .i64 ((if p1.X1<p0.X1 then p1.X1 else p0.X1) - (if p0.X0<p1.X0 then p1.X0 else p0.X0)))>=0))&&(decide ((IntKind.wrap .i64 ((if p1.Y1<p0.Y1 then p1.Y1 else p0.Y1) - (if p0.Y0<p1.Y0 then p1.Y0 else p0.Y0)))>0))))
def jE (N:Nat) (p0: (List (List aI))) (p1: (List aI)):Option ((List (List aI))):=
 (jH (fun(j:Int)=>((bif (decide (j>0)) then ((idx p1 0).bind fun o=>(idx p0 (IntKind.wrap .i64 (j - 1))).bind fun aa=>(idx aa 0).bind fun ab=>(iF N o ab).bind fun ad=>some ad) else (some false)).bind fun ae=>bif ae then (some (.nx (IntKind.wrap .i64 (j - 1)))) else (some (.br j)):Option (Fl (Int) Empty))) N (p0.length:Int)).bind fun af=>af.cs (fun(j:Int)=>(tm p0 0 j).bind fun ag=>(app 24 ([]: (List (List aI))) ag).bind fun ah=>(app 24 ah ([p1]: (List (List aI)))).bind fun ai=>(tm p0 j (p0.length:Int)).bind fun aj=>(app 24 ai aj).bind fun ak=>some ak) (fun r=>r.elim)
def fK (N:Nat) (p0: (List aI)):Option ((List (List aI))):=
 (mk 1 (false:Bool) (p0.length:Int)).bind fun ad=>(jH (fun(o: (List Bool)×(List (List aI))×Int)=>(bif (decide (o.2.2< (p0.length:Int))) then ((idx o.1 o.2.2).bind fun ae=>bif ae then (some (.nx (o.1,o.2.1,(IntKind.wrap .i64 (o.2.2+1))))) else ((idx o.1 o.2.2).bind fun aw=>(idx p0 o.2.2).bind fun af=>(jH (fun(aa: (List Bool)×(List aI)×Int)=>(bif (decide (aa.2.2< (aa.2.1.length:Int))) then ((jH (fun(j: (List Bool)×(List aI)×Int)=>(bif (decide (j.2.2< (p0.length:Int))) then (((idx j.1 j.2.2).bind fun ag=>bif (!ag) then ((idx j.2.1 aa.2.2).bind fun ah=>(idx p0 j.2.2).bind fun ai=>(i7 N ah ai).bind fun aj=>some aj) else (some false)).bind fun ak=>(bif ak then ((idx j.1 j.2.2).bind fun ax=>(idx p0 j.2.2).bind fun al=>(app 32 j.2.1 ([al]: (List aI))).bind fun an=>some ((j.1.set (Int.toNat j.2.2) true),an)) else (some (j.1,j.2.1))).bind fun ab=>some (.nx (ab.1,ab.2,(IntKind.wrap .i64 (j.2.2+1))))) else (some (.br (j.1,j.2.1,j.2.2))):Option (Fl ((List Bool)×(List aI)×Int) Empty))) N (aa.1,aa.2.1,0)).bind fun ao=>ao.cs (fun(j: (List Bool)×(List aI)×Int)=>some (.nx (j.1,j.2.1,(IntKind.wrap .i64 (aa.2.2+1))))) (fun r=>r.elim)) else (some (.br (aa.1,aa.2.1,aa.2.2))):Option (Fl ((List Bool)×(List aI)×Int) Empty))) N ((o.1.set (Int.toNat o.2.2) true),([af]: (List aI)),0)).bind fun aq=>aq.cs (fun(aa: (List Bool)×(List aI)×Int)=>(fz N aa.2.1).bind fun ar=>(jE N o.2.1 ar).bind fun au=>some (.nx (aa.1,au,(IntKind.wrap .i64 (o.2.2+1))))) (fun r=>r.elim))) else (some (.br (o.1,o.2.1,o.2.2))):Option (Fl ((List Bool)×(List (List aI))×Int) Empty))) N (ad,([]: (List (List aI))),0)).bind fun av=>av.cs (fun(o: (List Bool)×(List (List aI))×Int)=>some o.2.1) (fun r=>r.elim)
def cU (N:Nat) (p0:kH):Option (Int):=
 (ig N p0).bind fun ab=>bif (ab != 0) then (some ab) else ((jH (fun(o:Int)=>(bif (decide (o< (p0.aO.length:Int))) then ((jH (fun(aa:Int)=>(bif (decide (aa<o)) then (((idx p0.aO o).bind fun ae=>(idx p0.aO aa).bind fun af=>(iI N ae af).bind fun ag=>bif ag then ((idx p0.aO o).bind fun ah=>(idx p0.aO aa).bind fun ai=>(cJ N ah).bind fun aj=>(cJ N ai).bind fun ak=>(ga N aj ak).bind fun al=>some al) else (some false)).bind fun an=>bif an then (some (.rt 12)) else (some (.nx (IntKind.wrap .i64 (aa+1))))) else (some (.br aa)):Option (Fl (Int) Int))) N 0).bind fun ao=>ao.cs (fun(aa:Int)=>some (.nx (IntKind.wrap .i64 (o+1)))) (fun r=>some (.rt r))) else (some (.br o)):Option (Fl (Int) Int))) N 0).bind fun aq=>aq.cs (fun(o:Int)=>(jH (fun(j:Int×Int)=>(bif (decide (j.2< (p0.aJ.length:Int))) then ((fA N p0 j.2).bind fun ad=>bif (decide ((ad.length:Int)>2000)) then (some (.rt 2)) else ((fK N ad).bind fun ar=>some (.nx ((IntKind.wrap .i64 (j.1+ (ar.length:Int))),(IntKind.wrap .i64 (j.2+1)))))) else (some (.br (j.1,j.2))):Option (Fl (Int×Int) Int))) N (0,0)).bind fun au=>au.cs (fun(j:Int×Int)=>bif (decide (j.1>2000)) then (some 2) else (some 0)) (fun r=>some r)) (fun r=>some r))
def gh (N:Nat) (p0:kH):Option ((List (List aI))×Int):=
 (cU N p0).bind fun o=>bif (o != 0) then (some (([]: (List (List aI))),o)) else ((jH (fun(j: (List (List aI))×Int)=>(bif (decide (j.2< (p0.aJ.length:Int))) then ((fA N p0 j.2).bind fun aa=>(app 24 j.1 ([aa]: (List (List aI)))).bind fun ab=>some (.nx (ab,(IntKind.wrap .i64 (j.2+1))))) else (some (.br (j.1,j.2))):Option (Fl ((List (List aI))×Int) Empty))) N (([]: (List (List aI))),0)).bind fun ad=>ad.cs (fun(j: (List (List aI))×Int)=>some (j.1,0)) (fun r=>r.elim))
def lU (N:Nat) (p0: (List aA)):Option (eQ):=
 (idx p0 0).bind fun j=>(idx j.Xs 0).bind fun o=>(idx p0 0).bind fun aa=>some (⟨o,aa.Y0⟩:eQ)
def oD (N:Nat) (p0: (List aI)):Option (Int):=
 (mV p0.length (fun(aa:Nat) (o:Int)=>((idx p0 (aa:Int)).bind fun j=>some (IntKind.wrap .i64 (o+ (IntKind.wrap .i64 ((IntKind.wrap .i64 (j.X1 - j.X0))* (IntKind.wrap .i64 (j.Y1 - j.Y0)))))):Option (Int))) 0).bind fun o=>some o
def kW (N:Nat) (p0:kH):Option ((List Piece)×Int):=
 (iE N p0).bind fun j=>Iy j.1 (bif (j.2 != 0) then (some (([]: (List Piece)),j.2)) else (none)) (fun(ab: ((List (List aI))×(List aI)×(List cE)×(List fP)×(List (List aA))×(List aK)×(List (List Int))×(List cN)×(List Int)×(List Int)×(List Int)×(List j4)))=>bif (j.2 != 0) then (some (([]: (List Piece)),j.2)) else ((mV ab.2.2.2.2.2.1.length (fun(ad:Nat) (o: (List Piece))=>((idx ab.2.2.2.2.2.1 (ad:Int)).bind fun aa=>(lU N aa.Set).bind fun ae=>(oD N aa.gz).bind fun af=>(app 32 o ([(⟨aa.cK,ae,af⟩:Piece)]: (List Piece))).bind fun ag=>some ag:Option ((List Piece)))) ([]: (List Piece))).bind fun o=>some (o,0)))
def jm (N:Nat) (p0: (List aI)) (p1:aI):Option (Bool):=
 (jH (fun(j:Int)=>(bif (decide (j< (p0.length:Int))) then ((idx p0 j).bind fun o=>(idx p0 j).bind fun aa=>(idx p0 j).bind fun ab=>(idx p0 j).bind fun ad=>bif (((decide ((IntKind.wrap .i64 ((if p1.X1<o.X1 then p1.X1 else o.X1) - (if aa.X0<p1.X0 then p1.X0 else aa.X0)))>0))&&((IntKind.wrap .i64 ((if p1.Y1<ab.Y1 then p1.Y1 else ab.Y1) - (if ad.Y0<p1.Y0 then p1.Y0 else ad.Y0)))==0))||(((IntKind.wrap .i64 ((if p1.X1<o.X1 then p1.X1 else o.X1) - (if aa.X0<p1.X0 then p1.X0 else aa.X0)))==0)&&(decide ((IntKind.wrap .i64 ((if p1.Y1<ab.Y1 then p1.Y1 else ab.Y1) - (if ad.Y0<p1.Y0 then p1.Y0 else ad.Y0)))>0)))) then (some (.rt true)) else (some (.nx (IntKind.wrap .i64 (j+1))))) else (some (.br j)):Option (Fl (Int) Bool))) N 0).bind fun ae=>ae.cs (fun(j:Int)=>some false) (fun r=>some r)
def cV (N:Nat) (p0: (List Int)) (p1:Int):Option (Bool):=
 (jH (fun(j:Int)=>(bif (decide (j< (p0.length:Int))) then ((idx p0 j).bind fun o=>bif (o==p1) then (some (.rt true)) else (some (.nx (IntKind.wrap .i64 (j+1))))) else (some (.br j)):Option (Fl (Int) Bool))) N 0).bind fun aa=>aa.cs (fun(j:Int)=>some false) (fun r=>some r)
def iJ (N:Nat) (p0: (List Int)) (p1:Int):Option ((List Int)):=
 (jH (fun(j:Int)=>((bif (decide (j>0)) then ((idx p0 (IntKind.wrap .i64 (j - 1))).bind fun o=>some (decide (o>p1))) else (some false)).bind fun aa=>bif aa then (some (.nx (IntKind.wrap .i64 (j - 1)))) else (some (.br j)):Option (Fl (Int) Empty))) N (p0.length:Int)).bind fun ab=>ab.cs (fun(j:Int)=>(bif (decide (j>0)) then ((idx p0 (IntKind.wrap .i64 (j - 1))).bind fun ad=>some (ad==p1)) else (some false)).bind fun ae=>bif ae then (some p0) else ((tm p0 0 j).bind fun af=>(app 8 ([]: (List Int)) af).bind fun ag=>(app 8 ag ([p1]: (List Int))).bind fun ah=>(tm p0 j (p0.length:Int)).bind fun ai=>(app 8 ah ai).bind fun aj=>some aj)) (fun r=>r.elim)
def gE (N:Nat) (p0_7: (List (List Int))) (p1:Int) (p2: (List Bool)):Option (((List Int)×(List Int)×(List fG))×(List Bool)):=
 (idx p2 p1).bind fun ax=>(mk 1 (false:Bool) (p0_7.length:Int)).bind fun ae=>(jH (fun(o: (List Bool)×(List Int)×(List Int)×(List Bool)×(List Int)×Int)=>(bif (decide (o.2.2.2.2.2< (o.2.2.2.2.1.length:Int))) then ((jH (fun(j: (List Bool)×(List Int)×(List Int)×(List Bool)×(List Int)×Int)=>(bif (decide (j.2.2.2.2.2< (p0_7.length:Int))) then (((idx j.2.2.2.1 j.2.2.2.2.2).bind fun af=>bif af then (some true) else ((idx p0_7 j.2.2.2.2.2).bind fun ag=>(idx j.2.2.2.2.1 o.2.2.2.2.2).bind fun ah=>(cV N ag ah).bind fun ai=>some (!ai))).bind fun aj=>bif aj then (some (.nx (j.1,j.2.1,j.2.2.1,j.2.2.2.1,j.2.2.2.2.1,(IntKind.wrap .i64 (j.2.2.2.2.2+1))))) else ((idx j.2.2.2.1 j.2.2.2.2.2).bind fun ay=>(iJ N j.2.2.1 j.2.2.2.2.2).bind fun ak=>(jH (fun(aa: (List Bool)×(List Int)×(List Int)×Int)=>((idx p0_7 j.2.2.2.2.2).bind fun al=>bif (decide (aa.2.2.2< (al.length:Int))) then ((idx p0_7 j.2.2.2.2.2).bind fun an=>(idx an aa.2.2.2).bind fun ab=>(idx aa.1 ab).bind fun ao=>(bif (!ao) then ((idx aa.1 ab).bind fun az=>(iJ N aa.2.1 ab).bind fun aq=>(app 8 aa.2.2.1 ([ab]: (List Int))).bind fun ar=>some ((aa.1.set (Int.toNat ab) true),aq,ar)) else (some (aa.1,aa.2.1,aa.2.2.1))).bind fun ad=>some (.nx (ad.1,ad.2.1,ad.2.2,(IntKind.wrap .i64 (aa.2.2.2+1))))) else (some (.br (aa.1,aa.2.1,aa.2.2.1,aa.2.2.2))):Option (Fl ((List Bool)×(List Int)×(List Int)×Int) Empty))) N (j.1,j.2.1,j.2.2.2.2.1,0)).bind fun au=>au.cs (fun(aa: (List Bool)×(List Int)×(List Int)×Int)=>some (.nx (aa.1,aa.2.1,ak,(j.2.2.2.1.set (Int.toNat j.2.2.2.2.2) true),aa.2.2.1,(IntKind.wrap .i64 (j.2.2.2.2.2+1))))) (fun r=>r.elim))) else (some (.br (j.1,j.2.1,j.2.2.1,j.2.2.2.1,j.2.2.2.2.1,j.2.2.2.2.2))):Option (Fl ((List Bool)×(List Int)×(List Int)×(List Bool)×(List Int)×Int) Empty))) N (o.1,o.2.1,o.2.2.1,o.2.2.2.1,o.2.2.2.2.1,0)).bind fun av=>av.cs (fun(j: (List Bool)×(List Int)×(List Int)×(List Bool)×(List Int)×Int)=>some (.nx (j.1,j.2.1,j.2.2.1,j.2.2.2.1,j.2.2.2.2.1,(IntKind.wrap .i64 (o.2.2.2.2.2+1))))) (fun r=>r.elim)) else (some (.br (o.1,o.2.1,o.2.2.1,o.2.2.2.1,o.2.2.2.2.1,o.2.2.2.2.2))):Option (Fl ((List Bool)×(List Int)×(List Int)×(List Bool)×(List Int)×Int) Empty))) N ((p2.set (Int.toNat p1) true),([p1]: (List Int)),([]: (List Int)),ae,([p1]: (List Int)),0)).bind fun aw=>aw.cs (fun(o: (List Bool)×(List Int)×(List Int)×(List Bool)×(List Int)×Int)=>some ((o.2.1,o.2.2.1,([]: (List fG))),o.1)) (fun r=>r.elim)
def eO (N:Nat) (p0: (List aI)) (p1:eQ):Option (Bool):=
 (gZ N p0 p1.Y).bind fun j=>(gD N j p1.X).bind fun o=>some o
def gT (N:Nat) (p0_2: (List cE)) (p0_4: (List Int)) (p0_5: (List (List aI))) (p1:fP):Option (j4×Bool):=
 (jH (fun(o:Int)=>(bif (decide (o< (p0_5.length:Int))) then (((idx p0_4 o).bind fun aa=>bif (aa==p1.cK) then ((idx p0_5 o).bind fun ab=>(eO N ab p1.At).bind fun ad=>some ad) else (some false)).bind fun ae=>bif ae then (some (.rt ((⟨false,o⟩:j4),true))) else (some (.nx (IntKind.wrap .i64 (o+1))))) else (some (.br o)):Option (Fl (Int) (j4×Bool)))) N 0).bind fun af=>af.cs (fun(o:Int)=>(jH (fun(j:Int)=>(bif (decide (j< (p0_2.length:Int))) then (((idx p0_2 j).bind fun ag=>bif ag.fY then ((idx p0_2 j).bind fun ah=>(eW N ah p1.cK).bind fun ai=>bif ai then ((idx p0_2 j).bind fun aj=>(cJ N aj).bind fun ak=>(eO N ([ak]: (List aI)) p1.At).bind fun al=>some al) else (some false)) else (some false)).bind fun an=>bif an then (some (.rt ((⟨true,j⟩:j4),true))) else (some (.nx (IntKind.wrap .i64 (j+1))))) else (some (.br j)):Option (Fl (Int) (j4×Bool)))) N 0).bind fun ao=>ao.cs (fun(j:Int)=>some ((⟨false,0⟩:j4),false)) (fun r=>some r)) (fun r=>some r)
def dW (N:Nat) (p0_6: (List cN)) (p1:j4):Option (Int):=
 (jH (fun(j:Int)=>(bif (decide (j< (p0_6.length:Int))) then ((bif p1.cE then ((idx p0_6 j).bind fun o=>(cV N o.aO p1.Number).bind fun aa=>bif aa then (some true) else (bif (!p1.cE) then ((idx p0_6 j).bind fun ab=>(cV N ab.j9 p1.Number).bind fun ad=>some ad) else (some false))) else (bif (!p1.cE) then ((idx p0_6 j).bind fun ae=>(cV N ae.j9 p1.Number).bind fun af=>some af) else (some false))).bind fun ag=>bif ag then (some (.rt j)) else (some (.nx (IntKind.wrap .i64 (j+1))))) else (some (.br j)):Option (Fl (Int) Int))) N 0).bind fun ah=>ah.cs (fun(j:Int)=>some (-1)) (fun r=>some r)
def eM (N:Nat) (p0_2: (List cE)) (p0_4: (List Int)) (p0_5: (List (List aI))) (p0_6: (List cN)) (p1:fP):Option (Int):=
 (gT N p0_2 p0_4 p0_5 p1).bind fun j=>bif (!j.2) then (some (-1)) else ((dW N p0_6 j.1).bind fun o=>some o)
def eV (N:Nat) (p0_2: (List cE)) (p0_3: (List fP)) (p0_4: (List Int)) (p0_5: (List (List aI))) (p0_7: (List (List Int))):Option ((List cN)):=
 (mk 1 (false:Bool) (p0_5.length:Int)).bind fun ag=>(jH (fun(j: (List cN)×(List Bool)×Int)=>(bif (decide (j.2.2< (p0_5.length:Int))) then ((idx j.2.1 j.2.2).bind fun ah=>(bif (!ah) then ((gE N p0_7 j.2.2 j.2.1).bind fun ab=>(app 72 j.1 [(⟨ab.1.1,ab.1.2.1,ab.1.2.2⟩:cN)]).bind fun ai=>some (ai,ab.2)) else (some (j.1,j.2.1))).bind fun af=>some (.nx (af.1,af.2,(IntKind.wrap .i64 (j.2.2+1))))) else (some (.br (j.1,j.2.1,j.2.2))):Option (Fl ((List cN)×(List Bool)×Int) Empty))) N (([]: (List cN)),ag,0)).bind fun aj=>aj.cs (fun(j: (List cN)×(List Bool)×Int)=>(jH (fun(aa: (List cN)×Int)=>(bif (decide (aa.2< (p0_7.length:Int))) then (((idx p0_2 aa.2).bind fun ak=>bif ak.fY then ((idx p0_7 aa.2).bind fun al=>some ((al.length:Int)==0)) else (some false)).bind fun an=>(bif an then ((app 72 aa.1 [(⟨([]: (List Int)),([aa.2]: (List Int)),([]: (List fG))⟩:cN)]).bind fun ao=>some ao) else (some aa.1)).bind fun aq=>some (.nx (aq,(IntKind.wrap .i64 (aa.2+1))))) else (some (.br (aa.1,aa.2))):Option (Fl ((List cN)×Int) Empty))) N (j.1,0)).bind fun ar=>ar.cs (fun(aa: (List cN)×Int)=>(jH (fun(o: (List cN)×Int)=>(bif (decide (o.2< (p0_3.length:Int))) then ((idx p0_3 o.2).bind fun ae=>(eM N p0_2 p0_4 p0_5 o.1 ae).bind fun ad=>(bif (decide (ad>=0)) then ((idx o.1 ad).bind fun au=>(app 32 au.gq ([(⟨ae.Part,ae.fG⟩:fG)]: (List fG))).bind fun av=>(idx o.1 ad).bind fun aw=>some (o.1.set (Int.toNat ad) {aw with gq:=av})) else (some o.1)).bind fun ax=>some (.nx (ax,(IntKind.wrap .i64 (o.2+1))))) else (some (.br (o.1,o.2))):Option (Fl ((List cN)×Int) Empty))) N (aa.1,0)).bind fun ay=>ay.cs (fun(o: (List cN)×Int)=>some o.1) (fun r=>r.elim)) (fun r=>r.elim)) (fun r=>r.elim)
def jh (N:Nat) (p0:kH):Option (((List (List aI))×(List aI)×(List cE)×(List fP)×(List Int)×(List (List aI))×(List cN)×(List (List Int)))):=
 (jH (fun(j: (List Int)×(List (List aI))×Int)=>(bif (decide (j.2.2< (p0.aJ.length:Int))) then ((fA N p0 j.2.2).bind fun ae=>(fK N ae).bind fun ad=>(jH (fun(o: (List Int)×(List (List aI))×Int)=>(bif (decide (o.2.2< (ad.length:Int))) then ((app 8 o.1 ([j.2.2]: (List Int))).bind fun af=>(idx ad o.2.2).bind fun ag=>(app 24 o.2.1 ([ag]: (List (List aI)))).bind fun ah=>some (.nx (af,ah,(IntKind.wrap .i64 (o.2.2+1))))) else (some (.br (o.1,o.2.1,o.2.2))):Option (Fl ((List Int)×(List (List aI))×Int) Empty))) N (j.1,j.2.1,0)).bind fun ai=>ai.cs (fun(o: (List Int)×(List (List aI))×Int)=>some (.nx (o.1,o.2.1,(IntKind.wrap .i64 (j.2.2+1))))) (fun r=>r.elim)) else (some (.br (j.1,j.2.1,j.2.2))):Option (Fl ((List Int)×(List (List aI))×Int) Empty))) N (([]: (List Int)),([]: (List (List aI))),0)).bind fun aj=>aj.cs (fun(j: (List Int)×(List (List aI))×Int)=>(jH (fun(aa: (List (List Int))×Int)=>(bif (decide (aa.2< (p0.aO.length:Int))) then ((jH (fun(ab: (List Int)×Int)=>((bif (decide (ab.2< (j.2.1.length:Int))) then ((idx p0.aO aa.2).bind fun ak=>some ak.fY) else (some false)).bind fun al=>bif al then (((idx p0.aO aa.2).bind fun an=>(idx j.1 ab.2).bind fun ao=>(eW N an ao).bind fun aq=>bif aq then ((idx j.2.1 ab.2).bind fun ar=>(idx p0.aO aa.2).bind fun au=>(cJ N au).bind fun av=>(jm N ar av).bind fun aw=>some aw) else (some false)).bind fun ax=>(bif ax then ((app 8 ab.1 ([ab.2]: (List Int))).bind fun ay=>some ay) else (some ab.1)).bind fun az=>some (.nx (az,(IntKind.wrap .i64 (ab.2+1))))) else (some (.br (ab.1,ab.2))):Option (Fl ((List Int)×Int) Empty))) N (([]: (List Int)),0)).bind fun a0=>a0.cs (fun(ab: (List Int)×Int)=>(app 24 aa.1 ([ab.1]: (List (List Int)))).bind fun a1=>some (.nx (a1,(IntKind.wrap .i64 (aa.2+1))))) (fun r=>r.elim)) else (some (.br (aa.1,aa.2))):Option (Fl ((List (List Int))×Int) Empty))) N (([]: (List (List Int))),0)).bind fun a2=>a2.cs (fun(aa: (List (List Int))×Int)=>(eV N p0.aO p0.bV j.1 j.2.1 aa.1).bind fun a3=>some (p0.aJ,p0.cH,p0.aO,p0.bV,j.1,j.2.1,a3,aa.1)) (fun r=>r.elim)) (fun r=>r.elim)
def jF (N:Nat) (p0: (List aI)):Option (Int):=
 (jH (fun(j:Int×Int)=>(bif (decide (j.2< (p0.length:Int))) then ((idx p0 j.2).bind fun o=>(idx p0 j.2).bind fun aa=>(idx p0 j.2).bind fun ab=>(idx p0 j.2).bind fun ad=>some (.nx ((IntKind.wrap .i64 (j.1+ (IntKind.wrap .i64 ((IntKind.wrap .i64 (o.X1 - aa.X0))* (IntKind.wrap .i64 (ab.Y1 - ad.Y0)))))),(IntKind.wrap .i64 (j.2+1))))) else (some (.br (j.1,j.2))):Option (Fl (Int×Int) Empty))) N (0,0)).bind fun ae=>ae.cs (fun(j:Int×Int)=>some j.1) (fun r=>r.elim)
def iP (N:Nat) (p0_4: (List Int)) (p0_5: (List (List aI))) (p1:Int):Option (Piece):=
 (idx p0_5 p1).bind fun j=>(idx p0_4 p1).bind fun o=>(idx j 0).bind fun aa=>(idx j 0).bind fun ab=>(jF N j).bind fun ad=>some (⟨o,(⟨aa.X0,ab.Y0⟩:eQ),ad⟩:Piece)
def gF (N:Nat) (p0:kH):Option ((List Piece)×Int):=
 (cU N p0).bind fun aa=>bif (aa != 0) then (some (([]: (List Piece)),aa)) else ((jh N p0).bind fun o=>(jH (fun(j: (List Piece)×Int)=>(bif (decide (j.2< (o.2.2.2.2.2.1.length:Int))) then ((iP N o.2.2.2.2.1 o.2.2.2.2.2.1 j.2).bind fun ab=>(app 32 j.1 ([ab]: (List Piece))).bind fun ad=>some (.nx (ad,(IntKind.wrap .i64 (j.2+1))))) else (some (.br (j.1,j.2))):Option (Fl ((List Piece)×Int) Empty))) N (([]: (List Piece)),0)).bind fun ae=>ae.cs (fun(j: (List Piece)×Int)=>some (j.1,0)) (fun r=>r.elim))
def kB (N:Nat) (p0:kH):Option (Int):=
 (iE N p0).bind fun j=>Iy j.1 (some j.2) (fun(o: ((List (List aI))×(List aI)×(List cE)×(List fP)×(List (List aA))×(List aK)×(List (List Int))×(List cN)×(List Int)×(List Int)×(List Int)×(List j4)))=>some j.2)
def gw (N:Nat) (p0: (List (List aI))) (p1: (List (List aI))) (p2: (List aI)->(List aI)->Option Bool):Option (Bool):=
 bif ((p0.length:Int) != (p1.length:Int)) then (some false) else ((ud p0.length (fun(j:Nat) (o:Unit)=>((idx p0 (j:Int)).bind fun aa=>(idx p1 (j:Int)).bind fun ab=>(p2 aa ab).bind fun ad=>bif (!ad) then (some (.rt false)) else (some (.nx ())):Option (Fl (Unit) Bool))) ()).bind fun ae=>ae.cs (fun(o:Unit)=>some true) (fun r=>some r))
def lL (N:Nat) (p0: (List Piece)) (p1: (List Piece)):Option (Bool):=
 bif ((p0.length:Int) != (p1.length:Int)) then (some false) else ((ud p0.length (fun(j:Nat) (o:Unit)=>((idx p0 (j:Int)).bind fun aa=>(idx p1 (j:Int)).bind fun ab=>bif (!(decide (aa=ab))) then (some (.rt false)) else (some (.nx ())):Option (Fl (Unit) Bool))) ()).bind fun ad=>ad.cs (fun(o:Unit)=>some true) (fun r=>some r))
def i9 (N:Nat):Option (Bool):=
 (kV N (⟨⟨0,0⟩,2,0,0,false⟩:cE)).bind fun j=>(bif (j.2==0) then (some (decide (j.1= (⟨(-1),(-1),1,1⟩:aI)))) else (some false)).bind fun o=>some o
def gl (N:Nat) (p0:kH):Option (Bool):=
 (kf N p0).bind fun j=>(gh N p0).bind fun o=>(kW N p0).bind fun aa=>(gF N p0).bind fun ab=>((kB N p0).bind fun ad=>(cU N p0).bind fun ae=>bif (ad==ae) then ((gw N j.1 o.1 (eF N)).bind fun af=>bif (af&&(j.2==o.2)) then ((lL N aa.1 ab.1).bind fun ag=>bif (ag&&(aa.2==ab.2)) then ((i9 N).bind fun ah=>some ah) else (some false)) else (some false)) else (some false)).bind fun ai=>some ai
end
end Go.Gk
namespace Go.Gk
open Go
def vL {R:Type} (m:Nat) (e:Nat->Option R):Option R:=(List.range m).findSome? e
theorem n9 {R:Type} {m:Nat} {e:Nat->Option R}:vL m e=none↔∀k,k<m->e k=none:=by
 simp [vL]
theorem o4 {R:Type} {m:Nat} {e:Nat->Option R} {r:R}:vL m e=some r↔∃k,k<m/\e k=some r/\∀j,j<k->e j=none:=by
 constructor
 ·intro h
  obtain⟨l1,a,l2,hl,ha,hn⟩:=List.findSome?_eq_some_iff.1 h
  have hlen:l1.length<m:=by have:=congrArg List.length hl;simp at this;omega
  have hget: ∀i,i<l1.length->l1[i]? =some i:=fun i hi=>by
   have:=congrArg (·[i]?) hl
   simp only [gL hi,List.getElem?_range (show i<m by omega)] at this
   exact this.symm
  have hat:a=l1.length:=by
   have:=congrArg (·[l1.length]?) hl
   simp [List.getElem?_range hlen] at this
   exact this.symm
  refine⟨a,by omega,ha,fun j hj=>hn j ?_⟩
  exact eZ (hget j (by omega))
 ·rintro⟨k,hk,he,hn⟩
  refine List.findSome?_eq_some_iff.2 ⟨List.range k,k,(List.range (m - k - 1)).map (· + (k+1)),?_,he,fun x hx=>hn x (ru.1 hx)⟩
  refine List.ext_getElem? fun i=>?_
  by_cases h1:i<k
  ·rw [gL (by simpa using h1),List.getElem?_range (by omega),List.getElem?_range h1]
  ·rw [gW (by simpa using h1),List.length_range]
   by_cases h2:i=k
   ·subst h2;simp [List.getElem?_range hk]
   ·obtain⟨d,rfl⟩: ∃d,i=k+1+d:=⟨i - (k+1),by omega⟩
    rw [show k+1+d - k=d+1 by omega,List.getElem?_cons_succ,gv]
    by_cases h3:k+1+d<m
    ·rw [List.getElem?_range h3,List.getElem?_range (by omega)];simp;omega
    ·rw [List.getElem?_eq_none (by simp;omega),List.getElem?_eq_none (by simp;omega)];rfl
section
variable {S R:Type}
def Gv (o:Option R) (s:S):Fl S R:=match o with | some r=> .rt r | none=> .nx s
def E3 (o:Option R) (s:S):Fo S R:=match o with | some r=> .rt r | none=> .go s
theorem DN {body:Nat->S->Option (Fl S R)} (F:Nat->S) (e:Nat->Option R) (m:Nat): ∀(n k:Nat),k+n=m->
  (∀j,k<=j->j<m->(∀i,k<=i->i<j->e i=none)->body j (F j)=some (Gv (e j) (F (j+1))))->
  ∃o,Cc body n k (F k)=some o/\((∀j,k<=j->j<m->e j=none)/\o = .go (F m)\/∃j r,k<=j/\j<m/\e j=some r/\(∀i,k<=i->i<j->e i=none)/\o = .rt r)
 | 0,k,hk,_=>⟨_,rfl, .inl ⟨fun j h1 h2=>by omega,by rw [show k=m by omega]⟩⟩
 | n+1,k,hk,h=>by
  have hb:=h k (bT _) (by omega) (fun i h1 h2=>by omega)
  unfold Cc
  rw [hb]
  cases hx:e k with
  | some r=>exact⟨_,rfl, .inr ⟨k,r,bT _,by omega,hx,fun i h1 h2=>by omega,rfl⟩⟩
  | none=>
   obtain⟨o,ho,hc⟩:=DN F e m n (k+1) (by omega) (fun j h1 h2 h3=>h j (by omega) h2 fun i h4 h5=>by
    by_cases h6:i=k
    ·subst h6;exact hx
    ·exact h3 i (by omega) h5)
   refine⟨o,ho,?_⟩
   rcases hc with ⟨h1,h2⟩ | ⟨j,r,h1,h2,h3,h4,h5⟩
   ·refine .inl ⟨fun j h3 h4=>?_,h2⟩
    by_cases h6:j=k
    ·subst h6;exact hx
    ·exact h1 j (by omega) h4
   ·refine .inr ⟨j,r,by omega,h2,h3,fun i h6 h7=>?_,h5⟩
    by_cases h8:i=k
    ·subst h8;exact hx
    ·exact h4 i (by omega) h7
theorem I5 {body:Nat->S->Option (Fl S R)} {m:Nat} {s:S} (F:Nat->S) (e:Nat->Option R) (hm:m<=4611686018427387904) (hs:F 0=s)
  (h: ∀k,k<m->(∀i,i<k->e i=none)->body k (F k)=some (Gv (e k) (F (k+1)))):ud m body s=some (E3 (vL m e) (F m)):=by
 subst hs
 unfold ud
 rw [aC hm]
 obtain⟨o,ho,hc⟩:=DN F e m m 0 (by omega) (fun j _ h2 h3=>h j h2 fun i hi=>h3 i (dJ _) hi)
 rw [ho]
 rcases hc with ⟨h1,h2⟩ | ⟨j,r,_,h2,h3,h4,h5⟩
 ·rw [n9.2 fun k hk=>h1 k (dJ _) hk,h2];rfl
 ·rw [o4.2 ⟨j,h2,h3,fun i hi=>h4 i (dJ _) hi⟩,h5];rfl
theorem sA {body:Nat->Unit->Option (Fl Unit R)} {m:Nat} (e:Nat->Option R) (hm:m<=4611686018427387904)
  (h: ∀k,k<m->(∀i,i<k->e i=none)->body k ()=some (Gv (e k) ())):ud m body ()=some (E3 (vL m e) ()):=
 I5 (fun _=>()) e hm rfl h
theorem xv {body:S->Option (Fl S R)} (Inv:S->Prop) (μ:S->Nat) (Go:S->Prop) (Rt:R->Prop)
  (h: ∀s,Inv s->∃fl,body s=some fl/\match fl with | .nx s'=>Inv s'/\μ s'<μ s | .br s'=>Go s' | .rt r=>Rt r):
  ∀(N:Nat) (s:S),Inv s->μ s<N->∃o,jH body N s=some o/\match o with | .go s'=>Go s' | .rt r=>Rt r
 | 0,s,_,hn=>by omega
 | N+1,s,hi,hn=>by
  obtain⟨fl,hb,hf⟩:=h s hi
  unfold jH
  rw [hb]
  cases fl with
  | nx s'=>exact xv Inv μ Go Rt h N s' hf.1 (by have:=hf.2;omega)
  | br s'=>exact⟨_,rfl,hf⟩
  | rt r=>exact⟨_,rfl,hf⟩
theorem DO {body:Nat->S->Option (Fl S R)} (Inv:Nat->S->Prop) (Go:S->Prop) (Rt:R->Prop) (m:Nat)
  (h: ∀k s,k<m->Inv k s->∃fl,body k s=some fl/\match fl with | .nx s'=>Inv (k+1) s' | .br s'=>Go s' | .rt r=>Rt r) (hg: ∀s,Inv m s->Go s):
  ∀(n k:Nat) (s:S),k+n=m->Inv k s->∃o,Cc body n k s=some o/\match o with | .go s'=>Go s' | .rt r=>Rt r
 | 0,k,s,hk,hi=>⟨_,rfl,hg s (by rw [<-hk];exact hi)⟩
 | n+1,k,s,hk,hi=>by
  obtain⟨fl,hb,hf⟩:=h k s (by omega) hi
  unfold Cc
  rw [hb]
  cases fl with
  | nx s'=>exact DO Inv Go Rt m h hg n (k+1) s' (by omega) hf
  | br s'=>exact⟨_,rfl,hf⟩
  | rt r=>exact⟨_,rfl,hf⟩
theorem I6 {body:Nat->S->Option (Fl S R)} {m:Nat} {s:S} (Inv:Nat->S->Prop) (Go:S->Prop) (Rt:R->Prop) (hm:m<=4611686018427387904) (h0:Inv 0 s)
  (h: ∀k s,k<m->Inv k s->∃fl,body k s=some fl/\match fl with | .nx s'=>Inv (k+1) s' | .br s'=>Go s' | .rt r=>Rt r) (hg: ∀s,Inv m s->Go s):
  ∃o,ud m body s=some o/\match o with | .go s'=>Go s' | .rt r=>Rt r:=by
 unfold ud
 rw [aC hm]
 exact DO Inv Go Rt m h hg m 0 s (by omega) h0
theorem DQ {body:Nat->S->Option S} (Inv:Nat->S->Prop) (m:Nat) (h: ∀k s,k<m->Inv k s->∃s',body k s=some s'/\Inv (k+1) s'):
  ∀(n k:Nat) (s:S),k+n=m->Inv k s->∃s',Ha body n k s=some s'/\Inv m s'
 | 0,k,s,hk,hi=>⟨_,rfl,by rw [<-hk];exact hi⟩
 | n+1,k,s,hk,hi=>by
  obtain⟨s',hb,hf⟩:=h k s (by omega) hi
  unfold Ha
  rw [hb]
  exact DQ Inv m h n (k+1) s' (by omega) hf
theorem zH {body:Nat->S->Option S} {m:Nat} {s:S} (Inv:Nat->S->Prop) (hm:m<=4611686018427387904) (h0:Inv 0 s)
  (h: ∀k s,k<m->Inv k s->∃s',body k s=some s'/\Inv (k+1) s'): ∃s',mV m body s=some s'/\Inv m s':=by
 unfold mV
 rw [aC hm]
 exact DQ Inv m h m 0 s (by omega) h0
end
section
variable {α β:Type}
theorem aB (x:α) (f:α->Option β): (some x).bind f=f x:=rfl
theorem k6 (l:List α) (k:Nat) (h:k<l.length):idx l ((k:Nat):Int)=some l[k]:=by
 unfold idx;rw [aC (by omega),cL,aN h]
theorem eI {l:List α} {k:Nat} {x:α} (h:l[k]? =some x):idx l ((k:Nat):Int)=some x:=by
 unfold idx;rw [aC (by omega),cL,h]
theorem DR (s:eJ) (k:Nat) (h:k<s.dA.length):EH s ((k:Nat):Int)=some s.dA[k]:=by
 unfold EH;rw [aC (by omega),cL,aN h]
theorem jq {k:Nat} (h:0<k) (hk:k<=4611686018427387904):IntKind.wrap .i64 (((k:Nat):Int) - 1)= ((k - 1:Nat):Int):=by
 rw [fD (by omega) (by omega)];omega
theorem qG (l:List α) (k:Nat) (h:k<=l.length):tm l 0 ((k:Nat):Int)=some (l.take k):=by
 unfold tm;rw [aC ⟨by omega,by omega,by omega⟩]
 simp only [Int.toNat_zero,List.drop_zero,Int.sub_zero,cL]
theorem pr (l:List α) (k:Nat) (h:k<=l.length):tm l ((k:Nat):Int) ((l.length:Nat):Int)=some (l.drop k):=by
 unfold tm;rw [aC ⟨by omega,by omega,by omega⟩]
 simp only [cL,Option.some.injEq]
 rw [lI];rw [iN];omega
theorem kM {b:Nat} {l ys:List α} (h: (l.length+ys.length)*b<=140737488355328):app b l ys=some (l++ys):=by unfold app;rw [aC h]
theorem rB {b:Nat} (z:α) {n:Nat} (h:n*b<=140737488355328):mk b z ((n:Nat):Int)=some (List.replicate n z):=by
 unfold mk
 have e: ((n:Nat):Int)* ((b:Nat):Int)= ((n*b:Nat):Int):=(Int.natCast_mul n b).symm
 rw [e]
 generalize n*b=q at h ⊢
 rw [aC ⟨by omega,by omega⟩,cL]
end
theorem eJ.ext' {a b:eJ} (h:a.dA=b.dA):a=b:=by cases a;cases b;simp at h;rw [h]
theorem Cu {a b:eJ}:a.tj b=true↔a=b:=by
 unfold eJ.tj;rw [beq_iff_eq];exact⟨eJ.ext',fun h=>by rw [h]⟩
theorem yU: ∀(a:List UInt8),Op.bytesLess a a=false
 | []=>rfl
 | a::l=>by
  unfold Op.bytesLess
  rw [yU l];simp
theorem Ab: ∀{a b c:List UInt8},Op.bytesLess a b=true->Op.bytesLess b c=true->Op.bytesLess a c=true
 | [],[],_,h,_=>by simp [Op.bytesLess] at h
 | [],_::_,[],_,h=>by simp [Op.bytesLess] at h
 | [],_::_,_::_,_,_=>rfl
 | _::_,[],_,h,_=>by simp [Op.bytesLess] at h
 | _::_,_::_,[],_,h=>by simp [Op.bytesLess] at h
 | a::l,b::m,c::n,h1,h2=>by
  unfold Op.bytesLess at h1 h2 ⊢
  simp only [dM,bW,bR,beq_iff_eq] at h1 h2 ⊢
  rcases h1 with h1 | ⟨rfl,h1⟩
  ·rcases h2 with h2 | ⟨rfl,h2⟩
   ·exact .inl (UInt8.lt_trans h1 h2)
   ·exact .inl h1
  ·rcases h2 with h2 | ⟨rfl,h2⟩
   ·exact .inl h2
   ·exact .inr ⟨rfl,Ab h1 h2⟩
theorem Ac: ∀(a b:List UInt8),Op.bytesLess a b=true\/a=b\/Op.bytesLess b a=true
 | [],[]=> .inr (.inl rfl)
 | [],_::_=> .inl rfl
 | _::_,[]=> .inr (.inr rfl)
 | a::l,b::m=>by
  unfold Op.bytesLess
  simp only [dM,bW,bR,beq_iff_eq]
  by_cases h1:a<b
  ·exact .inl (.inl h1)
  ·by_cases h2:b<a
   ·exact .inr (.inr (.inl h2))
   ·have e:a=b:=by
     simp only [UInt8.lt_iff_toNat_lt] at h1 h2
     exact UInt8.toNat_inj.1 (by omega)
    subst e
    rcases Ac l m with h | h | h
    ·exact .inl (.inr ⟨rfl,h⟩)
    ·exact .inr (.inl (by rw [h]))
    ·exact .inr (.inr (.inr ⟨rfl,h⟩))
theorem wD: ∀(a b:List UInt8),Lib.compareBytes a b<0↔Op.bytesLess a b=true
 | [],[]=>by simp [Lib.compareBytes,Op.bytesLess]
 | [],_::_=>by simp [Lib.compareBytes,Op.bytesLess]
 | _::_,[]=>by simp [Lib.compareBytes,Op.bytesLess]
 | a::l,b::m=>by
  unfold Lib.compareBytes Op.bytesLess
  simp only [dM,bW,bR,beq_iff_eq]
  split
  ·simp_all
  ·rename_i h1
   split
   ·rename_i h2
    have h3:a≠b:=fun e=>by subst e;exact h1 h2
    simp [h1,h3]
   ·rename_i h2
    have e:a=b:=by
     simp only [UInt8.lt_iff_toNat_lt] at h1 h2
     exact UInt8.toNat_inj.1 (by omega)
    subst e
    rw [wD l m];simp [h1]
theorem wE: ∀(a b:List UInt8),Lib.compareBytes a b=0↔a=b
 | [],[]=>by simp [Lib.compareBytes]
 | [],_::_=>by simp [Lib.compareBytes]
 | _::_,[]=>by simp [Lib.compareBytes]
 | a::l,b::m=>by
  unfold Lib.compareBytes
  split
  ·rename_i h1
   have h3:a≠b:=fun e=>by subst e;exact absurd h1 (by simp)
   simp [h3]
  ·rename_i h1
   split
   ·rename_i h2
    have h3:a≠b:=fun e=>by subst e;exact h1 h2
    simp [h3]
   ·rename_i h2
    have e:a=b:=by
     simp only [UInt8.lt_iff_toNat_lt] at h1 h2
     exact UInt8.toNat_inj.1 (by omega)
    subst e
    rw [wE l m];simp
def eJ.lt (a b:eJ):Prop:=a.tk b=true
theorem eJ.lt_irrefl (a:eJ): ¬eJ.lt a a:=by unfold eJ.lt eJ.tk;rw [yU];decide
theorem eJ.lt_trans {a b c:eJ} (h1:eJ.lt a b) (h2:eJ.lt b c):eJ.lt a c:=Ab h1 h2
theorem eJ.DS (a b:eJ):eJ.lt a b\/a=b\/eJ.lt b a:=by
 rcases Ac a.dA b.dA with h | h | h
 ·exact .inl h
 ·exact .inr (.inl (eJ.ext' h))
 ·exact .inr (.inr h)
theorem eJ.JL {a b:eJ} (h:eJ.lt a b):a≠b:=fun e=>by subst e;exact eJ.lt_irrefl a h
end Go.Gk
namespace Go.Gk
open Go
class Bk (α:Type) where
 bk:α->Nat
 pos: ∀x,1<=bk x
def bk {α:Type} [Bk α] (x:α):Nat:=Bk.bk x
theorem HQ {α:Type} [Bk α] (x:α):1<=bk x:=Bk.pos x
instance:Bk eJ:=⟨fun s=>s.dA.length+1,fun _=>by omega⟩
instance:Bk Int:=⟨fun _=>1,fun _=>by omega⟩
instance:Bk Bool:=⟨fun _=>1,fun _=>by omega⟩
instance {α:Type} [Bk α]:Bk (List α):=⟨fun l=>(l.map bk).sum+1,fun _=>by omega⟩
theorem HR {α:Type} [Bk α]:bk ([]:List α)=1:=rfl
theorem Cv {α:Type} [Bk α] (x:α) (l:List α):bk (x::l)=bk x+bk l:=by
 show (List.map bk (x::l)).sum+1=bk x+ ((List.map bk l).sum+1)
 simp;omega
theorem E4 {α:Type} [Bk α]: ∀{l:List α} {x:α},x∈l->bk x+1<=bk l
 | y::l,x,h=>by
  rw [Cv]
  rcases dF.1 h with h | h
  ·subst h;have:=HQ l;omega
  ·have:=E4 h;omega
theorem yr {α:Type} [Bk α]: ∀(l:List α),l.length+1<=bk l
 | []=>by rw [HR];simp
 | x::l=>by rw [Cv,dT];have:=yr l;have:=HQ x;omega
theorem HS (s:eJ):bk s=s.dA.length+1:=rfl
section
variable {α R:Type}
theorem Gw {l:List α} {e:Nat->Option R} (f:α->Option R) (h: ∀k x,l[k]? =some x->e k=f x):vL l.length e=l.findSome? f:=by
 cases hx:vL l.length e with
 | none=>
  refine(List.findSome?_eq_none_iff.2 fun x hm=>?_).symm
  obtain⟨k,hk⟩:=dZ hm
  rw [<-h k x hk];exact n9.1 hx k (bD.1 hk).1
 | some r=>
  obtain⟨k,hk,he,hn⟩:=o4.1 hx
  refine(List.findSome?_eq_some_iff.2 ⟨l.take k,l[k],l.drop (k+1),?_,?_,fun y hy=>?_⟩).symm
  ·rw [<-tn hk,List.take_append_drop]
  ·rw [<-h k l[k] (aN hk)];exact he
  ·obtain⟨j,hj⟩:=dZ hy
   have hjk:j<k:=by have:=(bD.1 hj).1;rw [cP] at this;omega
   rw [List.getElem?_take_of_lt hjk] at hj
   rw [<-h j y hj];exact hn j hjk
theorem Cw (l:List α) (p:α->Bool) (r:R):l.findSome? (fun x=>if p x=true then some r else none)=if l.any p=true then some r else none:=by
 induction l with
 | nil=>simp
 | cons x l ih=>
  rw [List.findSome?_cons,List.any_cons]
  cases h:p x <;> simp [ih]
theorem Ad {l:List α} {body:Nat->Unit->Option (Fl Unit R)} (f:α->Option R) (hl:l.length<=4611686018427387904)
  (h: ∀k x,l[k]? =some x->body k ()=some (Gv (f x) ())):ud l.length body ()=some (E3 (l.findSome? f) ()):=by
 have h2:=sA (body:=body) (m:=l.length) (fun k=>(l[k]?).bind f) hl (fun k hk _=>by
  rw [h k l[k] (aN hk),aN hk];rfl)
 rw [h2,Gw f (fun k x hx=>by rw [hx];rfl)]
theorem I7 {l:List α} {body:Nat->Unit->Option (Fl Unit R)} (p:α->Bool) (r:R) (hl:l.length<=4611686018427387904)
  (h: ∀k x,l[k]? =some x->body k ()=some (if p x=true then .rt r else .nx ())):ud l.length body ()=some (if l.any p=true then .rt r else .go ()):=by
 rw [Ad (fun x=>if p x=true then some r else none) hl (fun k x hx=>by rw [h k x hx];cases p x <;> rfl),Cw]
 cases l.any p <;> rfl
end
theorem I8 {β:Type} (b:Bool) (x y:β): (bif b then some x else some y)=some (bif b then x else y):=by cases b <;> rfl
section
variable {α β:Type}
def LW (l:List α) (p:α->Bool):Int:=match l.findIdx? p with | some k=>((k:Nat):Int) | none=> -1
theorem yt (l:List α) (p:α->Bool): (LW l p = -1/\∀x∈l,p x=false)\/∃k x,LW l p= ((k:Nat):Int)/\l[k]? =some x/\p x=true/\∀j y,j<k->l[j]? =some y->p y=false:=by
 unfold LW
 cases h:l.findIdx? p with
 | none=>exact .inl ⟨rfl,fun x hx=>by have:=List.findIdx?_eq_none_iff.1 h x hx;simpa using this⟩
 | some k=>
  obtain⟨hk,hp,hn⟩:=List.findIdx?_eq_some_iff_getElem.1 h
  refine .inr ⟨k,l[k],rfl,aN hk,hp,fun j y hj hy=>?_⟩
  have:=hn j hj
  rw [aN (by omega)] at hy
  injection hy with hy
  subst hy;simpa using this
theorem Kx (l:List α) (p:α->Bool):decide (LW l p>=0)=l.any p:=by
 rcases yt l p with ⟨h,hn⟩ | ⟨k,x,h,hx,hp,_⟩
 ·rw [h,List.any_eq_false.2 (fun x hx=>by rw [hn x hx];decide)];decide
 ·rw [h,kY.2 ⟨x,eZ hx,hp⟩];simp
def tB (p0:List α) (p1:α->Option Bool):Option Int:=
 (ud p0.length (fun(k1:Nat) (_:Unit)=>((idx p0 ((k1:Nat):Int)).bind fun x7=>(p1 x7).bind fun x10=>bif x10 then (some (.rt ((k1:Nat):Int))) else (some (.nx ())):Option (Fl (Unit) Int))) ()).bind fun o11=>o11.cs (fun(_:Unit)=>some (-1)) (fun r=>some r)
theorem v7 {l:List α} {φ:α->Option Bool} (p:α->Bool) (hl:l.length<=4611686018427387904) (h: ∀x∈l,φ x=some (p x)):tB l φ=some (LW l p):=by
 unfold tB
 rw [sA (fun k=>(l[k]?).bind fun x=>if p x=true then some ((k:Nat):Int) else none) hl (fun k hk _=>by
  rw [k6 l k hk,aB,h _ (cM hk),aB,aN hk]
  cases hp:p l[k] <;> simp [Gv,hp]),aB]
 rcases yt l p with ⟨h1,h2⟩ | ⟨k,x,h1,h2,h3,h4⟩
 ·rw [n9.2 (fun k hk=>by rw [aN hk];simp [h2 _ (cM hk)])]
  simp [E3,Fo.cs,h1]
 ·rw [(o4 (r:=((k:Nat):Int))).2 ⟨k,(bD.1 h2).1,by rw [h2];simp [h3],fun j hj=>by
   cases hy:l[j]? with
   | none=>rfl
   | some y=>simp [h4 j y hj hy]⟩]
  simp [E3,Fo.cs,h1]
def rU (p0:List α) (p1:α->Option Bool):Option Bool:=
 (tB p0 p1).bind fun x1=>some (decide (x1>=0))
theorem sB {l:List α} {φ:α->Option Bool} (p:α->Bool) (hl:l.length<=4611686018427387904) (h: ∀x∈l,φ x=some (p x)):rU l φ=some (l.any p):=by
 unfold rU
 rw [v7 p hl h,aB,Kx]
def E5 [DecidableEq α] (p0 p1:List α):Option Bool:=
 bif (((p0.length:Nat):Int) != ((p1.length:Nat):Int)) then (some false) else ((ud p0.length (fun(k1:Nat) (_:Unit)=>((idx p0 ((k1:Nat):Int)).bind fun x13=>(idx p1 ((k1:Nat):Int)).bind fun x16=>bif (!(decide (x13=x16))) then (some (.rt false)) else (some (.nx ())):Option (Fl (Unit) Bool))) ()).bind fun o23=>o23.cs (fun(_:Unit)=>some true) (fun r=>some r))
theorem yu [DecidableEq α] {l m:List α} (hl:l.length<=4611686018427387904):E5 l m=some (decide (l=m)):=by
 unfold E5
 by_cases h:l.length=m.length
 ·have e: (((l.length:Nat):Int) != ((m.length:Nat):Int))=false:=by rw [h];simp
  rw [e,aS]
  rw [sA (fun k=>if l[k]? =m[k]? then none else some false) hl (fun k hk _=>by
   rw [k6 l k hk,aB,k6 m k (by omega),aB,aN hk,aN (by omega:k<m.length)]
   by_cases hx:l[k]=m[k] <;> simp [Gv,hx]),aB]
  by_cases hx:l=m
  ·subst hx;rw [n9.2 (fun k _=>aC rfl)];simp [E3,Fo.cs]
  ·have: ∃r,vL l.length (fun k=>if l[k]? =m[k]? then none else some false)=some r:=by
    cases hf:vL l.length (fun k=>if l[k]? =m[k]? then none else some false) with
    | some r=>exact⟨r,rfl⟩
    | none=>
     exfalso;refine hx (List.ext_getElem? fun i=>?_)
     by_cases hi:i<l.length
     ·have:=n9.1 hf i hi
      by_cases h6:l[i]? =m[i]?
      ·exact h6
      ·rw [aH h6] at this;cases this
     ·rw [List.getElem?_eq_none (by omega),List.getElem?_eq_none (by omega)]
   obtain⟨r,hr⟩:=this
   have hr2:r=false:=by
    obtain⟨k,_,hk,_⟩:=o4.1 hr
    split at hk
    ·cases hk
    ·injection hk with hk;exact hk.symm
   rw [hr,hr2];simp [E3,Fo.cs,hx]
 ·have e: (((l.length:Nat):Int) != ((m.length:Nat):Int))=true:=by simp;omega
  rw [e,aQ,cF (fun h'=>h (by rw [h']))]
def HT (key:α->eJ) (l:List α):Prop:=∀(i j:Nat) (x y:α),i<j->l[i]? =some x->l[j]? =some y->eJ.lt (key x) (key y)
theorem HT.inj {key:α->eJ} {l:List α} (h:HT key l) {i j:Nat} {x y:α} (hx:l[i]? =some x) (hy:l[j]? =some y) (e:key x=key y):i=j:=by
 rcases Nat.lt_trichotomy i j with h1 | h1 | h1
 ·exact absurd e (eJ.JL (h i j x y h1 hx hy))
 ·exact h1
 ·exact absurd e.symm (eJ.JL (h j i y x h1 hy hx))
end
end Go.Gk
namespace Go.Gk
open Go Go.ChangeShapes Go.WideShapes Go.RowKit
structure UB (ub: (H:Type)->DataW H->Nat) (ua: (H:Type)->List (DataW H)->Nat):Prop where
 str: ∀(H:Type) (b:List UInt8),ub H (.lit (.string b))=b.length+1
 pos: ∀(H:Type) (d:DataW H),1<=ub H d
 sl: ∀(H:Type) (e s:List (DataW H)),ub H (.slice e s)=ua H e+ua H s+1
 ag: ∀(H:Type) (l:List (DataW H)),ub H (.agg l)=ua H l+1
 nil: ∀(H:Type),ua H []=0
 cons: ∀(H:Type) (x:DataW H) (l:List (DataW H)),ua H (x::l)=ub H x+ua H l
def Hw (w:World):eL:=fun b=>w.heap[b]?
structure mj (ub: (H:Type)->DataW H->Nat) (P:Program) (T:TypeId) (α:Type) [GT α] [Bk α]:Prop where
 trod: ∀{H:Type} {enc:TypeId×Value->H} {w:World} {base:Nat} {spare:Nat->Bool} {held:Bool} {fuel:Nat} {cs:List Value} {d:DataW H×List MemPlace},
  DataW.trod enc P w base spare held fuel T cs=some d->∃x:α,GT.ok (Hw w) cs x/\bk x<=ub H d.1
 LX: ∀{w:World} {r:Reach} {base:Nat} {v:Value},Value.okWide P w r base T v->v=wi α v.cells.toList
section
variable {ub: (H:Type)->DataW H->Nat} {ua: (H:Type)->List (DataW H)->Nat} {P:Program} {T e:TypeId}
theorem Gx (u:UB ub ua) (ht:P.underlying T=some (.int .i64)):mj ub P T Int where
 trod:=fun h=>by
  obtain⟨n,rfl,rfl,_⟩:=DataW.trod_int ht h
  exact⟨n,rfl,u.pos _ _⟩
 LX:=fun h=>by obtain⟨n,rfl⟩:=okWide_int ht h;rfl
theorem E6 (u:UB ub ua) (ht:P.underlying T=some .bool):mj ub P T Bool where
 trod:=fun h=>by
  obtain⟨n,rfl,rfl⟩:=DataW.trod_bool ht h
  exact⟨n,rfl,u.pos _ _⟩
 LX:=fun h=>by obtain⟨n,rfl⟩:=okWide_bool ht h;rfl
theorem Gy (u:UB ub ua) (ht:P.underlying T=some .string):mj ub P T eJ where
 trod:=fun h=>by
  obtain⟨s,rfl,rfl,_⟩:=DataW.trod_string ht h
  refine⟨⟨s.data.toList⟩,?_,?_⟩
  ·show [Value.string s]= [Gk.str ⟨s.data.toList⟩]
   cases s;rfl
  ·rw [u.str];exact bT _
 LX:=fun h=>by obtain⟨n,rfl⟩:=okWide_string ht h;rfl
theorem yV {α:Type} {R:Nat->α->Prop}: ∀(n:Nat),(∀i,i<n->∃x,R i x)->∃l:List α,l.length=n/\∀i x,l[i]? =some x->R i x
 | 0,_=>⟨[],rfl,fun i x h=>by simp at h⟩
 | n+1,h=>by
  obtain⟨l,h1,h2⟩:=yV n (fun i hi=>h i (by omega))
  obtain⟨x,hx⟩:=h n (by omega)
  refine⟨l++[x],by simp [h1],fun i y hy=>?_⟩
  by_cases hi:i<n
  ·rw [gL (by omega)] at hy;exact h2 i y hy
  ·have:=(bD.1 hy).1
   rw [cX] at this
   have:i=n:=by simp at this;omega
   subst this
   rw [gW (by omega),h1] at hy
   simp at hy;subst hy;exact hx
theorem BR {H α:Type} [Bk α] (u:UB ub ua): ∀{l:List α} {es:List (DataW H×List MemPlace)},l.length=es.length->
  (∀(i:Nat) (x:α) (y:DataW H×List MemPlace),l[i]? =some x->es[i]? =some y->bk x<=ub H y.1)->bk l<=ua H (es.map (·.1))+1
 | [],[],_,_=>by rw [HR];omega
 | x::l,y::es,hl,h=>by
  have h1:=h 0 x y rfl rfl
  have h2:=BR (H:=H) u (l:=l) (es:=es) (by simpa using hl) (fun i x y hx hy=>h (i+1) x y (by simpa using hx) (by simpa using hy))
  rw [Cv,eB,u.cons];omega
theorem DT {w:World} {base:Nat} {a:Addr} {n:Nat} {cs:List Value} (h:w.cells? base a n=some cs):At (Hw w) a cs:=by
 intro j v hv
 obtain⟨_,hlen,hc⟩:=World.cells?_some h
 have hj:=(bD.1 hv).1
 have h2:=hc j (by omega)
 rw [hv] at h2
 unfold wV Hw
 unfold World.cell? at h2
 exact h2
theorem tC {α:Type} [GT α] [Bk α] (u:UB ub ua) (he:mj ub P e α) (ht:P.underlying T=some (.slice e):=by kernel_rfl) (hc:P.cellsOf e=GT.sz α:=by kernel_rfl):mj ub P T (List α) where
 trod:=fun{H enc w base spare held fuel cs d} h=>by
  rcases DataW.trod_slice ht h with ⟨rfl,rfl⟩ | ⟨a,len,cap,elems,rest,n,_,rfl,rfl,_,hlc,hcm,hlen,hel,_⟩
  ·exact⟨[],⟨_,rfl,none,0,0,rfl,rfl,bT _,by simp [maxLen],fun i x hx=>by simp at hx⟩,u.pos _ _⟩
  ·have each: ∀i,i<len->∃x:α,(∃c y,GT.ok (Hw w) c x/\At (Hw w) (a.add (i*GT.sz α)) c/\elems[i]? =some y/\bk x<=ub H y.1):=by
    intro i hi
    have h1:=hel i hi
    rw [aN (by omega:i<elems.length),Option.bind_eq_some_iff] at h1
    obtain⟨c,h2,h3⟩:=h1
    obtain⟨x,h4,h5⟩:=he.trod h3
    refine⟨x,c,_,h4,?_,aN (by omega),h5⟩
    rw [hc] at h2
    exact DT h2
   obtain⟨l,hl,hr⟩:=yV len each
   refine⟨l,⟨_,rfl,some a,len,cap,rfl,hl.symm,hlc,hcm,fun i x hx=>?_⟩,?_⟩
   ·obtain⟨c,y,h1,h2,_⟩:=hr i x hx
    exact⟨a,c,rfl,h1,h2⟩
   ·have:=BR (H:=H) u (l:=l) (es:=elems) (by omega) (fun i x y hx hy=>by
     obtain⟨c,y',_,_,h3,h4⟩:=hr i x hx
     rw [hy] at h3;injection h3 with h3;subst h3;exact h4)
    rw [u.sl];omega
 LX:=fun h=>by obtain⟨a,n,c,rfl⟩:=okWide_slice ht h;rfl
def FT (ub: (H:Type)->DataW H->Nat) (ua: (H:Type)->List (DataW H)->Nat) (P:Program) (off:Nat) (fs:List Field) (β:Type) [GT β] (m:β->Nat):Prop:=
 ∀{H:Type} {enc:TypeId×Value->H} {w:World} {base:Nat} {spare:Nat->Bool} {held:Bool} {n:Nat} {cs:List Value} {ys:List (DataW H×List MemPlace)},
  (∀(i:Nat) (f:Field),fs[i]? =some f->DataW.trod enc P w base spare held n f.type ((cs.drop f.offset).take (P.cellsOf f.type))=ys[i]?)->ys.length=fs.length->
  cs.length=off+GT.sz β->∃x:β,GT.ok (Hw w) (cs.drop off) x/\m x<=ua H (ys.map (·.1))
theorem sC {β:Type} [GT β] [Bk β] {off:Nat} {f:Field} (u:UB ub ua) (h:mj ub P f.type β) (ho:f.offset=off) (hc:P.cellsOf f.type=GT.sz β:=by kernel_rfl):FT ub ua P off [f] β bk:=by
 intro H enc w base spare held n cs ys hf hl hcs
 match ys,hl with
 | [y],_=>
  have h1:=hf 0 f rfl
  rw [ho,hc,lI (by rw [iN];omega)] at h1
  obtain⟨x,h2,h3⟩:=h.trod (d:=y) h1
  exact⟨x,h2,by rw [eB,u.cons];omega⟩
theorem iY {α β:Type} [GT α] [GT β] [Bk α] {off off':Nat} {f:Field} {fs:List Field} {m:β->Nat} (u:UB ub ua) (h:mj ub P f.type α) (hr:FT ub ua P off' fs β m) (ho:f.offset=off:=by exact rfl) (hc:P.cellsOf f.type=GT.sz α:=by kernel_rfl) (hoff:off'=off+GT.sz α:=by exact rfl):FT ub ua P off (f::fs) (α×β) (fun x=>bk x.1+m x.2):=by
 intro H enc w base spare held n cs ys hf hl hcs
 have hsz:GT.sz (α×β)=GT.sz α+GT.sz β:=rfl
 match ys,hl with
 | y::ys,hl=>
  have h1:=hf 0 f rfl
  rw [ho,hc] at h1
  obtain⟨x,h2,h3⟩:=h.trod (d:=y) h1
  obtain⟨x',h4,h5⟩:=hr (n:=n) (cs:=cs) (ys:=ys) (fun i g hg=>hf (i+1) g hg) (by simpa using hl) (by omega)
  refine⟨(x,x'),⟨_,_,?_,h2,h4⟩,?_⟩
  ·rw [hoff,<-List.drop_drop,List.take_append_drop]
  ·rw [eB,u.cons];show bk x+m x'<=_;omega
theorem oL {γ β:Type} [GT β] [Bk γ] {fs:Array Field} {m:β->Nat} (u:UB ub ua) (f:γ->β) (g:β->γ) (hfg: ∀b,f (g b)=b) (ht:P.underlying T=some (.struct fs)) (h:FT ub ua P 0 fs.toList β m) (hm: ∀b,bk (g b)<=m b+1) (hc:P.cellsOf T=GT.sz β:=by kernel_rfl): @mj ub P T γ (GT.via f) _:=
 @mj.mk ub P T γ (GT.via f) _
  (fun{H enc w base spare held fuel cs d} hd=>by
   obtain⟨xs,n,_,rfl,hl,hlen,hf⟩:=DataW.trod_struct ht hd
   obtain⟨b,h1,h2⟩:=h (n:=n) (cs:=cs) (ys:=xs) (fun i g hg=>hf i g (by rw [<-Array.getElem?_toList];exact hg)) (by rw [hlen];simp) (by omega)
   refine⟨g b,?_,?_⟩
   ·show GT.ok (Hw w) cs (f (g b))
    rw [hfg];exact h1
   ·rw [u.ag];have:=hm b;omega)
  (fun hv=>by
   obtain⟨cs,rfl,_⟩:=okWide_struct ht hv
   cases cs;rfl)
theorem mj.arg {H:Type} {enc:TypeId×Value->H} {w:World} {base:Nat} {spare:Nat->Bool} {held:Bool} {r:Reach} {b0:Nat} {v:Value} {d:DataW H} {ps:List MemPlace} {α:Type} [GT α] [Bk α] (o:mj ub P T α)
  (hv:Value.okWide P w r b0 T v) (hd:DataW.Trod enc P w base spare held T v d ps): ∃x:α,wj (Hw w) v x/\bk x<=ub H d:=by
 obtain⟨fuel,hf⟩:=hd
 obtain⟨x,h1,h2⟩:=o.trod hf
 exact⟨x,⟨_,o.LX hv,h1⟩,h2⟩
end
theorem Calls.fin {P:Program} {f:FuncId} {args:Array Value} {w:World} {R Q:Value->World->Prop} (h:Calls P f args w (gQ R)) (k: ∀v w',R v w'->Q v w'):
  Calls P f args w (fun e W'=>∃v,e = .returned v/\Q v W'):=Calls.mono h fun _ w' ⟨v,e,hr⟩=>⟨v,e,k v w' hr⟩
def gV (W:World):HP:=⟨fun M h=>hle (Hw W) M/\h=q7,fun k ⟨a,b⟩=>⟨Gc a k,b⟩⟩
theorem Holds.begin (W:World):Holds W W [gV W]:=by
 refine⟨Hw W,fun _=>q7,⟨rfl,rfl,rfl,bT _,fun b o h=>h,fun i Pr hq=>?_,fun _ _ _ _ h=>(by cases h),fun _ _ _ _ h=>(by cases h),fun _ _ _ _ _ _ _ h=>(by cases h)⟩⟩
 match i,hq with
 | 0,hq=>simp at hq;subst hq;exact⟨G6 _,rfl⟩
theorem Holds.LY {α:Type} [GT α] {W:World} {V:List HP} {v:Value} {x:α} (h:Holds W W (V++[gV W])) (hv:Gk.wj (Hw W) v x):Holds W W (rd v x::(V++[gV W])):=
 h.Bc fun M hs g=>by
  have h1:=(g.sat V.length (gV W) (by simp)).1
  exact⟨hv.mono h1,rfl⟩
theorem Holds.kept {E W w:World} {V:List HP} (h:Holds E w (V++[gV W])) (he:E=W):Below W.heap.size W w:=by
 subst he
 obtain⟨M,hs,g⟩:=h
 have h1:=(g.sat V.length (gV E) (by simp)).1
 have h2: ∀k o,E.heap[k]? =some o->w.heap[k]? =some o:=fun k o ho=>g.im k o (h1 k o ho)
 refine⟨g.os,g.tape,g.out,?_,fun k hk=>?_⟩
 ·by_cases h0:E.heap.size=0
  ·omega
  ·have h3:=h2 (E.heap.size - 1) _ (ik (by omega))
   have:=(Array.getElem?_eq_some_iff.1 h3).1
   omega
 ·rw [ik hk];exact h2 k _ (ik hk)
section
variable {H:Type} {enc:TypeId×Value->H} {P:Program}
theorem Gz {f:Func} {s:ChangeSpec} {apart fresh handsOn again:Bool} {W W':World} {args:Array Value} {v:Value} {ds gs:List (DataW H)} {before pa pv:List MemPlace}
  (hW:DataW.Whole enc P f.params.toList s.vars apart W args.toList ds gs before)
  (hres: ∀(b:Nat) (sp:Nat->Bool) (hd:Bool),DataW.TrodAll enc P W' b sp hd f.resultTypes.toList (v.resultList f.resultTypes.size) (s.fn H (ds++gs)).results [])
  (hargs: ∀sp:Nat->Bool,(∀p∈before,sp p.block=true)->DataW.TrodAll enc P W' 0 sp true f.params.toList args.toList (s.fn H (ds++gs)).args pa)
  (hvars: ∀sp:Nat->Bool,(∀p∈before,sp p.block=true)->DataW.TrodVars enc P W' sp s.vars (s.fn H (ds++gs)).vars pv)
  (hps:before=pa++pv) (hb:Below W.heap.size W W')
  (hok: ∀(j:Nat) (t:TypeId) (r:Value),f.resultTypes[j]? =some t->(v.resultList f.resultTypes.size)[j]? =some r->Value.okWide P W' .any 0 t r):
  s.post enc P f apart fresh handsOn again W args v W':=by
 have hlt: ∀p∈before,p.block<W.heap.size:=fun p hp=>hW.lt p hp
 have hold: ∀p∈before,(fun b=>decide (b<W.heap.size)) p.block=true:=fun p hp=>by simpa using hlt p hp
 refine⟨ds,gs,before,[],pa,pv,hW,hres _ _ _,hargs _ hold,hvars _ hold,World.keptBut_mono (fun p hp=>⟨hp,?_⟩) (hb.frame (· ∈before)),fun _=>?_⟩
 ·rw [hps,dC] at hp
  exact Or.inr hp
 ·obtain⟨_,_,_,_,_,hz,hn⟩:=hW
  refine⟨hok,_,_,([]++pa)++pv,⟨[]++pa,pv,trodAll_append (hargs _ (fun _ _=>rfl)) (hres _ _ _),hvars _ (fun _ _=>rfl),rfl,?_,?_⟩,?_⟩
  ·intro b off hp
   have hin:MemPlace.cell b off∈before:=by rw [hps];simpa using hp
   rw [hb.frozen (hlt _ hin)]
   exact hz b off hin
  ·intro ha
   have:=hn ha
   rw [hps] at this
   simpa using this
  ·intro p hp _
   rw [hps]
   simpa using hp
theorem v8 {W W':World} (hl:laidOutB P=true) (hb:Below W.heap.size W W') {sp:Nat->Bool}: ∀{ts:List TypeId} {vs:List Value} {ds:List (DataW H)} {ps:List MemPlace},
  (∀t∈ts,P.readableRec t=true/\t<P.types.size)->DataW.TrodAll enc P W 0 (fun _=>true) true ts vs ds ps->(∀p∈ps,p.block<W.heap.size)->(∀p∈ps,sp p.block=true)->DataW.TrodAll enc P W' 0 sp true ts vs ds ps
 | [],_,_,_,_,h,_,_=>by
  obtain⟨rfl,rfl,rfl⟩:=trodAll_nil h
  rfl
 | t::ts,_,_,_,ht,h,hlt,hsp=>by
  obtain⟨v,vs,d,ds,p,q,rfl,rfl,rfl,h1,h2⟩:=trodAll_cons h
  refine⟨p,q,?_,v8 hl hb (fun t h=>ht t (by simp [h])) h2 (fun x hx=>hlt x (by simp [hx])) (fun x hx=>hsp x (by simp [hx])),rfl⟩
  exact WideElems.Trod_stays hl (ht t (by simp)).1 (ht t (by simp)).2 h1 (fun x hx=>hb.same (hlt x (by simp [hx]))) (fun x hx=>hsp x (by simp [hx]))
end
end Go.Gk
namespace Go.Gk
open Go
instance:Bk aI:=⟨fun x=>bk x.X0+bk x.Y0+bk x.X1+bk x.Y1+1,fun _=>by omega⟩
theorem I9 (x:aI):bk x=bk x.X0+bk x.Y0+bk x.X1+bk x.Y1+1:=rfl
instance:Bk eQ:=⟨fun x=>bk x.X+bk x.Y+1,fun _=>by omega⟩
theorem HU (x:eQ):bk x=bk x.X+bk x.Y+1:=rfl
instance:Bk cE:=⟨fun x=>bk x.At+bk x.dH+bk x.cR+bk x.To+bk x.fY+1,fun _=>by omega⟩
theorem Ja (x:cE):bk x=bk x.At+bk x.dH+bk x.cR+bk x.To+bk x.fY+1:=rfl
instance:Bk fP:=⟨fun x=>bk x.Part+bk x.fG+bk x.cK+bk x.At+1,fun _=>by omega⟩
theorem FU (x:fP):bk x=bk x.Part+bk x.fG+bk x.cK+bk x.At+1:=rfl
instance:Bk kH:=⟨fun x=>bk x.aJ+bk x.cH+bk x.aO+bk x.bV+1,fun _=>by omega⟩
theorem HV (x:kH):bk x=bk x.aJ+bk x.cH+bk x.aO+bk x.bV+1:=rfl
instance:Bk aA:=⟨fun x=>bk x.Y0+bk x.Y1+bk x.Xs+1,fun _=>by omega⟩
instance:Bk fG:=⟨fun x=>bk x.Part+bk x.fG+1,fun _=>by omega⟩
instance:Bk aK:=⟨fun x=>bk x.cK+bk x.Set+bk x.gz+1,fun _=>by omega⟩
instance:Bk cN:=⟨fun x=>bk x.j9+bk x.aO+bk x.gq+1,fun _=>by omega⟩
instance:Bk j4:=⟨fun x=>bk x.cE+bk x.Number+1,fun _=>by omega⟩
instance:Bk aF:=⟨fun x=>bk x.from_+bk x.to+1,fun _=>by omega⟩
instance:Bk aL:=⟨fun x=>bk x.from_+bk x.to+bk x.ja+1,fun _=>by omega⟩
instance:Bk Piece:=⟨fun x=>bk x.cK+bk x.Dp+bk x.Hr+1,fun _=>by omega⟩
end Go.Gk
namespace Go.Gk
open Go Go.Proofs Go.Sort
section
variable {α:Type}
theorem yW {β:Type} (a:Array β) {n:Nat} (h:a.size=n):a.extract 0 n=a:=by subst h;exact Array.extract_size
theorem Ky {φ:α->α->Option Int} {l:List α} (cf:α->α->Int) (hφ: ∀x∈l,∀y∈l,φ x y=some (cf x y)) (h1: ∀x∈l,¬cf x x<0)
  (h2: ∀x∈l,∀y∈l,∀z∈l,cf x y<0->cf y z<0->cf x z<0) (h3: ∀x∈l,∀y∈l,∀z∈l,¬cf x y<0->¬cf y z<0->¬cf x z<0):SWO (ltOf (Ez φ l)):=by
 have hm: ∀i:Fin l.length,l[i]∈l:=fun i=>cM i.isLt
 have e: ∀i j:Fin l.length,Ez φ l i j=cf l[i] l[j]:=fun i j=>by unfold Ez;rw [hφ _ (hm i) _ (hm j)];rfl
 refine⟨fun x=>?_,fun x y z=>?_,fun x y z=>?_⟩
 ·simp only [ltOf,e,decide_eq_false_iff_not];exact h1 _ (hm _)
 ·simp only [ltOf,e,decide_eq_true_iff];exact h2 _ (hm _) _ (hm _) _ (hm _)
 ·simp only [ltOf,e,decide_eq_false_iff_not];exact h3 _ (hm _) _ (hm _) _ (hm _)
theorem Ah {φ:α->α->Option Int} {l:List α} (cf:α->α->Int) (hφ: ∀x∈l,∀y∈l,φ x y=some (cf x y)) (h1: ∀x∈l,¬cf x x<0)
  (h2: ∀x∈l,∀y∈l,∀z∈l,cf x y<0->cf y z<0->cf x z<0) (h3: ∀x∈l,∀y∈l,∀z∈l,¬cf x y<0->¬cf y z<0->¬cf x z<0) (hl:l.length<4611686018427387904):
  ∃m,w6 φ l=some m/\m.Perm l/\m.Pairwise (fun x y=>¬cf y x<0):=by
 have hO:=Ky cf hφ h1 h2 h3
 have hm: ∀i:Fin l.length,l[i]∈l:=fun i=>cM i.isLt
 have hc: (∀i j:Fin l.length,∃c,φ l[i] l[j]=some c):=fun i j=>⟨_,hφ _ (hm i) _ (hm j)⟩
 refine⟨FI φ l,by unfold w6;rw [aC ⟨⟨hc,hO⟩,hl⟩],?_⟩
 unfold FI
 by_cases hn:0<l.length
 ·rw [dif_pos hn]
  letI inh:Inhabited (Fin l.length):=⟨⟨0,hn⟩⟩
  have hds: (Array.ofFn fun i:Fin l.length=>i).size=l.length:=by simp
  obtain⟨hp,hs⟩:=pdq_sorts (ltOf (Ez φ l)) hO (Array.ofFn fun i:Fin l.length=>i) 0 l.length (Lib.bitLen l.length) true true (dJ _) (by rw [hds];exact bT _) (Or.inl rfl)
  show (List.map (fun i=>l[i]) (pdq (ltOf (Ez φ l)) (Array.ofFn fun i:Fin l.length=>i) 0 l.length (Lib.bitLen l.length) true true).toList).Perm l/\_
  generalize pdq (ltOf (Ez φ l)) (Array.ofFn fun i:Fin l.length=>i) 0 l.length (Lib.bitLen l.length) true true=d' at hp hs
  obtain⟨hz,_,hpm⟩:=hp
  have hz':d'.size=l.length:=hz.trans hds
  rw [yW d' hz',yW _ hds] at hpm
  have hof: (Array.ofFn fun i:Fin l.length=>i).toList.map (fun i=>l[i])=l:=by
   rw [Array.toList_ofFn,List.map_ofFn]
   exact List.ofFn_getElem
  refine⟨(hpm.map (fun i=>l[i])).trans (List.Perm.of_eq hof),?_⟩
  rw [List.pairwise_map,mX]
  intro i j hi hj hij
  rw [Array.length_toList] at hi hj
  have:=hs i j (dJ _) hij (by rw [<-hz'];exact hj)
  rw [getElem!_pos d' i hi,getElem!_pos d' j hj] at this
  have hij2:=hφ _ (hm (d'[j])) _ (hm (d'[i]))
  have hij3:Ez φ l d'[j] d'[i]=cf l[d'[j]] l[d'[i]]:=by unfold Ez;rw [hij2];rfl
  unfold ltOf at this
  rw [decide_eq_false_iff_not,hij3] at this
  exact this
 ·rw [dif_neg hn]
  have:l= []:=List.length_eq_zero_iff.1 (by omega)
  subst this
  exact⟨List.Perm.refl _,jX⟩
theorem BS {φ:α->α->Option Int} {x:α} (h:φ x x=some 0):w6 φ [x]=some [x]:=by
 obtain⟨m,h1,h2,_⟩:=Ah (φ:=φ) (l:=[x]) (fun _ _=>0) (fun a ha b hb=>by simp at ha hb;rw [ha,hb];exact h) (fun _ _=>by decide) (fun _ _ _ _ _ _ h=>by simp at h) (fun _ _ _ _ _ _ _ _=>by decide) (by simp)
 rw [h1,List.perm_singleton.1 h2]
theorem Bq {l:List Int} (h:l.Pairwise (fun x y=>x<=y)) (hl:l.length<4611686018427387904):uF l=some l:=by
 unfold uF
 rw [aC hl,List.mergeSort_of_pairwise (by simpa using h)]
end
end Go.Gk
namespace Go.Gk
open Go
def o9 (l:List Int) (x:Int):Nat:=l.countP (fun a=>decide (a<=x))
def oX (l:List Int) (x:Int):Bool:=o9 l x % 2==1
def jG (l:List Int):Prop:=l.Pairwise (· < ·)
theorem FV (x:Int):o9 [] x=0:=rfl
theorem pE (a:Int) (l:List Int) (x:Int):o9 (a::l) x= (if a<=x then 1 else 0)+o9 l x:=by
 unfold o9
 rw [List.countP_cons]
 by_cases h:a<=x <;> simp [h];omega
theorem Ai (l m:List Int) (x:Int):o9 (l++m) x=o9 l x+o9 m x:=List.countP_append
theorem FW {l:List Int} {x:Int} (h: ∀a∈l,a<=x):o9 l x=l.length:=by
 unfold o9;rw [List.countP_eq_length];intro a ha;simpa using h a ha
theorem Aj {l:List Int} {x:Int} (h: ∀a∈l,x<a):o9 l x=0:=by
 unfold o9;rw [List.countP_eq_zero];intro a ha;have:=h a ha;simp;omega
theorem xG {l:List Int} {x:Int}:oX l x=true↔o9 l x % 2=1:=by unfold oX;simp
theorem xH {l:List Int} {x:Int} (h: ∀a∈l,x<a):oX l x=false:=by unfold oX;rw [Aj h];rfl
theorem jG.head {a:Int} {l:List Int} (h:jG (a::l)): ∀b∈l,a<b:=(ov.1 h).1
theorem jG.tail {a:Int} {l:List Int} (h:jG (a::l)):jG l:=(ov.1 h).2
theorem xI {a:Int} {l:List Int} (h:jG (a::l)):oX (a::l) a=true:=by
 rw [xG,pE,aC (Int.le_refl _),Aj h.head]
theorem Ak: ∀{l m:List Int},jG l->jG m->(∀x,oX l x=oX m x)->l=m
 | [],[],_,_,_=>rfl
 | [],b::m,_,hm,h=>by have:=h b;rw [xI hm] at this;cases this
 | a::l,[],hl,_,h=>by have:=h a;rw [xI hl] at this;cases this
 | a::l,b::m,hl,hm,h=>by
  have hab:a=b:=by
   rcases Int.lt_trichotomy a b with h1 | h1 | h1
   ·have h2:=h a
    rw [xI hl,xH (l:=b::m) (fun c hc=>by
     rcases dF.1 hc with rfl | hc
     ·exact h1
     ·have:=hm.head c hc;omega)] at h2
    cases h2
   ·exact h1
   ·have h2:=h b
    rw [xI hm,xH (l:=a::l) (fun c hc=>by
     rcases dF.1 hc with rfl | hc
     ·exact h1
     ·have:=hl.head c hc;omega)] at h2
    cases h2
  subst hab
  rw [Ak hl.tail hm.tail (fun x=>?_)]
  by_cases hx:a<=x
  ·have h2:=h x
   unfold oX at h2 ⊢
   rw [pE,pE,aC hx] at h2
   rw [eX] at h2 ⊢
   simp only [beq_iff_eq] at h2 ⊢
   omega
  ·rw [xH (fun c hc=>by have:=hl.head c hc;omega),xH (fun c hc=>by have:=hm.head c hc;omega)]
theorem xJ {l:List Int} {a b:Int} (hl: ∀c∈l,c<a) (he:l.length % 2=0) (hab:a<b) (x:Int):oX (l++[a,b]) x= (oX l x||(decide (a<=x)&&decide (x<b))):=by
 rw [eX,dM,bW,bR,bR,xG,xG,Ai,pE,pE,FV]
 by_cases h1:a<=x
 ·have h2:o9 l x=l.length:=FW fun c hc=>by have:=hl c hc;omega
  rw [h2,aC h1]
  by_cases h3:b<=x
  ·rw [aC h3];omega
  ·rw [aH h3];omega
 ·rw [aH h1,aH (by omega)];omega
theorem HW {l:List Int} {s e a b:Int} (hl: ∀c∈l,c<s) (he:l.length % 2=0) (hs:s<e) (h1:s<=a) (h2:a<=e) (hab:a<b) (x:Int):oX (l++[s,max e b]) x= (oX (l++[s,e]) x||(decide (a<=x)&&decide (x<b))):=by
 rw [xJ hl he (by omega),xJ hl he hs]
 rw [eX]
 simp only [dM,bW,bR]
 constructor
 ·rintro(h | h)
  ·exact .inl (.inl h)
  ·by_cases hx:x<e
   ·exact .inl (.inr ⟨h.1,hx⟩)
   ·exact .inr ⟨by omega,by omega⟩
 ·rintro((h | h) | h)
  ·exact .inl h
  ·exact .inr ⟨h.1,by omega⟩
  ·exact .inr ⟨by omega,by omega⟩
theorem jG.snoc {l:List Int} {a b:Int} (h:jG l) (hl: ∀c∈l,c<a) (hab:a<b):jG (l++[a,b]):=by
 unfold jG
 rw [mW]
 refine⟨h,by simp [hab],fun c hc d hd=>?_⟩
 have:=hl c hc
 simp at hd
 rcases hd with rfl | rfl <;> omega
structure Bd where
 y0:Int
 y1:Int
 xs:List Int
def rowAt:List Bd->Int->List Int
 | [],_=>[]
 | b::s,y=>if b.y0<=y/\y<b.y1 then b.xs else rowAt s y
theorem mO (b:Bd) (s:List Bd) (y:Int):rowAt (b::s) y=if b.y0<=y/\y<b.y1 then b.xs else rowAt s y:=rfl
structure eP (s:List Bd):Prop where
 each: ∀b∈s,b.y0<b.y1/\b.xs≠[]/\jG b.xs/\b.xs.length % 2=0
 ord:s.Pairwise (fun b c=>b.y1<=c.y0/\(b.y1=c.y0->b.xs≠c.xs))
theorem eP.nil:eP []:=⟨fun b h=>by simp at h,jX⟩
theorem eP.tail {b:Bd} {s:List Bd} (h:eP (b::s)):eP s:=⟨fun c hc=>h.each c (il _ hc),(ov.1 h.ord).2⟩
theorem lO {s:List Bd} {y:Int} (h: ∀b∈s,y<b.y0\/b.y1<=y):rowAt s y= []:=by
 induction s with
 | nil=>rfl
 | cons b s ih=>
  unfold rowAt
  have:=h b (by simp)
  rw [aH (by omega)]
  exact ih fun c hc=>h c (il _ hc)
theorem qe (s t:List Bd) (y:Int):rowAt (s++t) y=if (∃b∈s,b.y0<=y/\y<b.y1) then rowAt s y else rowAt t y:=by
 induction s with
 | nil=>simp
 | cons b s ih=>
  rw [List.cons_append,mO,mO]
  by_cases h:b.y0<=y/\y<b.y1
  ·rw [aC h,aC ⟨b,by simp,h⟩,aC h]
  ·rw [aH h,ih]
   by_cases h2: ∃c∈s,c.y0<=y/\y<c.y1
   ·obtain⟨c,hc,hc2⟩:=h2
    rw [aC ⟨c,hc,hc2⟩,aC ⟨c,il _ hc,hc2⟩,aH h]
   ·rw [aH h2,aH (show ¬∃c∈b::s,c.y0<=y/\y<c.y1 from ?_)]
    rintro⟨c,hc,hc2⟩
    rcases dF.1 hc with rfl | hc
    ·exact h hc2
    ·exact h2 ⟨c,hc,hc2⟩
theorem eP.mP {b:Bd} {s:List Bd} {y:Int} (h0:b.y0<=y) (h1:y<b.y1):rowAt (b::s) y=b.xs:=by unfold rowAt;rw [aC ⟨h0,h1⟩]
theorem eP.Al {b:Bd} {s:List Bd} (h:eP (b::s)): ∀c∈s,b.y1<=c.y0:=fun c hc=>((ov.1 h.ord).1 c hc).1
theorem eP.vn {b:Bd} {s:List Bd} (h:eP (b::s)) {y:Int} (hy:y<b.y0):rowAt (b::s) y= []:=lO fun c hc=>by
 rcases dF.1 hc with rfl | hc
 ·exact .inl hy
 ·have:=h.Al c hc;have:=(h.each b (by simp)).1;exact .inl (by omega)
theorem eP.FX {b:Bd} {s:List Bd} (h:eP (b::s)):rowAt (b::s) b.y1≠b.xs:=by
 rw [mO,aH (by omega)]
 cases s with
 | nil=>exact fun e=>(h.each b (by simp)).2.1 e.symm
 | cons c s=>
  have h1:=(ov.1 h.ord).1 c (by simp)
  by_cases e:b.y1=c.y0
  ·rw [eP.mP (by omega) (by have:=(h.tail.each c (by simp)).1;omega)]
   exact fun h=>h1.2 e h.symm
  ·rw [h.tail.vn (by have:=h1.1;omega)]
   exact fun e=>(h.each b (by simp)).2.1 e.symm
theorem Am: ∀{s t:List Bd},eP s->eP t->(∀y,rowAt s y=rowAt t y)->s=t
 | [],[],_,_,_=>rfl
 | [],c::t,_,ht,h=>by
  have hc:=ht.each c (by simp)
  have:=h c.y0
  rw [eP.mP (Int.le_refl _) hc.1] at this
  exact absurd this.symm hc.2.1
 | b::s,[],hs,_,h=>by
  have hb:=hs.each b (by simp)
  have:=h b.y0
  rw [eP.mP (Int.le_refl _) hb.1] at this
  exact absurd this hb.2.1
 | b::s,c::t,hs,ht,h=>by
  have hb:=hs.each b (by simp)
  have hc:=ht.each c (by simp)
  have e0:b.y0=c.y0:=by
   rcases Int.lt_trichotomy b.y0 c.y0 with h1 | h1 | h1
   ·have h2:=h b.y0
    rw [eP.mP (Int.le_refl _) hb.1,ht.vn h1] at h2
    exact absurd h2 hb.2.1
   ·exact h1
   ·have h2:=h c.y0
    rw [eP.mP (Int.le_refl _) hc.1,hs.vn h1] at h2
    exact absurd h2.symm hc.2.1
  have ex:b.xs=c.xs:=by
   have h2:=h b.y0
   rw [eP.mP (Int.le_refl _) hb.1,eP.mP (by omega) (by omega)] at h2
   exact h2
  have e1:b.y1=c.y1:=by
   rcases Int.lt_trichotomy b.y1 c.y1 with h1 | h1 | h1
   ·have h2:=h b.y1
    rw [eP.mP (b:=c) (by omega) h1] at h2
    exact absurd (h2.trans ex.symm) hs.FX
   ·exact h1
   ·have h2:=h c.y1
    rw [eP.mP (b:=b) (by omega) h1] at h2
    exact absurd (h2.symm.trans ex) ht.FX
  have ebc:b=c:=by cases b;cases c;simp_all
  subst ebc
  rw [Am hs.tail ht.tail (fun y=>?_)]
  by_cases hy:b.y1<=y
  ·have h2:=h y
   unfold rowAt at h2
   rw [aH (by omega),aH (by omega)] at h2
   exact h2
  ·rw [lO (fun d hd=>by have:=hs.Al d hd;exact .inl (by omega)),lO (fun d hd=>by have:=ht.Al d hd;exact .inl (by omega))]
def uz (s:List Bd) (x y:Int):Bool:=oX (rowAt s y) x
theorem BT {s:List Bd} (h: ∀b∈s,jG b.xs) (y:Int):jG (rowAt s y):=by
 induction s with
 | nil=>exact jX
 | cons b s ih=>
  unfold rowAt
  split
  ·exact h b (by simp)
  ·exact ih fun c hc=>h c (il _ hc)
theorem tK {s t:List Bd} (hs:eP s) (ht:eP t) (h: ∀x y,uz s x y=uz t x y):s=t:=
 Am hs ht fun y=>Ak (BT (fun b hb=>(hs.each b hb).2.2.1) y) (BT (fun b hb=>(ht.each b hb).2.2.1) y) fun x=>h x y
def jN (s:List Bd) (b:Bd):List Bd:=
 if b.xs= []\/b.y1<=b.y0 then s else
  match s.getLast? with
  | some c=>if c.y1=b.y0/\c.xs=b.xs then s.dropLast++[⟨c.y0,b.y1,c.xs⟩] else s++[b]
  | none=>[b]
theorem qQ {α:Type} {s:List α} {c:α} (h:s.getLast? =some c):s=s.dropLast++[c]:=by
 have hne:s≠[]:=fun e=>by rw [e] at h;cases h
 rw [List.getLast?_eq_some_getLast hne] at h
 injection h with h
 rw [<-h];exact(List.dropLast_concat_getLast hne).symm
theorem vo {s:List Bd} {b:Bd} (hs: ∀c∈s,c.y1<=b.y0) (hg: ∀c∈s,c.y0<c.y1) (hb:b.y1<=b.y0->b.y1=b.y0) (y:Int):rowAt (jN s b) y=if b.y0<=y/\y<b.y1 then b.xs else rowAt s y:=by
 have key: ∀(s:List Bd) (c:Bd),(∀d∈s,d.y1<=c.y0)->rowAt (s++[c]) y=if c.y0<=y/\y<c.y1 then c.xs else rowAt s y:=by
  intro s c h
  rw [qe]
  by_cases h1:c.y0<=y/\y<c.y1
  ·rw [aC h1,aH (by rintro⟨d,hd,hd2⟩;have:=h d hd;omega),eP.mP h1.1 h1.2]
  ·rw [aH h1]
   by_cases h2: ∃d∈s,d.y0<=y/\y<d.y1
   ·rw [aC h2]
   ·rw [aH h2,mO,aH h1]
    refine(show rowAt [] y=_ from (lO (s:=s) fun d hd=>?_).symm)
    by_cases h3:d.y0<=y
    ·exact .inr (by have: ¬(d.y0<=y/\y<d.y1):=fun h4=>h2 ⟨d,hd,h4⟩;omega)
    ·exact .inl (by omega)
 unfold jN
 by_cases h0:b.xs= []\/b.y1<=b.y0
 ·rw [aC h0]
  by_cases h1:b.y0<=y/\y<b.y1
  ·rw [aC h1]
   rcases h0 with h0 | h0
   ·rw [h0];exact lO fun c hc=> .inr (by have:=hs c hc;omega)
   ·omega
  ·rw [aH h1]
 ·rw [aH h0]
  cases hl:s.getLast? with
  | none=>
   have:s= []:=by simpa using hl
   subst this
   rfl
  | some c=>
   dsimp only
   have hsp:=qQ hl
   have hcm:c∈s:=by rw [hsp];simp
   by_cases h1:c.y1=b.y0/\c.xs=b.xs
   ·rw [aC h1]
    have hd: ∀d∈s.dropLast,d.y1<=c.y0\/True:=fun _ _=> .inr trivial
    rw [qe]
    have hrow:rowAt s y=if (∃d∈s.dropLast,d.y0<=y/\y<d.y1) then rowAt s.dropLast y else (if c.y0<=y/\y<c.y1 then c.xs else []):=by
     conv=>lhs;rw [hsp]
     rw [qe];rfl
    rw [hrow]
    have hcg:=hg c hcm
    by_cases h2: ∃d∈s.dropLast,d.y0<=y/\y<d.y1
    ·obtain⟨d,hd,hd2⟩:=h2
     have:=hs d (List.dropLast_subset _ hd)
     have he: ∃d∈s.dropLast,d.y0<=y/\y<d.y1:=⟨d,hd,hd2⟩
     rw [aC he,aC he,aH (by omega)]
    ·rw [aH h2,aH h2]
     show (if c.y0<=y/\y<b.y1 then c.xs else [])=_
     by_cases h3:b.y0<=y/\y<b.y1
     ·rw [aC h3,aC ⟨by omega,h3.2⟩,h1.2]
     ·rw [aH h3]
      by_cases h4:c.y0<=y/\y<c.y1
      ·rw [aC h4,aC ⟨h4.1,by omega⟩]
      ·rw [aH h4,aH (by omega)]
   ·rw [aH h1]
    exact key s b hs
theorem vq {s:List Bd} {b:Bd} (h:eP s) (hs: ∀c∈s,c.y1<=b.y0) (hb:jG b.xs) (he:b.xs.length % 2=0):eP (jN s b):=by
 unfold jN
 by_cases h0:b.xs= []\/b.y1<=b.y0
 ·rw [aC h0];exact h
 ·rw [aH h0]
  have hbg:b.y0<b.y1/\b.xs≠[]/\jG b.xs/\b.xs.length % 2=0:=⟨by omega,fun e=>h0 (.inl e),hb,he⟩
  cases hl:s.getLast? with
  | none=>exact⟨fun c hc=>by simp at hc;subst hc;exact hbg,List.pairwise_singleton _ _⟩
  | some c=>
   dsimp only
   have hsp:=qQ hl
   have hcm:c∈s:=by rw [hsp];simp
   have hc:=h.each c hcm
   have hord:=h.ord
   rw [hsp,mW] at hord
   by_cases h1:c.y1=b.y0/\c.xs=b.xs
   ·rw [aC h1]
    refine⟨fun d hd=>?_,?_⟩
    ·rcases dC.1 hd with hd | hd
     ·exact h.each d (List.dropLast_subset _ hd)
     ·simp at hd;subst hd;exact⟨by show c.y0<b.y1;omega,hc.2⟩
    ·rw [mW]
     refine⟨hord.1,List.pairwise_singleton _ _,fun d hd e he=>?_⟩
     simp at he;subst he
     exact hord.2.2 d hd c (by simp)
   ·rw [aH h1]
    refine⟨fun d hd=>?_,?_⟩
    ·rcases dC.1 hd with hd | hd
     ·exact h.each d hd
     ·simp at hd;subst hd;exact hbg
    ·rw [mW]
     refine⟨h.ord,List.pairwise_singleton _ _,fun d hd e he=>?_⟩
     simp at he;subst he
     refine⟨hs d hd,fun e1 e2=>?_⟩
     rw [hsp] at hd
     rcases dC.1 hd with hd | hd
     ·have h2:=(hord.2.2 d hd c (by simp)).1
      have:=hs c hcm
      omega
     ·simp at hd;subst hd;exact h1 ⟨e1,e2⟩
theorem vr {s:List Bd} {b:Bd} (hs: ∀c∈s,c.y1<=b.y0) (hb:b.y0<=b.y1): ∀c∈jN s b,c.y1<=b.y1:=by
 intro c hc
 unfold jN at hc
 split at hc
 ·have:=hs c hc;omega
 ·split at hc
  ·split at hc
   ·rcases dC.1 hc with hc | hc
    ·have:=hs c (List.dropLast_subset _ hc);omega
    ·simp at hc;subst hc;exact Int.le_refl _
   ·rcases dC.1 hc with hc | hc
    ·have:=hs c hc;omega
    ·simp at hc;subst hc;exact Int.le_refl _
  ·simp at hc;subst hc;exact Int.le_refl _
end Go.Gk
namespace Go.Gk
open Go
section
variable {N:Nat}
def cA (b:aA):Bd:=⟨b.Y0,b.Y1,b.Xs⟩
def small (a:Int):Prop:= -1099511627776<=a/\a<=1099511627776
structure Bb (r:aI):Prop where
 x:r.X0<r.X1
 y:r.Y0<r.Y1
 s1:small r.X0
 s2:small r.X1
 s3:small r.Y0
 s4:small r.Y1
def E7 (l:List aI) (x:Int):Bool:=l.any (fun r=>decide (r.X0<=x)&&decide (x<r.X1))
def sR (l:List aI) (x y:Int):Bool:=l.any (fun r=>(decide (r.X0<=x)&&decide (x<r.X1))&&(decide (r.Y0<=y)&&decide (y<r.Y1)))
theorem An {l:List aI} {x:Int}:E7 l x=true↔∃r∈l,r.X0<=x/\x<r.X1:=by unfold E7;simp [kY]
theorem i5 {l:List aI} {x y:Int}:sR l x y=true↔∃r∈l,(r.X0<=x/\x<r.X1)/\r.Y0<=y/\y<r.Y1:=by unfold sR;simp [kY]
theorem wrap_small {a b:Int} (ha:small a) (hb:small b):IntKind.wrap .i64 (a - b)=a - b:=by unfold small at *;exact fD (by omega) (by omega)
theorem Ao {n:Nat} (h:0<n) (hn:n<=4611686018427387904):IntKind.wrap .i64 (((n:Nat):Int) - 1)= ((n - 1:Nat):Int):=jq h hn
structure NK (out:List Int) (m:List aI) (k:Nat):Prop where
 row: (k=0/\out= [])\/∃A s e,out=A++[s,e]/\jG A/\(∀c∈A,c<s)/\A.length % 2=0/\s<e/\∃j r,j<k/\m[j]? =some r/\s=r.X0
 oX: ∀x,oX out x=E7 (m.take k) x
 len:out.length<=2*k
 mem: ∀c∈out,∃r∈m,c=r.X0\/c=r.X1
theorem yz (l:List aI) (r:aI) (x:Int):E7 (l++[r]) x= (E7 l x||(decide (r.X0<=x)&&decide (x<r.X1))):=by unfold E7;rw [List.any_append];simp
theorem Cz {l:List aI} (hl:l.length<=268435456) (hok: ∀r∈l,Bb r): ∃row l',jP N l=some (row,l')/\l'.Perm l/\jG row/\row.length % 2=0/\(∀x,oX row x=E7 l x)/\row.length<=2*l.length/\∀c∈row,∃r∈l,c=r.X0\/c=r.X1:=by
 unfold jP
 obtain⟨m,h1,h2,h3⟩:=Ah (φ:=iu N) (l:=l) (fun a b=>a.X0 - b.X0) (fun a ha b hb=>by
  unfold iu;rw [wrap_small (hok a ha).s1 (hok b hb).s1]) (fun a _=>by omega) (fun a _ b _ c _ h1 h2=>by omega) (fun a _ b _ c _ h1 h2=>by omega) (by omega)
 have hml:m.length=l.length:=h2.length_eq
 have hmok: ∀r∈m,Bb r:=fun r hr=>hok r (h2.subset hr)
 rw [h1,aB]
 obtain⟨out,a1,a2⟩:=zH (m:=m.length) (s:=([]:List Int)) (body:=fun(k32:Nat) (s33: (List Int))=>((idx m (k32:Int)).bind fun x79=>(bif (decide ((IntKind.wrap .i64 ((s33.length:Int) - 1))>=0)) then ((idx s33 (IntKind.wrap .i64 ((s33.length:Int) - 1))).bind fun x86=>some (decide (x79.X0<=x86))) else (some false)).bind fun s84=>(bif s84 then ((idx s33 (IntKind.wrap .i64 ((s33.length:Int) - 1))).bind fun x94=>(idx s33 (IntKind.wrap .i64 ((s33.length:Int) - 1))).bind fun x95=>some (s33.set (Int.toNat (IntKind.wrap .i64 ((s33.length:Int) - 1))) (if x94<x79.X1 then x79.X1 else x94))) else ((app 8 s33 ([x79.X0,x79.X1]: (List Int))).bind fun x97=>some x97)).bind fun s92=>some s92:Option ((List Int))))
  (fun k out=>NK out m k) (by omega) ⟨.inl ⟨rfl,rfl⟩,fun x=>rfl,by simp,fun c hc=>by cases hc⟩ (fun k out hk ⟨i1,i2,i3,i4⟩=>by
   have hx:m[k]? =some m[k]:=aN hk
   have hr:=hmok _ (cM hk)
   rw [eI hx,aB]
   have hts:m.take (k+1)=m.take k++[m[k]]:=dP hk
   rcases i1 with ⟨rfl,rfl⟩ | ⟨A,s,e,rfl,hA,hAs,hAe,hse,j,r,hj,hjr,hsr⟩
   ·rw [show decide (IntKind.wrap .i64 (((([]:List Int).length:Nat):Int) - 1)>=0)=false by decide,aS,aB,aS,kM (by simp),aB,aB]
    refine⟨_,rfl, .inr ⟨[],_,_,rfl,jX,fun c hc=>by simp at hc,rfl,hr.x,0,m[0],by omega,hx,rfl⟩,fun x=>?_,by simp,fun c hc=>⟨m[0],cM hk,by simpa using hc⟩⟩
    rw [hts,yz,<-i2 x]
    exact xJ (l:=[]) (fun c hc=>by simp at hc) rfl hr.x x
   ·have hlen: (A++[s,e]).length=A.length+2:=by simp
    have hwp:IntKind.wrap .i64 ((((A++[s,e]).length:Nat):Int) - 1)= ((A.length+1:Nat):Int):=by rw [Ao (by omega) (by omega),hlen];rfl
    have hlast: (A++[s,e])[A.length+1]? =some e:=by rw [gW (by omega)];simp
    have hs:s<=m[k].X0:=by
     have:=mX.1 h3 j k (by have:=(bD.1 hjr).1;omega) hk hj
     rw [hsr,<-(bD.1 hjr).2];omega
    rw [hwp,bU (by omega),aQ,eI hlast,aB,aB]
    by_cases hc:m[k].X0<=e
    ·rw [bU hc,aQ,aB,aB,aB,cL]
     have mZ: (A++[s,e]).set (A.length+1) (if e<m[k].X1 then m[k].X1 else e)=A++[s,max e m[k].X1]:=by
      rw [List.set_append_right _ _ (by omega)]
      have:A.length+1 - A.length=1:=by omega
      rw [this,Int.max_def]
      simp only [List.set_cons_succ,List.set_cons_zero]
      congr 2
      split <;> split <;> simp <;> omega
     rw [mZ]
     refine⟨_,rfl, .inr ⟨A,s,_,rfl,hA,hAs,hAe,by omega,j,r,by omega,hjr,hsr⟩,fun x=>?_,by simp at i3 ⊢;omega,fun c hc=>by
      rcases dC.1 hc with h | h
      ·exact i4 c (List.mem_append_left _ h)
      ·simp at h
       rcases h with h | h
       ·exact i4 c (by simp [h])
       ·rw [Int.max_def] at h
        split at h
        ·exact⟨_,cM hk, .inr h⟩
        ·exact i4 c (by simp [h])⟩
     rw [hts,yz,<-i2 x]
     exact HW hAs hAe hse hs hc hr.x x
    ·rw [cF hc,aS,kM (by rw [hlen];simp;omega),aB,aB]
     have hall: ∀c∈A++[s,e],c<m[k].X0:=fun c hc'=>by
      rcases dC.1 hc' with h | h
      ·have:=hAs c h;omega
      ·simp at h;omega
     refine⟨_,rfl, .inr ⟨A++[s,e],_,_,rfl,hA.snoc hAs hse,hall,by rw [hlen];omega,hr.x,k,m[k],by omega,hx,rfl⟩,fun x=>?_,by simp at i3 ⊢;omega,fun c hc=>by
      rcases dC.1 hc with h | h
      ·exact i4 c h
      ·exact⟨m[k],cM hk,by simpa using h⟩⟩
     rw [hts,yz,<-i2 x]
     exact xJ hall (by rw [hlen];omega) hr.x x)
 rw [a1,aB]
 refine⟨out,m,rfl,h2,?_,?_,fun x=>?_,by rw [<-hml];exact a2.len,fun c hc=>by obtain⟨r,hr,h⟩:=a2.mem c hc;exact⟨r,h2.subset hr,h⟩⟩
 ·rcases a2.row with ⟨_,h⟩ | ⟨A,s,e,rfl,hA,hAs,hAe,hse,_⟩
  ·rw [h];exact jX
  ·exact hA.snoc hAs hse
 ·rcases a2.row with ⟨_,h⟩ | ⟨A,s,e,rfl,hA,hAs,hAe,hse,_⟩
  ·rw [h];rfl
  ·simp;omega
 ·rw [a2.oX x,dU,eX,An,An]
  constructor
  ·rintro⟨r,hr,h⟩;exact⟨r,h2.subset hr,h⟩
  ·rintro⟨r,hr,h⟩;exact⟨r,h2.symm.subset hr,h⟩
theorem GA {l m:List Int} (hl:l.length<=4611686018427387904):m8 N l m=some (decide (l=m)):=yu hl
theorem FY {s:List aA} {b:aA} (hs:s.length<=1048576000) (hx: ∀c∈s,c.Xs.length<=1048576000): ∃s',jB N s b=some s'/\s'.map cA=jN (s.map cA) (cA b):=by
 unfold jB jN
 by_cases h0:b.Xs= []\/b.Y1<=b.Y0
 ·have e: ((((b.Xs.length:Nat):Int)==0)||(decide (b.Y1<=b.Y0)))=true:=by
   rw [dM]
   rcases h0 with h | h
   ·left;rw [h];rfl
   ·right;exact bU h
  rw [e,aQ,aC (show (cA b).xs= []\/(cA b).y1<=(cA b).y0 from h0)]
  exact⟨s,rfl,rfl⟩
 ·have e: ((((b.Xs.length:Nat):Int)==0)||(decide (b.Y1<=b.Y0)))=false:=by
   rw [Bool.or_eq_false_iff]
   constructor
   ·rw [beq_eq_false_iff_ne];intro h;exact h0 (.inl (List.eq_nil_of_length_eq_zero (by omega)))
   ·exact cF fun h=>h0 (.inr h)
  rw [e,aS,aH (show ¬((cA b).xs= []\/(cA b).y1<=(cA b).y0) from h0)]
  rcases List.eq_nil_or_concat s with rfl | ⟨A,c,hA⟩
  ·rw [show decide (IntKind.wrap .i64 (((([]:List aA).length:Nat):Int) - 1)>=0)=false by decide,aS,aB,aS,kM (by simp),aB]
   exact⟨_,rfl,rfl⟩
  ·rw [List.concat_eq_append] at hA
   subst hA
   have hlen: (A++[c]).length=A.length+1:=by simp
   have hwp:IntKind.wrap .i64 ((((A++[c]).length:Nat):Int) - 1)= ((A.length:Nat):Int):=by rw [Ao (by omega) (by omega),hlen];rfl
   have hlast: (A++[c])[A.length]? =some c:=by simp
   rw [hwp,bU (by omega),aQ,eI hlast,aB,aB,GA (by have:=hx c (by simp);omega),aB,aB,cL,kM (by rw [hlen];simp;omega),aB]
   have hl2: ((A++[c]).map cA).getLast? =some (cA c):=by simp
   have hd2: ((A++[c]).map cA).dropLast=A.map cA:=by simp
   rw [hl2,hd2]
   dsimp only
   by_cases h1:c.Y1=b.Y0/\c.Xs=b.Xs
   ·rw [aC (show (cA c).y1= (cA b).y0/\(cA c).xs= (cA b).xs from h1),show (c.Y1==b.Y0)=true by rw [h1.1];simp,aQ,bU h1.2,aB,aQ]
    refine⟨_,rfl,?_⟩
    rw [List.set_append_right _ _ (bT _),Nat.sub_self]
    simp [cA]
   ·rw [aH (show ¬((cA c).y1= (cA b).y0/\(cA c).xs= (cA b).xs) from h1)]
    have e2: (bif (c.Y1==b.Y0) then (some (decide (c.Xs=b.Xs))) else (some false))=some false:=by
     by_cases h2:c.Y1=b.Y0
     ·rw [show (c.Y1==b.Y0)=true by rw [h2];simp,aQ,cF (fun h=>h1 ⟨h2,h⟩)]
     ·rw [show (c.Y1==b.Y0)=false by simpa using h2,aS]
    rw [e2,aB,aS]
    exact⟨_,rfl,by simp⟩
end
end Go.Gk
namespace Go.Gk
open Go
def dG (l:List (Int×Int)):List Int:=l.flatMap fun s=>[s.1,s.2]
def jt (l:List (Int×Int)) (x:Int):Bool:=l.any fun s=>decide (s.1<=x)&&decide (x<s.2)
theorem ju (s:Int×Int) (l:List (Int×Int)):dG (s::l)=s.1::s.2::dG l:=rfl
theorem tL (l m:List (Int×Int)):dG (l++m)=dG l++dG m:=List.flatMap_append
theorem j7 (l:List (Int×Int)): (dG l).length=2*l.length:=by
 induction l with
 | nil=>rfl
 | cons s l ih=>rw [ju,dT,dT,dT,ih];omega
theorem BU (s:Int×Int) (l:List (Int×Int)) (x:Int):jt (s::l) x= ((decide (s.1<=x)&&decide (x<s.2))||jt l x):=rfl
theorem yX (l m:List (Int×Int)) (x:Int):jt (l++m) x= (jt l x||jt m x):=List.any_append
theorem sS {l:List (Int×Int)} {x:Int}:jt l x=true↔∃s∈l,s.1<=x/\x<s.2:=by
 unfold jt;simp
theorem GC {a b:Int} {m:List Int} (h:jG (a::b::m)) (x:Int):oX (a::b::m) x= ((decide (a<=x)&&decide (x<b))||oX m x):=by
 have hab:a<b:=h.head b (by simp)
 have hm:=h.tail.head
 rw [eX,dM,bW,bR,bR,xG,xG,pE,pE]
 by_cases h1:a<=x
 ·rw [aC h1]
  by_cases h2:b<=x
  ·rw [aC h2];omega
  ·rw [aH h2,Aj (fun c hc=>by have:=hm c hc;omega)];omega
 ·rw [aH h1,aH (by omega)];omega
theorem sT: ∀{l:List (Int×Int)},jG (dG l)->∀x,oX (dG l) x=jt l x
 | [],_,x=>rfl
 | s::l,h,x=>by
  rw [ju] at h ⊢
  rw [GC h,BU,sT h.tail.tail]
theorem BV: ∀{l m:List (Int×Int)},dG l=dG m->l=m
 | [],[],_=>rfl
 | [],s::m,h=>by cases h
 | s::l,[],h=>by cases h
 | (a,b)::l,(c,d)::m,h=>by
  rw [ju,ju] at h
  injection h with h1 h2
  injection h2 with h2 h3
  simp only at h1 h2
  rw [h1,h2,BV h3]
theorem yA {l:List (Int×Int)} {c:Int} (h:c∈dG l): ∃s∈l,c=s.1\/c=s.2:=by
 obtain⟨s,hs,hc⟩:=List.mem_flatMap.1 h
 exact⟨s,hs,by simpa using hc⟩
theorem u4 {l:List (Int×Int)} (h:jG (dG l)): ∀s∈l,s.1<s.2:=by
 induction l with
 | nil=>intro s hs;cases hs
 | cons a l ih=>
  rw [ju] at h
  intro s hs
  rcases dF.1 hs with rfl | hs
  ·exact h.head _ (by simp)
  ·exact ih h.tail.tail s hs
theorem sU {l m:List (Int×Int)}:jG (dG (l++m))↔jG (dG l)/\jG (dG m)/\∀s∈l,∀t∈m,s.2<t.1:=by
 rw [tL]
 unfold jG
 rw [mW]
 constructor
 ·rintro⟨h1,h2,h3⟩
  exact⟨h1,h2,fun s hs t ht=>h3 s.2 (List.mem_flatMap.2 ⟨s,hs,by simp⟩) t.1 (List.mem_flatMap.2 ⟨t,ht,by simp⟩)⟩
 ·rintro⟨h1,h2,h3⟩
  refine⟨h1,h2,fun a ha b hb=>?_⟩
  obtain⟨s,hs,ha⟩:=yA ha
  obtain⟨t,ht,hb⟩:=yA hb
  have h4:=h3 s hs t ht
  have h5:=u4 (l:=l) h1 s hs
  have h6:=u4 (l:=m) h2 t ht
  rcases ha with rfl | rfl <;> rcases hb with rfl | rfl <;> omega
def ky (s:Int×Int):List (Int×Int)->(Int×Int)×List (Int×Int)
 | []=>(s,[])
 | a::l=>if a.1<=s.2 then ky (min s.1 a.1,max s.2 a.2) l else (s,a::l)
def lP (l:List (Int×Int)) (s:Int×Int):List (Int×Int):=
 l.takeWhile (fun a=>decide (a.2<s.1))++(ky s (l.dropWhile fun a=>decide (a.2<s.1))).1::(ky s (l.dropWhile fun a=>decide (a.2<s.1))).2
theorem yY: ∀(l:List (Int×Int)) (s:Int×Int),s.1<s.2->jG (dG l)->(∀a∈l,s.1<=a.2)->
  (ky s l).1.1< (ky s l).1.2/\((ky s l).1.1=s.1\/∃a∈l,(ky s l).1.1=a.1)/\jG (dG (ky s l).2)/\(∀t∈(ky s l).2,(ky s l).1.2<t.1)/\
  ∀x,jt ((ky s l).1::(ky s l).2) x= ((decide (s.1<=x)&&decide (x<s.2))||jt l x)
 | [],s,h,_,_=>⟨h, .inl rfl,jX,fun t (ht:t∈([]:List (Int×Int)))=>(by cases ht),fun x=>rfl⟩
 | a::l,s,h,hi,hs=>by
  have hsp:=u4 hi
  have ha:=hsp a (by simp)
  have hi':=hi
  rw [ju] at hi'
  have hsa:=hs a (by simp)
  unfold ky
  by_cases hc:a.1<=s.2
  ·rw [aC hc]
   have hlt: (min s.1 a.1,max s.2 a.2).1< (min s.1 a.1,max s.2 a.2).2:=by dsimp only;omega
   obtain⟨h1,h2,h3,h4,h5⟩:=yY l (min s.1 a.1,max s.2 a.2) hlt hi'.tail.tail (fun b hb=>by
    have:=(sU (l:=[a]) (m:=l)).1 hi
    have h6:=this.2.2 a (by simp) b hb
    have h7:=hsp b (il _ hb)
    dsimp only;omega)
   refine⟨h1,?_,h3,h4,fun x=>?_⟩
   ·rcases h2 with h2 | ⟨b,hb,h2⟩
    ·rw [h2]
     rcases Int.le_total s.1 a.1 with h6 | h6
     ·exact .inl (by simp only;omega)
     ·exact .inr ⟨a,by simp,by simp only;omega⟩
    ·exact .inr ⟨b,il _ hb,h2⟩
   ·rw [h5,BU,<-Bool.or_assoc]
    congr 1
    clear h1 h2 h3 h4 h5
    rw [eX]
    simp only [dM,bW,bR]
    constructor
    ·intro h6
     by_cases h7:s.1<=x/\x<s.2
     ·exact .inl h7
     ·exact .inr (by omega)
    ·rintro(h6 | h6) <;> omega
  ·rw [aH hc]
   refine⟨h, .inl rfl,hi,fun t ht=>?_,fun x=>rfl⟩
   show s.2<t.1
   rcases dF.1 ht with rfl | ht
   ·omega
   ·have:=((sU (l:=[a]) (m:=l)).1 hi).2.2 a (by simp) t ht
    omega
theorem CA {l:List (Int×Int)} {c:Int} (h:jG (dG l)): ∀a∈l.dropWhile (fun a=>decide (a.2<c)),c<=a.2:=by
 induction l with
 | nil=>intro a ha;cases ha
 | cons b l ih=>
  have h':=h
  rw [ju] at h'
  rw [List.dropWhile_cons]
  by_cases hb:b.2<c
  ·rw [aC (by simpa using hb)];exact ih h'.tail.tail
  ·rw [aH (by simpa using hb)]
   intro a ha
   rcases dF.1 ha with rfl | ha
   ·omega
   ·have h1:=((sU (l:=[b]) (m:=l)).1 h).2.2 b (by simp) a ha
    have h2:=u4 h a (il _ ha)
    omega
theorem CB (l:List (Int×Int)) (c:Int): ∀a∈l.takeWhile (fun a=>decide (a.2<c)),a.2<c:=by
 induction l with
 | nil=>intro a ha;cases ha
 | cons b l ih=>
  rw [List.takeWhile_cons]
  by_cases hb:b.2<c
  ·rw [aC (by simpa using hb)]
   intro a ha
   rcases dF.1 ha with rfl | ha
   ·exact hb
   ·exact ih a ha
  ·rw [aH (by simpa using hb)]
   intro a ha;cases ha
theorem xK {l:List (Int×Int)} {s:Int×Int} (h:jG (dG l)) (hs:s.1<s.2):
  jG (dG (lP l s))/\∀x,jt (lP l s) x= ((decide (s.1<=x)&&decide (x<s.2))||jt l x):=by
 have hsplit:=h
 rw [<-List.takeWhile_append_dropWhile (p:=fun a:Int×Int=>decide (a.2<s.1)) (l:=l),sU] at hsplit
 obtain⟨h1,h2,h3⟩:=hsplit
 obtain⟨m1,m2,m3,m4,m5⟩:=yY (l.dropWhile fun a=>decide (a.2<s.1)) s hs h2 (CA h)
 unfold lP
 refine⟨sU.2 ⟨h1,?_,fun a ha t ht=>?_⟩,fun x=>?_⟩
 ·rw [ju]
  have h4: ∀c∈dG (ky s (l.dropWhile fun a=>decide (a.2<s.1))).2,(ky s (l.dropWhile fun a=>decide (a.2<s.1))).1.2<c:=fun c hc=>by
   obtain⟨t,ht,hc⟩:=yA hc
   have:=m4 t ht
   have:=u4 m3 t ht
   rcases hc with rfl | rfl <;> omega
  exact ov.2 ⟨fun c hc=>by
   rcases dF.1 hc with rfl | hc
   ·exact m1
   ·have:=h4 c hc;omega,ov.2 ⟨h4,m3⟩⟩
 ·have ha1:=CB l s.1 a ha
  rcases dF.1 ht with rfl | ht
  ·rcases m2 with m2 | ⟨b,hb,m2⟩
   ·rw [m2];exact ha1
   ·rw [m2];exact h3 a ha b hb
  ·have h5:=m4 t ht
   rcases m2 with m2 | ⟨b,hb,m2⟩
   ·rw [m2] at m1;omega
   ·have:=h3 a ha b hb;rw [m2] at m1;omega
 ·rw [yX,m5]
  conv=>rhs;rw [<-List.takeWhile_append_dropWhile (p:=fun a:Int×Int=>decide (a.2<s.1)) (l:=l),yX]
  rw [Bool.or_left_comm]
end Go.Gk
namespace Go.Gk
open Go
def km:List Int->List (Int×Int)
 | a::b::l=>(a,b)::km (b::l)
 | _=>[]
theorem qy: ∀{xs:List Int},jG xs->∀s∈km xs,s.1∈xs/\s.2∈xs/\s.1<s.2/\∀c∈xs,c<=s.1\/s.2<=c
 | [],_,s,hs=>by cases hs
 | [a],_,s,hs=>by cases hs
 | a::b::l,h,s,hs=>by
  have hab:=h.head b (by simp)
  rcases dF.1 hs with rfl | hs
  ·refine⟨by simp,by simp,hab,fun c hc=>?_⟩
   rcases dF.1 hc with rfl | hc
   ·exact .inl (Int.le_refl _)
   ·rcases dF.1 hc with rfl | hc
    ·exact .inr (Int.le_refl _)
    ·exact .inr (by have:=h.tail.head c hc;show b<=c;omega)
  ·obtain⟨h1,h2,h3,h4⟩:=qy h.tail s hs
   refine⟨il _ h1,il _ h2,h3,fun c hc=>?_⟩
   rcases dF.1 hc with rfl | hc
   ·exact .inl (by have:=h.head s.1 h1;omega)
   ·exact h4 c hc
theorem wM: ∀{xs:List Int},jG xs->∀x,(∃s∈km xs,s.1<=x/\x<s.2)\/(∀c∈xs,x<c)\/(∀c∈xs,c<=x)
 | [],_,x=> .inr (.inl fun c hc=>by cases hc)
 | [a],_,x=>by
  by_cases h:x<a
  ·exact .inr (.inl fun c hc=>by simp at hc;omega)
  ·exact .inr (.inr fun c hc=>by simp at hc;omega)
 | a::b::l,h,x=>by
  have hab:=h.head b (by simp)
  rcases wM h.tail x with ⟨s,hs,h1⟩ | h1 | h1
  ·exact .inl ⟨s,il _ hs,h1⟩
  ·by_cases h2:x<a
   ·exact .inr (.inl fun c hc=>by
     rcases dF.1 hc with rfl | hc
     ·exact h2
     ·exact h1 c hc)
   ·exact .inl ⟨(a,b),by simp [km],by show a<=x;omega,h1 b (by simp)⟩
  ·exact .inr (.inr fun c hc=>by
    rcases dF.1 hc with rfl | hc
    ·have:=h1 b (by simp);omega
    ·exact h1 c hc)
def Ends (a:List (Int×Int)) (xs:List Int):Prop:=∀s∈a,s.1∈xs/\s.2∈xs
theorem zI {a:List (Int×Int)} {xs:List Int} (he:Ends a xs) (hx:jG xs) {s:Int×Int} (hs:s∈km xs) {x:Int} (h1:s.1<=x) (h2:x<s.2):jt a x=jt a s.1:=by
 obtain⟨_,_,h3,h4⟩:=qy hx s hs
 rw [eX,sS,sS]
 constructor
 ·rintro⟨t,ht,h5,h6⟩
  have:=h4 _ (he t ht).1
  exact⟨t,ht,by omega,by omega⟩
 ·rintro⟨t,ht,h5,h6⟩
  have:=h4 _ (he t ht).2
  exact⟨t,ht,by omega,by omega⟩
theorem FZ {a:List (Int×Int)} {xs:List Int} (he:Ends a xs) {x:Int} (h: (∀c∈xs,x<c)\/(∀c∈xs,c<=x)):jt a x=false:=by
 rw [<-jY,sS]
 rintro⟨t,ht,h5,h6⟩
 obtain⟨e1,e2⟩:=he t ht
 rcases h with h | h
 ·have:=h _ e1;omega
 ·have:=h _ e2;omega
def mh (gV:Bool->Bool->Bool) (a b:List (Int×Int)) (ss:List (Int×Int)) (out:List (Int×Int)):List (Int×Int):=
 ss.foldl (fun out s=>if gV (jt a s.1) (jt b s.1)=true then lP out s else out) out
theorem u5 (gV:Bool->Bool->Bool) (a b:List (Int×Int)): ∀(ss out:List (Int×Int)),jG (dG out)->(∀s∈ss,s.1<s.2)->
  jG (dG (mh gV a b ss out))/\∀x,jt (mh gV a b ss out) x= (jt out x||ss.any fun s=>gV (jt a s.1) (jt b s.1)&&(decide (s.1<=x)&&decide (x<s.2)))
 | [],out,h,_=>⟨h,fun x=>by simp [mh]⟩
 | s::ss,out,h,hs=>by
  have h0:=hs s (by simp)
  unfold mh
  rw [List.foldl_cons]
  by_cases hk:gV (jt a s.1) (jt b s.1)=true
  ·rw [aC hk]
   obtain⟨j1,j2⟩:=xK h h0
   obtain⟨m1,m2⟩:=u5 gV a b ss (lP out s) j1 (fun t ht=>hs t (il _ ht))
   refine⟨m1,fun x=>?_⟩
   rw [show jt (List.foldl _ (lP out s) ss) x=_ from m2 x,j2,List.any_cons,hk,Bool.true_and]
   cases jt out x <;> simp
  ·rw [aH hk]
   obtain⟨m1,m2⟩:=u5 gV a b ss out h (fun t ht=>hs t (il _ ht))
   refine⟨m1,fun x=>?_⟩
   rw [show jt (List.foldl _ out ss) x=_ from m2 x,List.any_cons,eq_false_of_ne_true hk,Bool.false_and,Bool.false_or]
theorem DU {gV:Bool->Bool->Bool} (hk:gV false false=false) {a b:List (Int×Int)} {xs:List Int} (hx:jG xs) (ha:Ends a xs) (hb:Ends b xs):
  jG (dG (mh gV a b (km xs) []))/\∀x,jt (mh gV a b (km xs) []) x=gV (jt a x) (jt b x):=by
 obtain⟨m1,m2⟩:=u5 gV a b (km xs) [] jX (fun s hs=>(qy hx s hs).2.2.1)
 refine⟨m1,fun x=>?_⟩
 rw [m2,show jt [] x=false from rfl,Bool.false_or]
 rcases wM hx x with ⟨s,hs,h1,h2⟩ | h
 ·rw [eX,kY]
  constructor
  ·rintro⟨t,ht,h3⟩
   rw [bW,bW,bR,bR] at h3
   rw [zI ha hx ht h3.2.1 h3.2.2,zI hb hx ht h3.2.1 h3.2.2];exact h3.1
  ·intro h3
   rw [zI ha hx hs h1 h2,zI hb hx hs h1 h2] at h3
   exact⟨s,hs,by rw [h3,bU h1,bU h2];rfl⟩
 ·rw [FZ ha h,FZ hb h,hk,<-jY,kY]
  rintro⟨t,ht,h3⟩
  rw [bW,bW,bR,bR] at h3
  obtain⟨e1,e2,_⟩:=qy hx t ht
  rcases h with h | h
  ·have:=h _ e1;omega
  ·have:=h _ e2;omega
def mi (f:Int->List Int) (ss:List (Int×Int)) (out:List Bd):List Bd:=ss.foldl (fun out s=>jN out ⟨s.1,s.2,f s.1⟩) out
theorem yZ (f:Int->List Int) (hf: ∀y,jG (f y)/\(f y).length % 2=0): ∀(ys:List Int) (out:List Bd),jG ys->eP out->(∀c∈out,∀y∈ys,c.y1<=y)->
  eP (mi f (km ys) out)/\∀y,rowAt (mi f (km ys) out) y=match (km ys).find? (fun s=>decide (s.1<=y)&&decide (y<s.2)) with | some s=>f s.1 | none=>rowAt out y
 | [],out,_,h,_=>⟨h,fun y=>rfl⟩
 | [a],out,_,h,_=>⟨h,fun y=>rfl⟩
 | a::b::l,out,hi,h,ho=>by
  have hab:=hi.head b (by simp)
  have ho1: ∀c∈out,c.y1<=(⟨a,b,f a⟩:Bd).y0:=fun c hc=>ho c hc a (by simp)
  have hc:=vq (b:=⟨a,b,f a⟩) h ho1 (hf a).1 (hf a).2
  have htop:=vr (b:=⟨a,b,f a⟩) ho1 (by show a<=b;omega)
  obtain⟨m1,m2⟩:=yZ f hf (b::l) (jN out ⟨a,b,f a⟩) hi.tail hc (fun c hc' y hy=>by
   have h1:=htop c hc'
   have h2:b<=y:=by
    rcases dF.1 hy with rfl | hy
    ·exact Int.le_refl _
    ·have:=hi.tail.head y hy;omega
   have h3:c.y1<=b:=h1
   omega)
  refine⟨m1,fun y=>?_⟩
  show rowAt (mi f (km (b::l)) (jN out ⟨a,b,f a⟩)) y=_
  rw [m2 y,show km (a::b::l)= (a,b)::km (b::l) from rfl,List.find?_cons]
  have hrow:=vo (s:=out) (b:=⟨a,b,f a⟩) ho1 (fun c hc=>(h.each c hc).1) (fun h=>absurd h (by show ¬b<=a;omega)) y
  by_cases hy:a<=y/\y<b
  ·have e: (decide (a<=y)&&decide (y<b))=true:=by rw [bU hy.1,bU hy.2];rfl
   have hn: (km (b::l)).find? (fun s=>decide (s.1<=y)&&decide (y<s.2))=none:=by
    rw [List.find?_eq_none]
    intro s hs
    have:=(qy hi.tail s hs).1
    have h5:b<=s.1:=by
     rcases dF.1 this with h6 | h6
     ·omega
     ·have:=hi.tail.head _ h6;omega
    simp;omega
   rw [hn]
   show rowAt (jN out ⟨a,b,f a⟩) y=_
   rw [hrow,aC hy,e]
  ·have e: (decide (a<=y)&&decide (y<b))=false:=by
    rw [Bool.and_eq_false_iff,decide_eq_false_iff_not,decide_eq_false_iff_not];omega
   rw [e]
   cases (km (b::l)).find? (fun s=>decide (s.1<=y)&&decide (y<s.2)) with
   | some s=>rfl
   | none=>
    show rowAt (jN out ⟨a,b,f a⟩) y=rowAt out y
    rw [hrow,aH hy]
theorem y4 {f:Int->List Int} (hf: ∀y,jG (f y)/\(f y).length % 2=0) {ys:List Int} (hy:jG ys) (h1: ∀s∈km ys,∀y,s.1<=y->y<s.2->f y=f s.1) (h2: ∀y,((∀c∈ys,y<c)\/(∀c∈ys,c<=y))->f y= []):
  eP (mi f (km ys) [])/\∀y,rowAt (mi f (km ys) []) y=f y:=by
 obtain⟨m1,m2⟩:=yZ f hf ys [] hy eP.nil (fun c hc=>by cases hc)
 refine⟨m1,fun y=>?_⟩
 rw [m2 y]
 cases J7: (km ys).find? (fun s=>decide (s.1<=y)&&decide (y<s.2)) with
 | some s=>
  have h3:=List.find?_some J7
  rw [bW,bR,bR] at h3
  exact(h1 s (List.mem_of_find?_eq_some J7) y h3.1 h3.2).symm
 | none=>
  show rowAt [] y=f y
  rcases wM hy y with ⟨s,hs,h3,h4⟩ | h3
  ·have:=List.find?_eq_none.1 J7 s hs
   rw [bU h3,bU h4] at this
   exact absurd rfl this
  ·rw [h2 y h3];rfl
end Go.Gk
namespace Go.Gk
open Go
def Ok {β:Type} (o:Option β) (P:β->Prop):Prop:=∃r,o=some r/\P r
section
variable {α β S R:Type} {P:α->Prop} {Q:β->Prop}
theorem Ok.ret {x:β} (h:Q x):Ok (some x) Q:=⟨x,rfl,h⟩
theorem Ok.of {o:Option β} {x:β} (h:o=some x) (hq:Q x):Ok o Q:=⟨x,h,hq⟩
theorem Ok.mono {o:Option α} {P':α->Prop} (h:Ok o P) (k: ∀x,P x->P' x):Ok o P':=by obtain⟨x,h1,h2⟩:=h;exact⟨x,h1,k x h2⟩
theorem Ok.bind {o:Option α} {f:α->Option β} (h:Ok o P) (k: ∀x,P x->Ok (f x) Q):Ok (o.bind f) Q:=by
 obtain⟨x,h1,h2⟩:=h;rw [h1];exact k x h2
theorem Ok.eq {o:Option α} {f:α->Option β} {x:α} (h:o=some x) (k:Ok (f x) Q):Ok (o.bind f) Q:=by rw [h];exact k
theorem Ok.bif {b:Bool} {x y:Option β} (ht:b=true->Ok x Q) (hf:b=false->Ok y Q):Ok (bif b then x else y) Q:=by
 cases b with
 | true=>exact ht rfl
 | false=>exact hf rfl
theorem Ok.get {o:Option β} {x:β} (h:Ok o (fun r=>r=x)):o=some x:=by obtain⟨r,h1,h2⟩:=h;rw [h1,h2]
def L2 (Go:S->Prop) (Rt:R->Prop):Fo S R->Prop | .go s=>Go s | .rt r=>Rt r
def IA (Nx Br:S->Prop) (Rt:R->Prop):Fl S R->Prop | .nx s=>Nx s | .br s=>Br s | .rt r=>Rt r
theorem Ok.nx {Nx Br:S->Prop} {Rt:R->Prop} {s:S} (h:Nx s):Ok (some (Fl.nx s)) (IA Nx Br Rt):=⟨_,rfl,h⟩
theorem Ok.br {Nx Br:S->Prop} {Rt:R->Prop} {s:S} (h:Br s):Ok (some (Fl.br s)) (IA Nx Br Rt):=⟨_,rfl,h⟩
theorem Ok.rt {Nx Br:S->Prop} {Rt:R->Prop} {r:R} (h:Rt r):Ok (some (Fl.rt r:Fl S R)) (IA Nx Br Rt):=⟨_,rfl,h⟩
theorem Ok.cs {Go:S->Prop} {Rt:R->Prop} {o:Fo S R} {f:S->Option β} {g:R->Option β} (h:L2 Go Rt o) (hf: ∀s,Go s->Ok (f s) Q) (hg: ∀r,Rt r->Ok (g r) Q):Ok (o.cs f g) Q:=by
 cases o with
 | go s=>exact hf s h
 | rt r=>exact hg r h
theorem Ok.mV {body:Nat->S->Option S} {m:Nat} {s:S} (Inv:Nat->S->Prop) (hm:m<=4611686018427387904) (h0:Inv 0 s) (h: ∀k s,k<m->Inv k s->Ok (body k s) (Inv (k+1))):Ok (mV m body s) (Inv m):=
 zH Inv hm h0 h
theorem Ok.ud {body:Nat->S->Option (Fl S R)} {m:Nat} {s:S} (Inv:Nat->S->Prop) {Go:S->Prop} {Rt:R->Prop} (hm:m<=4611686018427387904) (h0:Inv 0 s)
  (h: ∀k s,k<m->Inv k s->Ok (body k s) (IA (Inv (k+1)) Go Rt)) (hg: ∀s,Inv m s->Go s):Ok (ud m body s) (L2 Go Rt):=by
 obtain⟨o,h1,h2⟩:=I6 (R:=R) Inv Go Rt hm h0 (fun k s hk hi=>by
  obtain⟨fl,a1,a2⟩:=h k s hk hi
  exact⟨fl,a1,by cases fl <;> exact a2⟩) hg
 exact⟨o,h1,by cases o <;> exact h2⟩
theorem Ok.jH {body:S->Option (Fl S R)} {N:Nat} {s:S} (Inv:S->Prop) (μ:S->Nat) {Go:S->Prop} {Rt:R->Prop}
  (h: ∀s,Inv s->Ok (body s) (IA (fun s'=>Inv s'/\μ s'<μ s) Go Rt)) (hi:Inv s) (hn:μ s<N):Ok (jH body N s) (L2 Go Rt):=by
 obtain⟨o,h1,h2⟩:=xv (R:=R) Inv μ Go Rt (fun s hi=>by
  obtain⟨fl,a1,a2⟩:=h s hi
  exact⟨fl,a1,by cases fl <;> exact a2⟩) N s hi hn
 exact⟨o,h1,by cases o <;> exact h2⟩
theorem Ok.app {b:Nat} {l ys:List α} {f:List α->Option β} (h: (l.length+ys.length)*b<=140737488355328) (k:Ok (f (l++ys)) Q):Ok ((Go.Gk.app b l ys).bind f) Q:=by rw [kM h];exact k
theorem Ok.idx {l:List α} {i:Nat} {f:α->Option β} (h:i<l.length) (k:Ok (f l[i]) Q):Ok ((Go.Gk.idx l ((i:Nat):Int)).bind f) Q:=by rw [k6 l i h];exact k
theorem Ok.ix {l:List α} {i:Nat} {x:α} {f:α->Option β} (h:l[i]? =some x) (k:Ok (f x) Q):Ok ((Go.Gk.idx l ((i:Nat):Int)).bind f) Q:=by rw [eI h];exact k
end
theorem DV {n:Nat} (h:n<=4611686018427387904):IntKind.wrap .i64 ((n:Nat):Int)= ((n:Nat):Int):=fD (by omega) (by omega)
theorem wrap_add {n m:Nat} (h:n+m<=4611686018427387904):IntKind.wrap .i64 (((n:Nat):Int)+ ((m:Nat):Int))= ((n+m:Nat):Int):=by rw [fD (by omega) (by omega)];simp
theorem bP {n:Nat} (h:n+1<=4611686018427387904):IntKind.wrap .i64 (((n:Nat):Int)+1)= ((n+1:Nat):Int):=by rw [fD (by omega) (by omega)];simp
theorem BW {n:Nat} (h:n+2<=4611686018427387904):IntKind.wrap .i64 (((n:Nat):Int)+2)= ((n+2:Nat):Int):=by rw [fD (by omega) (by omega)];simp
theorem fR {α:Type} [DecidableEq α]: ∀{l m:List α},l.Nodup->(∀x∈l,x∈m)->l.length<=m.length
 | [],m,_,_=>dJ _
 | a::l,m,hn,hs=>by
  have ha:a∈m:=hs a (by simp)
  have hn':=List.nodup_cons.1 hn
  have:=fR (l:=l) (m:=m.erase a) hn'.2 (fun x hx=>by
   rw [List.mem_erase_of_ne (fun e=>hn'.1 (by rw [<-e];exact hx))]
   exact hs x (il _ hx))
  rw [List.length_erase_of_mem ha] at this
  have:=List.length_pos_of_mem ha
  simp;omega
section
variable {α:Type} {N:Nat}
def L3 (z:α) (N:Nat) (p0:List α) (p1:α->Option Bool):Option (List α):=
 (tB p0 p1).bind fun x31=>bif (x31==(-1)) then (some p0) else ((jH (fun(s33: (List α)×Int×Int)=>(bif (decide (s33.2.2< (s33.1.length:Int))) then ((idx s33.1 s33.2.2).bind fun x54=>(p1 x54).bind fun x58=>(bif (!x58) then ((idx s33.1 s33.2.1).bind fun x63=>some ((s33.1.set (Int.toNat s33.2.1) x54),(IntKind.wrap .i64 (s33.2.1+1)))) else (some (s33.1,s33.2.1))).bind fun s61=>some (.nx (s61.1,s61.2,(IntKind.wrap .i64 (s33.2.2+1))))) else (some (.br (s33.1,s33.2.1,s33.2.2))):Option (Fl ((List α)×Int×Int) Empty))) N (p0,x31,(IntKind.wrap .i64 (x31+1)))).bind fun o67=>o67.cs (fun(s33: (List α)×Int×Int)=>(tm s33.1 s33.2.1 (s33.1.length:Int)).bind fun x64=>(tm (s33.1.take (Int.toNat s33.2.1)++List.replicate (s33.1.length - Int.toNat s33.2.1) z) 0 s33.2.1).bind fun x65=>some x65) (fun r=>r.elim))
theorem HX {z:α} {l:List α} {φ:α->Option Bool} (p:α->Bool) (hφ: ∀x∈l,φ x=some (p x)) (hl:l.length<=4611686018427387000) (hN:l.length<N):L3 z N l φ=some (l.filter (fun x=> !p x)):=by
 unfold L3
 rw [v7 p (by omega) hφ,aB]
 rcases yt l p with ⟨h1,h2⟩ | ⟨k,x,h1,h2,h3,h4⟩
 ·rw [h1]
  have:l.filter (fun x=> !p x)=l:=List.filter_eq_self.2 fun a ha=>by rw [h2 a ha];rfl
  rw [this];rfl
 ·rw [h1,show (((k:Nat):Int)== -1)=false by simp,aS]
  have hk:=(bD.1 h2).1
  have hpre: (l.take k).filter (fun x=> !p x)=l.take k:=List.filter_eq_self.2 fun a ha=>by
   obtain⟨j,hj⟩:=dZ ha
   have hjk:j<k:=by have:=(bD.1 hj).1;rw [cP] at this;omega
   rw [List.getElem?_take_of_lt hjk] at hj
   rw [h4 j a hjk hj];rfl
  have hst:l.take (k+1)=l.take k++[x]:=by
   rw [dP hk];congr 1
   have:=(bD.1 h2).2;rw [this]
  have hk1:IntKind.wrap .i64 (((k:Nat):Int)+1)= ((k+1:Nat):Int):=by rw [fD (by omega) (by omega)];omega
  rw [hk1]
  obtain⟨o,a1,a2⟩:=xv (S:=(List α)×Int×Int) (R:=Empty) (body:=fun(s33: (List α)×Int×Int)=>(bif (decide (s33.2.2< (s33.1.length:Int))) then ((idx s33.1 s33.2.2).bind fun x54=>(φ x54).bind fun x58=>(bif (!x58) then ((idx s33.1 s33.2.1).bind fun x63=>some ((s33.1.set (Int.toNat s33.2.1) x54),(IntKind.wrap .i64 (s33.2.1+1)))) else (some (s33.1,s33.2.1))).bind fun s61=>some (.nx (s61.1,s61.2,(IntKind.wrap .i64 (s33.2.2+1))))) else (some (.br (s33.1,s33.2.1,s33.2.2))):Option (Fl ((List α)×Int×Int) Empty)))
   (fun s=>∃i j:Nat,s.2.1= ((i:Nat):Int)/\s.2.2= ((j:Nat):Int)/\i<j/\j<=l.length/\s.1.length=l.length/\s.1.take i= (l.take j).filter (fun x=> !p x)/\∀m,j<=m->s.1[m]? =l[m]?)
   (fun s=>l.length - s.2.2.toNat) (fun s=>∃i:Nat,s.2.1= ((i:Nat):Int)/\i<=l.length/\s.1.length=l.length/\s.1.take i=l.filter (fun x=> !p x)) (fun _=>True) (fun s ⟨i,j,e1,e2,hij,hj,hlen,ht,hd⟩=>by
    obtain⟨s,a,b⟩:=s
    dsimp only at e1 e2 hlen ht hd ⊢
    subst e1;subst e2
    by_cases hlt:j<l.length
    ·rw [bU (by rw [hlen];omega),aQ]
     have hx:s[j]? =some l[j]:=by rw [hd j (bT _)];exact aN hlt
     have w1:IntKind.wrap .i64 (((j:Nat):Int)+1)= ((j+1:Nat):Int):=by rw [fD (by omega) (by omega)];omega
     have w2:IntKind.wrap .i64 (((i:Nat):Int)+1)= ((i+1:Nat):Int):=by rw [fD (by omega) (by omega)];omega
     have hs2:l.take (j+1)=l.take j++[l[j]]:=dP hlt
     rw [eI hx,aB,hφ _ (cM hlt),aB,w1]
     cases hp:p l[j] with
     | true=>
      refine⟨.nx (s,((i:Nat):Int),((j+1:Nat):Int)),by rw [mY,aS,aB],⟨i,j+1,rfl,rfl,by omega,by omega,hlen,?_,fun m hm=>hd m (by omega)⟩,?_⟩
      ·rw [hs2,kF,ht];simp [hp]
      ·simp only [cL];omega
     | false=>
      refine⟨.nx (s.set i l[j],((i+1:Nat):Int),((j+1:Nat):Int)),by rw [pZ,aQ,k6 _ _ (by omega),aB,cL,w2,aB],⟨i+1,j+1,rfl,rfl,by omega,by omega,by simp [hlen],?_,fun m hm=>?_⟩,?_⟩
      ·rw [hs2,kF,<-ht]
       have: (s.set i l[j]).take (i+1)=s.take i++[l[j]]:=by
        rw [dP (by simp;omega),List.take_set_of_le (bT _)];simp
       rw [this];simp [hp]
      ·rw [fC,aH (by omega)];exact hd m (by omega)
      ·simp only [cL];omega
    ·rw [cF (by rw [hlen];omega),aS]
     have hje:j=l.length:=by omega
     subst hje
     rw [dU] at ht
     exact⟨.br (s,((i:Nat):Int),((l.length:Nat):Int)),rfl,i,rfl,by omega,hlen,ht⟩)
   N (l,((k:Nat):Int),((k+1:Nat):Int)) ⟨k,k+1,rfl,rfl,by omega,by omega,rfl,by rw [hst,kF,hpre];simp [h3],fun _ _=>rfl⟩ (by simp only [cL];omega)
  rw [a1,aB]
  cases o with
  | rt r=>exact r.elim
  | go s=>
   obtain⟨i,e1,hi,hlen,ht⟩:=a2
   obtain⟨s,a,b⟩:=s
   dsimp only at e1 hlen ht
   subst e1
   simp only [Fo.cs]
   rw [pr _ _ (by omega),aB,cL,qG _ _ (by simp;omega),aB,List.take_append_of_le_length (by simp;omega),List.take_take,Nat.min_self,ht]
end
section
variable {κ ν:Type} [DecidableEq κ]
theorem yB (m:List (κ×ν)) (k k':κ) (x z:ν):jA (vF m k x) k' z=if k'=k then x else jA m k' z:=by
 induction m with
 | nil=>unfold vF jA;by_cases h:k'=k <;> simp [h]
 | cons p m ih=>
  unfold vF
  by_cases h:k=p.1
  ·rw [aC h]
   by_cases h':k'=k
   ·subst h';simp [jA]
   ·simp only [jA,List.find?_cons,aH h',cF h']
    rw [cF (fun e=>h' (e.trans h.symm))]
  ·rw [aH h]
   by_cases h':k'=p.1
   ·have:k'≠k:=fun e=>h (e.symm.trans h')
    simp only [jA,List.find?_cons,bU h',aH this]
   ·unfold jA at ih ⊢
    simp only [List.find?_cons,cF h']
    exact ih
theorem GD (m:List (κ×ν)) (k k':κ) (x:ν):ue (vF m k x) k'= (decide (k'=k)||ue m k'):=by
 induction m with
 | nil=>unfold vF ue;simp
 | cons p m ih=>
  unfold vF
  by_cases h:k=p.1
  ·rw [aC h]
   by_cases h':k'=k
   ·simp [ue,h']
   ·simp only [ue,List.any_cons,cF h',Bool.false_or]
    rw [cF (fun e=>h' (e.trans h.symm)),Bool.false_or]
  ·rw [aH h]
   unfold ue at ih ⊢
   simp only [List.any_cons]
   rw [ih]
   cases decide (k'=p.1) <;> cases decide (k'=k) <;> simp
end
end Go.Gk
namespace Go.Gk
open Go
section
variable {N:Nat}
theorem Ap (l:List Int) (a b:Nat) (h:a+b<l.length):EM l ((a:Nat):Int) ((b:Nat):Int)=some l[a+b]:=by
 unfold EM
 rw [aC (by omega),show ((a:Nat):Int)+ ((b:Nat):Int)= ((a+b:Nat):Int) by omega,k6 _ _ h]
theorem jG.HY {l:List Int} {a:Int} (h:jG l) (hl: ∀c∈l,c<a):jG (l++[a]):=by
 unfold jG
 rw [mW]
 exact⟨h,List.pairwise_singleton _ _,fun c hc d hd=>by simp at hd;subst hd;exact hl c hc⟩
theorem jG.last {l:List Int} {a:Int} (h:jG l) (hl:l.getLast? =some a): ∀c∈l,c<=a:=by
 intro c hc
 have hs:=qQ hl
 rw [hs] at h hc
 rcases dC.1 hc with h1 | h1
 ·have:=(mW.1 h).2.2 c h1 a (by simp);omega
 ·simp at h1;omega
theorem CC {l:List Int} (hs:l.Pairwise (fun x y=>x<=y)) (hl:l.length<=4611686018427387000) (hN:l.length<N):
  Ok (ir N l) (fun m=>jG m/\∀c,c∈m↔c∈l):=by
 unfold ir
 refine Ok.bif (fun h2=>Ok.ret ⟨?_,fun c=>Iff.rfl⟩) (fun h2=>?_)
 ·have h2:=of_decide_eq_true h2
  match l,h2 with
  | [],_=>exact jX
  | [a],_=>exact List.pairwise_singleton _ _
  | a::b::l,h2=>simp at h2;omega
 ·have h2:=of_decide_eq_false h2
  have le: ∀(i j:Nat) (x y:Int),i<j->l[i]? =some x->l[j]? =some y->x<=y:=fun i j x y hij hx hy=>by
   have:=mX.1 hs i j (bD.1 hx).1 (bD.1 hy).1 hij
   rw [(bD.1 hx).2,(bD.1 hy).2] at this;exact this
  refine Ok.bind (Ok.jH (Go:=fun _=>jG l) (Rt:=fun m=>jG m/\∀c,c∈m↔c∈l) (fun s=>∃k:Nat,s= ((k:Nat):Int)/\1<=k/\k<=l.length/\jG (l.take k)) (fun s=>l.length - s.toNat) ?_ ⟨1,rfl,bT _,by omega,?_⟩ (by simp;omega)) ?_
  ·rintro s ⟨k,rfl,hk1,hkl,hinc⟩
   refine Ok.bif (fun h=>?_) (fun h=>Ok.br ?_)
   ·have hk:k<l.length:=by have:=of_decide_eq_true h;omega
    refine Ok.idx hk ?_
    rw [jq hk1 (by omega)]
    refine Ok.idx (by omega) ?_
    refine Ok.bif (fun he=>?_) (fun he=>?_)
    ·have he:l[k]=l[k - 1]:=by simpa using he
     refine Ok.eq (pr l k hkl) ?_
     refine Ok.bind (Ok.jH (Go:=fun s=>∃i:Nat,s.2.1= ((i:Nat):Int)/\i<=l.length/\s.1.length=l.length/\jG (s.1.take i)/\∀c,c∈s.1.take i↔c∈l) (Rt:=fun _=>True)
      (fun s=>∃i j:Nat,s.2.1= ((i:Nat):Int)/\s.2.2= ((j:Nat):Int)/\1<=j/\k+j<=l.length/\i<=k+j - 1/\s.1.length=l.length/\jG (s.1.take i)/\(s.1.take i).getLast? =l[k+j - 1]? /\
       (∀c,c∈s.1.take i↔c∈l.take (k+j))/\∀m,k+j - 1<=m->s.1[m]? =l[m]?) (fun s=>l.length - s.2.2.toNat) ?_ ?_ (by simp;omega)) ?_
     ·rintro⟨u,a,b⟩ ⟨i,j,e1,e2,hj,hjl,hij,hlen,hi,hlast,hmem,hrest⟩
      dsimp only at e1 e2 hlen hi hlast hmem hrest ⊢
      subst e1;subst e2
      rw [cL]
      refine Ok.bif (fun h=>?_) (fun h=>Ok.br ?_)
      ·have hlt:k+j<l.length:=by have:=of_decide_eq_true h;omega
       have hx:u[k+j]'(by omega)=l[k+j]:=by have:=hrest (k+j) (by omega);rw [aN (by omega),aN hlt] at this;injection this
       have hy:u[k+ (j - 1)]'(by omega)=l[k+ (j - 1)]:=by have:=hrest (k+ (j - 1)) (by omega);rw [aN (by omega),aN (by omega)] at this;injection this
       refine Ok.eq (Ap u k j (by omega)) ?_
       rw [jq hj (by omega)]
       refine Ok.eq (Ap u k (j - 1) (by omega)) ?_
       rw [hx,hy]
       have hts:l.take (k+j+1)=l.take (k+j)++[l[k+j]]:=dP hlt
       have hlast': (u.take i).getLast? =some l[k+ (j - 1)]:=by rw [hlast,show k+j - 1=k+ (j - 1) by omega,aN (by omega)]
       have hxy:l[k+ (j - 1)]<=l[k+j]:=le (k+ (j - 1)) (k+j) _ _ (by omega) (aN _) (aN _)
       refine Ok.bind (P:=fun s'=>s'.1.length=l.length/\∃i':Nat,s'.2= ((i':Nat):Int)/\i'<=k+j/\jG (s'.1.take i')/\(s'.1.take i').getLast? =l[k+j]? /\(∀c,c∈s'.1.take i'↔c∈l.take (k+j+1))/\∀m,k+j<=m->s'.1[m]? =l[m]?) ?_ ?_
       ·refine Ok.bif (fun hne=>?_) (fun hne=>Ok.ret ?_)
        ·have hne:l[k+j]≠l[k+ (j - 1)]:=by simpa using hne
         refine Ok.eq (Ap u k j (by omega)) ?_
         rw [hx]
         refine Ok.idx (by omega) (Ok.ret ⟨by simp [hlen],i+1,?_,by omega,?_⟩)
         ·rw [bP (by omega)]
         ·dsimp only
          rw [cL]
          have ht: (u.set i l[k+j]).take (i+1)=u.take i++[l[k+j]]:=by
           rw [dP (by simp;omega),List.take_set_of_le (bT _)];simp
          rw [ht]
          refine⟨hi.HY fun c hc=>?_,by simp [aN hlt],fun c=>?_,fun m hm=>?_⟩
          ·have:=hi.last hlast' c hc;omega
          ·rw [hts,dC,dC,hmem]
          ·rw [fC,aH (by omega)];exact hrest m (by omega)
        ·have he:l[k+j]=l[k+ (j - 1)]:=by simpa using hne
         refine⟨hlen,i,rfl,by omega,hi,?_,fun c=>?_,fun m hm=>hrest m (by omega)⟩
         ·dsimp only;rw [hlast',aN hlt,he]
         ·rw [hts,dC,<-hmem]
          constructor
          ·exact .inl
          ·rintro(h | h)
           ·exact h
           ·simp at h;subst h
            rw [he];exact List.mem_of_getLast? hlast'
       ·rintro⟨v,a⟩ ⟨g1,i',g2,g3,g4,g5,g6,g7⟩
        dsimp only at g1 g2 g4 g5 g6 g7 ⊢
        refine Ok.nx ⟨⟨i',j+1,g2,?_,by omega,by omega,by omega,g1,g4,?_,g6,fun m hm=>g7 m (by omega)⟩,?_⟩
        ·rw [bP (by omega)]
        ·rw [show k+ (j+1) - 1=k+j by omega];exact g5
        ·rw [bP (by omega)];simp only [cL];omega
      ·have hge:k+j=l.length:=by have:=of_decide_eq_false h;omega
       refine⟨i,rfl,by omega,hlen,hi,fun c=>?_⟩
       rw [hmem,hge,dU]
     ·refine⟨k,1,rfl,rfl,bT _,by omega,by omega,rfl,hinc,?_,fun c=>?_,fun m _=>rfl⟩
      ·dsimp only
       rw [show k+1 - 1=k by omega,aN hk,he,List.getLast?_eq_getElem?,cP,Nat.min_eq_left hkl,List.getElem?_take_of_lt (by omega),aN (by omega)]
      ·dsimp only
       rw [dP hk,dC]
       constructor
       ·exact .inl
       ·rintro(h | h)
        ·exact h
        ·simp at h;subst h;rw [he]
         refine eZ (i:=k - 1) ?_
         rw [List.getElem?_take_of_lt (by omega),aN (by omega)]
     ·rintro o ho
      refine Ok.cs ho ?_ (fun r=>r.elim)
      rintro⟨u,a,b⟩ ⟨i,e1,hi,hlen,hinc',hmem⟩
      dsimp only at e1 hlen hinc' hmem ⊢
      subst e1
      refine Ok.eq (pr u i (by omega)) ?_
      rw [cL]
      refine Ok.eq (qG _ i (by simp;omega)) (Ok.rt ?_)
      rw [List.take_append_of_le_length (by simp;omega),List.take_take,Nat.min_self]
      exact⟨hinc',hmem⟩
    ·have he:l[k]≠l[k - 1]:=by simpa using he
     refine Ok.nx ⟨⟨k+1,by rw [bP (by omega)],by omega,by omega,?_⟩,by rw [bP (by omega)];simp only [cL];omega⟩
     rw [dP hk]
     refine hinc.HY fun c hc=>?_
     have hlast: (l.take k).getLast? =some l[k - 1]:=by
      rw [List.getLast?_eq_getElem?,cP,Nat.min_eq_left hkl,List.getElem?_take_of_lt (by omega),aN (by omega)]
     have h3:=hinc.last hlast c hc
     have h4:=le (k - 1) k _ _ (by omega) (aN (by omega:k - 1<l.length)) (aN hk)
     omega
   ·have hge:k=l.length:=by have:=of_decide_eq_false h;omega
    subst hge;rw [dU] at hinc;exact hinc
  ·match l,h2 with
   | [],h2=>simp at h2
   | a::l,_=>exact List.pairwise_singleton _ _
  ·rintro o ho
   exact Ok.cs ho (fun s h=>Ok.ret ⟨h,fun c=>Iff.rfl⟩) (fun r h=>Ok.ret h)
def sV (l:List aI):List Int:=l.flatMap fun r=>[r.X0,r.X1]
def jy (l:List aI):List Int:=l.flatMap fun r=>[r.Y0,r.Y1]
theorem sW {l:List aI} {c:Int}:c∈sV l↔∃r∈l,c=r.X0\/c=r.X1:=by unfold sV;simp [List.mem_flatMap]
theorem lz {l:List aI} {c:Int}:c∈jy l↔∃r∈l,c=r.Y0\/c=r.Y1:=by unfold jy;simp [List.mem_flatMap]
theorem kO (l:List aI): (sV l).length=2*l.length:=by
 induction l with
 | nil=>rfl
 | cons r l ih=>unfold sV at *;simp [List.flatMap_cons,ih];omega
theorem i6 (l:List aI): (jy l).length=2*l.length:=by
 induction l with
 | nil=>rfl
 | cons r l ih=>unfold jy at *;simp [List.flatMap_cons,ih];omega
def wU (X Y:List Int) (s:List Bd):Prop:=∀b∈s,b.y0∈Y/\b.y1∈Y/\∀c∈b.xs,c∈X
theorem wU.push {X Y:List Int} {s:List Bd} {b:Bd} (h:wU X Y s) (h0:b.y0∈Y) (h1:b.y1∈Y) (h2: ∀c∈b.xs,c∈X):wU X Y (jN s b):=by
 intro c hc
 unfold jN at hc
 split at hc
 ·exact h c hc
 ·split at hc
  ·rename_i d hd
   have hdm:d∈s:=List.mem_of_getLast? hd
   split at hc
   ·rcases dC.1 hc with hc | hc
    ·exact h c (List.dropLast_subset _ hc)
    ·simp at hc;subst hc;exact⟨(h d hdm).1,h1,(h d hdm).2.2⟩
   ·rcases dC.1 hc with hc | hc
    ·exact h c hc
    ·simp at hc;subst hc;exact⟨h0,h1,h2⟩
  ·simp at hc;subst hc;exact⟨h0,h1,h2⟩
theorem jG.nodup {l:List Int} (h:jG l):l.Nodup:=List.Pairwise.imp (fun h=>by omega) h
theorem wU.row {X Y:List Int} {s:List Bd} (h:wU X Y s) (hc:eP s) {b:Bd} (hb:b∈s):b.xs.length<=X.length:=fR (hc.each b hb).2.2.1.nodup (h b hb).2.2
theorem wU.len {X Y:List Int} {s:List Bd} (h:wU X Y s) (hc:eP s):s.length<=Y.length:=by
 have hn: (s.map Bd.y0).Nodup:=by
  unfold List.Nodup
  rw [List.pairwise_map]
  refine List.Pairwise.imp_of_mem (fun{a b} ha hb hab=>?_) hc.ord
  have:=(hc.each a ha).1
  have:=hab.1
  omega
 have:=fR hn (m:=Y) (fun x hx=>by
  obtain⟨b,hb,rfl⟩:=dE.1 hx
  exact(h b hb).1)
 rwa [cW] at this
theorem wU.mono {X Y X' Y':List Int} {s:List Bd} (h:wU X Y s) (hx: ∀c∈X,c∈X') (hy: ∀c∈Y,c∈Y'):wU X' Y' s:=fun b hb=>⟨hy _ (h b hb).1,hy _ (h b hb).2.1,fun c hc=>hx c ((h b hb).2.2 c hc)⟩
theorem GF (s:List Bd) (b:Bd): (jN s b).length<=s.length+1:=by
 unfold jN
 split
 ·omega
 ·split
  ·rename_i d hd
   have hsp:=qQ hd
   have:s.length=s.dropLast.length+1:=by
    conv=>lhs;rw [hsp]
    simp
   split <;> simp <;> omega
  ·simp
theorem jG.lt {l:List Int} (h:jG l) {i j:Nat} {x y:Int} (hij:i<j) (hx:l[i]? =some x) (hy:l[j]? =some y):x<y:=by
 have:=mX.1 h i j (bD.1 hx).1 (bD.1 hy).1 hij
 rw [(bD.1 hx).2,(bD.1 hy).2] at this;exact this
theorem jG.next {l:List Int} (h:jG l) {k:Nat} {x y c:Int} (hx:l[k]? =some x) (hy:l[k+1]? =some y) (hc:c∈l) (hxc:x<c):y<=c:=by
 obtain⟨j,hj⟩:=dZ hc
 rcases Nat.lt_trichotomy j (k+1) with h1 | h1 | h1
 ·exfalso
  by_cases e:j=k
  ·subst e;rw [hx] at hj;injection hj with hj;omega
  ·have:=h.lt (show j<k by omega) hj hx;omega
 ·subst h1;rw [hy] at hj;injection hj with hj;omega
 ·have:=h.lt h1 hy hj;omega
theorem wN {l:List aI} {φ:aI->Option Bool} (p:aI->Bool) (hφ: ∀x∈l,φ x=some (p x)) (hl:l.length<=4611686018427387000) (hN:l.length<N):iT N l φ=some (l.filter (fun x=> !p x)):=
 HX (z:=(⟨0,0,0,0⟩:aI)) p hφ hl hN
theorem Bs {l:List aI} (hl:l.length<=268435456):jK N l=some l:=by
 unfold jK;rw [kM (by simp;omega),aB,List.nil_append]
structure L4 (l m:List aI) (ys:List Int) (k:Nat) (out:List aA) (now:List aI) (nx:Nat):Prop where
 can:eP (out.map cA)
 top: ∀c∈out,∀y,ys[k]? =some y->c.Y1<=y
 cover: ∀x y,uz (out.map cA) x y= (sR l x y&&decide (∀a,ys[k]? =some a->y<a))
 lim:wU (sV l) (jy l) (out.map cA)
 N6: ∀r∈now,r∈m.take nx
 N7: ∀r∈m.take nx,∀y,ys[k]? =some y->y<r.Y1->r∈now
 len:now.length<=nx
 NL:nx<=m.length
 rest: ∀(j:Nat) r y,nx<=j->m[j]? =some r->ys[k]? =some y->y<=r.Y0
 low: ∀r∈now,∀y,ys[k]? =some y->r.Y0<=y
theorem Jb {l m:List aI} (h: ∀r,r∈l↔r∈m) (x y:Int):sR l x y=sR m x y:=by
 rw [eX,i5,i5]
 constructor
 ·rintro⟨r,hr,h1⟩;exact⟨r,(h r).1 hr,h1⟩
 ·rintro⟨r,hr,h1⟩;exact⟨r,(h r).2 hr,h1⟩
structure sX (l:List aI) (s:List aA):Prop where
 can:eP (s.map cA)
 cover: ∀x y,uz (s.map cA) x y=sR l x y
 lim:wU (sV l) (jy l) (s.map cA)
theorem o6 {l:List aI} (hl:l.length<=134217728) (hok: ∀r∈l,Bb r) (hN:4294967296<=N):Ok (iC N l) (sX l):=by
 unfold iC
 refine Ok.eq (Bs (by omega)) ?_
 obtain⟨m,h1,h2,h3⟩:=Ah (φ:=ka N) (l:=l) (fun a b=>a.Y0 - b.Y0) (fun a ha b hb=>by
  unfold ka;rw [wrap_small (hok a ha).s3 (hok b hb).s3]) (fun a _=>by omega) (fun a _ b _ c _ h1 h2=>by omega) (fun a _ b _ c _ h1 h2=>by omega) (by omega)
 refine Ok.eq h1 ?_
 have hml:m.length=l.length:=h2.length_eq
 have hmem: ∀r,r∈m↔r∈l:=fun r=>h2.mem_iff
 refine Ok.bind (Ok.mV (fun k s=>s=jy (m.take k)) (by omega) rfl (fun k s hk e=>?_)) ?_
 ·subst e
  refine Ok.idx hk (Ok.app ?_ (Ok.ret ?_))
  ·rw [i6];simp;omega
  ·rw [dP hk]
   unfold jy;rw [List.flatMap_append];rfl
 rintro s rfl
 rw [dU]
 have hgs:uF (jy m)=some ((jy m).mergeSort (fun x y=>decide (x<=y))):=by unfold uF;rw [aC (by rw [i6];omega)]
 refine Ok.eq hgs ?_
 have hsp: ((jy m).mergeSort (fun x y=>decide (x<=y))).Pairwise (fun x y=>x<=y):=by
  have:=List.pairwise_mergeSort (le:=fun(x y:Int)=>decide (x<=y)) (fun a b c h1 h2=>by simp at *;omega) (fun a b=>by simp;omega) (jy m)
  exact List.Pairwise.imp (fun h=>by simpa using h) this
 have hsm: ∀c,c∈(jy m).mergeSort (fun x y=>decide (x<=y))↔c∈jy m:=fun c=>List.mem_mergeSort
 have hsl: ((jy m).mergeSort (fun x y=>decide (x<=y))).length=2*m.length:=by rw [List.length_mergeSort,i6]
 generalize (jy m).mergeSort (fun x y=>decide (x<=y))=sy at hsp hsm hsl
 refine Ok.bind (CC (N:=N) hsp (by omega) (by omega)) ?_
 rintro ys ⟨hy,hym⟩
 have hyl:ys.length<=2*m.length:=by
  have:=fR hy.nodup (m:=sy) (fun c hc=>(hym c).1 hc)
  omega
 have y0m: ∀r∈m,r.Y0∈ys:=fun r hr=>(hym _).2 ((hsm _).2 (lz.2 ⟨r,hr, .inl rfl⟩))
 have y1m: ∀r∈m,r.Y1∈ys:=fun r hr=>(hym _).2 ((hsm _).2 (lz.2 ⟨r,hr, .inr rfl⟩))
 have yml: ∀c∈ys,c∈jy l:=fun c hc=>by
  obtain⟨r,hr,h⟩:=lz.1 ((hsm _).1 ((hym _).1 hc))
  exact lz.2 ⟨r,(hmem r).1 hr,h⟩
 refine Ok.bind (Ok.jH (Go:=fun s=>sX l s.1) (Rt:=fun _=>True) (fun s=>∃k nx:Nat,s.2.2.2= ((k:Nat):Int)/\s.2.2.1= ((nx:Nat):Int)/\(k<ys.length\/k=0)/\L4 l m ys k s.1 s.2.1 nx) (fun s=>ys.length - s.2.2.2.toNat) ?_ ?_ (by simp;omega)) ?_
 ·rintro⟨out,now,a,b⟩ ⟨k,nx,e1,e2,hk,I⟩
  dsimp only at e1 e2 I ⊢
  subst e1;subst e2
  rw [bP (by omega)]
  refine Ok.bif (fun h=>?_) (fun h=>Ok.br ?_)
  ·have hk1:k+1<ys.length:=by have:=of_decide_eq_true h;omega
   have hyk:ys[k]? =some ys[k]:=aN _
   have hyk1:ys[k+1]? =some ys[k+1]:=aN hk1
   have hlt:=hy.lt (Nat.lt_succ_self k) hyk hyk1
   have hcov:=I.cover
   simp only [hyk,Option.some.injEq,forall_eq'] at hcov
   refine Ok.eq (wN (fun r=>decide (r.Y1<=ys[k])) (fun r _=>by unfold oA;rw [k6 ys k (by omega),aB]) (by have:=I.len;have:=I.NL;omega) (by have:=I.len;have:=I.NL;omega)) ?_
   have hfl:=nJ (fun r:aI=> !decide (r.Y1<=ys[k])) now
   have hIl:=I.len
   have hIn:=I.NL
   refine Ok.bind (Ok.jH (Go:=fun s=>∃nx':Nat,s.2= ((nx':Nat):Int)/\nx'<=m.length/\s.1.length<=nx'/\(∀r∈s.1,r∈m.take nx')/\(∀r∈m.take nx',ys[k]<r.Y1->r∈s.1)/\(∀r∈s.1,r.Y0<=ys[k]/\ys[k]<r.Y1)/\(∀(j:Nat) r,nx'<=j->m[j]? =some r->ys[k]<r.Y0)) (Rt:=fun _=>True)
    (fun s=>∃nx':Nat,s.2= ((nx':Nat):Int)/\nx<=nx'/\nx'<=m.length/\s.1.length<=nx'/\(∀r∈s.1,r∈m.take nx')/\(∀r∈m.take nx',ys[k]<r.Y1->r∈s.1)/\(∀r∈s.1,r.Y0<=ys[k]/\ys[k]<r.Y1)) (fun s=>m.length - s.2.toNat) ?_ ?_ (by simp;omega)) ?_
   ·rintro⟨nw,b⟩ ⟨nx',e1,g0,g1,g2,g3,g4,g5⟩
    dsimp only at e1 g2 g3 g4 g5 ⊢
    subst e1
    refine Ok.bind (P:=fun b=>b=true↔∃h:nx'<m.length,m[nx'].Y0<=ys[k]) ?_ ?_
    ·refine Ok.bif (fun h=>?_) (fun h=>Ok.ret ?_)
     ·have hlt:nx'<m.length:=by have:=of_decide_eq_true h;omega
      refine Ok.idx hlt (Ok.idx (by omega) (Ok.ret ?_))
      rw [bR];exact⟨fun h=>⟨hlt,h⟩,fun⟨_,h⟩=>h⟩
     ·have:=of_decide_eq_false h
      constructor
      ·intro h;cases h
      ·rintro⟨h,_⟩;omega
    ·intro bb hbb
     refine Ok.bif (fun h=>?_) (fun h=>Ok.br ?_)
     ·obtain⟨hlt,h0⟩:=hbb.1 h
      have hts:m.take (nx'+1)=m.take nx'++[m[nx']]:=dP hlt
      refine Ok.idx hlt (Ok.app (by simp;omega) (Ok.nx ⟨⟨nx'+1,by rw [bP (by omega)],by omega,by omega,by simp;omega,fun r hr=>?_,fun r hr hr2=>?_,fun r hr=>?_⟩,by rw [bP (by omega)];simp only [cL];omega⟩))
      ·rw [hts]
       rcases dC.1 hr with h | h
       ·exact List.mem_append_left _ (g3 r h)
       ·exact List.mem_append_right _ h
      ·rw [hts] at hr
       rcases dC.1 hr with h | h
       ·exact List.mem_append_left _ (g4 r h hr2)
       ·exact List.mem_append_right _ h
      ·rcases dC.1 hr with h | h
       ·exact g5 r h
       ·simp at h;subst h
        refine⟨h0,?_⟩
        have:=(hok m[nx'] ((hmem _).1 (cM hlt))).y
        have:=I.rest nx' _ ys[k] g0 (aN hlt) hyk
        omega
     ·refine⟨nx',rfl,g1,g2,g3,g4,g5,fun j r hj hr=>?_⟩
      have hjl:=(bD.1 hr).1
      have hlt:nx'<m.length:=by omega
      have h0: ¬m[nx'].Y0<=ys[k]:=fun h0=>by rw [hbb.2 ⟨hlt,h0⟩] at h;cases h
      by_cases e:nx'=j
      ·subst e;rw [aN hlt] at hr;injection hr with hr;subst hr;omega
      ·have:=mX.1 h3 nx' j hlt hjl (by omega)
       have hr':=(bD.1 hr).2
       rw [hr'] at this;omega
   ·refine⟨nx,rfl,bT _,hIn,by dsimp only;omega,fun r hr=>I.N6 r (jI.1 hr).1,fun r hr h=>jI.2 ⟨I.N7 r hr ys[k] hyk h,by simpa using h⟩,fun r hr=>?_⟩
    have hr:=jI.1 hr
    have hr2:ys[k]<r.Y1:=by simpa using hr.2
    exact⟨I.low r hr.1 ys[k] hyk,hr2⟩
   ·rintro o ho
    refine Ok.cs ho ?_ (fun r=>r.elim)
    rintro⟨nw,b⟩ ⟨nx',e1,g1,g2,g3,g4,g5,g6⟩
    dsimp only at e1 g2 g3 g4 g5 ⊢
    subst e1
    refine Ok.idx (by omega) (Ok.idx hk1 ?_)
    have hnm: ∀r∈nw,r∈l:=fun r hr=>(hmem r).1 (List.take_subset _ _ (g3 r hr))
    obtain⟨row,nw',s1,s2,s3,s4,s5,s6,s7⟩:=Cz (N:=N) (l:=nw) (by omega) (fun r hr=>hok r (hnm r hr))
    refine Ok.eq s1 ?_
    have hlimx: ∀c∈row,c∈sV l:=fun c hc=>by
     obtain⟨r,hr,h⟩:=s7 c hc
     exact sW.2 ⟨r,hnm r hr,h⟩
    have hol:out.length<=2*l.length:=by have:=I.lim.len I.can;rw [i6,cW] at this;exact this
    have hox: ∀c∈out,c.Xs.length<=2*l.length:=fun c hc=>by
     have:=I.lim.row I.can (b:=cA c) (dE.2 ⟨c,hc,rfl⟩)
     rw [kO] at this;exact this
    obtain⟨out',p1,p2⟩:=FY (N:=N) (s:=out) (b:=⟨ys[k],ys[k+1],row⟩) (by omega) (fun c hc=>by have:=hox c hc;omega)
    refine Ok.eq p1 ?_
    have htop: ∀c∈out.map cA,c.y1<=(cA ⟨ys[k],ys[k+1],row⟩).y0:=fun c hc=>by
     obtain⟨d,hd,rfl⟩:=dE.1 hc
     exact I.top d hd ys[k] hyk
    have hcan:=vq I.can htop s3 s4
    refine Ok.nx ⟨⟨k+1,nx',rfl,rfl, .inl hk1,⟨by dsimp only;rw [p2];exact hcan,fun c hc y hy1=>?_,fun x y=>?_,?_,fun r hr=>g3 r (s2.subset hr),fun r hr y hy1 h=>?_,by rw [s2.length_eq];exact g2,g1,fun j r y hj hr hy1=>?_,fun r hr y hy1=>?_⟩⟩,by simp only [cL];omega⟩
    ·rw [hyk1] at hy1;injection hy1 with hy1;subst hy1
     have hm':cA c∈jN (out.map cA) (cA ⟨ys[k],ys[k+1],row⟩):=by rw [<-p2];exact dE.2 ⟨c,hc,rfl⟩
     exact vr htop (by show ys[k]<=ys[k+1];omega) _ hm'
    ·simp only [hyk1,Option.some.injEq,forall_eq']
     unfold uz
     rw [p2,vo htop (fun c hc=>(I.can.each c hc).1) (fun h=>absurd h (by show ¬ys[k+1]<=ys[k];omega))]
     by_cases hyy:ys[k]<=y/\y<ys[k+1]
     ·rw [aC (show (cA ⟨ys[k],ys[k+1],row⟩).y0<=y/\y< (cA ⟨ys[k],ys[k+1],row⟩).y1 from hyy),bU hyy.2,Bool.and_true]
      show oX row x=_
      rw [s5,eX,An,i5]
      constructor
      ·rintro⟨r,hr,h⟩
       have hrm:=List.take_subset _ _ (g3 r hr)
       have h5:=g5 r hr
       have:=hy.next hyk hyk1 (y1m r hrm) h5.2
       exact⟨r,hnm r hr,h,by omega,by omega⟩
      ·rintro⟨r,hr,h,h7,h8⟩
       have hrm:=(hmem r).2 hr
       have h9:r.Y0<=ys[k]:=by
        by_cases h10:r.Y0<=ys[k]
        ·exact h10
        ·have:=hy.next hyk hyk1 (y0m r hrm) (by omega);omega
       have h11:r∈m.take nx':=by
        obtain⟨j,hj⟩:=dZ hrm
        by_cases h12:j<nx'
        ·exact eZ (i:=j) (by rw [List.getElem?_take_of_lt h12];exact hj)
        ·have:=g6 j r (by omega) hj;omega
       exact⟨r,g4 r h11 (by omega),h⟩
     ·rw [aH (show ¬((cA ⟨ys[k],ys[k+1],row⟩).y0<=y/\y< (cA ⟨ys[k],ys[k+1],row⟩).y1) from hyy)]
      show uz (out.map cA) x y=_
      rw [hcov]
      by_cases h1:y<ys[k]
      ·rw [bU h1,bU (show y<ys[k+1] by omega)]
      ·rw [cF h1,cF (show ¬y<ys[k+1] by omega)]
    ·show wU (sV l) (jy l) (out'.map cA)
     rw [p2]
     exact I.lim.push (yml _ (cM _)) (yml _ (cM _)) hlimx
    ·rw [hyk1] at hy1;injection hy1 with hy1;subst hy1
     exact s2.symm.subset (g4 r hr (by omega))
    ·rw [hyk1] at hy1;injection hy1 with hy1;subst hy1
     exact hy.next hyk hyk1 (y0m r (eZ hr)) (g6 j r hj hr)
    ·rw [hyk1] at hy1;injection hy1 with hy1;subst hy1
     have:=(g5 r (s2.subset hr)).1;omega
  ·have hge: ¬k+1<ys.length:=by have:=of_decide_eq_false h;omega
   refine⟨I.can,fun x y=>?_,I.lim⟩
   rw [I.cover]
   by_cases hyn:ys= []
   ·have:sR l x y=false:=by
     rw [<-jY,i5]
     rintro⟨r,hr,_⟩
     have:=y0m r ((hmem r).2 hr)
     rw [hyn] at this;cases this
    rw [this];rfl
   ·have hkl:k<ys.length:=by
     rcases hk with h | h
     ·exact h
     ·subst h;exact List.length_pos_iff.2 hyn
    rw [aN hkl]
    simp only [Option.some.injEq,forall_eq']
    cases hc:sR l x y with
    | false=>rfl
    | true=>
     obtain⟨r,hr,_,h7,h8⟩:=i5.1 hc
     have:=y1m r ((hmem r).2 hr)
     obtain⟨j,hj⟩:=dZ this
     have hjl:=(bD.1 hj).1
     have:r.Y1<=ys[k]:=by
      by_cases e:j=k
      ·subst e;rw [aN hkl] at hj;injection hj with hj;omega
      ·have:=hy.lt (show j<k by omega) hj (aN hkl);omega
     rw [bU (show y<ys[k] by omega)];rfl
 ·refine⟨0,0,rfl,rfl, .inr rfl,?_⟩
  show L4 l m ys 0 [] [] 0
  refine⟨eP.nil,fun c hc=>(by cases hc),fun x y=>?_,fun b hb=>(by cases hb),fun r hr=>(by cases hr),fun r hr=>(by rw [List.take_zero] at hr;cases hr),bT _,dJ _,fun j r y _ hr hy0=>?_,fun r hr=>(by cases hr)⟩
  ·show false=_
   symm
   rw [Bool.and_eq_false_iff]
   cases hc:sR l x y with
   | false=>exact .inl rfl
   | true=>
    right
    obtain⟨r,hr,_,h7,h8⟩:=i5.1 hc
    have hr0:=y0m r ((hmem r).2 hr)
    have hpos:0<ys.length:=List.length_pos_of_mem hr0
    rw [decide_eq_false_iff_not]
    intro h
    have h:=h ys[0] (aN hpos)
    obtain⟨j,hj⟩:=dZ hr0
    by_cases e:j=0
    ·subst e;rw [aN hpos] at hj;injection hj with hj;omega
    ·have:=hy.lt (show 0<j by omega) (aN hpos) hj;omega
  ·obtain⟨j',hj'⟩:=dZ (y0m r (eZ hr))
   by_cases e:j'=0
   ·subst e;rw [hy0] at hj';injection hj' with hj';omega
   ·have:=hy.lt (show 0<j' by omega) hy0 hj';omega
 ·rintro o ho
  refine Ok.cs ho (fun s h=>Ok.ret h) (fun r=>r.elim)
end
end Go.Gk
namespace Go.Gk
open Go
section
variable {N:Nat}
def Aq:List Int->List (Int×Int)
 | a::b::l=>(a,b)::Aq l
 | _=>[]
theorem zJ: ∀(xs:List Int),(Aq xs).length=xs.length / 2
 | []=>rfl
 | [a]=>by simp [Aq]
 | a::b::l=>by unfold Aq;rw [dT,zJ l];simp only [dT];omega
theorem xL: ∀(xs:List Int) (j:Nat) (h:2*j+1<xs.length),(Aq xs)[j]? =some (xs[2*j],xs[2*j+1])
 | [],j,h=>by simp at h
 | [a],j,h=>by simp at h
 | a::b::l,0,h=>rfl
 | a::b::l,j+1,h=>by
  have:=xL l j (by simp at h;omega)
  unfold Aq
  rw [List.getElem?_cons_succ,this]
  have e1: (a::b::l)[2* (j+1)]=l[2*j]'(by simp at h;omega):=by simp [show 2* (j+1)=2*j+1+1 by omega]
  have e2: (a::b::l)[2* (j+1)+1]=l[2*j+1]'(by simp at h;omega):=by simp [show 2* (j+1)+1=2*j+1+1+1 by omega]
  rw [e1,e2]
theorem xM: ∀{xs:List Int},xs.length % 2=0->dG (Aq xs)=xs
 | [],_=>rfl
 | [a],h=>by simp at h
 | a::b::l,h=>by unfold Aq;rw [ju,xM (by simp at h;omega)]
theorem Jc {xs:List Int} (h:jG xs) (he:xs.length % 2=0) (x:Int):oX xs x=jt (Aq xs) x:=by
 have:=sT (l:=Aq xs) (by rw [xM he];exact h) x
 rwa [xM he] at this
theorem CD {xs:List Int}: ∀p∈Aq xs,p.1∈xs/\p.2∈xs:=by
 intro p hp
 obtain⟨j,hj⟩:=dZ hp
 have hjl:=(bD.1 hj).1
 rw [zJ] at hjl
 rw [xL xs j (by omega)] at hj
 injection hj with hj;subst hj
 exact⟨cM _,cM _⟩
theorem E8 {xs:List Int} (h:jG xs): ∀p∈Aq xs,p.1<p.2:=by
 intro p hp
 obtain⟨j,hj⟩:=dZ hp
 have hjl:=(bD.1 hj).1
 rw [zJ] at hjl
 rw [xL xs j (by omega)] at hj
 injection hj with hj;subst hj
 exact h.lt (show 2*j<2*j+1 by omega) (aN _) (aN _)
def mo (b:aA):List aI:=(Aq b.Xs).map fun p=>⟨p.1,b.Y0,p.2,b.Y1⟩
def aR (s:List aA):List aI:=s.flatMap mo
theorem lG (b:aA) (s:List aA):aR (b::s)=mo b++aR s:=rfl
theorem nj (b:aA): (mo b).length=b.Xs.length / 2:=by unfold mo;rw [cW,zJ]
theorem nG (s t:List aA):aR (s++t)=aR s++aR t:=List.flatMap_append
theorem yC (s:List aA) (k:Nat): (aR (s.take k)).length<=(aR s).length:=by
 conv=>rhs;rw [<-List.take_append_drop k s,nG,cX]
 omega
theorem Ar {s:List aA} {A B:Nat} (h1:s.length<=A) (h2: ∀b∈s,b.Xs.length<=B): (aR s).length<=A*B:=by
 induction s generalizing A with
 | nil=>simp [aR]
 | cons b s ih=>
  rw [lG,cX,nj]
  simp at h1
  obtain⟨A',rfl⟩: ∃A',A=A'+1:=⟨A - 1,by omega⟩
  have:=ih (A:=A') (by omega) (fun c hc=>h2 c (il _ hc))
  have:=h2 b (by simp)
  rw [Nat.add_mul];omega
theorem xN {s:List aA} (he: ∀b∈s,b.Xs.length % 2=0) (h1:s.length<=1099511627776) (h2: ∀b∈s,b.Xs.length<=1099511627776/\b.Xs.length<N) (h3: (aR s).length<=1099511627776):jc N s=some (aR s):=by
 refine Ok.get ?_
 unfold jc
 refine Ok.bind (Ok.mV (fun k t=>t=aR (s.take k)) (by omega) rfl (fun k t hk e=>?_)) (fun t e=>Ok.ret (by rw [e,dU]))
 subst e
 refine Ok.idx hk ?_
 have hm:=cM hk
 generalize hb:s[k]=b at hm ⊢
 have heb:=he b hm
 have hbl:=h2 b hm
 have hts:aR (s.take (k+1))=aR (s.take k)++mo b:=by
  rw [dP hk,nG,hb];simp [aR]
 have hle:=yC s (k+1)
 rw [hts,cX,nj] at hle
 refine Ok.bind (Ok.jH (Go:=fun s'=>s'.1=aR (s.take (k+1))) (Rt:=fun _=>True) (fun s'=>∃j:Nat,s'.2= ((2*j:Nat):Int)/\2*j<=b.Xs.length/\s'.1=aR (s.take k)++(mo b).take j) (fun s'=>b.Xs.length - s'.2.toNat) ?_ ⟨0,rfl,by omega,by simp⟩ (by simp;omega)) ?_
 ·rintro⟨acc,i⟩ ⟨j,e1,hj,e2⟩
  dsimp only at e1 e2 ⊢
  subst e1;subst e2
  refine Ok.bif (fun h=>?_) (fun h=>Ok.br ?_)
  ·have hlt:2*j+1<b.Xs.length:=by have:=of_decide_eq_true h;omega
   refine Ok.idx (by omega) ?_
   rw [bP (by omega)]
   refine Ok.idx hlt (Ok.app ?_ (Ok.nx ⟨⟨j+1,?_,by omega,?_⟩,?_⟩))
   ·simp;rw [nj];omega
   ·rw [BW (by omega)];congr 1
   ·rw [kE]
    congr 1
    have hg: (mo b)[j]? =some ⟨b.Xs[2*j],b.Y0,b.Xs[2*j+1],b.Y1⟩:=by
     unfold mo;rw [gv,xL _ _ hlt];rfl
    have hjl:=(bD.1 hg).1
    rw [dP hjl,(bD.1 hg).2]
   ·rw [BW (by omega)];simp only [cL];omega
  ·have hge:2*j=b.Xs.length:=by have:=of_decide_eq_false h;omega
   show aR (s.take k)++(mo b).take j=_
   rw [hts,lI (l:=mo b) (by rw [nj];omega)]
 ·rintro o ho
  exact Ok.cs ho (fun s' h=>Ok.ret h) (fun r=>r.elim)
theorem Jd {s:List aA} (h1:s.length<=1099511627776) (h2: ∀b∈s,b.Xs.length<=1099511627776) (h3: (aR s).length<=1099511627776):mE N s=some (((aR s).length:Nat):Int):=by
 refine Ok.get ?_
 unfold mE
 refine Ok.bind (Ok.mV (fun k t=>t= (((aR (s.take k)).length:Nat):Int)) (by omega) rfl (fun k t hk e=>?_)) (fun t e=>Ok.ret (by rw [e,dU]))
 subst e
 refine Ok.idx hk (Ok.ret ?_)
 have hm:=cM hk
 have hbl:=h2 _ hm
 have hts:aR (s.take (k+1))=aR (s.take k)++mo s[k]:=by
  rw [dP hk,nG];simp [aR]
 have hle:=yC s (k+1)
 rw [hts,cX,nj] at hle
 have e:Int.tdiv ((s[k].Xs.length:Nat):Int) 2= ((s[k].Xs.length / 2:Nat):Int):=by
  rw [show (2:Int)= ((2:Nat):Int) by rfl,<-Int.ofNat_tdiv]
 rw [e,DV (by omega),wrap_add (by omega),hts,cX,nj]
theorem E9 (l m:List aI) (x y:Int):sR (l++m) x y= (sR l x y||sR m x y):=List.any_append
theorem HZ {b:aA} (h:jG b.Xs) (he:b.Xs.length % 2=0) (x y:Int):sR (mo b) x y= (oX b.Xs x&&(decide (b.Y0<=y)&&decide (y<b.Y1))):=by
 rw [Jc h he,eX,i5,bW,sS,bW,bR,bR]
 unfold mo
 constructor
 ·rintro⟨r,hr,h1,h2⟩
  obtain⟨p,hp,rfl⟩:=dE.1 hr
  exact⟨⟨p,hp,h1⟩,h2⟩
 ·rintro⟨⟨p,hp,h1⟩,h2⟩
  exact⟨_,dE.2 ⟨p,hp,rfl⟩,h1,h2⟩
theorem o7: ∀{s:List aA},eP (s.map cA)->∀x y,sR (aR s) x y=uz (s.map cA) x y
 | [],_,x,y=>rfl
 | b::s,h,x,y=>by
  rw [lG,E9,o7 h.tail x y]
  have hb:=h.each (cA b) (by simp)
  rw [HZ hb.2.2.1 hb.2.2.2]
  unfold uz
  rw [eB,mO]
  by_cases hy:b.Y0<=y/\y<b.Y1
  ·rw [aC (show (cA b).y0<=y/\y< (cA b).y1 from hy),lO (fun c hc=> .inl (by have:=h.Al c hc;have e: (cA b).y1=b.Y1:=rfl;omega)),bU hy.1,bU hy.2]
   show (oX b.Xs x&&true||false)=oX b.Xs x
   simp
  ·rw [aH (show ¬((cA b).y0<=y/\y< (cA b).y1) from hy)]
   have: (decide (b.Y0<=y)&&decide (y<b.Y1))=false:=by rw [Bool.and_eq_false_iff,decide_eq_false_iff_not,decide_eq_false_iff_not];omega
   rw [this];simp
theorem qz {s:List aA} {r:aI} (h:r∈aR s): ∃b∈s,∃p∈Aq b.Xs,r= ⟨p.1,b.Y0,p.2,b.Y1⟩:=by
 unfold aR mo at h
 obtain⟨b,hb,h⟩:=List.mem_flatMap.1 h
 obtain⟨p,hp,rfl⟩:=dE.1 h
 exact⟨b,hb,p,hp,rfl⟩
theorem As {s:List aA} {X Y:List Int} (h:eP (s.map cA)) (hl:wU X Y (s.map cA)) (hx: ∀c∈X,small c) (hy: ∀c∈Y,small c): ∀r∈aR s,Bb r/\(r.X0∈X/\r.X1∈X)/\r.Y0∈Y/\r.Y1∈Y:=by
 intro r hr
 obtain⟨b,hb,p,hp,rfl⟩:=qz hr
 have hm:cA b∈s.map cA:=dE.2 ⟨b,hb,rfl⟩
 have hc:=h.each _ hm
 have hll:=hl _ hm
 have h1:=CD p hp
 have h2:=hll.2.2 p.1 h1.1
 have h3:=hll.2.2 p.2 h1.2
 exact⟨⟨E8 hc.2.2.1 p hp,hc.1,hx _ h2,hx _ h3,hy _ hll.1,hy _ hll.2.1⟩,⟨h2,h3⟩,hll.1,hll.2.1⟩
theorem wO {l:List Int} {x:Int} (h: ∀c∈l,c<=x):oX l x= (l.length % 2==1):=by unfold oX;rw [FW h]
theorem yD {l:List Int} {a x:Int} (h:x<a):oX (l++[a]) x=oX l x:=by unfold oX;rw [Ai,pE,aH (by omega),FV];rfl
def GG (l:List Int):Bool:=l.length % 2==1
theorem Au (l:List Int) (a:Int):GG (l++[a]) = !GG l:=by
 unfold GG
 rw [cX,eX,Bool.not_eq_true',beq_iff_eq,beq_eq_false_iff_ne]
 simp;omega
structure DW (gV:Bool->Bool->Bool) (a b a' b' out:List Int) (inA inB is:Bool) (pa pb:List Int):Prop where
 ea:a=pa++a'
 eb:b=pb++b'
 oa:inA=GG pa
 ob:inB=GG pb
 oo:is=GG out
 ok:is=gV inA inB
 low: ∀c,(c∈pa\/c∈pb\/c∈out)->∀d,(d∈a'\/d∈b')->c<d
 inc:jG out
 L5: ∀x,(∀d,(d∈a'\/d∈b')->x<d)->oX out x=gV (oX pa x) (oX pb x)
 mem: ∀c∈out,c∈pa\/c∈pb
 len:out.length<=pa.length+pb.length
theorem DW.step {gV:Bool->Bool->Bool} {a b a' b' out:List Int} {inA inB is:Bool} {pa pb:List Int} (I:DW gV a b a' b' out inA inB is pa pb) (ha:jG a) (hb:jG b) (x:Int) (ta tb:List Int) (wa wb:Bool)
  (h1:a'= (if wa then x::ta else ta)) (h2:b'= (if wb then x::tb else tb)) (hw:wa=true\/wb=true) (hx: ∀d,(d∈ta\/d∈tb)->x<d):
  DW gV a b ta tb (if gV (inA ^^ wa) (inB ^^ wb)=is then out else out++[x]) (inA ^^ wa) (inB ^^ wb) (gV (inA ^^ wa) (inB ^^ wb)) (if wa then pa++[x] else pa) (if wb then pb++[x] else pb):=by
 have hxm:x∈a'\/x∈b':=by
  rcases hw with h | h
  ·left;rw [h1,aC h];simp
  ·right;rw [h2,aC h];simp
 have hsub: ∀d,(d∈ta\/d∈tb)->d∈a'\/d∈b':=fun d hd=>by
  rcases hd with h | h
  ·left;rw [h1];split
   ·exact il _ h
   ·exact h
  ·right;rw [h2];split
   ·exact il _ h
   ·exact h
 have hlow: ∀c,(c∈pa\/c∈pb\/c∈out)->c<x:=fun c hc=>I.low c hc x hxm
 have hpa: ∀c∈(if wa then pa++[x] else pa),c∈pa\/(wa=true/\c=x):=fun c hc=>by
  split at hc
  ·rename_i h
   rcases dC.1 hc with h' | h'
   ·exact .inl h'
   ·simp at h';exact .inr ⟨h,h'⟩
  ·exact .inl hc
 have hpb: ∀c∈(if wb then pb++[x] else pb),c∈pb\/(wb=true/\c=x):=fun c hc=>by
  split at hc
  ·rename_i h
   rcases dC.1 hc with h' | h'
   ·exact .inl h'
   ·simp at h';exact .inr ⟨h,h'⟩
  ·exact .inl hc
 have hout: ∀c∈(if gV (inA ^^ wa) (inB ^^ wb)=is then out else out++[x]),c∈out\/c=x:=fun c hc=>by
  split at hc
  ·exact .inl hc
  ·rcases dC.1 hc with h' | h'
   ·exact .inl h'
   ·simp at h';exact .inr h'
 have ooA: (inA ^^ wa)=GG (if wa then pa++[x] else pa):=by
  rw [I.oa];cases wa <;> simp [Au]
 have ooB: (inB ^^ wb)=GG (if wb then pb++[x] else pb):=by
  rw [I.ob];cases wb <;> simp [Au]
 have ooO:gV (inA ^^ wa) (inB ^^ wb)=GG (if gV (inA ^^ wa) (inB ^^ wb)=is then out else out++[x]):=by
  split
  ·rename_i h;rw [h];exact I.oo
  ·rename_i h
   rw [Au,<-I.oo]
   cases hk:gV (inA ^^ wa) (inB ^^ wb) <;> cases his:is <;> simp_all
 refine⟨?_,?_,ooA,ooB,ooO,rfl,?_,?_,?_,?_,?_⟩
 ·rw [I.ea,h1];split <;> simp
 ·rw [I.eb,h2];split <;> simp
 ·intro c hc d hd
  have hd':=hx d hd
  have hdd:=hsub d hd
  rcases hc with h | h | h
  ·rcases hpa c h with h' | ⟨_,rfl⟩
   ·exact I.low c (.inl h') d hdd
   ·exact hd'
  ·rcases hpb c h with h' | ⟨_,rfl⟩
   ·exact I.low c (.inr (.inl h')) d hdd
   ·exact hd'
  ·rcases hout c h with h' | rfl
   ·exact I.low c (.inr (.inr h')) d hdd
   ·exact hd'
 ·split
  ·exact I.inc
  ·exact I.inc.HY fun c hc=>hlow c (.inr (.inr hc))
 ·intro y hy
  by_cases hxy:y<x
  ·have e1:oX (if wa then pa++[x] else pa) y=oX pa y:=by split;exact yD hxy;rfl
   have e2:oX (if wb then pb++[x] else pb) y=oX pb y:=by split;exact yD hxy;rfl
   have e3:oX (if gV (inA ^^ wa) (inB ^^ wb)=is then out else out++[x]) y=oX out y:=by split;rfl;exact yD hxy
   rw [e1,e2,e3]
   refine I.L5 y fun d hd=>?_
   have:x<=d:=by
    rcases hd with h | h
    ·rw [h1] at h
     split at h
     ·rcases dF.1 h with rfl | h
      ·exact Int.le_refl _
      ·have:=hx d (.inl h);omega
     ·have:=hx d (.inl h);omega
    ·rw [h2] at h
     split at h
     ·rcases dF.1 h with rfl | h
      ·exact Int.le_refl _
      ·have:=hx d (.inr h);omega
     ·have:=hx d (.inr h);omega
   omega
  ·rw [wO (l:=if wa then pa++[x] else pa),wO (l:=if wb then pb++[x] else pb),wO]
   ·have e1:=ooA;have e2:=ooB;have e3:=ooO
    unfold GG at e1 e2 e3
    rw [<-e1,<-e2,<-e3]
   ·intro c hc
    rcases hout c hc with h | rfl
    ·have:=hlow c (.inr (.inr h));omega
    ·omega
   ·intro c hc
    rcases hpb c hc with h | ⟨_,rfl⟩
    ·have:=hlow c (.inr (.inl h));omega
    ·omega
   ·intro c hc
    rcases hpa c hc with h | ⟨_,rfl⟩
    ·have:=hlow c (.inl h);omega
    ·omega
 ·intro c hc
  have m1: ∀c,c∈pa->c∈(if wa then pa++[x] else pa):=fun c h=>by split;exact List.mem_append_left _ h;exact h
  have m2: ∀c,c∈pb->c∈(if wb then pb++[x] else pb):=fun c h=>by split;exact List.mem_append_left _ h;exact h
  rcases hout c hc with h | rfl
  ·rcases I.mem c h with h | h
   ·exact .inl (m1 c h)
   ·exact .inr (m2 c h)
  ·rcases hw with h | h
   ·left;rw [aC h];simp
   ·right;rw [aC h];simp
 ·have:=I.len
  have h3: (if wa then pa++[x] else pa).length+ (if wb then pb++[x] else pb).length>=pa.length+pb.length+1:=by
   rcases hw with h | h
   ·subst h;cases wb <;> simp <;> omega
   ·subst h;cases wa <;> simp <;> omega
  split
  ·omega
  ·simp at h3 ⊢;omega
end
end Go.Gk
namespace Go.Gk
open Go
section
variable {N:Nat}
theorem jU (x:Int) (l:List Int):idx (x::l) 0=some x:=rfl
theorem sY {α:Type} (x:α) (l:List α):tm (x::l) 1 (((x::l).length:Nat):Int)=some l:=pr (x::l) 1 (by simp)
theorem kP {α:Type} (x:α) (l:List α):decide ((((x::l).length:Nat):Int)>0)=true:=bU (by simp)
theorem vt {α:Type} (x:α) (l:List α): ((((x::l).length:Nat):Int)==0)=false:=by rw [beq_eq_false_iff_ne];simp;omega
theorem Fa {a b:List Int} (ha:jG a) (hb:jG b) (h:a≠[]\/b≠[]): ∃x ta tb wa wb,a= (if wa then x::ta else ta)/\b= (if wb then x::tb else tb)/\(wa=true\/wb=true)/\(∀d,(d∈ta\/d∈tb)->x<d):=by
 match a,b,ha,hb,h with
 | [],[],_,_,h=>rcases h with h | h <;> exact absurd rfl h
 | x::ta,[],ha,_,_=>exact⟨x,ta,[],true,false,rfl,rfl, .inl rfl,fun d hd=>by rcases hd with h | h;exact ha.head d h;cases h⟩
 | [],y::tb,_,hb,_=>exact⟨y,[],tb,false,true,rfl,rfl, .inr rfl,fun d hd=>by rcases hd with h | h;cases h;exact hb.head d h⟩
 | x::ta,y::tb,ha,hb,_=>
  rcases Int.lt_trichotomy x y with h | h | h
  ·refine⟨x,ta,y::tb,true,false,rfl,rfl, .inl rfl,fun d hd=>?_⟩
   rcases hd with h1 | h1
   ·exact ha.head d h1
   ·rcases dF.1 h1 with rfl | h1
    ·exact h
    ·have:=hb.head d h1;omega
  ·subst h
   exact⟨x,ta,tb,true,true,rfl,rfl, .inl rfl,fun d hd=>by rcases hd with h | h;exact ha.head d h;exact hb.head d h⟩
  ·refine⟨y,x::ta,tb,false,true,rfl,rfl, .inr rfl,fun d hd=>?_⟩
   rcases hd with h1 | h1
   ·rcases dF.1 h1 with rfl | h1
    ·exact h
    ·have:=ha.head d h1;omega
   ·exact hb.head d h1
theorem GH {φ:Bool->Bool->Option Bool} {gV:Bool->Bool->Bool} (hφ: ∀p q,φ p q=some (gV p q)) (hk:gV false false=false) {a b:List Int} (ha:jG a) (hb:jG b) (hae:a.length % 2=0) (hbe:b.length % 2=0)
  (jQ:a.length<=1099511627776) (hbl:b.length<=1099511627776) (hN:a.length+b.length<N):
  Ok (qB N a b φ) (fun m=>jG m/\m.length % 2=0/\(∀x,oX m x=gV (oX a x) (oX b x))/\∀c∈m,c∈a\/c∈b):=by
 unfold qB
 refine Ok.bind (Ok.jH (Go:=fun s=>jG s.2.2.1/\s.2.2.1.length % 2=0/\(∀x,oX s.2.2.1 x=gV (oX a x) (oX b x))/\∀c∈s.2.2.1,c∈a\/c∈b) (Rt:=fun _=>True)
  (fun s=>∃pa pb,DW gV a b s.1 s.2.1 s.2.2.1 s.2.2.2.1 s.2.2.2.2.1 s.2.2.2.2.2 pa pb) (fun s=>s.1.length+s.2.1.length) ?_ ?_ hN) ?_
 ·rintro⟨a',b',out,inA,inB,is⟩ ⟨pa,pb,I⟩
  dsimp only at I ⊢
  have ha':jG a':=by have:=ha;rw [I.ea] at this;exact(mW.1 this).2.1
  have hb':jG b':=by have:=hb;rw [I.eb] at this;exact(mW.1 this).2.1
  have hle:pa.length+a'.length=a.length:=by rw [I.ea];simp
  have hlb:pb.length+b'.length=b.length:=by rw [I.eb];simp
  have hlo:=I.len
  by_cases hne:a'≠[]\/b'≠[]
  ·obtain⟨x,ta,tb,wa,wb,h1,h2,hw,hx⟩:=Fa ha' hb' hne
   have J:=I.step ha hb x ta tb wa wb h1 h2 hw hx
   have fin: ∀(sa sb:List Int×Bool),sa= (ta,inA ^^ wa)->sb= (tb,inB ^^ wb)->
     Ok ((φ sa.2 sb.2).bind fun x220=>(bif (x220 != is) then ((app 8 out ([x]: (List Int))).bind fun x227=>some (x227,x220)) else (some (out,is))).bind fun s224=>some (Fl.nx (sa.1,sb.1,s224.1,sa.2,sb.2,s224.2)))
      (IA (fun s':List Int×List Int×List Int×Bool×Bool×Bool=>(∃pa pb,DW gV a b s'.1 s'.2.1 s'.2.2.1 s'.2.2.2.1 s'.2.2.2.2.1 s'.2.2.2.2.2 pa pb)/\s'.1.length+s'.2.1.length<a'.length+b'.length) (fun s=>jG s.2.2.1/\s.2.2.1.length % 2=0/\(∀x,oX s.2.2.1 x=gV (oX a x) (oX b x))/\∀c∈s.2.2.1,c∈a\/c∈b) (fun _:Empty=>True)):=by
    rintro _ _ rfl rfl
    refine Ok.eq (hφ _ _) ?_
    have hlt:ta.length+tb.length<a'.length+b'.length:=by
     rw [h1,h2]
     rcases hw with h | h
     ·subst h;cases wb <;> simp <;> omega
     ·subst h;cases wa <;> simp <;> omega
    by_cases he:gV (inA ^^ wa) (inB ^^ wb)=is
    ·rw [aC he] at J
     refine Ok.eq (x:=(out,is)) (by rw [he,show (is != is)=false by simp,aS]) ?_
     rw [he] at J
     exact Ok.nx ⟨⟨_,_,J⟩,hlt⟩
    ·rw [aH he] at J
     refine Ok.eq (x:=(out++[x],gV (inA ^^ wa) (inB ^^ wb))) (by rw [show (gV (inA ^^ wa) (inB ^^ wb) != is)=true by simp [he],aQ,kM (by simp;omega),aB]) (Ok.nx ⟨⟨_,_,J⟩,hlt⟩)
   rcases hw with rfl | rfl
   ·rw [aC rfl] at h1
    subst h1
    refine Ok.eq (x:=true) (by rw [kP,aQ]) ?_
    rw [aQ]
    have hle2: (bif (((b'.length:Nat):Int)==0) then (some true) else (bif (decide ((((x::ta).length:Nat):Int)>0)) then ((idx (x::ta) 0).bind fun x181=>(idx b' 0).bind fun x183=>some (decide (x181<=x183))) else (some false)))=some true:=by
     cases b' with
     | nil=>rfl
     | cons y b''=>
      rw [vt,aS,kP,aQ,jU,aB,jU,aB]
      have:x<=y:=by
       cases wb with
       | true=>simp at h2;omega
       | false=>have:=hx y (.inr (by simp at h2;rw [<-h2];simp));omega
      rw [bU this]
    refine Ok.eq hle2 ?_
    rw [aQ]
    refine Ok.eq (x:=x) (by rw [jU,aB]) ?_
    refine Ok.eq (x:=true) (by rw [kP,aQ,jU,aB];simp) ?_
    refine Ok.eq (x:=(ta,!inA)) (by rw [aQ,sY,aB]) ?_
    cases wb with
    | true=>
     rw [aC rfl] at h2
     subst h2
     refine Ok.eq (x:=true) (by rw [kP,aQ,jU,aB];simp) ?_
     refine Ok.eq (x:=(tb,!inB)) (by rw [aQ,sY,aB]) ?_
     exact fin _ _ (by simp) (by simp)
    | false=>
     have h2:b'=tb:=h2
     subst h2
     refine Ok.eq (x:=false) ?_ ?_
     ·cases b' with
      | nil=>rfl
      | cons y b''=>
       have:=hx y (.inr (by simp))
       rw [kP,aQ,jU,aB,show (y==x)=false by rw [beq_eq_false_iff_ne];omega]
     ·refine Ok.eq (x:=(b',inB)) (by rw [aS]) ?_
      exact fin _ _ (by simp) (by simp)
   ·cases wa with
    | true=>
     rw [aC rfl] at h1 h2
     subst h1;subst h2
     refine Ok.eq (x:=true) (by rw [kP,aQ]) ?_
     rw [aQ]
     refine Ok.eq (x:=true) (by rw [vt,aS,kP,aQ,jU,aB,jU,aB];simp) ?_
     rw [aQ]
     refine Ok.eq (x:=x) (by rw [jU,aB]) ?_
     refine Ok.eq (x:=true) (by rw [kP,aQ,jU,aB];simp) ?_
     refine Ok.eq (x:=(ta,!inA)) (by rw [aQ,sY,aB]) ?_
     refine Ok.eq (x:=true) (by rw [kP,aQ,jU,aB];simp) ?_
     refine Ok.eq (x:=(tb,!inB)) (by rw [aQ,sY,aB]) ?_
     exact fin _ _ (by simp) (by simp)
    | false=>
     have h1:a'=ta:=h1
     rw [aC rfl] at h2
     subst h1;subst h2
     refine Ok.eq (x:=true) (by rw [kP,I8];simp) ?_
     rw [aQ]
     refine Ok.eq (x:=false) ?_ ?_
     ·rw [vt,aS]
      cases a' with
      | nil=>rfl
      | cons y a''=>
       have:=hx y (.inl (by simp))
       rw [kP,aQ,jU,aB,jU,aB,cF (by omega)]
     ·rw [aS]
      refine Ok.eq (x:=x) (by rw [jU,aB]) ?_
      refine Ok.eq (x:=false) ?_ ?_
      ·cases a' with
       | nil=>rfl
       | cons y a''=>
        have:=hx y (.inl (by simp))
        rw [kP,aQ,jU,aB,show (y==x)=false by rw [beq_eq_false_iff_ne];omega]
      ·refine Ok.eq (x:=(a',inA)) (by rw [aS]) ?_
       refine Ok.eq (x:=true) (by rw [kP,aQ,jU,aB];simp) ?_
       refine Ok.eq (x:=(tb,!inB)) (by rw [aQ,sY,aB]) ?_
       exact fin _ _ (by simp) (by simp)
  ·have ea:a'= []:=Classical.byContradiction fun h=>hne (.inl h)
   have eb:b'= []:=Classical.byContradiction fun h=>hne (.inr h)
   subst ea;subst eb
   refine Ok.eq (x:=false) rfl ?_
   refine Ok.br ⟨I.inc,?_,fun x=>?_,fun c hc=>?_⟩
   ·have h1:=I.ea;have h2:=I.eb
    rw [ox] at h1 h2
    have h3:GG out=false:=by
     rw [<-I.oo,I.ok,I.oa,I.ob,<-h1,<-h2]
     unfold GG;rw [hae,hbe];exact hk
    unfold GG at h3
    rw [beq_eq_false_iff_ne] at h3
    dsimp only;omega
   ·have:=I.L5 x (fun d hd=>by rcases hd with h | h <;> cases h)
    have h1:=I.ea;have h2:=I.eb
    rw [ox] at h1 h2
    rw [h1,h2];exact this
   ·have h1:=I.ea;have h2:=I.eb
    rw [ox] at h1 h2
    rw [h1,h2];exact I.mem c hc
 ·exact⟨[],[],rfl,rfl,rfl,rfl,rfl,hk.symm,fun c hc=>(by rcases hc with h | h | h <;> cases h),jX,fun x _=>hk.symm,fun c hc=>(by cases hc),bT _⟩
 ·rintro o ho
  exact Ok.cs ho (fun s h=>Ok.ret h) (fun r=>r.elim)
theorem eP.app {s t:List Bd} (h:eP (s++t)):eP t:=⟨fun b hb=>h.each b (List.mem_append_right _ hb),(mW.1 h.ord).2.1⟩
theorem eP.low {b:Bd} {s:List Bd} (h:eP (b::s)): ∀c∈b::s,b.y0<=c.y0:=fun c hc=>by
 rcases dF.1 hc with rfl | hc
 ·exact Int.le_refl _
 ·have:=h.Al c hc;have:=(h.each b (by simp)).1;omega
theorem eP.high {s:List Bd} {b:Bd} (h:eP (s++[b])): ∀c∈s++[b],c.y1<=b.y1:=fun c hc=>by
 rcases dC.1 hc with hc | hc
 ·have:=((mW.1 h.ord).2.2 c hc b (by simp)).1
  have:=(h.each b (by simp)).1;omega
 ·simp at hc;subst hc;exact Int.le_refl _
def EB (s:List aA) (y e:Int):List Int×Int:=match s with
 | []=>([],e)
 | b::_=>if y<b.Y0 then ([],if b.Y0<e then b.Y0 else e) else (b.Xs,if b.Y1<e then b.Y1 else e)
theorem CE {α:Type} (x:α) (l:List α):idx (x::l) 0=some x:=rfl
theorem JM (s:List aA) (y e:Int):nc N s y e=some (EB s y e):=by
 unfold nc EB
 cases s with
 | nil=>rfl
 | cons b s=>
  dsimp only
  rw [vt,aS,CE,aB,aB,aB,aB]
  by_cases h:y<b.Y0
  ·rw [bU h,aQ,aC h]
  ·rw [cF h,aS,aH h]
theorem F0 {s:List aA} {y e:Int} {X Y:List Int} (hc:eP (s.map cA)) (hl:wU X Y (s.map cA)) (hh: ∀b t,s=b::t->y<b.Y1) (hy:y<e):
  y< (EB s y e).2/\(EB s y e).2<=e/\(∀y',y<=y'->y'< (EB s y e).2->rowAt (s.map cA) y'= (EB s y e).1)/\jG (EB s y e).1/\(EB s y e).1.length % 2=0/\((EB s y e).2=e\/(EB s y e).2∈Y)/\∀c∈(EB s y e).1,c∈X:=by
 cases s with
 | nil=>exact⟨hy,Int.le_refl _,fun y' _ _=>rfl,jX,rfl, .inl rfl,fun c hc=>(by cases hc)⟩
 | cons b t=>
  have hb:=hc.each (cA b) (by simp)
  have hlb:=hl (cA b) (by simp)
  have h1:=hh b t rfl
  unfold EB
  dsimp only
  by_cases h:y<b.Y0
  ·rw [aC h]
   dsimp only
   refine⟨by split <;> omega,by split <;> omega,fun y' h2 h3=>?_,jX,rfl,?_,fun c hc=>(by cases hc)⟩
   ·exact hc.vn (by show y'<b.Y0;split at h3 <;> omega)
   ·split
    ·exact .inr hlb.1
    ·exact .inl rfl
  ·rw [aH h]
   dsimp only
   refine⟨by split <;> omega,by split <;> omega,fun y' h2 h3=>?_,hb.2.2.1,hb.2.2.2,?_,hlb.2.2⟩
   ·exact eP.mP (b:=cA b) (by show b.Y0<=y';omega) (by show y'<b.Y1;split at h3 <;> omega)
   ·split
    ·exact .inr hlb.2.1
    ·exact .inl rfl
theorem BX {y:Int} {a:List aA} (hN:a.length<N) {body:List aA->Option (Fl (List aA) Empty)}
  (hb:body=fun(s373: (List aA))=>((bif (decide ((s373.length:Int)>0)) then ((idx s373 0).bind fun x407=>some (decide (x407.Y1<=y))) else (some false)).bind fun s405=>bif s405 then ((tm s373 1 (s373.length:Int)).bind fun x410=>some (.nx x410)) else (some (.br s373)):Option (Fl ((List aA)) Empty))):
  Ok (jH body N a) (L2 (fun a'=>∃p,a=p++a'/\(∀c∈p,c.Y1<=y)/\∀b t,a'=b::t->y<b.Y1) (fun _=>True)):=by
 subst hb
 refine Ok.jH (fun a'=>∃p,a=p++a'/\∀c∈p,c.Y1<=y) List.length ?_ ⟨[],rfl,fun c hc=>(by cases hc)⟩ hN
 rintro a' ⟨p,e,hp⟩
 cases a' with
 | nil=>exact Ok.eq (x:=false) rfl (Ok.br ⟨p,e,hp,fun b t h=>(by cases h)⟩)
 | cons b t=>
  refine Ok.eq (x:=decide (b.Y1<=y)) (by rw [kP,aQ,CE,aB]) ?_
  refine Ok.bif (fun h=>?_) (fun h=>Ok.br ⟨p,e,hp,fun b' t' h'=>?_⟩)
  ·have h:=of_decide_eq_true h
   refine Ok.eq (sY b t) (Ok.nx ⟨⟨p++[b],by rw [e];simp,fun c hc=>?_⟩,by simp⟩)
   rcases dC.1 hc with hc | hc
   ·exact hp c hc
   ·simp at hc;subst hc;exact h
  ·have h:=of_decide_eq_false h
   injection h' with h1 h2;subst h1;omega
theorem DX {p a':List Bd} {y y':Int} (hp: ∀c∈p,c.y1<=y) (h:y<=y'):rowAt (p++a') y'=rowAt a' y':=by
 rw [qe,aH]
 rintro⟨b,hb,h1⟩
 have:=hp b hb;omega
structure CF (gV:Bool->Bool->Bool) (X Y:List Int) (a b s:List aA):Prop where
 can:eP (s.map cA)
 cover: ∀x y,uz (s.map cA) x y=gV (uz (a.map cA) x y) (uz (b.map cA) x y)
 lim:wU X Y (s.map cA)
theorem Av {s:List aA} (hs:s≠[]) (hl:s.length<=1099511627776) (hc:eP (s.map cA)): ∃f l,idx s 0=some f/\idx s (IntKind.wrap .i64 (((s.length:Nat):Int) - 1))=some l/\f∈s/\l∈s/\∀c∈s,f.Y0<=c.Y0/\c.Y1<=l.Y1:=by
 cases s with
 | nil=>exact absurd rfl hs
 | cons f t=>
  rw [jq (by simp) (by omega)]
  have hlt: (f::t).length - 1< (f::t).length:=by simp
  refine⟨f,(f::t)[(f::t).length - 1],rfl,k6 _ _ hlt,by simp,cM _,fun c hcm=>⟨?_,?_⟩⟩
  ·exact hc.low (cA c) (dE.2 ⟨c,hcm,rfl⟩)
  ·have e: (f::t)= (f::t).dropLast++[(f::t)[(f::t).length - 1]]:=by
    have:=List.dropLast_concat_getLast (show f::t≠[] by simp)
    rw [<-List.getLast_eq_getElem (h:=by simp)];exact this.symm
   generalize (f::t)[(f::t).length - 1]=l at e
   have hc2:=hc
   rw [e,dI] at hc2
   have hm:cA c∈(List.map cA (f::t).dropLast++[cA l]):=by
    have:cA c∈(f::t).map cA:=dE.2 ⟨c,hcm,rfl⟩
    rw [e,dI] at this;exact this
   exact eP.high hc2 (cA c) hm
theorem Fb {φ:Bool->Bool->Option Bool} {gV:Bool->Bool->Bool} (hφ: ∀p q,φ p q=some (gV p q)) (hk:gV false false=false) {a b:List aA} {X Y:List Int} (ca:eP (a.map cA)) (cb:eP (b.map cA))
  (la:wU X Y (a.map cA)) (lb:wU X Y (b.map cA)) (hX:X.length<=1048576000) (hY:Y.length<=1048576000) (hs: ∀c∈Y,small c) (hN:4398046511104<=N):Ok (ph N a b φ) (CF gV X Y a b):=by
 have jQ:a.length<=Y.length:=by have:=la.len ca;rwa [cW] at this
 have hbl:b.length<=Y.length:=by have:=lb.len cb;rwa [cW] at this
 unfold ph
 rw [wrap_add (by omega)]
 refine Ok.bif (fun h=>Ok.ret ?_) (fun h=>?_)
 ·have h:a.length+b.length=0:=by have:=beq_iff_eq.1 h;omega
  have e1:a= []:=List.eq_nil_of_length_eq_zero (by omega)
  have e2:b= []:=List.eq_nil_of_length_eq_zero (by omega)
  subst e1;subst e2
  exact⟨eP.nil,fun x y=>hk.symm,fun c hc=>(by cases hc)⟩
 have h0:a≠[]\/b≠[]:=by
  rw [beq_eq_false_iff_ne] at h
  by_cases e:a= []
  ·right;intro e2;subst e;subst e2;exact h rfl
  ·exact .inl e
 refine Ok.bind (Ok.mV (fun k s=>match k with | 0=>True | 1=>a= []\/((∀c∈a,s.1<=c.Y0/\c.Y1<=s.2)/\s.1∈Y/\s.2∈Y) | _=>((∀c∈a,s.1<=c.Y0/\c.Y1<=s.2)/\(∀c∈b,s.1<=c.Y0/\c.Y1<=s.2)/\s.1∈Y/\s.2∈Y)) (by simp) trivial (fun k s hk hI=>?_)) ?_
 ·obtain⟨y,e⟩:=s
  have hk:k=0\/k=1:=by simp at hk;omega
  rcases hk with rfl | rfl
  ·refine Ok.ix (x:=a) rfl ?_
   by_cases ea:a= []
   ·subst ea
    exact Ok.eq (x:=(y,e)) rfl (Ok.ret (.inl rfl))
   ·obtain⟨f,l,f1,f2,f3,f4,f5⟩:=Av ea (by omega) ca
    have hpos:decide (((a.length:Nat):Int)>0)=true:=bU (by have:=List.length_pos_iff.2 ea;omega)
    refine Ok.eq (x:=(f.Y0,l.Y1)) ?_ (Ok.ret (.inr ⟨f5,(la _ (dE.2 ⟨f,f3,rfl⟩)).1,(la _ (dE.2 ⟨l,f4,rfl⟩)).2.1⟩))
    rw [hpos,aQ]
    show ((some true).bind _)=_
    rw [aB,aQ,f1,aB,f2,aB,aB,aB,aB]
    simp
  ·refine Ok.ix (x:=b) rfl ?_
   have hI:a= []\/((∀c∈a,y<=c.Y0/\c.Y1<=e)/\y∈Y/\e∈Y):=hI
   by_cases eb:b= []
   ·subst eb
    refine Ok.eq (x:=(y,e)) rfl (Ok.ret ?_)
    rcases hI with h | ⟨h1,h2,h3⟩
    ·rcases h0 with h' | h'
     ·exact absurd h h'
     ·exact absurd rfl h'
    ·exact⟨h1,fun c hc=>(by cases hc),h2,h3⟩
   ·obtain⟨f,l,f1,f2,f3,f4,f5⟩:=Av eb (by omega) cb
    have hpos:decide (((b.length:Nat):Int)>0)=true:=bU (by have:=List.length_pos_iff.2 eb;omega)
    have g1:f.Y0∈Y:=(lb _ (dE.2 ⟨f,f3,rfl⟩)).1
    have g2:l.Y1∈Y:=(lb _ (dE.2 ⟨l,f4,rfl⟩)).2.1
    by_cases ea:a= []
    ·subst ea
     refine Ok.eq (x:=(f.Y0,l.Y1)) ?_ (Ok.ret ⟨fun c hc=>(by cases hc),f5,g1,g2⟩)
     rw [hpos,aQ]
     show ((some true).bind _)=_
     rw [aB,aQ,f1,aB,f2,aB,aB,aB,aB]
     simp
    ·obtain⟨h1,h2,h3⟩:=hI.resolve_left ea
     refine Ok.eq (x:=(if f.Y0<y then f.Y0 else y,if e<l.Y1 then l.Y1 else e)) ?_ (Ok.ret ⟨fun c hc=>?_,fun c hc=>?_,?_,?_⟩)
     ·rw [hpos,aQ]
      have ez: (((a.length:Nat):Int)==0)=false:=by rw [beq_eq_false_iff_ne];have:=List.length_pos_iff.2 ea;omega
      rw [ez]
      show ((some false).bind _)=_
      rw [aB,aS,aB,f1,aB,f2,aB]
     ·have:=h1 c hc;dsimp only;split <;> split <;> omega
     ·have:=f5 c hc;dsimp only;split <;> split <;> omega
     ·dsimp only;split
      ·exact g1
      ·exact h2
     ·dsimp only;split
      ·exact g2
      ·exact h3
 ·rintro⟨y0,e0⟩ hI
  have hI: (∀c∈a,y0<=c.Y0/\c.Y1<=e0)/\(∀c∈b,y0<=c.Y0/\c.Y1<=e0)/\y0∈Y/\e0∈Y:=hI
  obtain⟨ia,ib,iy,ie⟩:=hI
  have sy:=hs _ iy
  have se:=hs _ ie
  unfold small at sy se
  dsimp only
  refine Ok.bind (Ok.jH (Go:=fun s=>CF gV X Y a b s.2.2.1) (Rt:=fun _=>True)
   (fun s=>∃pa pb,a=pa++s.1/\b=pb++s.2.1/\(∀c∈pa,c.Y1<=s.2.2.2)/\(∀c∈pb,c.Y1<=s.2.2.2)/\y0<=s.2.2.2/\s.2.2.2<=max y0 e0/\s.2.2.2∈Y/\eP (s.2.2.1.map cA)/\wU X Y (s.2.2.1.map cA)/\(∀c∈s.2.2.1,c.Y1<=s.2.2.2)/\
    ∀x y,uz (s.2.2.1.map cA) x y= (gV (uz (a.map cA) x y) (uz (b.map cA) x y)&&decide (y<s.2.2.2)))
   (fun s=>(e0 - s.2.2.2).toNat) ?_ ?_ (by dsimp only;omega)) ?_
  ·rintro⟨a',b',out,y⟩ ⟨pa,pb,ea,eb,hpa,hpb,hy0,hye,hyY,hcan,hlim,htop,hcov⟩
   dsimp only at ea eb hpa hpb hy0 hye hyY hcan hlim htop hcov ⊢
   refine Ok.bif (fun h=>?_) (fun h=>Ok.br ?_)
   ·have hlt:y<e0:=of_decide_eq_true h
    have hsl: ∀(p s t:List aA),t=p++s->s.length<=t.length:=fun p s t e=>by rw [e];simp
    have hal':=hsl _ _ _ ea
    have hbl':=hsl _ _ _ eb
    refine Ok.bind (BX (y:=y) (a:=a') (by omega) rfl) (fun o ho=>Ok.cs ho ?_ (fun r=>r.elim))
    rintro a2 ⟨qa,ea2,hqa,hha⟩
    refine Ok.bind (BX (y:=y) (a:=b') (by omega) rfl) (fun o ho=>Ok.cs ho ?_ (fun r=>r.elim))
    rintro b2 ⟨qb,eb2,hqb,hhb⟩
    have ea3:a= (pa++qa)++a2:=by rw [ea,ea2];simp
    have eb3:b= (pb++qb)++b2:=by rw [eb,eb2];simp
    have hPa: ∀c∈pa++qa,c.Y1<=y:=fun c hc=>by rcases dC.1 hc with h | h;exact hpa c h;exact hqa c h
    have hPb: ∀c∈pb++qb,c.Y1<=y:=fun c hc=>by rcases dC.1 hc with h | h;exact hpb c h;exact hqb c h
    have ca2:eP (a2.map cA):=by have:=ca;rw [ea3,dI] at this;exact this.app
    have cb2:eP (b2.map cA):=by have:=cb;rw [eb3,dI] at this;exact this.app
    have la2:wU X Y (a2.map cA):=fun c hc=>la c (by rw [ea3,dI];exact List.mem_append_right _ hc)
    have lb2:wU X Y (b2.map cA):=fun c hc=>lb c (by rw [eb3,dI];exact List.mem_append_right _ hc)
    refine Ok.eq (JM a2 y e0) (Ok.eq (JM b2 y e0) ?_)
    obtain⟨a1,a3,a4,a5,a6,a7,a8⟩:=F0 ca2 la2 hha hlt
    obtain⟨b1,b3,b4,b5,b6,b7,b8⟩:=F0 cb2 lb2 hhb hlt
    have hal2: (EB a2 y e0).1.length<=X.length:=fR a5.nodup a8
    have hbl2: (EB b2 y e0).1.length<=X.length:=fR b5.nodup b8
    generalize EB a2 y e0=pa2 at *
    generalize EB b2 y e0=pb2 at *
    obtain⟨xa,n⟩:=pa2
    obtain⟨xb,m⟩:=pb2
    dsimp only at *
    refine Ok.bind (GH hφ hk a5 b5 a6 b6 (by omega) (by omega) (by omega)) ?_
    rintro row ⟨r1,r2,r3,r4⟩
    have hnx: ∃nx,nx= (if m<n then m else n)/\y<nx/\nx<=e0/\nx<=n/\nx<=m/\nx∈Y:=by
     refine⟨_,rfl,by split <;> omega,by split <;> omega,by split <;> omega,by split <;> omega,?_⟩
     split
     ·rcases b7 with h | h
      ·rw [h];exact ie
      ·exact h
     ·rcases a7 with h | h
      ·rw [h];exact ie
      ·exact h
    obtain⟨nx,hnx,n1,n2,n3,n4,n5⟩:=hnx
    rw [<-hnx]
    have hol:out.length<=Y.length:=by have:=hlim.len hcan;rwa [cW] at this
    obtain⟨out',p1,p2⟩:=FY (N:=N) (s:=out) (b:=⟨y,nx,row⟩) (by omega) (fun c hc=>by
     have:=hlim.row hcan (b:=cA c) (dE.2 ⟨c,hc,rfl⟩)
     have e: (cA c).xs=c.Xs:=rfl
     rw [e] at this;omega)
    refine Ok.eq p1 ?_
    have htop': ∀c∈out.map cA,c.y1<=(cA ⟨y,nx,row⟩).y0:=fun c hc=>by
     obtain⟨d,hd,rfl⟩:=dE.1 hc
     exact htop d hd
    refine Ok.nx ⟨⟨pa++qa,pb++qb,ea3,eb3,fun c hc=>by have:=hPa c hc;dsimp only;omega,fun c hc=>by have:=hPb c hc;dsimp only;omega,by dsimp only;omega,by dsimp only;omega,n5,by dsimp only;rw [p2];exact vq hcan htop' r1 r2,?_,fun c hc=>?_,fun x y'=>?_⟩,by dsimp only;omega⟩
    ·dsimp only;rw [p2]
     refine hlim.push hyY n5 (fun c hc=>?_)
     rcases r4 c hc with h | h
     ·exact a8 c h
     ·exact b8 c h
    ·have hm':cA c∈jN (out.map cA) (cA ⟨y,nx,row⟩):=by rw [<-p2];exact dE.2 ⟨c,hc,rfl⟩
     exact vr htop' (by show y<=nx;omega) _ hm'
    ·show oX (rowAt (out'.map cA) y') x=_
     rw [p2,vo htop' (fun c hc=>(hcan.each c hc).1) (fun h=>absurd h (by show ¬nx<=y;omega))]
     by_cases hyy:y<=y'/\y'<nx
     ·rw [aC (show (cA ⟨y,nx,row⟩).y0<=y'/\y'< (cA ⟨y,nx,row⟩).y1 from hyy),bU hyy.2,Bool.and_true]
      show oX row x=_
      have mp: ∀p q:List aA,(∀c∈p++q,c.Y1<=y)->∀c∈(p++q).map cA,c.y1<=y:=fun p q h c hc=>by
       obtain⟨d,hd,rfl⟩:=dE.1 hc
       exact h d hd
      have q1:uz (a.map cA) x y'=oX xa x:=by
       unfold uz
       rw [ea3,dI,DX (mp _ _ hPa) hyy.1,a4 y' hyy.1 (by omega)]
      have q2:uz (b.map cA) x y'=oX xb x:=by
       unfold uz
       rw [eb3,dI,DX (mp _ _ hPb) hyy.1,b4 y' hyy.1 (by omega)]
      rw [r3,q1,q2]
     ·rw [aH (show ¬((cA ⟨y,nx,row⟩).y0<=y'/\y'< (cA ⟨y,nx,row⟩).y1) from hyy)]
      show uz (out.map cA) x y'=_
      rw [hcov]
      by_cases h1:y'<y
      ·rw [bU h1,bU (show y'<nx by omega)]
      ·rw [cF h1,cF (show ¬y'<nx by omega)]
   ·have hge:e0<=y:=by have:=of_decide_eq_false h;omega
    refine⟨hcan,fun x y'=>?_,hlim⟩
    dsimp only
    rw [hcov]
    by_cases h1:y'<y
    ·rw [bU h1,Bool.and_true]
    ·have z: ∀s:List aA,(∀c∈s,y0<=c.Y0/\c.Y1<=e0)->uz (s.map cA) x y'=false:=fun s h=>by
      unfold uz
      rw [lO fun c hc=>?_]
      ·rfl
      ·obtain⟨d,hd,rfl⟩:=dE.1 hc
       exact .inr (by have:=(h d hd).2;show d.Y1<=y';omega)
     rw [z a ia,z b ib,hk];rfl
  ·refine⟨[],[],rfl,rfl,fun c hc=>(by cases hc),fun c hc=>(by cases hc),Int.le_refl _,by dsimp only;omega,iy,eP.nil,fun c hc=>(by cases hc),fun c hc=>(by cases hc),fun x y=>?_⟩
   dsimp only
   show false=_
   by_cases h1:y<y0
   ·have z: ∀s:List aA,(∀c∈s,y0<=c.Y0/\c.Y1<=e0)->uz (s.map cA) x y=false:=fun s h=>by
     unfold uz
     rw [lO fun c hc=>?_]
     ·rfl
     ·obtain⟨d,hd,rfl⟩:=dE.1 hc
      exact .inl (by have:=(h d hd).1;show y<d.Y0;omega)
    rw [z a ia,z b ib,hk];rfl
   ·rw [cF h1,Bool.and_false]
  ·rintro o ho
   exact Ok.cs ho (fun s h=>Ok.ret h) (fun r=>r.elim)
theorem GI {a b:List aA} {X Y:List Int} (ca:eP (a.map cA)) (cb:eP (b.map cA)) (la:wU X Y (a.map cA)) (lb:wU X Y (b.map cA)) (hX:X.length<=1048576000) (hY:Y.length<=1048576000) (hs: ∀c∈Y,small c) (hN:4398046511104<=N):
  Ok (ln N a b) (CF (fun p q=>p&& !q) X Y a b):=by
 unfold ln
 exact Ok.bind (Fb (gV:=fun p q=>p&& !q) (fun p q=>rfl) rfl ca cb la lb hX hY hs hN) (fun s h=>Ok.ret h)
end
end Go.Gk
namespace Go.Gk
open Go
section
variable {N:Nat}
structure UF (n:Nat) (up:List Int) (r:Nat->Nat):Prop where
 len:up.length=n
 rt: ∀i,i<n->∃u:Nat,up[i]? =some ((u:Nat):Int)/\u<=i/\r u=r i/\(u=i↔r i=i)
theorem UF.le {n:Nat} {up:List Int} {r:Nat->Nat} (h:UF n up r): ∀i,i<n->r i<=i:=by
 intro i
 induction i using Nat.strongRecOn with
 | ind i ih=>
  intro hi
  obtain⟨u,_,h2,h3,h4⟩:=h.rt i hi
  by_cases e:u=i
  ·rw [h4.1 e];exact bT _
  ·rw [<-h3];have:=ih u (by omega) (by omega);omega
theorem UF.rr {n:Nat} {up:List Int} {r:Nat->Nat} (h:UF n up r): ∀i,i<n->r (r i)=r i:=by
 intro i
 induction i using Nat.strongRecOn with
 | ind i ih=>
  intro hi
  obtain⟨u,_,h2,h3,h4⟩:=h.rt i hi
  by_cases e:u=i
  ·rw [h4.1 e,h4.1 e]
  ·rw [<-h3];exact ih u (by omega) (by omega)
theorem nM {l:List Int} {j:Nat} {v:Int} {i:Nat} (hj:j<l.length): (l.set j v)[i]? =if i=j then some v else l[i]? :=by
 rw [fC]
 by_cases e:j=i
 ·rw [aC e,aC e.symm,aC hj]
 ·rw [aH e,aH (fun h=>e h.symm)]
theorem UF.init (n:Nat) (up:List Int) (h1:up.length=n) (h2: ∀i,i<n->up[i]? =some ((i:Nat):Int)):UF n up (fun i=>i):=
 ⟨h1,fun i hi=>⟨i,h2 i hi,bT _,rfl,by simp⟩⟩
theorem DY {n:Nat} (hn:n<=1048576000): ∃up,lq N ((n:Nat):Int)=some up/\UF n up (fun i=>i):=by
 unfold lq
 rw [rB 0 (by omega),aB]
 have h0: (List.replicate n (0:Int)).length=n:=by simp
 obtain⟨s',h1,h2⟩:=zH (m:=(List.replicate n (0:Int)).length) (s:=List.replicate n (0:Int)) (body:=fun(k34:Nat) (s35: (List Int))=>((idx s35 (k34:Int)).bind fun x38=>some (s35.set (Int.toNat (k34:Int)) (k34:Int)):Option ((List Int))))
  (fun k s=>s.length=n/\∀i,i<k->s[i]? =some ((i:Nat):Int)) (by omega) ⟨h0,fun i hi=>by omega⟩ (fun k s hk ⟨hs,hi⟩=>by
   refine⟨s.set k ((k:Nat):Int),?_,by simp [hs],fun i hi'=>?_⟩
   ·rw [k6 _ _ (by omega),aB,cL]
   ·rw [nM (by omega)]
    split
    ·rename_i e;rw [e]
    ·exact hi i (by omega))
 rw [h1,aB]
 exact⟨s',rfl,UF.init n s' h2.1 (fun i hi=>h2.2 i (by omega))⟩
theorem CG {n:Nat} {up:List Int} {r:Nat->Nat} (h:UF n up r) {i:Nat} (hi:i<n) (hn:n<N): ∃up',gY N up ((i:Nat):Int)=some (((r i:Nat):Int),up')/\UF n up' r:=by
 unfold gY
 obtain⟨o,h1,h2⟩:=xv (R:=Empty) (body:=fun(s32: (List Int)×Int)=>((idx s32.1 s32.2).bind fun x43=>bif (x43 != s32.2) then ((idx s32.1 s32.2).bind fun x44=>(idx s32.1 x44).bind fun x45=>(idx s32.1 s32.2).bind fun x46=>(idx (s32.1.set (Int.toNat s32.2) x45) s32.2).bind fun x47=>some (.nx ((s32.1.set (Int.toNat s32.2) x45),x47))) else (some (.br (s32.1,s32.2))):Option (Fl ((List Int)×Int) Empty)))
  (fun s=>UF n s.1 r/\∃j:Nat,s.2= ((j:Nat):Int)/\j<n/\r j=r i) (fun s=>s.2.toNat) (fun s=>s.2= ((r i:Nat):Int)/\UF n s.1 r) (fun _=>True) (fun s ⟨hu,j,hj,hjn,hr⟩=>by
   obtain⟨l,y⟩:=s
   dsimp only at hu hj ⊢
   subst hj
   obtain⟨u,a1,a2,a3,a4⟩:=hu.rt j hjn
   rw [eI a1,aB]
   by_cases e:u=j
   ·subst e
    refine⟨.br (l,((u:Nat):Int)),by rw [show (((u:Nat):Int) != ((u:Nat):Int))=false by simp,aS],?_,hu⟩
    show ((u:Nat):Int)=_
    rw [<-hr,a4.1 rfl]
   ·obtain⟨v,b1,b2,b3,b4⟩:=hu.rt u (by omega)
    have hl:=hu.len
    refine⟨.nx (l.set j ((v:Nat):Int),((v:Nat):Int)),by
     rw [show (((u:Nat):Int) != ((j:Nat):Int))=true by simp;omega,aQ,aB,eI b1,aB,aB,cL,
      eI (x:=((v:Nat):Int)) (by rw [nM (by omega),aC rfl]),aB],⟨⟨by simp [hl],fun k hk=>?_⟩,v,rfl,by omega,?_⟩,?_⟩
    ·rw [nM (by omega)]
     by_cases e2:k=j
     ·subst e2
      rw [aC rfl]
      refine⟨v,rfl,by omega,by rw [b3,a3],?_⟩
      constructor
      ·intro h;omega
      ·intro h;exact absurd (a4.2 h) e
     ·rw [aH e2];exact hu.rt k hk
    ·rw [b3,a3,hr]
    ·simp only [cL];omega)
  N (up,((i:Nat):Int)) ⟨h,i,rfl,hi,rfl⟩ (by simp only [cL];omega)
 rw [h1,aB]
 cases o with
 | go s'=>exact⟨s'.1,by rw [<-h2.1];rfl,h2.2⟩
 | rt r=>exact r.elim
def oT (r:Nat->Nat) (a b:Nat):Nat->Nat:=fun x=>if r x=max a b then min a b else r x
theorem H0 (a b:Nat): (if ((a:Nat):Int)< ((b:Nat):Int) then ((b:Nat):Int) else ((a:Nat):Int))= ((max a b:Nat):Int):=by
 rw [Nat.max_def];split <;> split <;> omega
theorem H2 (a b:Nat): (if ((b:Nat):Int)< ((a:Nat):Int) then ((b:Nat):Int) else ((a:Nat):Int))= ((min a b:Nat):Int):=by
 rw [Nat.min_def];split <;> split <;> omega
theorem Je {n:Nat} {up:List Int} {r:Nat->Nat} (h:UF n up r) {i k:Nat} (hi:i<n) (hk:k<n) (hn:n<N):
  ∃up',iv N up ((i:Nat):Int) ((k:Nat):Int)=some up'/\UF n up' (oT r (r i) (r k)):=by
 obtain⟨u1,a1,a2⟩:=CG h hi hn
 obtain⟨u2,b1,b2⟩:=CG a2 hk hn
 have hri:=h.le i hi
 have hrk:=h.le k hk
 have rri:=h.rr i hi
 have rrk:=h.rr k hk
 unfold iv
 rw [a1,aB,b1,aB]
 dsimp only
 rw [H0,H2]
 have hm:max (r i) (r k)<n:=by omega
 have hl:=b2.len
 rw [k6 _ _ (by omega),aB,cL]
 refine⟨_,rfl,by simp [hl],fun x hx=>?_⟩
 have rmax:r (max (r i) (r k))=max (r i) (r k):=by rcases Nat.le_total (r i) (r k) with e | e <;> simp [Nat.max_def] <;> split <;> omega
 have rmin:r (min (r i) (r k))=min (r i) (r k):=by rcases Nat.le_total (r i) (r k) with e | e <;> simp [Nat.min_def] <;> split <;> omega
 rw [nM (by omega)]
 by_cases e:x=max (r i) (r k)
 ·subst e
  rw [aC rfl]
  refine⟨min (r i) (r k),rfl,by omega,?_,?_⟩
  ·unfold oT;rw [rmin,rmax,aC rfl];split <;> rfl
  ·unfold oT;rw [rmax,aC rfl]
 ·rw [aH e]
  obtain⟨u,c1,c2,c3,c4⟩:=b2.rt x hx
  refine⟨u,c1,c2,?_,?_⟩
  ·unfold oT;rw [c3]
  ·unfold oT
   split
   ·rename_i e2
    constructor
    ·intro hu;have:=c4.1 hu;omega
    ·intro hu
     have h1:=b2.le x hx
     have:min (r i) (r k)=max (r i) (r k)\/x<max (r i) (r k):=by omega
     have h3:x=max (r i) (r k):=by omega
     exact absurd h3 e
   ·exact c4
def qR (r:Nat->Nat) (E:List (Nat×Nat)):Prop:=∀p∈E,r p.1=r p.2
def Aw (n:Nat) (r:Nat->Nat) (E:List (Nat×Nat)):Prop:=∀S:Nat->Prop,(∀p∈E,S p.1↔S p.2)->∀i j,i<n->j<n->r i=r j->S i->S j
theorem qR.join {r:Nat->Nat} {E:List (Nat×Nat)} (h:qR r E) (i k:Nat) (_h2:r (r i)=r i):qR (oT r (r i) (r k)) (E++[(i,k)]):=fun p hp=>by
 rcases dC.1 hp with hp | hp
 ·unfold oT;rw [h p hp]
 ·simp at hp;subst hp
  unfold oT
  dsimp only
  split <;> split <;> omega
theorem Aw.join {n:Nat} {r:Nat->Nat} {E:List (Nat×Nat)} (h:Aw n r E) {i k:Nat} (hi:i<n) (hk:k<n):Aw n (oT r (r i) (r k)) (E++[(i,k)]):=fun S hS x y hx hy hr hSx=>by
 have hE: ∀p∈E,S p.1↔S p.2:=fun p hp=>hS p (List.mem_append_left _ hp)
 have hik:S i↔S k:=hS (i,k) (by simp)
 have key:=h S hE
 unfold oT at hr
 by_cases h1:r x=r y
 ·exact key x y hx hy h1 hSx
 ·have: (r x=r i/\r y=r k)\/(r x=r k/\r y=r i):=by
   split at hr <;> split at hr <;> omega
  rcases this with ⟨e1,e2⟩ | ⟨e1,e2⟩
  ·exact key k y hk hy e2.symm (hik.1 (key x i hx hi e1 hSx))
  ·exact key i y hi hy e2.symm (hik.2 (key x k hx hk e1 hSx))
theorem Aw.id (n:Nat):Aw n (fun i=>i) []:=fun S _ i j _ _ h hs=>by
 have h:i=j:=h
 subst h;exact hs
theorem qR.id:qR (fun i=>i) []:=fun p hp=>by simp at hp
def bL (n:Nat) (r:Nat->Nat):List Nat:=(List.range n).filter (fun k=>decide (r k=k))
def cls (n:Nat) (r:Nat->Nat) (k:Nat):List Nat:=(List.range n).filter (fun i=>decide (r i=k))
theorem gI (n:Nat) (r:Nat->Nat):bL (n+1) r=if r n=n then bL n r++[n] else bL n r:=by
 unfold bL
 rw [List.range_succ,kF]
 by_cases h:r n=n
 ·rw [aC h];simp [h]
 ·rw [aH h];simp [h]
theorem u6 (n:Nat) (r:Nat->Nat) (k:Nat):cls (n+1) r k=if r n=k then cls n r k++[n] else cls n r k:=by
 unfold cls
 rw [List.range_succ,kF]
 by_cases h:r n=k
 ·rw [aC h];simp [h]
 ·rw [aH h];simp [h]
theorem lA (n:Nat) (r:Nat->Nat): (bL n r).length<=n:=by
 have:=nJ (fun k=>decide (r k=k)) (List.range n)
 rw [List.length_range] at this;exact this
theorem zK (n:Nat) (r:Nat->Nat) (k:Nat): (cls n r k).length<=n:=by
 have:=nJ (fun i=>decide (r i=k)) (List.range n)
 rw [List.length_range] at this;exact this
theorem jv {n k:Nat} {r:Nat->Nat}:k∈bL n r↔k<n/\r k=k:=by unfold bL;simp
theorem mQ (n:Nat) (r:Nat->Nat): (bL n r).Nodup:=List.Nodup.sublist List.filter_sublist List.nodup_range
def qS (n:Nat) (r:Nat->Nat):List (List Int):=(bL n r).map (fun k=>(cls n r k).map (fun i=>((i:Nat):Int)))
theorem F1 {n k:Nat} {r:Nat->Nat} (h: ∀i,i<n->r i<=i) (hk:n<=k):cls n r k= []:=by
 unfold cls
 rw [List.filter_eq_nil_iff]
 intro i hi
 have h1:=ru.1 hi
 have:=h i h1
 simp;omega
theorem u7 {α β:Type} (f g:α->β) (l:List α) (j:Nat) (a:α) (hn:l.Nodup) (hj:l[j]? =some a) (hf: ∀b,b∈l->b≠a->f b=g b): (l.map f).set j (g a)=l.map g:=by
 apply List.ext_getElem?
 intro i
 have hjl:=(bD.1 hj).1
 rw [fC,cW,gv,gv]
 by_cases e:j=i
 ·subst e;rw [aC rfl,aC hjl,hj];rfl
 ·rw [aH e]
  cases hb:l[i]? with
  | none=>rfl
  | some b=>
   have hne:b≠a:=fun he=>by
    subst he
    have hil:=(bD.1 hb).1
    exact e ((List.getElem_inj hn).1 (by rw [(bD.1 hb).2,(bD.1 hj).2]) |>.symm)
   show some (f b)=some (g b)
   rw [hf b (eZ hb) hne]
def L6 (n:Nat) (r:Nat->Nat) (m:List (Int×Int)):Prop:=∀(j k:Nat),(bL n r)[j]? =some k->jA m ((k:Nat):Int) 0= ((j:Nat):Int)
theorem Jf {n:Nat} {up:List Int} {r:Nat->Nat} (h:UF n up r) (hn:n<N) (hn2:n<=1048576000): ∃up',kd N up=some (qS n r,up')/\UF n up' r:=by
 unfold kd
 have hlen:=h.len
 have hle:=h.le
 have hrr:=h.rr
 obtain⟨s',h1,h2⟩:=zH (m:=up.length) (s:=(up,([]: (List (List Int))),([]: (List (Int×Int)))))
  (body:=fun(k32:Nat) (s33: (List Int)×(List (List Int))×(List (Int×Int)))=>((gY N s33.1 (k32:Int)).bind fun x117=>(bif (x117.1==(k32:Int)) then ((app 24 s33.2.1 [([]: (List Int))]).bind fun x126=>some (x126,(vF s33.2.2 (k32:Int) (s33.2.1.length:Int)))) else (some (s33.2.1,s33.2.2))).bind fun s122=>(idx s122.1 (jA s122.2 x117.1 (0:Int))).bind fun x128=>(app 8 x128 ([(k32:Int)]: (List Int))).bind fun x134=>(idx s122.1 (jA s122.2 x117.1 (0:Int))).bind fun x136=>some (x117.2,(s122.1.set (Int.toNat (jA s122.2 x117.1 (0:Int))) x134),s122.2):Option ((List Int)×(List (List Int))×(List (Int×Int)))))
  (fun k s=>UF n s.1 r/\s.2.1=qS k r/\L6 k r s.2.2) (by omega) ⟨h,rfl,fun j k hj=>by simp [bL] at hj⟩ (fun k s hk ⟨hu,hs,hm⟩=>by
   obtain⟨l,ss,m⟩:=s
   dsimp only at hu hs hm ⊢
   subst hs
   rw [hlen] at hk
   obtain⟨u',a1,a2⟩:=CG hu hk hn
   rw [a1,aB]
   dsimp only
   have hhl:=lA k r
   have hsl: (qS k r).length= (bL k r).length:=by unfold qS;simp
   have hrk:=hle k hk
   by_cases e:r k=k
   ·
    rw [show (((r k:Nat):Int)==((k:Nat):Int))=true by rw [e];simp,aQ,kM (by rw [hsl];simp;omega),aB,aB]
    dsimp only
    rw [e,yB,aC rfl,hsl]
    have hi: (qS k r++[([]:List Int)])[(bL k r).length]? =some []:=by rw [<-hsl,gW (bT _),Nat.sub_self];rfl
    rw [eI hi,aB,kM (by simp),aB,aB,cL]
    refine⟨_,rfl,a2,?_,fun j q hj=>?_⟩
    ·dsimp only
     rw [<-hsl,List.set_append_right _ _ (bT _),Nat.sub_self]
     unfold qS
     rw [gI,aC e,dI]
     congr 1
     ·apply List.map_congr_left
      intro a ha
      have:=(jv.1 ha).1
      rw [u6,aH (by omega)]
     ·simp only [List.set_cons_zero,eB,List.map_nil,List.nil_append]
      rw [u6,aC e,F1 (fun i hi=>hle i (by omega)) (bT _)];rfl
    ·dsimp only
     rw [gI,aC e] at hj
     rw [yB]
     by_cases e2:j< (bL k r).length
     ·rw [gL e2] at hj
      have:=(jv.1 (eZ hj)).1
      rw [aH (by omega)];exact hm j q hj
     ·rw [gW (by omega)] at hj
      have hj0:j - (bL k r).length=0:=by
       have:=(bD.1 hj).1;simp at this;omega
      rw [hj0] at hj;simp at hj;subst hj
      rw [aC rfl];congr 1;omega
   ·rw [show (((r k:Nat):Int)==((k:Nat):Int))=false by simp;omega,aS,aB]
    dsimp only
    have hh:r k∈bL k r:=jv.2 ⟨by omega,hrr k hk⟩
    obtain⟨j,hj⟩:=dZ hh
    rw [hm j (r k) hj]
    have hcl:=zK k r (r k)
    have hi: (qS k r)[j]? =some ((cls k r (r k)).map (fun i=>((i:Nat):Int))):=by unfold qS;rw [gv,hj];rfl
    rw [eI hi,aB,kM (by simp;omega),aB,aB,cL]
    refine⟨_,rfl,a2,?_,fun j' q hj'=>?_⟩
    ·unfold qS
     rw [gI,aH e]
     have:=u7 (fun a=>(cls k r a).map (fun i=>((i:Nat):Int))) (fun a=>(cls (k+1) r a).map (fun i=>((i:Nat):Int))) (bL k r) j (r k) (mQ k r) hj (fun b hb hne=>by
      rw [u6,aH (fun h=>hne h.symm)])
     rw [u6,aC rfl,dI] at this
     exact this
    ·rw [gI,aH e] at hj';exact hm j' q hj')
 rw [h1,aB]
 obtain⟨l,ss,m⟩:=s'
 dsimp only at h2
 rw [hlen] at h2
 refine⟨l,?_,h2.1⟩
 rw [<-h2.2.1]
end
end Go.Gk
namespace Go.Gk
open Go
section
variable {N:Nat}
theorem CH {n:Nat} {up:List Int} {r:Nat->Nat} (h:UF n up r) {i:Nat} (hi:i<n) (hn:n<N): ∃up',fJ N ((i:Nat):Int) up=some (((r i:Nat):Int),up')/\UF n up' r:=by
 unfold fJ
 have:=Ok.bind (β:=Int×List Int) (Q:=fun x=>x.1= ((r i:Nat):Int)/\UF n x.2 r) (Ok.jH (body:=fun(s32:Int×(List Int))=>((idx s32.2 s32.1).bind fun x43=>bif (x43 != s32.1) then ((idx s32.2 s32.1).bind fun x44=>(idx s32.2 x44).bind fun x45=>(idx s32.2 s32.1).bind fun x46=>(idx (s32.2.set (Int.toNat s32.1) x45) s32.1).bind fun x47=>some (.nx (x47,(s32.2.set (Int.toNat s32.1) x45)))) else (some (.br (s32.1,s32.2))):Option (Fl (Int×(List Int)) Empty)))
  (N:=N) (s:=(((i:Nat):Int),up)) (Go:=fun s=>s.1= ((r i:Nat):Int)/\UF n s.2 r) (Rt:=fun _=>True) (fun s=>UF n s.2 r/\∃j:Nat,s.1= ((j:Nat):Int)/\j<n/\r j=r i) (fun s=>s.1.toNat) (by
   rintro⟨y,l⟩ ⟨hu,j,hj,hjn,hr⟩
   dsimp only at hu hj ⊢
   subst hj
   obtain⟨u,a1,a2,a3,a4⟩:=hu.rt j hjn
   refine Ok.ix a1 ?_
   by_cases e:u=j
   ·subst e
    rw [show (((u:Nat):Int) != ((u:Nat):Int))=false by simp,aS]
    refine Ok.br ⟨?_,hu⟩
    show ((u:Nat):Int)=_
    rw [<-hr,a4.1 rfl]
   ·obtain⟨v,b1,b2,b3,b4⟩:=hu.rt u (by omega)
    have hl:=hu.len
    rw [show (((u:Nat):Int) != ((j:Nat):Int))=true by simp;omega,aQ]
    refine Ok.ix a1 (Ok.ix b1 (Ok.ix a1 (Ok.ix (x:=((v:Nat):Int)) (by rw [cL,nM (by omega),aC rfl]) (Ok.nx ⟨⟨⟨by simp [hl],fun k hk=>?_⟩,v,rfl,by omega,?_⟩,?_⟩))))
    ·rw [cL,nM (by omega)]
     by_cases e2:k=j
     ·subst e2
      rw [aC rfl]
      refine⟨v,rfl,by omega,by rw [b3,a3],?_⟩
      constructor
      ·intro h;omega
      ·intro h;exact absurd (a4.2 h) e
     ·rw [aH e2];exact hu.rt k hk
    ·rw [b3,a3,hr]
    ·simp only [cL];omega)
  ⟨h,i,rfl,hi,rfl⟩ (by simp only [cL];omega))
  (fun o ho=>Ok.cs (f:=fun(s32:Int×(List Int))=>some (s32.1,s32.2)) (g:=fun r:Empty=>r.elim) ho (fun s h=>Ok.ret h) (fun r=>r.elim))
 obtain⟨⟨x,up'⟩,h1,h2,h3⟩:=this
 exact⟨up',by rw [<-h2];exact h1,h3⟩
theorem H3 {n:Nat} {up:List Int} {r:Nat->Nat} (h:UF n up r) {i k:Nat} (hi:i<n) (hk:k<n) {f:List Int->Option (List Int)} (hn:n<N):
  ∃up',((fJ N ((i:Nat):Int) up).bind fun x840=>(fJ N ((k:Nat):Int) x840.2).bind fun x842=>(idx x842.2 (if x840.1<x842.1 then x842.1 else x840.1)).bind fun x844=>some (x842.2.set (Int.toNat (if x840.1<x842.1 then x842.1 else x840.1)) (if x842.1<x840.1 then x842.1 else x840.1)))=some up'/\UF n up' (oT r (r i) (r k)):=by
 obtain⟨u1,a1,a2⟩:=CH h hi hn
 obtain⟨u2,b1,b2⟩:=CH a2 hk hn
 obtain⟨v1,c1,c2⟩:=CG h hi hn
 have hri:=h.le i hi
 have hrk:=h.le k hk
 have rri:=h.rr i hi
 have rrk:=h.rr k hk
 rw [a1,aB,b1,aB]
 dsimp only
 rw [H0,H2]
 have hm:max (r i) (r k)<n:=by omega
 have hl:=b2.len
 rw [k6 _ _ (by omega),aB,cL]
 refine⟨_,rfl,by simp [hl],fun x hx=>?_⟩
 have rmax:r (max (r i) (r k))=max (r i) (r k):=by rcases Nat.le_total (r i) (r k) with e | e <;> simp [Nat.max_def] <;> split <;> omega
 have rmin:r (min (r i) (r k))=min (r i) (r k):=by rcases Nat.le_total (r i) (r k) with e | e <;> simp [Nat.min_def] <;> split <;> omega
 rw [nM (by omega)]
 by_cases e:x=max (r i) (r k)
 ·subst e
  rw [aC rfl]
  refine⟨min (r i) (r k),rfl,by omega,?_,?_⟩
  ·unfold oT;rw [rmin,rmax,aC rfl];split <;> rfl
  ·unfold oT;rw [rmax,aC rfl]
 ·rw [aH e]
  obtain⟨u,c1,c2,c3,c4⟩:=b2.rt x hx
  refine⟨u,c1,c2,?_,?_⟩
  ·unfold oT;rw [c3]
  ·unfold oT
   split
   ·rename_i e2
    constructor
    ·intro hu;have:=c4.1 hu;omega
    ·intro hu
     have h1:=b2.le x hx
     have h3:x=max (r i) (r k):=by omega
     exact absurd h3 e
   ·exact c4
def ji (s:List aA) (k:Nat):Nat:=(aR (s.take k)).length
theorem yE {s:List aA} {k:Nat} (h:k<s.length):ji s (k+1)=ji s k+s[k].Xs.length / 2:=by
 unfold ji
 rw [dP h,nG,cX]
 show _+ (aR [s[k]]).length=_
 rw [show aR [s[k]]=mo s[k] by simp [aR],nj]
theorem yF {s:List aA} {k m:Nat} (h:k<=m):ji s k<=ji s m:=by
 unfold ji
 have:=yC (s.take m) k
 rwa [List.take_take,Nat.min_eq_left h] at this
theorem DZ (s:List aA):ji s s.length= (aR s).length:=by unfold ji;rw [dU]
theorem Jg {s:List aA} {k t:Nat} (h:k<s.length) (ht:2*t+1<s[k].Xs.length): (aR s)[ji s k+t]? =some ⟨s[k].Xs[2*t],s[k].Y0,s[k].Xs[2*t+1],s[k].Y1⟩:=by
 have e:aR s=aR (s.take k)++(mo s[k]++aR (s.drop (k+1))):=by
  conv=>lhs;rw [<-List.take_append_drop k s,tn h]
  rw [nG,lG]
 rw [e]
 unfold ji
 rw [gW (by omega),Nat.add_sub_cancel_left,gL (by rw [nj];omega)]
 unfold mo
 rw [gv,xL _ _ ht];rfl
theorem F2 {s:List aA} {i:Nat} (h:i< (aR s).length): ∃k,k<s.length/\ji s k<=i/\i<ji s (k+1):=by
 have key: ∀m,m<=s.length->i<ji s m->∃k,k<m/\ji s k<=i/\i<ji s (k+1):=by
  intro m
  induction m with
  | zero=>intro _ h;unfold ji at h;simp [aR] at h
  | succ m ih=>
   intro hm hi
   by_cases h1:i<ji s m
   ·obtain⟨k,hk,h2⟩:=ih (by omega) h1
    exact⟨k,by omega,h2⟩
   ·exact⟨m,by omega,by omega,hi⟩
 exact key s.length (bT _) (by rw [DZ];exact h)
def CI (a c:aI):Prop:=a.Y1=c.Y0/\a.X0<c.X1/\c.X0<a.X1
def yc (all:List aI) (i j:Nat):Prop:=∃a c,all[i]? =some a/\all[j]? =some c/\CI a c
theorem vu {s:List aA} (he: ∀b∈s,b.Xs.length % 2=0) {k i:Nat} (hk:k<s.length) (h1:ji s k<=i) (h2:i<ji s (k+1)): ∃t,i=ji s k+t/\∃h:2*t+1<s[k].Xs.length,(aR s)[i]? =some ⟨s[k].Xs[2*t],s[k].Y0,s[k].Xs[2*t+1],s[k].Y1⟩:=by
 rw [yE hk] at h2
 have:=he _ (cM hk)
 refine⟨i - ji s k,by omega,by omega,?_⟩
 have h3:=Jg (t:=i - ji s k) hk (by omega)
 rwa [show ji s k+ (i - ji s k)=i by omega] at h3
theorem Ax {s:List aA} (hc:eP (s.map cA)) {p q:Nat} (hp:p<s.length) (hq:q<s.length) (h:p<q):s[p].Y1<=s[q].Y0:=by
 have:=mX.1 hc.ord p q (by simp;omega) (by simp;omega) h
 simp only [List.getElem_map] at this
 exact this.1
theorem Ay {s:List aA} (hc:eP (s.map cA)) {p:Nat} (hp:p<s.length):s[p].Y0<s[p].Y1:=(hc.each (cA s[p]) (dE.2 ⟨_,cM hp,rfl⟩)).1
theorem pF {s:List aA} (hc:eP (s.map cA)): ∀b∈s,b.Xs.length % 2=0:=fun b hb=>(hc.each (cA b) (dE.2 ⟨b,hb,rfl⟩)).2.2.2
theorem F3 {s:List aA} (hc:eP (s.map cA)): ∀b∈s,jG b.Xs:=fun b hb=>(hc.each (cA b) (dE.2 ⟨b,hb,rfl⟩)).2.2.1
theorem D0 {s:List aA} (hc:eP (s.map cA)) {i j q:Nat} (hq:q<s.length) (h1:ji s q<=j) (h2:j<ji s (q+1)) (ht:yc (aR s) i j): ∃hq0:0<q,s[q - 1].Y1=s[q].Y0/\ji s (q - 1)<=i/\i<ji s q:=by
 obtain⟨a,c,ha,hb,e1,e2,e3⟩:=ht
 obtain⟨t,e4,ht,hj⟩:=vu (pF hc) hq h1 h2
 rw [hj] at hb;injection hb with hb;subst hb
 have hil:=(bD.1 ha).1
 obtain⟨p,hp,p1,p2⟩:=F2 hil
 obtain⟨u,e5,hu,hi⟩:=vu (pF hc) hp p1 p2
 rw [hi] at ha;injection ha with ha;subst ha
 have e1:s[p].Y1=s[q].Y0:=e1
 have hpp:=Ay hc hp
 have hqq:=Ay hc hq
 have hpq:p+1=q:=by
  rcases Nat.lt_trichotomy p q with h | h | h
  ·by_cases h':p+1=q
   ·exact h'
   ·have h3:=Ax hc hp (show p+1<s.length by omega) (by omega)
    have h4:=Ax hc (show p+1<s.length by omega) hq (by omega)
    have h5:=Ay hc (show p+1<s.length by omega)
    omega
  ·subst h;omega
  ·have:=Ax hc hq hp h;omega
 subst hpq
 exact⟨by omega,e1,p1,p2⟩
structure PJ (all:List aI) (n:Nat) (up:List Int) (r:Nat->Nat) (E:List (Nat×Nat)):Prop where
 uf:UF n up r
 co:qR r E
 fi:Aw n r E
 so: ∀p∈E,yc all p.1 p.2
theorem PJ.join {all:List aI} {n:Nat} {up up':List Int} {r:Nat->Nat} {E:List (Nat×Nat)} (h:PJ all n up r E) {i j:Nat} (hi:i<n) (hj:j<n) (hu:UF n up' (oT r (r i) (r j))) (ht:yc all i j):PJ all n up' (oT r (r i) (r j)) (E++[(i,j)]):=
 ⟨hu,h.co.join i j (h.uf.rr i hi),h.fi.join hi hj,fun p hp=>by
  rcases dC.1 hp with hp | hp
  ·exact h.so p hp
  ·simp at hp;subst hp;exact ht⟩
structure Joined (all:List aI) (r:Nat->Nat):Prop where
 le: ∀i,i<all.length->r i<=i
 rr: ∀i,i<all.length->r (r i)=r i
 co: ∀i j,yc all i j->r i=r j
 fi: ∀S:Nat->Prop,(∀i j,yc all i j->(S i↔S j))->∀i j,i<all.length->j<all.length->r i=r j->S i->S j
def nH (all:List aI) (n:Nat) (r:Nat->Nat) (h:Nat):List aI:=(cls n r h).filterMap (fun i=>all[i]?)
theorem Az (all:List aI) (n:Nat) (r:Nat->Nat) (h:Nat): (nH all n r h).length<=n:=by
 have h1:=List.length_filterMap_le (fun i=>all[i]?) (cls n r h)
 have h2:=zK n r h
 unfold nH;omega
theorem vv {all:List aI} {n:Nat} {r:Nat->Nat} (h:Nat) {x:aI} (hx:all[n]? =some x):nH all (n+1) r h=if r n=h then nH all n r h++[x] else nH all n r h:=by
 unfold nH
 rw [u6]
 split
 ·rw [List.filterMap_append];simp [hx]
 ·rfl
theorem lW {all:List aI} {n:Nat} {r:Nat->Nat} {h:Nat} {x:aI}:x∈nH all n r h↔∃i,i<n/\r i=h/\all[i]? =some x:=by
 unfold nH cls
 rw [List.mem_filterMap]
 constructor
 ·rintro⟨i,hi,h⟩
  have:=jI.1 hi
  exact⟨i,ru.1 this.1,by simpa using this.2,h⟩
 ·rintro⟨i,h1,h2,h3⟩
  exact⟨i,jI.2 ⟨ru.2 h1,by simpa using h2⟩,h3⟩
structure rE (s:List aA) (r:Nat->Nat) (ps:List (List aA)):Prop where
 join:Joined (aR s) r
 len:ps.length= (bL (aR s).length r).length
 each: ∀(j h:Nat) (p:List aA),(bL (aR s).length r)[j]? =some h->ps[j]? =some p->sX (nH (aR s) (aR s).length r h) p
def NM (n:Nat) (r:Nat->Nat) (m:List (Int×Int)):Prop:=(∀(j k:Nat),(bL n r)[j]? =some k->jA m ((k:Nat):Int) 0= ((j:Nat):Int))/\∀k:Nat,ue m ((k:Nat):Int)=decide (k∈bL n r)
theorem Fc {s:List aA} {X Y:List Int} (hc:eP (s.map cA)) (hl:wU X Y (s.map cA)) (hX: ∀c∈X,small c) (hY: ∀c∈Y,small c) (h1:s.length<=1073741824) (h2: ∀b∈s,b.Xs.length<=1073741824) (h3: (aR s).length<=134217728) (hN:4398046511104<=N):
  Ok (lT N s) (fun ps=>∃r,rE s r ps):=by
 unfold lT
 have hev:=pF hc
 have hinc:=F3 hc
 refine Ok.eq (xN hev (by omega) (fun b hb=>by have:=h2 b hb;omega) (by omega)) ?_
 have hok:=As hc hl hX hY
 have hall:ji s s.length= (aR s).length:=DZ s
 generalize hn: (aR s).length=n at *
 refine Ok.eq (rB 0 (by omega)) ?_
 rw [show ((List.replicate n (0:Int)).length)=n by simp]
 refine Ok.bind (Ok.mV (fun k up=>up.length=n/\∀i,i<k->up[i]? =some ((i:Nat):Int)) (by omega) ⟨by simp,fun i hi=>by omega⟩ (fun k up hk hI=>?_)) ?_
 ·obtain⟨hs,hi⟩:=hI
  refine Ok.idx (by omega) (Ok.ret ⟨by simp [hs],fun i hi'=>?_⟩)
  rw [cL,nM (by omega)]
  split
  ·rename_i e;rw [e]
  ·exact hi i (by omega)
 rintro up0 ⟨hu1,hu2⟩
 refine Ok.bind (Ok.mV (fun k st=>st.2.1= ((ji s k:Nat):Int)/\(0<k->st.2.2= ((ji s (k - 1):Nat):Int))/\∃r E,PJ (aR s) n st.1 r E/\∀q,q<k->∀i j,ji s q<=j->j<ji s (q+1)->yc (aR s) i j->(i,j)∈E) (by omega)
  ⟨rfl,fun h=>by omega,_,_,⟨UF.init n up0 hu1 hu2,qR.id,Aw.id n,fun p hp=>(by cases hp)⟩,fun q hq=>by omega⟩ (fun k st hk hI=>?_)) ?_
 ·obtain⟨up,a,b⟩:=st
  obtain⟨e1,e2,r,E,hP,hE⟩:=hI
  dsimp only at e1 e2 hP ⊢
  subst e1
  refine Ok.idx hk ?_
  have hoff:=yE hk
  have hoffle:ji s (k+1)<=n:=by rw [<-hall];exact yF hk
  have hkm:=cM hk
  have hlen:IntKind.wrap .i64 (Int.tdiv ((s[k].Xs.length:Nat):Int) 2)= ((s[k].Xs.length / 2:Nat):Int):=by
   have:=h2 _ hkm
   rw [show (2:Int)= ((2:Nat):Int) by rfl,<-Int.ofNat_tdiv,DV (by omega)]
  rw [hlen,wrap_add (by omega),<-hoff]
  refine Ok.bind (P:=fun c=>c=true↔∃h0:0<k,s[k - 1].Y1=s[k].Y0) ?_ (fun c hcc=>?_)
  ·refine Ok.bif (fun h=>?_) (fun h=>Ok.ret ?_)
   ·have hpos:0<k:=by have:=of_decide_eq_true h;omega
    rw [jq hpos (by omega)]
    refine Ok.idx (by omega) (Ok.ret ?_)
    rw [beq_iff_eq]
    exact⟨fun h=>⟨hpos,h⟩,fun⟨_,h⟩=>h⟩
   ·have:=of_decide_eq_false h
    constructor
    ·intro h;cases h
    ·rintro⟨h0,_⟩;omega
  refine Ok.bind (P:=fun up'=>∃r E,PJ (aR s) n up' r E/\∀q,q<k+1->∀i j,ji s q<=j->j<ji s (q+1)->yc (aR s) i j->(i,j)∈E) ?_ (fun up' hI=>Ok.ret ⟨rfl,fun _=>rfl,hI⟩)
  refine Ok.bif (fun h=>?_) (fun h=>Ok.ret ⟨r,E,hP,fun q hq i j q1 q2 ht=>?_⟩)
  ·obtain⟨hpos,hyy⟩:=hcc.1 h
   rw [e2 hpos]
   have hoffp:=yE (show k - 1<s.length by omega)
   rw [show k - 1+1=k by omega] at hoffp
   refine Ok.bind (Ok.jH (Go:=fun st=>∃r E,PJ (aR s) n st.1 r E/\∀q,q<k+1->∀i j,ji s q<=j->j<ji s (q+1)->yc (aR s) i j->(i,j)∈E) (Rt:=fun _=>True)
    (fun st=>∃i j:Nat,st.2.1= ((i:Nat):Int)/\st.2.2= ((j:Nat):Int)/\ji s (k - 1)<=i/\i<=ji s k/\ji s k<=j/\j<=ji s (k+1)/\∃r E,PJ (aR s) n st.1 r E/\(∀q,q<k->∀i j,ji s q<=j->j<ji s (q+1)->yc (aR s) i j->(i,j)∈E)/\
     ∀i' j',ji s (k - 1)<=i'->i'<ji s k->ji s k<=j'->j'<ji s (k+1)->(i'<i\/j'<j)->yc (aR s) i' j'->(i',j')∈E)
    (fun st=>(n - st.2.1.toNat)+ (n - st.2.2.toNat)) ?_ ?_ (by simp only [cL];omega)) (fun o ho=>Ok.cs ho (fun st h=>Ok.ret h) (fun r=>r.elim))
   ·rintro⟨up,a,b⟩ ⟨i,j,e3,e4,i1,i2,j1,j2,r,E,hP,hE,hE2⟩
    dsimp only at e3 e4 hP ⊢
    subst e3;subst e4
    refine Ok.bif (fun h=>?_) (fun h=>Ok.br ?_)
    ·rw [bW,bR,bR] at h
     have hi:i<ji s k:=by omega
     have hj:j<ji s (k+1):=by omega
     obtain⟨t,et,_,hri⟩:=vu hev (show k - 1<s.length by omega) i1 (by rw [show k - 1+1=k by omega];exact hi)
     obtain⟨u,eu,_,hrj⟩:=vu hev hk j1 hj
     have xi:=hinc _ (cM (show k - 1<s.length by omega))
     have xj:=hinc _ hkm
     have farI: ∀i' a,i<i'->i'<ji s k->(aR s)[i']? =some a->s[k - 1].Xs[2*t+1]<a.X0:=fun i' a h4 h5 h6=>by
      obtain⟨t',et',ht',hr'⟩:=vu hev (show k - 1<s.length by omega) (show ji s (k - 1)<=i' by omega) (by rw [show k - 1+1=k by omega];exact h5)
      rw [hr'] at h6;injection h6 with h6;subst h6
      exact xi.lt (show 2*t+1<2*t' by omega) (aN _) (aN _)
     have farJ: ∀j' a,j<j'->j'<ji s (k+1)->(aR s)[j']? =some a->s[k].Xs[2*u+1]<a.X0:=fun j' a h4 h5 h6=>by
      obtain⟨u',eu',hu',hr'⟩:=vu hev hk (show ji s k<=j' by omega) h5
      rw [hr'] at h6;injection h6 with h6;subst h6
      exact xj.lt (show 2*u+1<2*u' by omega) (aN _) (aN _)
     refine Ok.bind (P:=fun c=>c=true↔yc (aR s) i j) ?_ (fun c hct=>?_)
     ·refine Ok.ix hri (Ok.ix hrj (Ok.bif (fun h=>Ok.ix hrj (Ok.ix hri (Ok.ret ?_))) (fun h=>Ok.ret ?_)))
      ·rw [bR] at h ⊢
       constructor
       ·intro h';exact⟨_,_,hri,hrj,hyy,h,h'⟩
       ·rintro⟨a,c,ha,hc',_,_,h'⟩
        rw [hri] at ha;injection ha with ha;subst ha
        rw [hrj] at hc';injection hc' with hc';subst hc'
        exact h'
      ·constructor
       ·intro h;cases h
       ·rintro⟨a,c,ha,hc',_,h',_⟩
        rw [hri] at ha;injection ha with ha;subst ha
        rw [hrj] at hc';injection hc' with hc';subst hc'
        rw [decide_eq_false_iff_not] at h;exact absurd h' h
     refine Ok.bind (P:=fun up'=>∃r E',PJ (aR s) n up' r E'/\(∀p∈E,p∈E')/\(yc (aR s) i j->(i,j)∈E')) ?_ ?_
     ·refine Ok.bif (fun h=>?_) (fun h=>Ok.ret ⟨r,E,hP,fun p hp=>hp,fun ht=>by rw [hct.2 ht] at h;cases h⟩)
      obtain⟨up',u1,u2⟩:=H3 (N:=N) (f:=fun x=>some x) hP.uf (i:=i) (k:=j) (by omega) (by omega) (by omega)
      refine⟨up',u1,_,_,hP.join (by omega) (by omega) u2 (hct.1 h),fun p hp=>List.mem_append_left _ hp,fun _=>by simp⟩
     ·rintro up' ⟨r',E',hP',hsub,hij⟩
      refine Ok.ix hri (Ok.ix hrj ?_)
      dsimp only
      by_cases hx:s[k - 1].Xs[2*t+1]<s[k].Xs[2*u+1]
      ·rw [bU hx,aQ]
       refine Ok.eq (x:=(((i+1:Nat):Int),((j:Nat):Int))) (by rw [bP (by omega)]) (Ok.nx ⟨⟨i+1,j,rfl,rfl,by omega,by omega,j1,j2,r',E',hP',fun q hq i j q1 q2 ht=>hsub _ (hE q hq i j q1 q2 ht),fun i' j' g1 g2 g3 g4 g5 ht=>?_⟩,by simp only [cL];omega⟩)
       by_cases h5:i'<i\/j'<j
       ·exact hsub _ (hE2 i' j' g1 g2 g3 g4 h5 ht)
       ·have:i'=i:=by omega
        subst this
        by_cases h6:j'=j
        ·subst h6;exact hij ht
        ·exfalso
         obtain⟨a,c,ha,hc',_,_,h'⟩:=ht
         rw [hri] at ha;injection ha with ha;subst ha
         have:=farJ j' c (by omega) g4 hc'
         dsimp only at h';omega
      ·rw [cF hx,aS]
       refine Ok.eq (x:=(((i:Nat):Int),((j+1:Nat):Int))) (by rw [bP (by omega)]) (Ok.nx ⟨⟨i,j+1,rfl,rfl,i1,i2,by omega,by omega,r',E',hP',fun q hq i j q1 q2 ht=>hsub _ (hE q hq i j q1 q2 ht),fun i' j' g1 g2 g3 g4 g5 ht=>?_⟩,by simp only [cL];omega⟩)
       by_cases h5:i'<i\/j'<j
       ·exact hsub _ (hE2 i' j' g1 g2 g3 g4 h5 ht)
       ·have:j'=j:=by omega
        subst this
        by_cases h6:i'=i
        ·subst h6;exact hij ht
        ·exfalso
         obtain⟨a,c,ha,hc',_,h',_⟩:=ht
         rw [hrj] at hc';injection hc' with hc';subst hc'
         have:=farI i' a (by omega) g2 ha
         dsimp only at h';omega
    ·refine⟨r,E,hP,fun q hq i' j' q1 q2 ht=>?_⟩
     by_cases hqk:q<k
     ·exact hE q hqk i' j' q1 q2 ht
     ·have:q=k:=by omega
      subst this
      obtain⟨_,_,g1,g2⟩:=D0 hc hk q1 q2 ht
      refine hE2 i' j' g1 g2 q1 q2 ?_ ht
      rw [Bool.and_eq_false_iff,decide_eq_false_iff_not,decide_eq_false_iff_not] at h
      omega
   ·exact⟨ji s (k - 1),ji s k,rfl,rfl,bT _,yF (by omega),bT _,yF (by omega),r,E,hP,hE,fun i' j' g1 g2 g3 g4 g5=>by omega⟩
  ·by_cases hqk:q<k
   ·exact hE q hqk i j q1 q2 ht
   ·have:q=k:=by omega
    subst this
    obtain⟨g0,g1,_⟩:=D0 hc hk q1 q2 ht
    rw [hcc.2 ⟨g0,g1⟩] at h;cases h
 ·rintro⟨up,a,b⟩ ⟨_,_,r,E,hP,hE⟩
  dsimp only at hP ⊢
  have hEq: ∀i j,yc (aR s) i j->(i,j)∈E:=fun i j ht=>by
   have hjl:j< (aR s).length:=by obtain⟨a,c,_,hb,_⟩:=ht;exact(bD.1 hb).1
   obtain⟨q,hq,q1,q2⟩:=F2 hjl
   exact hE q hq i j q1 q2 ht
  have hJ:Joined (aR s) r:=⟨by rw [hn];exact hP.uf.le,by rw [hn];exact hP.uf.rr,fun i j ht=>hP.co (i,j) (hEq i j ht),fun S hS i j hi hj=>by
   rw [hn] at hi hj
   exact hP.fi S (fun p hp=>hS p.1 p.2 (hP.so p hp)) i j hi hj⟩
  refine Ok.bind (Ok.mV (fun k st=>UF n st.1 r/\NM k r st.2.1/\st.2.2= (bL k r).map (nH (aR s) k r)) (by omega) ⟨hP.uf,⟨fun j k hj=>by simp [bL] at hj,fun k=>rfl⟩,rfl⟩ (fun k st hk hI=>?_)) ?_
  ·obtain⟨l,m,ls⟩:=st
   obtain⟨hu,⟨hm1,hm2⟩,hs⟩:=hI
   dsimp only at hu hm1 hm2 hs ⊢
   subst hs
   have hkx: (aR s)[k]? =some ((aR s)[k]'(by omega)):=aN (by omega)
   refine Ok.ix hkx ?_
   obtain⟨u',a1,a2⟩:=CH (N:=N) hu hk (by omega)
   refine Ok.eq a1 ?_
   dsimp only
   have hhl:=lA k r
   have hrk:=hP.uf.le k hk
   have hrr:=hP.uf.rr k hk
   have hcl:=Az (aR s) k r (r k)
   have hmap: ((bL k r).map (nH (aR s) k r)).length= (bL k r).length:=by simp
   rw [hm2]
   by_cases e:r k=k
   ·have hnot:r k∉bL k r:=fun h=>by have:=(jv.1 h).1;omega
    refine Ok.eq (x:=(vF m ((r k:Nat):Int) (((bL k r).length:Nat):Int),(bL k r).map (nH (aR s) k r)++[([]:List aI)],(((bL k r).length:Nat):Int))) ?_ ?_
    ·rw [cF hnot,pZ,aQ,kM (by simp;omega),aB,hmap]
    ·dsimp only
     have hi: ((bL k r).map (nH (aR s) k r)++[([]:List aI)])[(bL k r).length]? =some []:=by rw [<-hmap,gW (bT _),Nat.sub_self];rfl
     refine Ok.ix hi (Ok.app (by simp) (Ok.ix hi (Ok.ret ⟨a2,⟨fun j q hj=>?_,fun q=>?_⟩,?_⟩)))
     ·dsimp only
      rw [gI,aC e] at hj
      rw [yB]
      by_cases e2:j< (bL k r).length
      ·rw [gL e2] at hj
       have:=(jv.1 (eZ hj)).1
       rw [aH (by omega)];exact hm1 j q hj
      ·rw [gW (by omega)] at hj
       have hj0:j - (bL k r).length=0:=by
        have:=(bD.1 hj).1;simp at this;omega
       rw [hj0] at hj;simp at hj;subst hj
       rw [aC (by rw [e])];congr 1;omega
     ·dsimp only
      rw [GD,hm2,gI,aC e,eX]
      rw [dM,bR,bR,bR,dC,ry,e]
      constructor
      ·rintro(h | h)
       ·exact .inr (by omega)
       ·exact .inl h
      ·rintro(h | h)
       ·exact .inr h
       ·exact .inl (by omega)
     ·dsimp only
      rw [cL,<-hmap,List.set_append_right _ _ (bT _),Nat.sub_self,gI,aC e,dI]
      congr 1
      ·apply List.map_congr_left
       intro a ha
       have:=(jv.1 ha).1
       rw [vv a hkx,aH (by omega)]
      ·simp only [List.set_cons_zero,eB,List.map_nil,List.nil_append]
       rw [vv k hkx,aC e]
       have:nH (aR s) k r k= []:=by unfold nH;rw [F1 (fun i hi=>hP.uf.le i (by omega)) (bT _)];rfl
       rw [this];rfl
   ·have hh:r k∈bL k r:=jv.2 ⟨by omega,hrr⟩
    obtain⟨j,hj⟩:=dZ hh
    refine Ok.eq (x:=(m,(bL k r).map (nH (aR s) k r),((j:Nat):Int))) ?_ ?_
    ·rw [bU hh,mY,aS,hm1 j (r k) hj]
    ·dsimp only
     have hi: ((bL k r).map (nH (aR s) k r))[j]? =some (nH (aR s) k r (r k)):=by rw [gv,hj];rfl
     refine Ok.ix hi (Ok.app (by simp;omega) (Ok.ix hi (Ok.ret ⟨a2,⟨fun j' q hj'=>?_,fun q=>?_⟩,?_⟩)))
     ·rw [gI,aH e] at hj';exact hm1 j' q hj'
     ·rw [gI,aH e];exact hm2 q
     ·dsimp only
      rw [cL,gI,aH e]
      have:=u7 (nH (aR s) k r) (nH (aR s) (k+1) r) (bL k r) j (r k) (mQ k r) hj (fun b hb hne=>by
       rw [vv b hkx,aH (fun h=>hne h.symm)])
      rw [vv (r k) hkx,aC rfl] at this
      exact this
  ·rintro⟨l,m,ls⟩ ⟨_,_,hs⟩
   dsimp only at hs ⊢
   subst hs
   have hhl:=lA n r
   refine Ok.bind (Ok.mV (fun k ps=>ps.length=k/\∀(j h:Nat) (p:List aA),j<k->(bL n r)[j]? =some h->ps[j]? =some p->sX (nH (aR s) n r h) p) (by simp;omega) ⟨rfl,fun j h p hj=>by omega⟩ (fun k ps hk hI=>?_)) ?_
   ·obtain⟨hp1,hp2⟩:=hI
    have hk':k< (bL n r).length:=by simpa using hk
    refine Ok.ix (x:=nH (aR s) n r (bL n r)[k]) (by rw [gv,aN hk'];rfl) ?_
    have hcl:=Az (aR s) n r (bL n r)[k]
    refine Ok.bind (o6 (N:=N) (by omega) (fun x hx=>?_) (by omega)) ?_
    ·obtain⟨i,_,_,h⟩:=lW.1 hx
     exact(hok x (eZ h)).1
    ·intro p hp
     refine Ok.app (by rw [hp1];simp;omega) (Ok.ret ⟨by simp [hp1],fun j h q hj hh hq=>?_⟩)
     by_cases hjk:j<k
     ·rw [gL (by omega)] at hq
      exact hp2 j h q hjk hh hq
     ·have:j=k:=by omega
      subst this
      rw [gW (by omega),hp1,Nat.sub_self] at hq
      simp at hq;subst hq
      rw [aN hk'] at hh;injection hh with hh;subst hh
      exact hp
   ·rintro ps ⟨hp1,hp2⟩
    refine Ok.ret ⟨r,hJ,?_,fun j h p hh hp=>?_⟩
    ·rw [hp1,hn];simp
    ·rw [hn] at hh ⊢
     exact hp2 j h p (by have:=(bD.1 hp).1;omega) hh hp
end
end Go.Gk
namespace Go.Gk
open Go
section
variable {N:Nat}
theorem xO {n:Int} (h: -9223372036854775808<=n/\n<=9223372036854775807):IntKind.wrap .i64 n=n:=by rw [IntKind.wrap_i64];omega
def fV (n lo hi:Int):Bool:=decide (n>=lo)&&decide (n<=hi)
def lH (n:Int):Bool:=fV n (-1000000) 1000000
def qT (p:eQ):Bool:=lH p.X&&lH p.Y
def fF (r:aI):Bool:=lH r.X0&&(lH r.Y0&&(lH r.X1&&lH r.Y1))
theorem AA (n:Int):lJ N n=some (lH n):=rfl
theorem y5 (p:eQ):j5 N p=some (qT p):=by
 unfold j5 qT
 rw [AA,aB,AA]
 cases lH p.X <;> rfl
theorem y6 (p:eQ):f0 N p=some (qT p):=by
 have e: ∀n,cT N n=some (lH n):=fun _=>rfl
 unfold f0 qT
 rw [e,aB,e]
 cases lH p.X <;> rfl
theorem AB (r:aI):m7 N r=some (fF r):=by
 unfold m7 fF
 simp only [AA,aB]
 cases lH r.X0 <;> cases lH r.Y0 <;> cases lH r.X1 <;> rfl
theorem D1 {a b:Int} (h:a≠b):ir (N+4) [a,b]=some [a,b]:=by
 have e: (b==a)=false:=by rw [beq_eq_false_iff_ne];exact fun e=>h e.symm
 have w1:IntKind.wrap .i64 ((1:Int) - 1)=0:=by decide
 have w2:IntKind.wrap .i64 ((1:Int)+1)=2:=by decide
 unfold ir
 have e1:idx [a,b] 1=some b:=rfl
 have e2:idx [a,b] 0=some a:=rfl
 have l2: (([a,b]:List Int).length:Int)=2:=rfl
 rw [l2,show decide ((2:Int)<2)=false by decide,aS]
 rw [jH.eq_def]
 dsimp only
 rw [show decide ((1:Int)<2)=true by decide,aQ,e1,aB,w1,e2,aB,e,aS,aB,w2]
 dsimp only
 rw [jH.eq_def]
 dsimp only
 rw [show decide ((2:Int)<2)=false by decide,aS,aB]
 rfl
theorem JN (x:Int):IntKind.wrap .i64 (x - x)=0:=by rw [Int.sub_self];decide
theorem GJ {r:aI} (hx:r.X0<r.X1) (hy:r.Y0<r.Y1):iC (N+16) [r]=some [⟨r.Y0,r.Y1,[r.X0,r.X1]⟩]:=by
 have s1:w6 (ka (N+16)) [r]=some [r]:=BS (by unfold ka;rw [JN])
 have s2:w6 (iu (N+16)) [r]=some [r]:=BS (by unfold iu;rw [JN])
 have s3:uF [r.Y0,r.Y1]=some [r.Y0,r.Y1]:=Bq (by simp;omega) (by simp)
 have c1:jK (N+16) [r]=some [r]:=rfl
 have f1: ∀φ,iT (N+16) [] φ=some []:=fun φ=>rfl
 have st:jP (N+16) [r]=some ([r.X0,r.X1],[r]):=by
  unfold jP
  rw [s2,aB]
  rfl
 have pu: ∀b:aA,b.Xs= [r.X0,r.X1]->b.Y0<b.Y1->jB (N+16) [] b=some [b]:=fun b h1 h2=>by
  unfold jB
  rw [h1,cF (show ¬b.Y1<=b.Y0 by omega)]
  rfl
 unfold iC
 rw [c1,aB,s1,aB]
 have ys: (mV ([r]:List aI).length (fun(k35:Nat) (s36: (List Int))=>((idx [r] (k35:Int)).bind fun x54=>(app 8 s36 ([x54.Y0,x54.Y1]: (List Int))).bind fun x58=>some x58:Option ((List Int)))) ([]: (List Int)))=some [r.Y0,r.Y1]:=rfl
 rw [ys,aB,s3,aB,D1 (N:=N+12) (by omega),aB]
 have l2: (([r.Y0,r.Y1]:List Int).length:Int)=2:=rfl
 have l1: (([r]:List aI).length:Int)=1:=rfl
 have w1:IntKind.wrap .i64 ((0:Int)+1)=1:=by decide
 have w2:IntKind.wrap .i64 ((1:Int)+1)=2:=by decide
 have i0:idx [r.Y0,r.Y1] 0=some r.Y0:=rfl
 have i1:idx [r.Y0,r.Y1] 1=some r.Y1:=rfl
 have j0:idx [r] 0=some r:=rfl
 have a1:app 32 ([]:List aI) [r]=some [r]:=rfl
 rw [l2,l1]
 rw [jH.eq_def]
 dsimp only
 rw [w1,show decide ((1:Int)<2)=true by decide,aQ,f1,aB]
 rw [jH.eq_def]
 dsimp only
 rw [show decide ((0:Int)<1)=true by decide,aQ,j0,aB,i0,aB,aB,show decide (r.Y0<=r.Y0)=true by simp,aQ,aB,a1,aB,w1,aB]
 dsimp only
 rw [jH.eq_def]
 dsimp only
 rw [show decide ((1:Int)<1)=false by decide,aS,aB,aS,aB,aB]
 unfold Fo.cs
 dsimp only
 rw [aB,i1,aB,st,aB,pu _ rfl hy,aB,aB]
 dsimp only
 rw [jH.eq_def]
 dsimp only
 rw [w2,show decide ((2:Int)<2)=false by decide,aS,aB]
 rfl
theorem H4 {r:aI} (hx:r.X0<r.X1):mC N [⟨r.Y0,r.Y1,[r.X0,r.X1]⟩]=some (fF r):=by
 have ar:m9 N [⟨r.Y0,r.Y1,[r.X0,r.X1]⟩]=some r:=by
  have e1: (if r.X0<r.X0 then r.X0 else r.X0)=r.X0:=by split <;> rfl
  have e2: (if r.X1<r.X1 then r.X1 else r.X1)=r.X1:=by split <;> rfl
  show some ({X0:=(if r.X0<r.X0 then r.X0 else r.X0),Y0:=r.Y0,X1:=(if r.X1<r.X1 then r.X1 else r.X1),Y1:=r.Y1}:aI)=some r
  rw [e1,e2]
 unfold mC
 rw [ar,aB,AB]
 rfl
def uA (b:cE):aI:=⟨b.At.X - b.dH / 2,b.At.Y - b.dH / 2,b.At.X - b.dH / 2+b.dH,b.At.Y - b.dH / 2+b.dH⟩
def pX (b:cE):Bool:=fV b.dH 1 10000&&qT b.At
def mq (b:cE):aI×Int:=if pX b&&fF (uA b) then (uA b,0) else (⟨0,0,0,0⟩,1)
theorem rF {b:cE} (h:pX b=true): (1<=b.dH/\b.dH<=10000)/\(-1000000<=b.At.X/\b.At.X<=1000000)/\(-1000000<=b.At.Y/\b.At.Y<=1000000):=by
 simp only [pX,fV,qT,lH,bW,decide_eq_true_iff] at h
 omega
theorem mR {b:cE} (h:pX b=true):gJ N b=some (uA b):=by
 obtain⟨h1,h2,h3⟩:=rF h
 have t:Int.tdiv b.dH 2=b.dH / 2:=Int.tdiv_eq_ediv_of_nonneg (by omega)
 unfold gJ uA
 rw [t,xO (n:=b.dH / 2) (by omega),xO (n:=b.At.X - b.dH / 2) (by omega),xO (n:=b.At.Y - b.dH / 2) (by omega),xO (by omega),xO (by omega)]
theorem sZ {b:cE}:kV (N+16) b=some (mq b):=by
 have e0:iQ (N+16) b.dH 1 10000=some (fV b.dH 1 10000):=rfl
 have e1: (bif (!(fV b.dH 1 10000)) then (some true) else (some (!(qT b.At))))=some (!pX b):=by unfold pX;cases fV b.dH 1 10000 <;> rfl
 unfold kV mq
 rw [e0,aB,y5,aB,e1,aB]
 cases hf:pX b with
 | false=>rfl
 | true=>
  obtain⟨h1,h2,h3⟩:=rF hf
  have hx: (uA b).X0< (uA b).X1:=by simp only [uA];omega
  have hy: (uA b).Y0< (uA b).Y1:=by simp only [uA];omega
  rw [mY,aS,mR hf,aB,GJ hx hy,aB,H4 hx,aB]
  cases fF (uA b) <;> rfl
theorem GK:i9 (N+16)=some true:=by
 unfold i9
 rw [sZ,aB]
 rfl
end
end Go.Gk
namespace Go.Gk
open Go
section
variable {N:Nat}
def D2 (c:UInt8):Bool:=
 ((((decide (((c.toNat:Nat):Int)<65))||(decide (((c.toNat:Nat):Int)>90)))&&((decide (((c.toNat:Nat):Int)<97))||(decide (((c.toNat:Nat):Int)>122))))&&((decide (((c.toNat:Nat):Int)<48))||(decide (((c.toNat:Nat):Int)>57))))&&decide (Lib.indexByte [95,43,45,35] c<0)
def isWord (s:eJ):Bool:= !s.dA.any D2&&(decide (1<=s.dA.length)&&decide (s.dA.length<=40))
theorem tM (s:eJ) (c:UInt8):gX N s ((c.toNat:Nat):Int)=some (Lib.indexByte s.dA c):=by
 show some (Lib.indexByte s.dA (Int.toNat ((c.toNat:Nat):Int)).toUInt8)=_
 rw [cL];simp
theorem Fe {R:Type} (b1:Bool) (c:UInt8) (r:R):
  ((bif b1 then ((gX N (⟨[95,43,45,35]⟩) ((c.toNat:Nat):Int)).bind fun x14=>some (decide (x14<0))) else (some false)).bind fun s12=>bif s12 then (some (.rt r)) else (some (.nx ())):Option (Fl Unit R))=some (if (b1&&decide (Lib.indexByte [95,43,45,35] c<0))=true then .rt r else .nx ()):=by
 rw [tM,aB]
 cases b1
 ·rfl
 ·rw [aQ,aB,Bool.true_and]
  cases decide (Lib.indexByte [95,43,45,35] c<0) <;> rfl
theorem rG {s:eJ} (h:s.dA.length<=1048576):jC N s=some (isWord s):=by
 unfold jC
 rw [I7 D2 false (by omega) (fun k x hx=>by
  have hk:=(bD.1 hx).1
  have e:EH s ((k:Nat):Int)=some x:=by rw [DR s k hk,<-aN hk,hx]
  rw [e,aB]
  exact Fe (R:=Bool) _ x false),aB]
 unfold isWord
 cases s.dA.any D2
 ·simp only [Fo.cs,pZ,Bool.true_and,Bool.false_eq_true,if_false,Option.some.injEq]
  rw [eX,bW,bW]
  simp only [bR]
  omega
 ·simp [Fo.cs]
def cutAt (c:UInt8):List UInt8->List (List UInt8)
 | []=>[[]]
 | b::l=>if b==c then []::cutAt c l else match cutAt c l with | h::t=>(b::h)::t | []=>[[b]]
theorem AD {c:UInt8}: ∀{l:List UInt8},c∉l->cutAt c l= [l]
 | [],_=>rfl
 | b::l,h=>by
  unfold cutAt
  have hb: (b==c)=false:=by rw [beq_eq_false_iff_ne];rintro rfl;exact h (by simp)
  rw [hb,AD (fun h'=>h (by simp [h']))];rfl
theorem D3 {c:UInt8}: ∀{a b:List UInt8},c∉a->cutAt c (a++c::b)=a::cutAt c b
 | [],b,_=>by rw [List.nil_append];show (if (c==c)=true then _ else _)=_;simp
 | x::a,b,h=>by
  have hb: (x==c)=false:=by rw [beq_eq_false_iff_ne];rintro rfl;exact h (by simp)
  have ih:=D3 (c:=c) (a:=a) (b:=b) (fun h'=>h (by simp [h']))
  show (if (x==c)=true then []::cutAt c (a++c::b) else match cutAt c (a++c::b) with | h::t=>(x::h)::t | []=>[[x]])=_
  rw [hb,ih];rfl
theorem u9: ∀(l:List UInt8) (c:UInt8),(Lib.indexByte l c = -1/\c∉l)\/∃a b,l=a++c::b/\c∉a/\Lib.indexByte l c= ((a.length:Nat):Int)
 | [],c=> .inl ⟨rfl,by simp⟩
 | x::l,c=>by
  unfold Lib.indexByte
  by_cases hx:x=c
  ·subst hx;exact .inr ⟨[],l,rfl,by simp,by simp⟩
  ·have hb: (x==c)=false:=by rw [beq_eq_false_iff_ne];exact hx
   rcases u9 l c with ⟨h1,h2⟩ | ⟨a,b,h1,h2,h3⟩
   ·left;rw [hb,h1];refine⟨by simp,?_⟩;simp [h2];exact fun h=>hx h.symm
   ·right
    refine⟨x::a,b,by rw [h1];rfl,by simp [h2];exact fun h=>hx h.symm,?_⟩
    rw [hb,h3]
    have: (((a.length:Nat):Int)== -1)=false:=by rw [beq_eq_false_iff_ne];omega
    rw [this];simp
theorem H5 (s:eJ) (c:UInt8):l3 N s ⟨[c]⟩=some (Lib.indexByte s.dA c):=by
 show (kK N s ⟨[c]⟩).bind _=_
 unfold kK
 by_cases h:eJ.tj ⟨[c]⟩ s=true
 ·have:s= ⟨[c]⟩:=(Cu.1 h).symm
  subst this
  rw [h];simp [Lib.indexByte]
 ·rw [jY] at h
  rw [h]
  show ((jg N s ((c.toNat:Nat):Int)).bind _).bind _=_
  have:=tM (N:=N) s c
  simp only [gX] at this
  rw [this];rfl
theorem H6 (s:eJ) (c:UInt8):nz N s ⟨[c]⟩=some ((s.dA.count c:Nat):Int):=by
 unfold nz
 show (some _:Option Int)=_
 simp [Lib.countByte]
theorem GL {s:eJ} {k:Nat} (h:k<=s.dA.length):wo s 0 ((k:Nat):Int)=some ⟨s.dA.take k⟩:=by
 unfold wo;rw [aC ⟨by omega,by omega,by omega⟩]
 simp only [Int.toNat_zero,List.drop_zero,Int.sub_zero,cL]
theorem GM {s:eJ} {k:Nat} (h:k<=s.dA.length):wo s ((k:Nat):Int) ((s.dA.length:Nat):Int)=some ⟨s.dA.drop k⟩:=by
 unfold wo;rw [aC ⟨by omega,by omega,by omega⟩]
 simp only [cL]
 rw [lI];rw [iN];omega
def nT (s:eJ) (c:UInt8):List eJ:=(cutAt c s.dA).map eJ.mk
theorem D4 {s:eJ} (c:UInt8) (h:s.dA.length<=1048576) (hN:4194304<=N):l4 N s ⟨[c]⟩=some (nT s c):=by
 have hc:s.dA.count c<=s.dA.length:=List.count_le_length
 unfold l4 na
 rw [show ((-1:Int)==0)=false by decide,aS,show eJ.tj ⟨[c]⟩ ⟨[]⟩=false by simp [eJ.tj],aS,H6,aB]
 rw [fD (x:=((s.dA.count c:Nat):Int)+1) (by omega) (by omega),show decide ((-1:Int)<0)=true by decide,aQ,aB]
 rw [fD (x:=((s.dA.length:Nat):Int)+1) (by omega) (by omega)]
 have e1: (if ((s.dA.length:Nat):Int)+1< ((s.dA.count c:Nat):Int)+1 then ((s.dA.length:Nat):Int)+1 else ((s.dA.count c:Nat):Int)+1)= ((s.dA.count c+1:Nat):Int):=by
  rw [aH (by omega)];omega
 rw [e1,rB _ (by omega),aB]
 rw [fD (x:=((s.dA.count c+1:Nat):Int) - 1) (by omega) (by omega)]
 have key:=xv (S:=eJ×List eJ×Int) (R:=Empty) (body:=(fun(s7:eJ×(List eJ)×Int)=>(bif (decide (s7.2.2< ((s.dA.count c+1:Nat):Int) - 1)) then ((l3 N s7.1 ⟨[c]⟩).bind fun x23=>bif (decide (x23<0)) then (some (.br (s7.1,s7.2.1,s7.2.2))) else ((wo s7.1 0 (IntKind.wrap .i64 (x23+0))).bind fun x24=>(idx s7.2.1 s7.2.2).bind fun x25=>(wo s7.1 (IntKind.wrap .i64 (x23+ (((⟨[c]⟩:eJ).dA.length:Nat):Int))) ((s7.1.dA.length:Nat):Int)).bind fun x27=>some (.nx (x27,(s7.2.1.set (Int.toNat s7.2.2) x24),(IntKind.wrap .i64 (s7.2.2+1)))))) else (some (.br (s7.1,s7.2.1,s7.2.2))):Option (Fl (eJ×(List eJ)×Int) Empty))))
  (fun st=>∃ws:List (List UInt8),st.2.2= ((ws.length:Nat):Int)/\cutAt c s.dA=ws++cutAt c st.1.dA/\ws.length+st.1.dA.count c=s.dA.count c/\st.1.dA.length<=s.dA.length/\st.2.1=ws.map eJ.mk++List.replicate (s.dA.count c+1 - ws.length) ⟨[]⟩)
  (fun st=>s.dA.count c+1 - st.2.2.toNat)
  (fun st=>∃ws:List (List UInt8),st.2.2= ((ws.length:Nat):Int)/\cutAt c s.dA=ws++[st.1.dA]/\ws.length=s.dA.count c/\st.2.1=ws.map eJ.mk++[⟨[]⟩])
  (fun _=>True) (by
   rintro⟨r,arr,i⟩ ⟨ws,h1,h2,h3,h4,h5⟩
   simp only at h1 h2 h3 h4 h5
   subst h1 h5
   by_cases hlt:ws.length<s.dA.count c
   ·have hd:decide (((ws.length:Nat):Int)< ((s.dA.count c+1:Nat):Int) - 1)=true:=by rw [bR];omega
    simp only [hd,aQ,H5,aB]
    rcases u9 r.dA c with ⟨_,hn⟩ | ⟨a,b,hr,ha,hi⟩
    ·rw [List.count_eq_zero_of_not_mem hn] at h3;omega
    ·have hrl:r.dA.length=a.length+ (b.length+1):=by rw [hr];simp
     rw [hi,cF (by omega),aS]
     rw [show ((a.length:Nat):Int)+0= ((a.length:Nat):Int) by omega,fD (x:=((a.length:Nat):Int)) (by omega) (by omega),GL (by omega),aB]
     rw [k6 _ _ (by simp;omega),aB]
     rw [show ((a.length:Nat):Int)+ (((⟨[c]⟩:eJ).dA.length:Nat):Int)= ((a.length+1:Nat):Int) by simp,fD (x:=((a.length+1:Nat):Int)) (by omega) (by omega),GM (by omega),aB]
     refine⟨_,rfl,⟨ws++[a],?_,?_,?_,?_,?_⟩,?_⟩
     ·simp only;rw [fD (by omega) (by omega)];simp
     ·simp only
      rw [h2,hr,D3 ha];simp
     ·simp only
      rw [hr] at h3 ⊢
      simp [List.count_eq_zero_of_not_mem ha] at h3 ⊢;omega
     ·simp;omega
     ·simp only [cL]
      rw [List.set_append_right _ _ (by simp)]
      simp only [cW,Nat.sub_self]
      obtain⟨d,hd'⟩: ∃d,s.dA.count c+1 - ws.length=d+1:=⟨s.dA.count c - ws.length,by omega⟩
      rw [hd',List.replicate_succ,List.set_cons_zero,show s.dA.count c+1 - (ws++[a]).length=d by simp;omega]
      simp [hr]
     ·simp only;rw [fD (by omega) (by omega)];omega
   ·have hd:decide (((ws.length:Nat):Int)< ((s.dA.count c+1:Nat):Int) - 1)=false:=by rw [decide_eq_false_iff_not];omega
    simp only [hd,aS]
    refine⟨_,rfl,ws,rfl,?_,by omega,?_⟩
    ·have h0:r.dA.count c=0:=by omega
     rw [h2,AD (List.count_eq_zero.1 h0)]
    ·rw [show s.dA.count c+1 - ws.length=1 by omega];rfl)
  N (s,List.replicate (s.dA.count c+1) ⟨[]⟩,0) ⟨[],rfl,rfl,by simp,bT _,by simp⟩ (by simp only;omega)
 obtain⟨o,ho,hgo⟩:=key
 rw [ho,aB]
 cases o with
 | rt r=>exact r.elim
 | go st=>
  obtain⟨r,arr,i⟩:=st
  obtain⟨ws,h1,h2,h3,h4⟩:=hgo
  simp only at h1 h2 h3 h4
  subst h1 h4
  simp only [Fo.cs]
  rw [k6 _ _ (by simp),aB,fD (by omega) (by omega)]
  rw [show ((ws.length:Nat):Int)+1= ((ws.length+1:Nat):Int) by omega,qG _ _ (by simp),aB,aB]
  unfold nT
  rw [h2]
  rw [cL,List.set_append_right _ _ (by simp),lI (by simp)]
  simp
def ny (s:eJ):Bool:=decide (s.dA.length<=200)&&(nT s 47).all isWord
theorem vx {c:UInt8}: ∀{l x:List UInt8},x∈cutAt c l->x.length<=l.length
 | [],x,h=>by simp [cutAt] at h;subst h;simp
 | b::l,x,h=>by
  unfold cutAt at h
  split at h
  ·rcases dF.1 h with h | h
   ·subst h;simp
   ·have:=vx h;simp;omega
  ·split at h
   ·rename_i t e
    rcases dF.1 h with h | h
    ·subst h;have:=vx (c:=c) (l:=l) (by rw [e];exact List.mem_cons_self);simp;omega
    ·have:=vx (c:=c) (l:=l) (by rw [e];exact il _ h);simp;omega
   ·simp at h;subst h;simp
theorem BZ (c:UInt8): ∀(l:List UInt8),(cutAt c l).length<=l.length+1
 | []=>by simp [cutAt]
 | b::l=>by
  have:=BZ c l
  unfold cutAt
  split
  ·simp;omega
  ·split
   ·rename_i e;rw [e] at this;simp at this ⊢;omega
   ·simp
theorem B0 {s x:eJ} {c:UInt8} (h:x∈nT s c):x.dA.length<=s.dA.length:=by
 obtain⟨y,hy,rfl⟩:=dE.1 h
 exact vx hy
theorem B1 (s:eJ) (c:UInt8): (nT s c).length<=s.dA.length+1:=by unfold nT;rw [cW];exact BZ c _
theorem xP {s:eJ} (h:s.dA.length<=1048576) (hN:4194304<=N):mD N s=some (ny s):=by
 unfold mD ny
 by_cases hl:s.dA.length<=200
 ·rw [bU (by omega),aQ,D4 47 h hN,aB]
  have e:=sB (l:=nT s 47) (φ:=iV N) (fun x=> !isWord x) (by have:=B1 s 47;omega) (fun x hx=>by
   unfold iV
   rw [rG (by have:=B0 hx;omega)];rfl)
  have e2:iU N (nT s 47) (iV N)=rU (nT s 47) (iV N):=rfl
  rw [e2,e,aB,aB,bU hl,Bool.true_and]
  congr 1
  rw [eX]
  simp
 ·rw [cF (by omega),aS,aB,cF hl,Bool.false_and]
end
end Go.Gk
namespace Go.Gk
open Go Classical
section
variable {N:Nat}
theorem H7 {a b:aA} (h:cA a=cA b):a=b:=by cases a;cases b;unfold cA at h;simp at h;obtain⟨h1,h2,h3⟩:=h;subst h1;subst h2;subst h3;rfl
theorem xQ: ∀{s t:List aA},s.map cA=t.map cA->s=t
 | [],[],_=>rfl
 | [],_::_,h=>by cases h
 | _::_,[],h=>by cases h
 | a::s,b::t,h=>by
  rw [eB,eB] at h
  injection h with h1 h2
  rw [H7 h1,xQ h2]
theorem H8 {s t:List aA} (hs:eP (s.map cA)) (ht:eP (t.map cA)) (h: ∀x y,uz (s.map cA) x y=uz (t.map cA) x y):s=t:=xQ (tK hs ht h)
theorem sX.unique {l:List aI} {s t:List aA} (hs:sX l s) (ht:sX l t):s=t:=H8 hs.can ht.can fun x y=>by rw [hs.cover,ht.cover]
theorem sX.AE {l:List aI} {s:List aA} (h:sX l s):s.length<=2*l.length/\(∀b∈s,b.Xs.length<=2*l.length)/\(aR s).length<=2*l.length* (2*l.length):=by
 have h1:s.length<=2*l.length:=by have:=h.lim.len h.can;rwa [cW,i6] at this
 have h2: ∀b∈s,b.Xs.length<=2*l.length:=fun b hb=>by
  have:=h.lim.row h.can (b:=cA b) (dE.2 ⟨b,hb,rfl⟩)
  rwa [kO] at this
 exact⟨h1,h2,Ar h1 h2⟩
theorem vz {n:Int} (h:lH n=true): -1000000<=n/\n<=1000000:=by
 unfold lH fV at h
 rw [bW,bR,bR] at h;omega
theorem mS {r:aI} (h:fF r=true): (-1000000<=r.X0/\r.X0<=1000000)/\(-1000000<=r.Y0/\r.Y0<=1000000)/\(-1000000<=r.X1/\r.X1<=1000000)/\(-1000000<=r.Y1/\r.Y1<=1000000):=by
 unfold fF at h
 simp only [bW] at h
 exact⟨vz h.1,vz h.2.1,vz h.2.2.1,vz h.2.2.2⟩
theorem AF {r:aI} (h: (-1000000<=r.X0/\r.X0<=1000000)/\(-1000000<=r.Y0/\r.Y0<=1000000)/\(-1000000<=r.X1/\r.X1<=1000000)/\(-1000000<=r.Y1/\r.Y1<=1000000)):fF r=true:=by
 unfold fF lH fV
 simp only [bW,bR]
 omega
theorem CJ {r:aI} (h:fF r=true) (hx:r.X0<r.X1) (hy:r.Y0<r.Y1):Bb r:=by
 have:=mS h
 refine⟨hx,hy,?_,?_,?_,?_⟩ <;> unfold small <;> omega
def kQ (r:aI):Option Int:=if fF r=true then (if r.X1<=r.X0\/r.Y1<=r.Y0 then some 13 else none) else some 1
def lB (l:List aI):Int:=if 2000<l.length then 2 else (l.findSome? kQ).getD 0
theorem Bt {l:List aI} (hl:l.length<=4611686018427387904):lj N l=some (lB l):=by
 unfold lj lB
 by_cases h:2000<l.length
 ·rw [bU (by omega),aQ,aC h]
 ·rw [cF (by omega),aS,aH h,Ad kQ hl (fun k x hx=>by
   rw [eI hx,aB,AB,aB]
   unfold kQ
   cases hr:fF x with
   | false=>rfl
   | true=>
    rw [mY,aS,aC rfl]
    by_cases h2:x.X1<=x.X0\/x.Y1<=x.Y0
    ·rw [aC h2,show (decide (x.X1<=x.X0)||decide (x.Y1<=x.Y0))=true by rw [dM,bR,bR];exact h2];rfl
    ·rw [aH h2,show (decide (x.X1<=x.X0)||decide (x.Y1<=x.Y0))=false by rw [<-jY,dM,bR,bR];exact h2];rfl),aB]
  cases l.findSome? kQ <;> rfl
theorem xR {r:aI}:kQ r=none↔fF r=true/\r.X0<r.X1/\r.Y0<r.Y1:=by
 unfold kQ
 by_cases h:fF r=true
 ·rw [aC h]
  by_cases h2:r.X1<=r.X0\/r.Y1<=r.Y0
  ·rw [aC h2]
   constructor
   ·intro h;cases h
   ·rintro⟨_,h3,h4⟩;omega
  ·rw [aH h2]
   exact⟨fun _=>⟨h,by omega,by omega⟩,fun _=>rfl⟩
 ·rw [aH h]
  constructor
  ·intro h;cases h
  ·rintro⟨h3,_⟩;exact absurd h3 h
theorem D5 {r:aI} {e:Int} (h:kQ r=some e):e≠0:=by
 unfold kQ at h
 split at h
 ·split at h
  ·injection h with h;omega
  ·cases h
 ·injection h with h;omega
theorem pd {l:List aI}:lB l=0↔l.length<=2000/\∀r∈l,fF r=true/\r.X0<r.X1/\r.Y0<r.Y1:=by
 unfold lB
 by_cases h:2000<l.length
 ·rw [aC h];constructor
  ·intro h;omega
  ·intro h;omega
 ·rw [aH h]
  cases hf:l.findSome? kQ with
  | none=>
   rw [List.findSome?_eq_none_iff] at hf
   exact⟨fun _=>⟨by omega,fun r hr=>xR.1 (hf r hr)⟩,fun _=>rfl⟩
  | some e=>
   obtain⟨r,hr,he⟩:=List.exists_of_findSome?_eq_some hf
   constructor
   ·intro h0;exact absurd h0 (D5 he)
   ·rintro⟨_,h2⟩
    rw [xR.2 (h2 r hr)] at he;cases he
def Kz (l:List aI):Prop:=∀(k:Nat) a b,l[k]? =some a->l[k+1]? =some b->¬(b.Y0<a.Y0\/(b.Y0=a.Y0/\b.X0<=a.X0))
def AG (l:List aI):Prop:=∃s,sX l s/\aR s=l
noncomputable def j3 (l:List aI):Int:=if lB l≠0 then lB l else if Kz l then (if AG l then 0 else 3) else 8
theorem AH {l:List aI} (h:lB l=0):l.length<=2000/\∀r∈l,Bb r:=⟨(pd.1 h).1,fun r hr=>by have:=(pd.1 h).2 r hr;exact CJ this.1 this.2.1 this.2.2⟩
theorem Ff {l m:List aI} (hl:l.length<=4611686018427387904):kI N l m=some (decide (l=m)):=by
 have:=yu (l:=l) (m:=m) hl
 unfold E5 at this
 unfold kI
 rw [show (decide (l=m)) = @decide (l=m) (instDecidableEqList l m) from decide_eq_decide.2 Iff.rfl]
 exact this
theorem va {l:List aI} (hl:l.length<=1073741824) (hN:4398046511104<=N):jL N l=some (j3 l):=by
 refine Ok.get ?_
 unfold jL
 refine Ok.eq (Bt (by omega)) ?_
 unfold j3
 refine Ok.bif (fun h=>Ok.ret ?_) (fun h=>?_)
 ·rw [aC (by simpa using h)]
 ·have h0:lB l=0:=by simpa using h
  rw [aH (by simpa using h0)]
  obtain⟨hlen,hok⟩:=AH h0
  refine Ok.bind (Ok.jH (Go:=fun _=>Kz l) (Rt:=fun r=>r=8/\¬Kz l) (fun s=>∃k:Nat,s= ((k:Nat):Int)/\1<=k/\∀(j:Nat) a b,j+1<k->l[j]? =some a->l[j+1]? =some b->¬(b.Y0<a.Y0\/(b.Y0=a.Y0/\b.X0<=a.X0))) (fun s=>l.length - s.toNat) ?_ ⟨1,rfl,bT _,fun j a b hj=>by omega⟩ (by simp;omega)) ?_
  ·rintro s ⟨k,rfl,hk,hI⟩
   refine Ok.bif (fun h=>?_) (fun h=>Ok.br fun j a b ha hb=>hI j a b ?_ ha hb)
   ·have hk2:k<l.length:=by have:=of_decide_eq_true h;omega
    rw [jq hk (by omega)]
    refine Ok.idx (by omega) (Ok.idx hk2 (Ok.bif (fun hb=>Ok.rt ⟨rfl,fun hu=>?_⟩) (fun hb=>Ok.nx ⟨⟨k+1,by rw [bP (by omega)],by omega,fun j a b hj ha hb'=>?_⟩,by rw [bP (by omega)];simp only [cL];omega⟩)))
    ·refine hu (k - 1) l[k - 1] l[k] (aN _) (by rw [show k - 1+1=k by omega];exact aN _) ?_
     rw [dM,bW,bR,bR,beq_iff_eq] at hb;exact hb
    ·by_cases e:j+1<k
     ·exact hI j a b e ha hb'
     ·have:j+1=k:=by omega
      subst this
      rw [aN (by omega)] at ha hb'
      injection ha with ha;injection hb' with hb'
      subst ha;subst hb'
      rw [<-jY,dM,bW,bR,bR,beq_iff_eq] at hb;exact hb
   ·have:=of_decide_eq_false h
    have:=(bD.1 hb).1;omega
  ·rintro o ho
   refine Ok.cs ho (fun s hu=>?_) (fun r hr=>Ok.ret (by rw [hr.1,aH hr.2]))
   rw [aC hu]
   refine Ok.bind (o6 (N:=N) (by omega) hok (by omega)) ?_
   intro s hs
   obtain⟨z1,z2,z3⟩:=hs.AE
   have z4:2*l.length* (2*l.length)<=4000*4000:=Nat.mul_le_mul (by omega) (by omega)
   refine Ok.eq (xN (pF hs.can) (by omega) (fun b hb=>by have:=z2 b hb;omega) (by omega)) (Ok.eq (Ff (by omega)) ?_)
   have hiff:AG l↔aR s=l:=⟨fun⟨t,h1,h2⟩=>by rw [hs.unique h1];exact h2,fun h=>⟨s,hs,h⟩⟩
   refine Ok.bif (fun h=>Ok.ret ?_) (fun h=>Ok.ret ?_)
   ·have h: ¬aR s=l:=by simpa using h
    rw [aH (fun h'=>h (hiff.1 h'))]
   ·have h:aR s=l:=by simpa using h
    rw [aC (hiff.2 h)]
theorem vc {l:List aI}:j3 l=0↔lB l=0/\Kz l/\AG l:=by
 unfold j3
 by_cases h:lB l=0
 ·rw [aH (by simpa using h)]
  by_cases h2:Kz l
  ·rw [aC h2]
   by_cases h3:AG l
   ·rw [aC h3];exact⟨fun _=>⟨h,h2,h3⟩,fun _=>rfl⟩
   ·rw [aH h3];constructor
    ·intro h;omega
    ·rintro⟨_,_,h4⟩;exact absurd h4 h3
  ·rw [aH h2];constructor
   ·intro h;omega
   ·rintro⟨_,h4,_⟩;exact absurd h4 h2
 ·rw [aC h]
  constructor
  ·intro h2;exact absurd h2 h
  ·rintro⟨h2,_⟩;exact absurd h2 h
theorem wP (n lo hi:Int):iQ N n lo hi=some (fV n lo hi):=rfl
theorem GN {b:cE} (hN:16<=N):kV N b=some (mq b):=by
 have:=sZ (N:=N - 16) (b:=b)
 rwa [show N - 16+16=N by omega] at this
def lQ (n:Nat) (b:cE):Option Int:=if (mq b).2≠0 then some (mq b).2 else if fV b.cR 0 (((n:Nat):Int) - 1)=true/\fV b.To b.cR (((n:Nat):Int) - 1)=true then none else some 1
def jk (a:kH):Int:=if 500<a.aO.length then 2 else (a.aO.findSome? (lQ a.aJ.length)).getD 0
theorem Bu {a:kH} (h1:a.aJ.length<=4611686018427387904) (h2:a.aO.length<=4611686018427387904) (hN:16<=N):kJ N a=some (jk a):=by
 unfold kJ jk
 by_cases h:500<a.aO.length
 ·rw [bU (by omega),aQ,aC h]
 ·have hw:IntKind.wrap .i64 (((a.aJ.length:Nat):Int) - 1)= ((a.aJ.length:Nat):Int) - 1:=fD (by omega) (by omega)
  rw [cF (by omega),aS,aH h,Ad (lQ a.aJ.length) h2 (fun k x hx=>by
   rw [eI hx,aB,GN hN,aB]
   unfold lQ
   by_cases h0: (mq x).2=0
   ·rw [aH (by simpa using h0),h0,show ((0:Int) != 0)=false by rfl,aS,hw,wP,aB,wP,aB]
    cases h3:fV x.cR 0 (((a.aJ.length:Nat):Int) - 1) <;> cases h4:fV x.To x.cR (((a.aJ.length:Nat):Int) - 1) <;> rfl
   ·rw [aC h0,show ((mq x).2 != 0)=true by simpa using h0];rfl),aB]
  cases a.aO.findSome? (lQ a.aJ.length) <;> rfl
theorem D6 {b:cE} (h: (mq b).2=0):pX b=true/\fF (uA b)=true:=by
 unfold mq at h
 split at h
 ·rename_i h';rwa [bW] at h'
 ·cases h
theorem l9 {a:kH} (h:jk a=0):a.aO.length<=500/\∀b∈a.aO,pX b=true/\fF (uA b)=true/\0<=b.cR/\b.cR<=b.To/\b.To< ((a.aJ.length:Nat):Int):=by
 unfold jk at h
 split at h
 ·omega
 ·refine⟨by omega,fun b hb=>?_⟩
  have hn:lQ a.aJ.length b=none:=by
   cases hf:a.aO.findSome? (lQ a.aJ.length) with
   | none=>exact List.findSome?_eq_none_iff.1 hf b hb
   | some e=>
    rw [hf] at h
    obtain⟨c,hc,he⟩:=List.exists_of_findSome?_eq_some hf
    have h:e=0:=h
    subst h
    unfold lQ at he
    split at he
    ·rename_i h';injection he with he;exact absurd he h'
    ·split at he
     ·cases he
     ·injection he with he;omega
  unfold lQ at hn
  split at hn
  ·cases hn
  ·rename_i h0
   split at hn
   ·rename_i h1
    have h0: (mq b).2=0:=by simpa using h0
    have:=D6 h0
    unfold fV at h1
    simp only [bW,bR] at h1
    exact⟨this.1,this.2,by omega,by omega,by omega⟩
   ·cases hn
theorem JO {b:cE} (h1:pX b=true) (h2:fF (uA b)=true):Bb (uA b):=by
 have hf:=rF h1
 refine CJ h2 ?_ ?_
 ·show b.At.X - b.dH / 2<b.At.X - b.dH / 2+b.dH;omega
 ·show b.At.Y - b.dH / 2<b.At.Y - b.dH / 2+b.dH;omega
def k7 (p q:fG):Int:=if Lib.compareBytes p.Part.dA q.Part.dA≠0 then Lib.compareBytes p.Part.dA q.Part.dA else Lib.compareBytes p.fG.dA q.fG.dA
theorem zv (p q:fG):jS N p q=some (k7 p q):=by
 unfold jS k7
 show (bif (Lib.compareBytes p.Part.dA q.Part.dA != 0) then _ else _)=_
 by_cases h:Lib.compareBytes p.Part.dA q.Part.dA=0
 ·rw [h,aH (by simp)];rfl
 ·rw [aC h,show (Lib.compareBytes p.Part.dA q.Part.dA != 0)=true by simpa using h];rfl
def nk (l:fP):fG:=⟨l.Part,l.fG⟩
theorem B2 (l:fP):nb N l=some (nk l):=rfl
def kq (a:kH) (k:Nat):Option Int:=(a.bV[k]?).bind fun x=>
 if (ny x.Part&&isWord x.fG)=true then
  if (fV x.cK 0 (((a.aJ.length:Nat):Int) - 1)&&qT x.At)=true then
   if 0<k/\(∃y,a.bV[k - 1]? =some y/\k7 (nk x) (nk y)<=0) then some 8 else none
  else some 1
 else some 5
noncomputable def mT (a:kH):Int:=if 1000<a.bV.length then 2 else (vL a.bV.length (kq a)).getD 0
end
end Go.Gk
namespace Go.Gk
open Go Classical
section
variable {N:Nat}
def AJ (a:kH):Prop:=∀x∈a.bV,x.Part.dA.length<=1048576/\x.fG.dA.length<=1048576
theorem Bv {a:kH} (h1:a.aJ.length<=1073741824) (h2:a.bV.length<=1073741824) (h3:AJ a) (hN:4194304<=N):kL N a=some (mT a):=by
 unfold kL mT
 by_cases h:1000<a.bV.length
 ·rw [bU (by omega),aQ,aC h]
 ·have hw:IntKind.wrap .i64 (((a.aJ.length:Nat):Int) - 1)= ((a.aJ.length:Nat):Int) - 1:=fD (by omega) (by omega)
  rw [cF (by omega),aS,aH h,sA (kq a) (by omega) (fun k hk _=>by
   have hx:a.bV[k]? =some a.bV[k]:=aN hk
   have hs:=h3 _ (cM hk)
   rw [eI hx,aB,xP hs.1 hN,aB]
   have hle:kq a k= (if (ny a.bV[k].Part&&isWord a.bV[k].fG)=true then
     if (fV a.bV[k].cK 0 (((a.aJ.length:Nat):Int) - 1)&&qT a.bV[k].At)=true then
      if 0<k/\(∃y,a.bV[k - 1]? =some y/\k7 (nk a.bV[k]) (nk y)<=0) then some 8 else none
     else some 1
    else some 5):=by unfold kq;rw [hx];rfl
   rw [hle]
   have e1: ((bif (!ny a.bV[k].Part) then (some true) else ((jC N a.bV[k].fG).bind fun x225=>some (!x225))):Option Bool)=some (!(ny a.bV[k].Part&&isWord a.bV[k].fG)):=by
    rw [rG hs.2,aB]
    cases ny a.bV[k].Part <;> rfl
   have e2: ((iQ N a.bV[k].cK 0 (IntKind.wrap .i64 (((a.aJ.length:Nat):Int) - 1))).bind fun x318=>bif (!x318) then (some true) else ((j5 N a.bV[k].At).bind fun x321=>some (!x321)))=some (!(fV a.bV[k].cK 0 (((a.aJ.length:Nat):Int) - 1)&&qT a.bV[k].At)):=by
    rw [hw,wP,aB,y5,aB]
    cases fV a.bV[k].cK 0 (((a.aJ.length:Nat):Int) - 1) <;> rfl
   show ((bif (!ny a.bV[k].Part) then (some true) else ((jC N a.bV[k].fG).bind fun x225=>some (!x225))):Option Bool).bind _=_
   rw [e1,aB]
   cases h4: (ny a.bV[k].Part&&isWord a.bV[k].fG) with
   | false=>rfl
   | true=>
    rw [mY,aS,aC rfl]
    show (((iQ N a.bV[k].cK 0 (IntKind.wrap .i64 (((a.aJ.length:Nat):Int) - 1))).bind fun x318=>bif (!x318) then (some true) else ((j5 N a.bV[k].At).bind fun x321=>some (!x321)))).bind _=_
    rw [e2,aB]
    cases h5: (fV a.bV[k].cK 0 (((a.aJ.length:Nat):Int) - 1)&&qT a.bV[k].At) with
    | false=>rfl
    | true=>
     rw [mY,aS,aC rfl]
     by_cases h0:0<k
     ·rw [bU (by omega),aQ,jq h0 (by omega),k6 _ _ (by omega:k - 1<a.bV.length)]
      simp only [B2,aB,zv]
      by_cases h6:k7 (nk a.bV[k]) (nk a.bV[k - 1])<=0
      ·rw [bU h6,aC ⟨h0,_,aN (by omega:k - 1<a.bV.length),h6⟩];rfl
      ·rw [cF h6,aH (by
        rintro⟨_,y,hy,h7⟩
        rw [aN (by omega:k - 1<a.bV.length)] at hy;injection hy with hy
        rw [<-hy] at h7;exact h6 h7)];rfl
     ·rw [cF (by omega),aH (fun h=>h0 h.1)];rfl),aB]
  cases vL a.bV.length (kq a) <;> rfl
def jV (b:cE) (k:Int):Bool:=decide (b.cR<=k)&&decide (k<=b.To)
theorem AK (b:cE) (k:Int):ll N b k=some (jV b k):=rfl
def j6 (bs:List cE) (k:Int):List aI:=(bs.filter (fun b=>jV b k)).map uA
structure kD (bs:List cE):Prop where
 len:bs.length<=500
 ok: ∀b∈bs,pX b=true/\fF (uA b)=true
structure tN (r hs:List aI) (s:List aA):Prop where
 can:eP (s.map cA)
 cover: ∀x y,uz (s.map cA) x y= (sR r x y&& !sR hs x y)
 lim:wU (sV r++sV hs) (jy r++jy hs) (s.map cA)
theorem vA {bs:List cE} (h:kD bs) (k:Int): (j6 bs k).length<=500:=by
 unfold j6
 rw [cW]
 have:=nJ (fun b=>jV b k) bs
 have:=h.len;omega
theorem qU {bs:List cE} (h:kD bs) (k:Int): ∀r∈j6 bs k,Bb r/\fF r=true:=by
 intro r hr
 unfold j6 at hr
 obtain⟨b,hb,rfl⟩:=dE.1 hr
 have:=h.ok b (jI.1 hb).1
 exact⟨JO this.1 this.2,this.2⟩
theorem tN.small {r hs:List aI} {s:List aA} (h:tN r hs s) (h1: ∀x∈r,Bb x) (h2: ∀x∈hs,Bb x): (∀c∈sV r++sV hs,small c)/\∀c∈jy r++jy hs,small c:=by
 constructor
 ·intro c hc
  rcases dC.1 hc with h | h
  ·obtain⟨x,hx,rfl | rfl⟩:=sW.1 h
   ·exact(h1 x hx).s1
   ·exact(h1 x hx).s2
  ·obtain⟨x,hx,rfl | rfl⟩:=sW.1 h
   ·exact(h2 x hx).s1
   ·exact(h2 x hx).s2
 ·intro c hc
  rcases dC.1 hc with h | h
  ·obtain⟨x,hx,rfl | rfl⟩:=lz.1 h
   ·exact(h1 x hx).s3
   ·exact(h1 x hx).s4
  ·obtain⟨x,hx,rfl | rfl⟩:=lz.1 h
   ·exact(h2 x hx).s3
   ·exact(h2 x hx).s4
theorem s8 {s:List aA} {X Y:List Int} {A:Nat} (hc:eP (s.map cA)) (h:wU X Y (s.map cA)) (hX:X.length<=A) (hY:Y.length<=A):s.length<=A/\(∀b∈s,b.Xs.length<=A)/\(aR s).length<=A*A:=by
 have h1:s.length<=A:=by have:=h.len hc;rw [cW] at this;omega
 have h2: ∀b∈s,b.Xs.length<=A:=fun b hb=>by
  have:=h.row hc (b:=cA b) (dE.2 ⟨b,hb,rfl⟩)
  have e: (cA b).xs=b.Xs:=rfl
  rw [e] at this;omega
 exact⟨h1,h2,Ar h1 h2⟩
theorem Bw {r hs:List aI} (h1:r.length<=2000) (h2: ∀x∈r,Bb x) (h3:hs.length<=500) (h4: ∀x∈hs,Bb x) (hN:4398046511104<=N) {β:Type} {f:List aA->Option β} {Q:β->Prop} (k: ∀s,tN r hs s->Ok (f s) Q):
  Ok ((iC N r).bind fun x378=>(iC N hs).bind fun x380=>(ln N x378 x380).bind f) Q:=by
 refine Ok.bind (o6 (N:=N) (by omega) h2 (by omega)) (fun s hs1=>?_)
 refine Ok.bind (o6 (N:=N) (by omega) h4 (by omega)) (fun t ht=>?_)
 have hz: ∀c∈jy r++jy hs,small c:=by
  intro c hc
  rcases dC.1 hc with h | h
  ·obtain⟨x,hx,rfl | rfl⟩:=lz.1 h
   ·exact(h2 x hx).s3
   ·exact(h2 x hx).s4
  ·obtain⟨x,hx,rfl | rfl⟩:=lz.1 h
   ·exact(h4 x hx).s3
   ·exact(h4 x hx).s4
 refine Ok.bind (GI (X:=sV r++sV hs) (Y:=jy r++jy hs) hs1.can ht.can (hs1.lim.mono (fun c h=>List.mem_append_left _ h) (fun c h=>List.mem_append_left _ h)) (ht.lim.mono (fun c h=>List.mem_append_right _ h) (fun c h=>List.mem_append_right _ h))
  (by rw [cX,kO,kO];omega) (by rw [cX,i6,i6];omega) hz hN) (fun u hu=>?_)
 exact k u ⟨hu.can,fun x y=>by rw [hu.cover,hs1.cover,ht.cover],hu.lim⟩
def dO:Nat->List (List (List aA))->List aK
 | _,[]=>[]
 | k,ps::r=>ps.map (fun p=>⟨((k:Nat):Int),p,aR p⟩)++dO (k+1) r
theorem tO (ps:List (List aA)): ∀(r:List (List (List aA))) (k:Nat),dO k (r++[ps])=dO k r++ps.map (fun p=>⟨((k+r.length:Nat):Int),p,aR p⟩)
 | [],k=>by unfold dO;simp [dO]
 | q::r,k=>by
  show _++dO (k+1) (r++[ps])= (_++dO (k+1) r)++_
  rw [tO ps r (k+1),kE]
  congr 3
  simp only [dT]
  rw [show k+ (r.length+1)=k+1+r.length by omega]
theorem AL {s p:List aA} {ps:List (List aA)} {r:Nat->Nat} {X Y:List Int} (h:rE s r ps) (hc:eP (s.map cA)) (hl:wU X Y (s.map cA)) (hX: ∀c∈X,small c) (hY: ∀c∈Y,small c) (hp:p∈ps):
  ∃j k:Nat,ps[j]? =some p/\(bL (aR s).length r)[j]? =some k/\sX (nH (aR s) (aR s).length r k) p/\wU X Y (p.map cA):=by
 obtain⟨j,hj⟩:=dZ hp
 have hjl:=(bD.1 hj).1
 rw [h.len] at hjl
 have hh: (bL (aR s).length r)[j]? =some (bL (aR s).length r)[j]:=aN hjl
 have hs:=h.each j _ p hh hj
 refine⟨j,_,hj,hh,hs,hs.lim.mono (fun c hcx=>?_) (fun c hcx=>?_)⟩
 ·obtain⟨x,hx,hxc⟩:=sW.1 hcx
  obtain⟨i,_,_,hi⟩:=lW.1 hx
  have:=As hc hl hX hY x (eZ hi)
  rcases hxc with rfl | rfl
  ·exact this.2.1.1
  ·exact this.2.1.2
 ·obtain⟨x,hx,hxc⟩:=lz.1 hcx
  obtain⟨i,_,_,hi⟩:=lW.1 hx
  have:=As hc hl hX hY x (eZ hi)
  rcases hxc with rfl | rfl
  ·exact this.2.2.1
  ·exact this.2.2.2
structure wQ (cs:List (List aI)) (bs:List cE) (k:Nat) (k8:List (List aA)) (gj:List (List (List aA))):Prop where
 len:k8.length=k
 zw:gj.length=k
 dr: ∀(i:Nat) r s,i<k->cs[i]? =some r->k8[i]? =some s->tN r (j6 bs ((i:Nat):Int)) s
 pt: ∀(i:Nat) s ps,i<k->k8[i]? =some s->gj[i]? =some ps->∃u,rE s u ps
 xS: (dO 0 gj).length<=k*25000000
theorem rE.xS {s:List aA} {u:Nat->Nat} {ps:List (List aA)} (h:rE s u ps):ps.length<=(aR s).length:=by
 rw [h.len];exact lA _ _
theorem Fg {cs:List (List aI)} {bs:List cE} (hcs:cs.length<=16) (hc: ∀r∈cs,r.length<=2000/\∀x∈r,Bb x) (hb:kD bs) (hN:4398046511104<=N):
  Ok (kb N cs bs [] []) (fun x=>∃gj,wQ cs bs cs.length x.2.1 gj/\x.2.2=dO 0 gj/\(x.1=true↔(∀s∈x.2.1,(aR s).length<=2000)/\x.2.2.length<=2000)):=by
 unfold kb
 refine Ok.bind (P:=fun(st:List (List aA)×List aK×Bool)=>∃gj,wQ cs bs cs.length st.1 gj/\st.2.1=dO 0 gj/\(st.2.2=true↔∀s∈st.1,(aR s).length<=2000)) (Ok.mV (fun(k:Nat) (st:List (List aA)×List aK×Bool)=>∃gj,wQ cs bs k st.1 gj/\st.2.1=dO 0 gj/\(st.2.2=true↔∀s∈st.1,(aR s).length<=2000)) (by omega)
  ⟨[],⟨rfl,rfl,fun i r s hi=>by omega,fun i s ps hi=>by omega,by simp [dO]⟩,rfl,by simp⟩ (fun k st hk hI=>?_)) ?_
 ·obtain⟨k8,pcs,okk⟩:=st
  obtain⟨gj,D,e1,e2⟩:=hI
  dsimp only at D e1 e2 ⊢
  subst e1
  have hkx:cs[k]? =some cs[k]:=aN hk
  obtain⟨hr1,hr2⟩:=hc _ (cM hk)
  refine Ok.ix hkx ?_
  refine Ok.bind (P:=fun t=>t=j6 bs ((k:Nat):Int)) (Ok.mono (Ok.mV (fun j t=>t=j6 (bs.take j) ((k:Nat):Int)) (by have:=hb.len;omega) rfl (fun j t hj e=>?_)) (fun t e=>by rw [e,dU])) (fun t e=>?_)
  ·subst e
   refine Ok.idx hj (Ok.eq (AK _ _) ?_)
   have hts:bs.take (j+1)=bs.take j++[bs[j]]:=dP hj
   have hgb:=hb.ok _ (cM hj)
   have hl: (j6 (bs.take j) ((k:Nat):Int)).length<=500:=by
    unfold j6
    rw [cW]
    have:=nJ (fun b=>jV b ((k:Nat):Int)) (bs.take j)
    rw [cP] at this
    have:=hb.len;omega
   cases ht:jV bs[j] ((k:Nat):Int) with
   | false=>
    rw [aS]
    refine Ok.eq rfl (Ok.ret ?_)
    unfold j6
    rw [hts,kF];simp [ht]
   | true=>
    rw [aQ]
    refine Ok.eq (x:=j6 (bs.take j) ((k:Nat):Int)++[uA bs[j]]) (by rw [mR hgb.1,aB,kM (by simp;omega),aB]) (Ok.ret ?_)
    unfold j6
    rw [hts,kF,dI];simp [ht]
  ·subst e
   have hho:=qU hb ((k:Nat):Int)
   have hhl:=vA hb ((k:Nat):Int)
   refine Bw hr1 hr2 hhl (fun x hx=>(hho x hx).1) hN (fun s hs=>?_)
   obtain⟨sx,sy⟩:=hs.small hr2 (fun x hx=>(hho x hx).1)
   obtain⟨z1,z2,z3⟩:=s8 (A:=5000) hs.can hs.lim (by rw [cX,kO,kO];omega) (by rw [cX,i6,i6];omega)
   have hmany:=Jd (N:=N) (s:=s) (by omega) (fun b hb=>by have:=z2 b hb;omega) (by omega)
   refine Ok.eq (x:=(okk&&decide ((aR s).length<=2000),s)) ?_ ?_
   ·cases okk with
    | false=>rfl
    | true=>
     rw [aQ,hmany,aB,Bool.true_and]
     rw [show decide ((((aR s).length:Nat):Int)<=2000)=decide ((aR s).length<=2000) from decide_eq_decide.2 (by omega)]
   dsimp only
   refine Ok.app (by rw [D.len];simp;omega) ?_
   refine Ok.bind (Fc (N:=N) hs.can hs.lim sx sy (by omega) (fun b hb=>by have:=z2 b hb;omega) (by omega) hN) ?_
   rintro ps ⟨u,hu⟩
   have hfew:=hu.xS
   have hk16:k*25000000<=16*25000000:=Nat.mul_le_mul_right _ (by omega)
   have hDf:=D.xS
   refine Ok.bind (P:=fun t=>t=dO 0 gj++ps.map (fun p=>(⟨((k:Nat):Int),p,aR p⟩:aK))) (Ok.mono (Ok.mV (fun j t=>t=dO 0 gj++(ps.take j).map (fun p=>(⟨((k:Nat):Int),p,aR p⟩:aK))) (by omega) (by simp) (fun j t hj e=>?_)) (fun t e=>by rw [e,dU])) (fun t e=>Ok.ret ?_)
   ·subst e
    have hjx:ps[j]? =some ps[j]:=aN hj
    refine Ok.ix hjx ?_
    obtain⟨_,_,_,_,mZ,hpl⟩:=AL hu hs.can hs.lim sx sy (cM hj)
    obtain⟨y1,y2,y3⟩:=s8 (A:=5000) mZ.can hpl (by rw [cX,kO,kO];omega) (by rw [cX,i6,i6];omega)
    refine Ok.eq (xN (pF mZ.can) (by omega) (fun b hb=>by have:=y2 b hb;omega) (by omega)) (Ok.app ?_ (Ok.ret ?_))
    ·simp only [cX,cW,cP,List.length_singleton];omega
    ·rw [dP hj,dI,kE];rfl
   ·subst e
    refine⟨gj++[ps],⟨by simp [D.len],by simp [D.zw],fun i r s' hi hr hs'=>?_,fun i s' ps' hi hs' hps'=>?_,?_⟩,?_,?_⟩
    ·dsimp only at hs'
     by_cases hik:i<k
     ·rw [gL (by rw [D.len];exact hik)] at hs'
      exact D.dr i r s' hik hr hs'
     ·have:i=k:=by omega
      subst this
      rw [gW (by rw [D.len];omega),D.len,Nat.sub_self] at hs'
      simp at hs';subst hs'
      rw [hkx] at hr;injection hr with hr;subst hr
      exact hs
    ·dsimp only at hs'
     by_cases hik:i<k
     ·rw [gL (by rw [D.len];exact hik)] at hs'
      rw [gL (by rw [D.zw];exact hik)] at hps'
      exact D.pt i s' ps' hik hs' hps'
     ·have:i=k:=by omega
      subst this
      rw [gW (by rw [D.len];omega),D.len,Nat.sub_self] at hs'
      rw [gW (by rw [D.zw];omega),D.zw,Nat.sub_self] at hps'
      simp at hs' hps';subst hs';subst hps'
      exact⟨u,hu⟩
    ·rw [tO,cX,cW];omega
    ·dsimp only
     rw [tO,D.zw,iO]
    ·dsimp only
     rw [bW,e2,bR]
     constructor
     ·rintro⟨h1,h2⟩ s' hs'
      rcases dC.1 hs' with h | h
      ·exact h1 s' h
      ·simp at h;subst h;exact h2
     ·intro h
      exact⟨fun s' hs'=>h s' (List.mem_append_left _ hs'),h s (by simp)⟩
 ·rintro⟨k8,pcs,okk⟩ ⟨gj,D,e1,e2⟩
  dsimp only at D e1 e2 ⊢
  subst e1
  refine Ok.bind (P:=fun b=>b=true↔(∀s∈k8,(aR s).length<=2000)/\(dO 0 gj).length<=2000) (Ok.bif (fun h=>Ok.ret ?_) (fun h=>Ok.ret ?_)) (fun b hb=>Ok.ret ⟨gj,D,rfl,hb⟩)
  ·rw [bR]
   constructor
   ·intro h';exact⟨e2.1 h,by omega⟩
   ·rintro⟨_,h'⟩;omega
  ·constructor
   ·intro h';cases h'
   ·rintro⟨h',_⟩;rw [e2.2 h'] at h;cases h
end
end Go.Gk
