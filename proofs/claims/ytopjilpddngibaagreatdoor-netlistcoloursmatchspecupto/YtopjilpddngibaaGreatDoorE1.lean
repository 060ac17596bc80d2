/-
  Helping texts: plain functions and plain laws. No statement of the seed is proved here.
-/
import Derived.Test.YtopjilpddngibaaGreatDoorA1
import Derived.ChangeShapes
import Derived.ChangeSame
import Derived.Carry
import Derived.RowKit
import Derived.Test.YtopjilpddngibaaGreatDoorA2
import Derived.Sort.Walk0
set_option linter.unusedVariables false
set_option linter.unusedSimpArgs false
set_option linter.unusedSectionVars false
namespace Go.Gk
open Go
noncomputable section
structure aU where
 Name:aT
 Kind:Int
 aW:Int
 deriving DecidableEq,Inhabited
structure aD where
 Name:aT
 aP: (List aU)
 deriving DecidableEq,Inhabited
structure Part where
 Name:aT
 cE:aT
 deriving DecidableEq,Inhabited
structure bT where
 Part:aT
 bT:aT
 deriving DecidableEq,Inhabited
structure Net where
 Name:aT
 aP: (List bT)
 kQ: (List aT)
 deriving DecidableEq,Inhabited
structure aH where
 aK: (List Part)
 aY: (List Net)
 deriving DecidableEq,Inhabited
structure aQ where
 part:Int
 iZ:Int
 mark:Int
 deriving DecidableEq,Inhabited
structure aB where
 e0:Int
 e1:Int
 deriving DecidableEq,Inhabited
def aB.st (x:aB) (k:Fin 2) (y:Int):aB:=if k.val=0 then {x with e0:=y} else {x with e1:=y}
structure aM where
 t: (List aD)
 l: (List aH)
 parts: (List (List Int))
 qp: (List (List Int))
 deriving DecidableEq,Inhabited
def eO (N:Nat) (p0:aT) (p1:Int):Option (Int):=
 some (Lib.indexByte p0.bQ (Int.toNat p1).toUInt8)
def eE (N:Nat) (p0:aT) (p1:Int):Option (Int):=
 (eO N p0 p1).bind fun j=>some j
def fL (N:Nat) (p0:aT):Option (Bool):=
 (kW p0.bQ.length (fun(o:Nat) (aa:Unit)=>((vG p0 (o:Int)).bind fun j=>(bif ((((decide ((j.toNat:Int)<65))||(decide ((j.toNat:Int)>90)))&&((decide ((j.toNat:Int)<97))||(decide ((j.toNat:Int)>122))))&&((decide ((j.toNat:Int)<48))||(decide ((j.toNat:Int)>57)))) then ((eE N (⟨[95,43,45,35]⟩) (j.toNat:Int)).bind fun ab=>some (decide (ab<0))) else (some false)).bind fun ad=>bif ad then (some (.rt false)) else (some (.nx ())):Option (Fl (Unit) Bool))) ()).bind fun ae=>ae.cs (fun(aa:Unit)=>some ((decide ((p0.bQ.length:Int)>=1))&&(decide ((p0.bQ.length:Int)<=40)))) (fun r=>some r)
def dH (N:Nat) (p0 p1:aU):Option (Bool):=
 (bif (decide (p1.aW>0)) then (bif (p0.aW==p1.aW) then (some (p0.Kind != p1.Kind)) else (some false)) else (some false)).bind fun j=>some j
def d9 (N:Nat) (p0: (List aU)) (p1:aU->Option Bool):Option (Int):=
 (kW p0.length (fun(j:Nat) (o:Unit)=>((idx p0 (j:Int)).bind fun aa=>(p1 aa).bind fun ab=>bif ab then (some (.rt (j:Int))) else (some (.nx ())):Option (Fl (Unit) Int))) ()).bind fun ad=>ad.cs (fun(o:Unit)=>some (-1)) (fun r=>some r)
def eA (N:Nat) (p0: (List aU)) (p1:aU->Option Bool):Option (Bool):=
 (d9 N p0 p1).bind fun j=>some (decide (j>=0))
def ga (N:Nat) (p0: (List aU)):Option (Int):=
 bif ((p0.length:Int)==0) then (some 9) else (bif (decide ((p0.length:Int)>200)) then (some 2) else ((kW p0.length (fun(o:Nat) (ad:Unit)=>((idx p0 (o:Int)).bind fun j=>(fL N j.Name).bind fun ae=>bif (!ae) then (some (.rt 5)) else (bif ((decide (j.Kind<1))||(decide (j.Kind>7))) then (some (.rt 4)) else (bif ((decide (j.aW<0))||(decide (j.aW>200))) then (some (.rt 1)) else ((bif (decide ((o:Int)>0)) then ((idx p0 (IntKind.wrap .i64 ((o:Int) - 1))).bind fun aa=>some (j.Name.ks aa.Name||j.Name.iM aa.Name)) else (some false)).bind fun af=>bif af then (some (.rt 8)) else (some (.nx ()))))):Option (Fl (Unit) Int))) ()).bind fun ag=>ag.cs (fun(ad:Unit)=>(kW p0.length (fun(ab:Nat) (ah:Unit)=>((idx p0 (ab:Int)).bind fun ai=>(oK p0 0 (ab:Int)).bind fun aj=>(eA N aj (fun y0=>dH N y0 ai)).bind fun ak=>bif ak then (some (.rt 12)) else (some (.nx ())):Option (Fl (Unit) Int))) ()).bind fun al=>al.cs (fun(ah:Unit)=>some 0) (fun r=>some r)) (fun r=>some r)))
def fM (N:Nat) (p0: (List aD)):Option (Int):=
 bif (decide ((p0.length:Int)>200)) then (some 2) else ((kW p0.length (fun(o:Nat) (ad:Unit)=>((idx p0 (o:Int)).bind fun j=>(fL N j.Name).bind fun ae=>bif (!ae) then (some (.rt 5)) else ((ga N j.aP).bind fun aa=>bif (aa != 0) then (some (.rt aa)) else ((bif (decide ((o:Int)>0)) then ((idx p0 (IntKind.wrap .i64 ((o:Int) - 1))).bind fun ab=>some (j.Name.ks ab.Name||j.Name.iM ab.Name)) else (some false)).bind fun af=>bif af then (some (.rt 8)) else (some (.nx ())))):Option (Fl (Unit) Int))) ()).bind fun ag=>ag.cs (fun(ad:Unit)=>some 0) (fun r=>some r))
def cM (N:Nat) (p0: (List aD)) (p1:aT) (p2:aD->aT->Option Int):Option (Int×Bool):=
 (lh (fun(j:Int×Int)=>(bif (decide (j.1<j.2)) then ((idx p0 (IntKind.wrap .i64 (Int.fdiv (IntKind.wrap .u64 (IntKind.wrap .i64 (j.1+j.2))) 2))).bind fun aa=>(p2 aa p1).bind fun ab=>(bif (decide (ab<0)) then (some ((IntKind.wrap .i64 ((IntKind.wrap .i64 (Int.fdiv (IntKind.wrap .u64 (IntKind.wrap .i64 (j.1+j.2))) 2))+1)),j.2)) else (some (j.1,(IntKind.wrap .i64 (Int.fdiv (IntKind.wrap .u64 (IntKind.wrap .i64 (j.1+j.2))) 2))))).bind fun o=>some (.nx (o.1,o.2))) else (some (.br (j.1,j.2))):Option (Fl (Int×Int) Empty))) N (0,(p0.length:Int))).bind fun ad=>ad.cs (fun(j:Int×Int)=>(bif (decide (j.1< (p0.length:Int))) then ((idx p0 j.1).bind fun ae=>(p2 ae p1).bind fun af=>some (af==0)) else (some false)).bind fun ag=>some (j.1,ag)) (fun r=>r.elim)
def ib (N:Nat) (p0 p1:aT):Option (Int):=
 some (Lib.compareBytes p0.bQ p1.bQ)
def dy (N:Nat) (p0 p1:aT):Option (Int):=
 (ib N p0 p1).bind fun j=>some j
def ff (N:Nat) (p0:aD) (p1:aT):Option (Int):=
 (dy N p0.Name p1).bind fun j=>some j
def eZ (N:Nat) (p0: (List aD)) (p1:aT):Option (Int):=
 (cM N p0 p1 (ff N)).bind fun j=>bif (!j.2) then (some (-1)) else (some j.1)
def fN (N:Nat) (p0: (List aD)) (p1: (List Part)) (p2:aT->Option Bool):Option (Int):=
 bif (decide ((p1.length:Int)>1000)) then (some 2) else ((kW p1.length (fun(o:Nat) (ab:Unit)=>((idx p1 (o:Int)).bind fun j=>(p2 j.Name).bind fun ad=>bif (!ad) then (some (.rt 5)) else ((eZ N p0 j.cE).bind fun ae=>bif (decide (ae<0)) then (some (.rt 9)) else ((bif (decide ((o:Int)>0)) then ((idx p1 (IntKind.wrap .i64 ((o:Int) - 1))).bind fun aa=>some (j.Name.ks aa.Name||j.Name.iM aa.Name)) else (some false)).bind fun af=>bif af then (some (.rt 8)) else (some (.nx ())))):Option (Fl (Unit) Int))) ()).bind fun ag=>ag.cs (fun(ab:Unit)=>some 0) (fun r=>some r))
def gb (N:Nat) (p0 p1:aT):Option (Int):=
 bif (((p1.bQ.length:Int)==0)||(p1.iM p0)) then (some 0) else (bif ((p1.bQ.length:Int)==1) then ((vG p1 0).bind fun j=>(eO N p0 (j.toNat:Int)).bind fun o=>some o) else (bif (decide ((p1.bQ.length:Int)>=(p0.bQ.length:Int))) then (some (-1)) else (none)))
def g0 (N:Nat) (p0 p1:aT):Option (Int):=
 (gb N p0 p1).bind fun j=>some j
def i3 (N:Nat) (p0 p1:aT):Option (Int):=
 bif ((p1.bQ.length:Int)==0) then (none) else (bif ((p1.bQ.length:Int)==1) then ((vG p1 0).bind fun aa=>some ((Lib.countByte p0.bQ (Int.toNat (aa.toNat:Int)).toUInt8:Nat):Int)) else ((lh (fun(j:aT×Int)=>((g0 N j.1 p1).bind fun o=>bif (o==(-1)) then (some (.rt j.2)) else ((pI j.1 (IntKind.wrap .i64 (o+ (p1.bQ.length:Int))) (j.1.bQ.length:Int)).bind fun ab=>some (.nx (ab,(IntKind.wrap .i64 (j.2+1))))):Option (Fl (aT×Int) Int))) N (p0,0)).bind fun ad=>ad.cs (fun(j:aT×Int)=>some 0) (fun r=>some r)))
def iO (N:Nat) (p0 p1:aT) (p2 p3:Int):Option ((List aT)):=
 bif (p3==0) then (some ([]: (List aT))) else (bif (p1.iM (⟨[]⟩)) then (none) else ((bif (decide (p3<0)) then ((i3 N p0 p1).bind fun ab=>some (IntKind.wrap .i64 (ab+1))) else (some p3)).bind fun o=>(mk 16 (⟨[]⟩:aT) (if (IntKind.wrap .i64 ((p0.bQ.length:Int)+1))<o then (IntKind.wrap .i64 ((p0.bQ.length:Int)+1)) else o)).bind fun ad=>(lh (fun(j:aT×(List aT)×Int)=>(bif (decide (j.2.2< (IntKind.wrap .i64 ((if (IntKind.wrap .i64 ((p0.bQ.length:Int)+1))<o then (IntKind.wrap .i64 ((p0.bQ.length:Int)+1)) else o) - 1)))) then ((g0 N j.1 p1).bind fun aa=>bif (decide (aa<0)) then (some (.br (j.1,j.2.1,j.2.2))) else ((pI j.1 0 (IntKind.wrap .i64 (aa+p2))).bind fun ae=>(idx j.2.1 j.2.2).bind fun ai=>(pI j.1 (IntKind.wrap .i64 (aa+ (p1.bQ.length:Int))) (j.1.bQ.length:Int)).bind fun af=>some (.nx (af,(j.2.1.set (Int.toNat j.2.2) ae),(IntKind.wrap .i64 (j.2.2+1)))))) else (some (.br (j.1,j.2.1,j.2.2))):Option (Fl (aT×(List aT)×Int) Empty))) N (p0,ad,0)).bind fun ag=>ag.cs (fun(j:aT×(List aT)×Int)=>(idx j.2.1 j.2.2).bind fun aj=>(oK (j.2.1.set (Int.toNat j.2.2) j.1) 0 (IntKind.wrap .i64 (j.2.2+1))).bind fun ah=>some ah) (fun r=>r.elim)))
def g8 (N:Nat) (p0 p1:aT):Option ((List aT)):=
 (iO N p0 p1 0 (-1)).bind fun j=>some j
def gz (N:Nat) (p0: (List aT)) (p1:aT->Option Bool):Option (Int):=
 (kW p0.length (fun(j:Nat) (o:Unit)=>((idx p0 (j:Int)).bind fun aa=>(p1 aa).bind fun ab=>bif ab then (some (.rt (j:Int))) else (some (.nx ())):Option (Fl (Unit) Int))) ()).bind fun ad=>ad.cs (fun(o:Unit)=>some (-1)) (fun r=>some r)
def eF (N:Nat) (p0: (List aT)) (p1:aT->Option Bool):Option (Bool):=
 (gz N p0 p1).bind fun j=>some (decide (j>=0))
def eG (N:Nat) (p0:aT):Option (Bool):=
 (fL N p0).bind fun j=>some (!j)
def fO (N:Nat) (p0:aT):Option (Bool):=
 (bif (decide ((p0.bQ.length:Int)<=200)) then ((g8 N p0 (⟨[47]⟩)).bind fun j=>(eF N j (eG N)).bind fun o=>some (!o)) else (some false)).bind fun aa=>some aa
def cZ (N:Nat) (p0: (List Part)) (p1:aT) (p2:Part->aT->Option Int):Option (Int×Bool):=
 (lh (fun(j:Int×Int)=>(bif (decide (j.1<j.2)) then ((idx p0 (IntKind.wrap .i64 (Int.fdiv (IntKind.wrap .u64 (IntKind.wrap .i64 (j.1+j.2))) 2))).bind fun aa=>(p2 aa p1).bind fun ab=>(bif (decide (ab<0)) then (some ((IntKind.wrap .i64 ((IntKind.wrap .i64 (Int.fdiv (IntKind.wrap .u64 (IntKind.wrap .i64 (j.1+j.2))) 2))+1)),j.2)) else (some (j.1,(IntKind.wrap .i64 (Int.fdiv (IntKind.wrap .u64 (IntKind.wrap .i64 (j.1+j.2))) 2))))).bind fun o=>some (.nx (o.1,o.2))) else (some (.br (j.1,j.2))):Option (Fl (Int×Int) Empty))) N (0,(p0.length:Int))).bind fun ad=>ad.cs (fun(j:Int×Int)=>(bif (decide (j.1< (p0.length:Int))) then ((idx p0 j.1).bind fun ae=>(p2 ae p1).bind fun af=>some (af==0)) else (some false)).bind fun ag=>some (j.1,ag)) (fun r=>r.elim)
def fg (N:Nat) (p0:Part) (p1:aT):Option (Int):=
 (dy N p0.Name p1).bind fun j=>some j
def iB (N:Nat) (p0: (List Part)) (p1:aT):Option (Int):=
 (cZ N p0 p1 (fg N)).bind fun j=>bif (!j.2) then (some (-1)) else (some j.1)
def cP (N:Nat) (p0: (List aU)) (p1:aT) (p2:aU->aT->Option Int):Option (Int×Bool):=
 (lh (fun(j:Int×Int)=>(bif (decide (j.1<j.2)) then ((idx p0 (IntKind.wrap .i64 (Int.fdiv (IntKind.wrap .u64 (IntKind.wrap .i64 (j.1+j.2))) 2))).bind fun aa=>(p2 aa p1).bind fun ab=>(bif (decide (ab<0)) then (some ((IntKind.wrap .i64 ((IntKind.wrap .i64 (Int.fdiv (IntKind.wrap .u64 (IntKind.wrap .i64 (j.1+j.2))) 2))+1)),j.2)) else (some (j.1,(IntKind.wrap .i64 (Int.fdiv (IntKind.wrap .u64 (IntKind.wrap .i64 (j.1+j.2))) 2))))).bind fun o=>some (.nx (o.1,o.2))) else (some (.br (j.1,j.2))):Option (Fl (Int×Int) Empty))) N (0,(p0.length:Int))).bind fun ad=>ad.cs (fun(j:Int×Int)=>(bif (decide (j.1< (p0.length:Int))) then ((idx p0 j.1).bind fun ae=>(p2 ae p1).bind fun af=>some (af==0)) else (some false)).bind fun ag=>some (j.1,ag)) (fun r=>r.elim)
def fG (N:Nat) (p0:aU) (p1:aT):Option (Int):=
 (dy N p0.Name p1).bind fun j=>some j
def g9 (N:Nat) (p0:aD) (p1:aT):Option (Int):=
 (cP N p0.aP p1 (fG N)).bind fun j=>bif (!j.2) then (some (-1)) else (some j.1)
def jN (N:Nat) (p0: (List aD)) (p1: (List Part)) (p2:bT):Option (Bool):=
 (iB N p1 p2.Part).bind fun j=>(bif (decide (j>=0)) then ((idx p1 j).bind fun o=>(eZ N p0 o.cE).bind fun aa=>(idx p0 aa).bind fun ab=>(g9 N ab p2.bT).bind fun ad=>some (decide (ad>=0))) else (some false)).bind fun ae=>some ae
def gh (N:Nat) (p0:bT) (p1: (List aD)) (p2:aH):Option (Bool):=
 (jN N p1 p2.aK p0).bind fun j=>some j
def gr (N:Nat) (p0 p1:bT):Option (Int):=
 (dy N p0.Part p1.Part).bind fun j=>bif (j != 0) then (some j) else ((dy N p0.bT p1.bT).bind fun o=>some o)
def fa (N:Nat) (p0: (List bT)) (p1:bT->Option Bool) (p2: (List (bT×Bool))):Option (Int×(List (bT×Bool))):=
 bif (decide ((p0.length:Int)>500)) then (some (2,p2)) else ((kW p0.length (fun(j:Nat) (ab:Unit)=>((idx p0 (j:Int)).bind fun o=>(p1 o).bind fun ad=>bif (!ad) then (some (.rt (9,p2))) else ((bif (decide ((j:Int)>0)) then ((idx p0 (IntKind.wrap .i64 ((j:Int) - 1))).bind fun ae=>(gr N o ae).bind fun af=>some (decide (af<=0))) else (some false)).bind fun ag=>bif ag then (some (.rt (8,p2))) else (bif (ia p2 o (false:Bool)) then (some (.rt (7,p2))) else (some (.nx ())))):Option (Fl (Unit) (Int×(List (bT×Bool)))))) ()).bind fun ah=>ah.cs (fun(ab:Unit)=>(iY p0.length (fun(ai:Nat) (aa: (List (bT×Bool)))=>((idx p0 (ai:Int)).bind fun aj=>some (lj aa aj true):Option ((List (bT×Bool))))) p2).bind fun aa=>some (0,aa)) (fun r=>some r))
def eH (N:Nat) (p0: (List aD)) (p1:aH):Option (Int):=
 (fM N p0).bind fun ab=>bif (ab != 0) then (some ab) else ((fN N p0 p1.aK (fO N)).bind fun ad=>bif (ad != 0) then (some ad) else (bif (decide ((p1.aY.length:Int)>1000)) then (some 2) else ((kW p1.aY.length (fun(o:Nat) (ae: (List (bT×Bool)))=>((idx p1.aY (o:Int)).bind fun j=>(fO N j.Name).bind fun ag=>bif (!ag) then (some (.rt 5)) else (bif ((j.aP.length:Int)==0) then (some (.rt 9)) else ((fa N j.aP (fun y0=>gh N y0 p0 p1) ae).bind fun aa=>bif (aa.1 != 0) then (some (.rt aa.1)) else (bif (decide ((j.kQ.length:Int)>0)) then (some (.rt 3)) else ((bif (decide ((o:Int)>0)) then ((idx p1.aY (IntKind.wrap .i64 ((o:Int) - 1))).bind fun af=>some (j.Name.ks af.Name||j.Name.iM af.Name)) else (some false)).bind fun ah=>bif ah then (some (.rt 8)) else (some (.nx aa.2)))))):Option (Fl ((List (bT×Bool))) Int))) ([]: (List (bT×Bool)))).bind fun ai=>ai.cs (fun(ae: (List (bT×Bool)))=>some 0) (fun r=>some r))))
def iP (N:Nat) (p0:aH):Option ((List (bT×Int))):=
 (iY p0.aY.length (fun(aa:Nat) (j: (List (bT×Int)))=>((idx p0.aY (aa:Int)).bind fun ab=>(iY ab.aP.length (fun(ad:Nat) (o: (List (bT×Int)))=>((idx ab.aP (ad:Int)).bind fun ae=>some (lj o ae (aa:Int)):Option ((List (bT×Int))))) j).bind fun o=>some o:Option ((List (bT×Int))))) ([]: (List (bT×Int)))).bind fun j=>some j
def fX (N:Nat) (p0:aU) (p1:Int):Option (Bool):=
 some (p0.aW==p1)
def jO (N:Nat) (p0:aD) (p1:aT):Option (Int):=
 (g9 N p0 p1).bind fun j=>(idx p0.aP j).bind fun o=>bif (decide (o.aW>0)) then ((d9 N p0.aP (fun y0=>fX N y0 o.aW)).bind fun aa=>some aa) else (some j)
def fi (N:Nat) (p0_0: (List aT)) (p0_1: (List aQ)) (p0_2 p0_3:Int) (p1: (List aD)) (p2:aH):Option ((List aT)×(List aQ)×Int×Int):=
 (iP N p2).bind fun ae=>(iY p2.aK.length (fun(af:Nat) (j: (List aT)×(List aQ))=>((idx p2.aK (af:Int)).bind fun o=>(eZ N p1 o.cE).bind fun ag=>(idx p1 ag).bind fun aa=>(app 16 j.1 ([o.cE]: (List aT))).bind fun ah=>(iY aa.aP.length (fun(ai:Nat) (ab: (List aQ))=>((idx aa.aP (ai:Int)).bind fun ad=>(bif (ka ae (⟨o.Name,ad.Name⟩:bT)) then (some (IntKind.wrap .i64 (p0_3+ (ia ae (⟨o.Name,ad.Name⟩:bT) (0:Int))))) else (some (-1))).bind fun aj=>(jO N aa ad.Name).bind fun ak=>(app 24 ab ([(⟨(IntKind.wrap .i64 (p0_2+ (af:Int))),aj,ak⟩:aQ)]: (List aQ))).bind fun al=>some al:Option ((List aQ)))) j.2).bind fun ab=>some (ah,ab):Option ((List aT)×(List aQ)))) (p0_0,p0_1)).bind fun j=>some (j.1,j.2,(IntKind.wrap .i64 (p0_2+ (p2.aK.length:Int))),(IntKind.wrap .i64 (p0_3+ (p2.aY.length:Int))))
def iV (N:Nat) (p0: (List aT)):Option ((List aT)):=
 (app 16 ([]: (List aT)) p0).bind fun j=>some j
def eU (N:Nat) (p0 p1:aT) (p2: (pL 24)):Option (Bool):=
 (dy N p0 p1).bind fun j=>some (j==0)
def fT (N:Nat) (p0: (List aT)) (p1:aT->aT->Option Bool):Option ((List aT)):=
 bif (decide ((p0.length:Int)<2)) then (some p0) else ((lh (fun(o:Int)=>(bif (decide (o< (p0.length:Int))) then ((idx p0 o).bind fun ab=>(idx p0 (IntKind.wrap .i64 (o - 1))).bind fun ad=>(p1 ab ad).bind fun ae=>bif ae then ((oK p0 o (p0.length:Int)).bind fun an=>(lh (fun(j: (List aT)×Int×Int)=>(bif (decide (j.2.2< (((j.1.length - Int.toNat o):Nat):Int))) then ((mX j.1 o j.2.2).bind fun af=>(mX j.1 o (IntKind.wrap .i64 (j.2.2 - 1))).bind fun ag=>(p1 af ag).bind fun ah=>(bif (!ah) then ((mX j.1 o j.2.2).bind fun ai=>(idx j.1 j.2.1).bind fun ao=>some ((j.1.set (Int.toNat j.2.1) ai),(IntKind.wrap .i64 (j.2.1+1)))) else (some (j.1,j.2.1))).bind fun aa=>some (.nx (aa.1,aa.2,(IntKind.wrap .i64 (j.2.2+1))))) else (some (.br (j.1,j.2.1,j.2.2))):Option (Fl ((List aT)×Int×Int) Empty))) N (p0,o,1)).bind fun aj=>aj.cs (fun(j: (List aT)×Int×Int)=>(oK j.1 j.2.1 (j.1.length:Int)).bind fun aq=>(oK (j.1.take (Int.toNat j.2.1)++List.replicate (j.1.length - Int.toNat j.2.1) (⟨[]⟩:aT)) 0 j.2.1).bind fun ak=>some (.rt ak)) (fun r=>r.elim)) else (some (.nx (IntKind.wrap .i64 (o+1))))) else (some (.br o)):Option (Fl (Int) (List aT)))) N 1).bind fun al=>al.cs (fun(o:Int)=>some p0) (fun r=>some r))
def dW (N:Nat) (p0: (List aT)) (p1:aT) (p2:aT->aT->Option Int):Option (Int×Bool):=
 (lh (fun(j:Int×Int)=>(bif (decide (j.1<j.2)) then ((idx p0 (IntKind.wrap .i64 (Int.fdiv (IntKind.wrap .u64 (IntKind.wrap .i64 (j.1+j.2))) 2))).bind fun aa=>(p2 aa p1).bind fun ab=>(bif (decide (ab<0)) then (some ((IntKind.wrap .i64 ((IntKind.wrap .i64 (Int.fdiv (IntKind.wrap .u64 (IntKind.wrap .i64 (j.1+j.2))) 2))+1)),j.2)) else (some (j.1,(IntKind.wrap .i64 (Int.fdiv (IntKind.wrap .u64 (IntKind.wrap .i64 (j.1+j.2))) 2))))).bind fun o=>some (.nx (o.1,o.2))) else (some (.br (j.1,j.2))):Option (Fl (Int×Int) Empty))) N (0,(p0.length:Int))).bind fun ad=>ad.cs (fun(j:Int×Int)=>(bif (decide (j.1< (p0.length:Int))) then ((idx p0 j.1).bind fun ae=>(p2 ae p1).bind fun af=>some (af==0)) else (some false)).bind fun ag=>some (j.1,ag)) (fun r=>r.elim)
def eI (N:Nat) (p0: (List aT)):Option ((List Int)×Int):=
 (iV N p0).bind fun aa=>(nG (dy N) aa).bind fun ab=>(fT N ab (fun y0 y1=>eU N y0 y1 (⟨⟩:pL 24))).bind fun ad=>(mk 8 (0:Int) (p0.length:Int)).bind fun ae=>(iY p0.length (fun(o:Nat) (j: (List aT)×(List Int))=>((idx p0 (o:Int)).bind fun af=>(dW N j.1 af (dy N)).bind fun ag=>(idx j.2 (o:Int)).bind fun ah=>some (j.1,(j.2.set (Int.toNat (o:Int)) ag.1)):Option ((List aT)×(List Int)))) (ad,ae)).bind fun j=>some (j.2,(j.1.length:Int))
def hG (N:Nat) (p0:Int):Option (Bool):=
 some (p0 != p0)
def gT (N:Nat) (p0 p1:Int):Option (Int):=
 (hG N p0).bind fun o=>(hG N p1).bind fun j=>bif o then (bif j then (some 0) else (some (-1))) else (bif j then (some 1) else (bif (decide (p0<p1)) then (some (-1)) else (bif (decide (p0>p1)) then (some 1) else (some 0))))
def cJ (N:Nat) (p0: (List Int)) (p1: (List Int)):Option (Int):=
 (kW p0.length (fun(j:Nat) (aa:Unit)=>((idx p0 (j:Int)).bind fun ab=>bif (decide ((j:Int)>=(p1.length:Int))) then (some (.rt 1)) else ((idx p1 (j:Int)).bind fun ad=>(gT N ab ad).bind fun o=>bif (o != 0) then (some (.rt o)) else (some (.nx ()))):Option (Fl (Unit) Int))) ()).bind fun ae=>ae.cs (fun(aa:Unit)=>bif (decide ((p0.length:Int)< (p1.length:Int))) then (some (-1)) else (some 0)) (fun r=>some r)
def fH (N:Nat) (p0 p1:aB):Option (Int):=
 (cJ N [p0.e0,p0.e1] [p1.e0,p1.e1]).bind fun j=>some j
def fB (N:Nat) (p0: (List Int)) (p1: (List (List aB))):Option ((List (List Int))):=
 (iY p0.length (fun(j:Nat) (o: (List (List aB))×(List (List Int)))=>((idx p0 (j:Int)).bind fun af=>(idx o.1 (j:Int)).bind fun ag=>(nG (fH N) ag).bind fun ad=>(idx (o.1.set (Int.toNat (j:Int)) ad) (j:Int)).bind fun aa=>(iY aa.length (fun(ah:Nat) (ab: (List Int))=>((idx aa (ah:Int)).bind fun ae=>(app 8 ab ([ae.e0,ae.e1]: (List Int))).bind fun ai=>some ai:Option ((List Int)))) ([af]: (List Int))).bind fun ab=>(app 24 o.2 ([ab]: (List (List Int)))).bind fun aj=>some (((o.1.set (Int.toNat (j:Int)) ad).set (Int.toNat (j:Int)) aa),aj):Option ((List (List aB))×(List (List Int))))) (p1,([]: (List (List Int))))).bind fun o=>some o.2
def kb (N:Nat) (p0: (List (List Int))):Option ((List (List Int))):=
 (app 24 ([]: (List (List Int))) p0).bind fun j=>some j
def fb (N:Nat) (p0: (List Int)) (p1: (List Int)) (p2: (pL 27)):Option (Bool):=
 (cJ N p0 p1).bind fun j=>some (j==0)
def gL (N:Nat) (p0: (List (List Int))) (p1: (List Int)->(List Int)->Option Bool):Option ((List (List Int))):=
 bif (decide ((p0.length:Int)<2)) then (some p0) else ((lh (fun(o:Int)=>(bif (decide (o< (p0.length:Int))) then ((idx p0 o).bind fun ab=>(idx p0 (IntKind.wrap .i64 (o - 1))).bind fun ad=>(p1 ab ad).bind fun ae=>bif ae then ((oK p0 o (p0.length:Int)).bind fun an=>(lh (fun(j: (List (List Int))×Int×Int)=>(bif (decide (j.2.2< (((j.1.length - Int.toNat o):Nat):Int))) then ((mX j.1 o j.2.2).bind fun af=>(mX j.1 o (IntKind.wrap .i64 (j.2.2 - 1))).bind fun ag=>(p1 af ag).bind fun ah=>(bif (!ah) then ((mX j.1 o j.2.2).bind fun ai=>(idx j.1 j.2.1).bind fun ao=>some ((j.1.set (Int.toNat j.2.1) ai),(IntKind.wrap .i64 (j.2.1+1)))) else (some (j.1,j.2.1))).bind fun aa=>some (.nx (aa.1,aa.2,(IntKind.wrap .i64 (j.2.2+1))))) else (some (.br (j.1,j.2.1,j.2.2))):Option (Fl ((List (List Int))×Int×Int) Empty))) N (p0,o,1)).bind fun aj=>aj.cs (fun(j: (List (List Int))×Int×Int)=>(oK j.1 j.2.1 (j.1.length:Int)).bind fun aq=>(oK (j.1.take (Int.toNat j.2.1)++List.replicate (j.1.length - Int.toNat j.2.1) ([]: (List Int))) 0 j.2.1).bind fun ak=>some (.rt ak)) (fun r=>r.elim)) else (some (.nx (IntKind.wrap .i64 (o+1))))) else (some (.br o)):Option (Fl (Int) (List (List Int))))) N 1).bind fun al=>al.cs (fun(o:Int)=>some p0) (fun r=>some r))
def eN (N:Nat) (p0: (List (List Int))) (p1: (List Int)) (p2: (List Int)->(List Int)->Option Int):Option (Int×Bool):=
 (lh (fun(j:Int×Int)=>(bif (decide (j.1<j.2)) then ((idx p0 (IntKind.wrap .i64 (Int.fdiv (IntKind.wrap .u64 (IntKind.wrap .i64 (j.1+j.2))) 2))).bind fun aa=>(p2 aa p1).bind fun ab=>(bif (decide (ab<0)) then (some ((IntKind.wrap .i64 ((IntKind.wrap .i64 (Int.fdiv (IntKind.wrap .u64 (IntKind.wrap .i64 (j.1+j.2))) 2))+1)),j.2)) else (some (j.1,(IntKind.wrap .i64 (Int.fdiv (IntKind.wrap .u64 (IntKind.wrap .i64 (j.1+j.2))) 2))))).bind fun o=>some (.nx (o.1,o.2))) else (some (.br (j.1,j.2))):Option (Fl (Int×Int) Empty))) N (0,(p0.length:Int))).bind fun ad=>ad.cs (fun(j:Int×Int)=>(bif (decide (j.1< (p0.length:Int))) then ((idx p0 j.1).bind fun ae=>(p2 ae p1).bind fun af=>some (af==0)) else (some false)).bind fun ag=>some (j.1,ag)) (fun r=>r.elim)
def ei (N:Nat) (p0: (List (List Int))):Option ((List Int)×Int):=
 (kb N p0).bind fun aa=>(nG (cJ N) aa).bind fun ab=>(gL N ab (fun y0 y1=>fb N y0 y1 (⟨⟩:pL 27))).bind fun ad=>(mk 8 (0:Int) (p0.length:Int)).bind fun ae=>(iY p0.length (fun(o:Nat) (j: (List (List Int))×(List Int))=>((idx p0 (o:Int)).bind fun af=>(eN N j.1 af (cJ N)).bind fun ag=>(idx j.2 (o:Int)).bind fun ah=>some (j.1,(j.2.set (Int.toNat (o:Int)) ag.1)):Option ((List (List Int))×(List Int)))) (ad,ae)).bind fun j=>some (j.2,(j.1.length:Int))
def d4 (N:Nat) (p0_0: (List aT)) (p0_1: (List aQ)) (p0_2 p0_3:Int):Option ((List Int)×(List Int)):=
 (eI N p0_0).bind fun ae=>(mk 8 (0:Int) p0_3).bind fun ag=>(lh (fun(j: (List Int)×(List Int)×Int×Int)=>((mk 24 ([]: (List aB)) p0_2).bind fun ah=>(mk 24 ([]: (List aB)) p0_3).bind fun ai=>(iY p0_1.length (fun(aj:Nat) (aa: (List (List aB))×(List (List aB)))=>((idx p0_1 (aj:Int)).bind fun o=>(bif (decide (o.iZ>=0)) then ((idx j.2.1 o.iZ).bind fun ak=>(idx aa.2 o.iZ).bind fun al=>(idx j.1 o.part).bind fun an=>(app 16 al ([(⟨an,o.mark⟩:aB)]: (List aB))).bind fun ao=>(idx aa.2 o.iZ).bind fun ax=>some ((aa.2.set (Int.toNat o.iZ) ao),ak)) else (some (aa.2,(-1)))).bind fun af=>(idx aa.1 o.part).bind fun aq=>(app 16 aq ([(⟨o.mark,af.2⟩:aB)]: (List aB))).bind fun ar=>(idx aa.1 o.part).bind fun ay=>some ((aa.1.set (Int.toNat o.part) ar),af.1):Option ((List (List aB))×(List (List aB))))) (ah,ai)).bind fun aa=>(fB N j.1 aa.1).bind fun au=>(ei N au).bind fun ab=>(fB N j.2.1 aa.2).bind fun av=>(ei N av).bind fun ad=>bif ((ab.2==j.2.2.1)&&(ad.2==j.2.2.2)) then (some (.rt (j.1,j.2.1))) else (some (.nx (ab.1,ad.1,ab.2,ad.2))):Option (Fl ((List Int)×(List Int)×Int×Int) ((List Int)×(List Int))))) N (ae.1,ag,ae.2,(if 1<p0_3 then 1 else p0_3))).bind fun aw=>aw.cs (fun(j: (List Int)×(List Int)×Int×Int)=>some (j.1,j.2.1)) (fun r=>some r)
def jg (N:Nat) (p0: (List aD)) (p1:aH):Option ((List Int)×(List Int)×Int):=
 (eH N p0 p1).bind fun o=>bif (o != 0) then (some (([]: (List Int)),([]: (List Int)),o)) else ((fi N ([]: (List aT)) ([]: (List aQ)) 0 0 p0 p1).bind fun j=>(d4 N j.1 j.2.1 j.2.2.1 j.2.2.2).bind fun aa=>some (aa.1,aa.2,0))
def dt (N:Nat) (p0 p1 p2:Int):Option (Bool):=
 some ((decide (p1<=p0))&&(decide (p0<=p2)))
def dI (N:Nat) (p0:aT):Option (Bool):=
 (kW p0.bQ.length (fun(o:Nat) (aa:Unit)=>((vG p0 (o:Int)).bind fun j=>(bif ((((decide ((j.toNat:Int)<97))||(decide ((j.toNat:Int)>122)))&&((decide ((j.toNat:Int)<65))||(decide ((j.toNat:Int)>90))))&&((decide ((j.toNat:Int)<48))||(decide ((j.toNat:Int)>57)))) then ((eE N (⟨[95,43,45,35]⟩) (j.toNat:Int)).bind fun ab=>some (decide (ab<0))) else (some false)).bind fun ad=>bif ad then (some (.rt false)) else (some (.nx ())):Option (Fl (Unit) Bool))) ()).bind fun ae=>ae.cs (fun(aa:Unit)=>(dt N (p0.bQ.length:Int) 1 40).bind fun af=>some af) (fun r=>some r)
def ej (N:Nat) (p0:aD):Option (Int):=
 (dI N p0.Name).bind fun ag=>bif (!ag) then (some 5) else (bif ((p0.aP.length:Int)==0) then (some 9) else (bif (decide ((p0.aP.length:Int)>200)) then (some 2) else ((kW p0.aP.length (fun(o:Nat) (ah:Unit)=>((idx p0.aP (o:Int)).bind fun j=>(dI N j.Name).bind fun ai=>bif (!ai) then (some (.rt 5)) else ((dt N j.Kind 1 7).bind fun aj=>bif (!aj) then (some (.rt 4)) else ((dt N j.aW 0 200).bind fun ak=>bif (!ak) then (some (.rt 1)) else ((bif (decide ((o:Int)>0)) then ((idx p0.aP (IntKind.wrap .i64 ((o:Int) - 1))).bind fun ab=>some (j.Name.ks ab.Name||j.Name.iM ab.Name)) else (some false)).bind fun al=>bif al then (some (.rt 8)) else (some (.nx ()))))):Option (Fl (Unit) Int))) ()).bind fun an=>an.cs (fun(ah:Unit)=>(kW p0.aP.length (fun(ad:Nat) (ao:Unit)=>((idx p0.aP (ad:Int)).bind fun aa=>(oK p0.aP 0 (ad:Int)).bind fun ae=>(kW ae.length (fun(aq:Nat) (ar:Unit)=>((idx ae (aq:Int)).bind fun af=>bif (((decide (aa.aW>0))&&(aa.aW==af.aW))&&(aa.Kind != af.Kind)) then (some (.rt 12)) else (some (.nx ())):Option (Fl (Unit) Int))) ()).bind fun au=>au.cs (fun(ar:Unit)=>some (.nx ())) (fun r=>some (.rt r)):Option (Fl (Unit) Int))) ()).bind fun av=>av.cs (fun(ao:Unit)=>some 0) (fun r=>some r)) (fun r=>some r))))
def ea (N:Nat) (p0: (List aD)):Option (Int):=
 bif (decide ((p0.length:Int)>200)) then (some 2) else ((kW p0.length (fun(j:Nat) (ad:Unit)=>((idx p0 (j:Int)).bind fun o=>(ej N o).bind fun aa=>bif (aa != 0) then (some (.rt aa)) else ((bif (decide ((j:Int)>0)) then ((idx p0 (IntKind.wrap .i64 ((j:Int) - 1))).bind fun ab=>some (o.Name.ks ab.Name||o.Name.iM ab.Name)) else (some false)).bind fun ae=>bif ae then (some (.rt 8)) else (some (.nx ()))):Option (Fl (Unit) Int))) ()).bind fun af=>af.cs (fun(ad:Unit)=>some 0) (fun r=>some r))
def ek (N:Nat) (p0:aT):Option (Bool):=
 (g8 N p0 (⟨[47]⟩)).bind fun j=>(kW j.length (fun(o:Nat) (aa:Unit)=>((idx j (o:Int)).bind fun ab=>(dI N ab).bind fun ad=>bif (!ad) then (some (.rt false)) else (some (.nx ())):Option (Fl (Unit) Bool))) ()).bind fun ae=>ae.cs (fun(aa:Unit)=>some (decide ((p0.bQ.length:Int)<=200))) (fun r=>some r)
def dJ (N:Nat) (p0: (List aD)) (p1:aT):Option (Int):=
 (kW p0.length (fun(j:Nat) (o:Unit)=>((idx p0 (j:Int)).bind fun aa=>bif (aa.Name.iM p1) then (some (.rt (j:Int))) else (some (.nx ())):Option (Fl (Unit) Int))) ()).bind fun ab=>ab.cs (fun(o:Unit)=>some (-1)) (fun r=>some r)
def fc (N:Nat) (p0: (List Part)) (p1:aT):Option (Int):=
 (kW p0.length (fun(j:Nat) (o:Unit)=>((idx p0 (j:Int)).bind fun aa=>bif (aa.Name.iM p1) then (some (.rt (j:Int))) else (some (.nx ())):Option (Fl (Unit) Int))) ()).bind fun ab=>ab.cs (fun(o:Unit)=>some (-1)) (fun r=>some r)
def fm (N:Nat) (p0:aD) (p1:aT):Option (Int):=
 (kW p0.aP.length (fun(j:Nat) (o:Unit)=>((idx p0.aP (j:Int)).bind fun aa=>bif (aa.Name.iM p1) then (some (.rt (j:Int))) else (some (.nx ())):Option (Fl (Unit) Int))) ()).bind fun ab=>ab.cs (fun(o:Unit)=>some (-1)) (fun r=>some r)
def gi (N:Nat) (p0: (List aD)) (p1:aH) (p2:bT):Option (Bool):=
 (fc N p1.aK p2.Part).bind fun j=>(bif (decide (j>=0)) then ((idx p1.aK j).bind fun o=>(dJ N p0 o.cE).bind fun aa=>(idx p0 aa).bind fun ab=>(fm N ab p2.bT).bind fun ad=>some (decide (ad>=0))) else (some false)).bind fun ae=>some ae
def gj (N:Nat) (p0 p1:bT):Option (Bool):=
 some ((p0.Part.ks p1.Part)||((p0.Part.iM p1.Part)&&(p0.bT.ks p1.bT)))
def kc (N:Nat) (p0: (List bT)) (p1:bT):Option (Int):=
 (kW p0.length (fun(j:Nat) (o:Unit)=>((idx p0 (j:Int)).bind fun aa=>bif (decide (p1=aa)) then (some (.rt (j:Int))) else (some (.nx ())):Option (Fl (Unit) Int))) ()).bind fun ab=>ab.cs (fun(o:Unit)=>some (-1)) (fun r=>some r)
def eJ (N:Nat) (p0: (List bT)) (p1:bT):Option (Bool):=
 (kc N p0 p1).bind fun j=>some (decide (j>=0))
def fe (N:Nat) (p0: (List Net)) (p1:bT):Option (Bool):=
 (kW p0.length (fun(j:Nat) (o:Unit)=>((idx p0 (j:Int)).bind fun aa=>(eJ N aa.aP p1).bind fun ab=>bif ab then (some (.rt true)) else (some (.nx ())):Option (Fl (Unit) Bool))) ()).bind fun ad=>ad.cs (fun(o:Unit)=>some false) (fun r=>some r)
def er (N:Nat) (p0: (List aD)) (p1:aH):Option (Int):=
 bif (decide ((p1.aK.length:Int)>1000)) then (some 2) else ((kW p1.aK.length (fun(ab:Nat) (ah:Unit)=>((idx p1.aK (ab:Int)).bind fun o=>(ek N o.Name).bind fun Cb=>bif (!Cb) then (some (.rt 5)) else ((dJ N p0 o.cE).bind fun ai=>bif (decide (ai<0)) then (some (.rt 9)) else ((bif (decide ((ab:Int)>0)) then ((idx p1.aK (IntKind.wrap .i64 ((ab:Int) - 1))).bind fun af=>some (o.Name.ks af.Name||o.Name.iM af.Name)) else (some false)).bind fun aj=>bif aj then (some (.rt 8)) else (some (.nx ())))):Option (Fl (Unit) Int))) ()).bind fun ak=>ak.cs (fun(ah:Unit)=>bif (decide ((p1.aY.length:Int)>1000)) then (some 2) else ((kW p1.aY.length (fun(aa:Nat) (al:Unit)=>((idx p1.aY (aa:Int)).bind fun j=>(ek N j.Name).bind fun an=>bif (!an) then (some (.rt 5)) else (bif ((j.aP.length:Int)==0) then (some (.rt 9)) else (bif (decide ((j.aP.length:Int)>500)) then (some (.rt 2)) else ((kW j.aP.length (fun(ad:Nat) (ao:Unit)=>((idx j.aP (ad:Int)).bind fun ae=>(gi N p0 p1 ae).bind fun aq=>bif (!aq) then (some (.rt 9)) else ((bif (decide ((ad:Int)>0)) then ((idx j.aP (IntKind.wrap .i64 ((ad:Int) - 1))).bind fun ar=>(gj N ar ae).bind fun au=>some (!au)) else (some false)).bind fun av=>bif av then (some (.rt 8)) else ((oK p1.aY 0 (aa:Int)).bind fun aw=>(fe N aw ae).bind fun ax=>bif ax then (some (.rt 7)) else (some (.nx ())))):Option (Fl (Unit) Int))) ()).bind fun ay=>ay.cs (fun(ao:Unit)=>bif (decide ((j.kQ.length:Int)>0)) then (some (.rt 3)) else ((bif (decide ((aa:Int)>0)) then ((idx p1.aY (IntKind.wrap .i64 ((aa:Int) - 1))).bind fun ag=>some (j.Name.ks ag.Name||j.Name.iM ag.Name)) else (some false)).bind fun az=>bif az then (some (.rt 8)) else (some (.nx ())))) (fun r=>some (.rt r))))):Option (Fl (Unit) Int))) ()).bind fun a0=>a0.cs (fun(al:Unit)=>some 0) (fun r=>some r))) (fun r=>some r))
def eu (N:Nat) (p0: (List aD)) (p1:aH):Option (Int):=
 (ea N p0).bind fun j=>bif (j != 0) then (some j) else ((er N p0 p1).bind fun o=>some o)
def fR (N:Nat) (p0: (List aT)):Option ((List aT)):=
 bif (decide ((p0.length:Int)<2)) then (some p0) else ((lh (fun(o:Int)=>(bif (decide (o< (p0.length:Int))) then ((idx p0 o).bind fun uL=>(idx p0 (IntKind.wrap .i64 (o - 1))).bind fun ab=>bif (uL.iM ab) then ((oK p0 o (p0.length:Int)).bind fun aj=>(lh (fun(j: (List aT)×Int×Int)=>(bif (decide (j.2.2< (((j.1.length - Int.toNat o):Nat):Int))) then ((mX j.1 o j.2.2).bind fun ad=>(mX j.1 o (IntKind.wrap .i64 (j.2.2 - 1))).bind fun ae=>(bif (!ad.iM ae) then ((mX j.1 o j.2.2).bind fun af=>(idx j.1 j.2.1).bind fun ak=>some ((j.1.set (Int.toNat j.2.1) af),(IntKind.wrap .i64 (j.2.1+1)))) else (some (j.1,j.2.1))).bind fun aa=>some (.nx (aa.1,aa.2,(IntKind.wrap .i64 (j.2.2+1))))) else (some (.br (j.1,j.2.1,j.2.2))):Option (Fl ((List aT)×Int×Int) Empty))) N (p0,o,1)).bind fun ag=>ag.cs (fun(j: (List aT)×Int×Int)=>(oK j.1 j.2.1 (j.1.length:Int)).bind fun al=>(oK (j.1.take (Int.toNat j.2.1)++List.replicate (j.1.length - Int.toNat j.2.1) (⟨[]⟩:aT)) 0 j.2.1).bind fun ah=>some (.rt ah)) (fun r=>r.elim)) else (some (.nx (IntKind.wrap .i64 (o+1))))) else (some (.br o)):Option (Fl (Int) (List aT)))) N 1).bind fun ai=>ai.cs (fun(o:Int)=>some p0) (fun r=>some r))
def ew (N:Nat) (p0: (List aH)):Option ((List aT)):=
 (iY p0.length (fun(ab:Nat) (j: (List aT))=>((idx p0 (ab:Int)).bind fun aa=>(iY aa.aK.length (fun(ad:Nat) (o: (List aT))=>((idx aa.aK (ad:Int)).bind fun ae=>(app 16 o ([ae.cE]: (List aT))).bind fun af=>some af:Option ((List aT)))) j).bind fun o=>some o:Option ((List aT)))) ([]: (List aT))).bind fun j=>(uK j).bind fun ag=>(fR N ag).bind fun ah=>some ah
def eK (N:Nat) (p0: (List aT)) (p1:aT):Option (Int):=
 (kW p0.length (fun(j:Nat) (o:Unit)=>((idx p0 (j:Int)).bind fun aa=>bif (p1.iM aa) then (some (.rt (j:Int))) else (some (.nx ())):Option (Fl (Unit) Int))) ()).bind fun ab=>ab.cs (fun(o:Unit)=>some (-1)) (fun r=>some r)
def fo (N:Nat) (p0: (List aD)) (p1: (List aH)):Option (aM):=
 (ew N p1).bind fun ab=>(iY p1.length (fun(ad:Nat) (j: (List (List Int))×(List (List Int))×(List aT))=>((idx p1 (ad:Int)).bind fun o=>(iY o.aK.length (fun(ae:Nat) (aa: (List Int))=>((idx o.aK (ae:Int)).bind fun af=>(eK N j.2.2 af.cE).bind fun ag=>(app 8 aa ([ag]: (List Int))).bind fun ah=>some ah:Option ((List Int)))) ([]: (List Int))).bind fun aa=>(app 24 j.1 ([aa]: (List (List Int)))).bind fun ai=>(mk 8 (0:Int) (o.aY.length:Int)).bind fun aj=>(app 24 j.2.1 ([aj]: (List (List Int)))).bind fun ak=>some (ai,ak,j.2.2):Option ((List (List Int))×(List (List Int))×(List aT)))) (([]: (List (List Int))),([]: (List (List Int))),ab)).bind fun j=>some (⟨p0,p1,j.1,j.2.1⟩:aM)
def gu (N:Nat) (p0:aH) (p1:bT):Option (Int):=
 (kW p0.aY.length (fun(j:Nat) (o:Unit)=>((idx p0.aY (j:Int)).bind fun aa=>(eJ N aa.aP p1).bind fun ab=>bif ab then (some (.rt (j:Int))) else (some (.nx ())):Option (Fl (Unit) Int))) ()).bind fun ad=>ad.cs (fun(o:Unit)=>some (-1)) (fun r=>some r)
def eV (N:Nat) (p0:aD) (p1:Int):Option (Int):=
 (lh (fun(j:Int)=>(bif (decide (j<p1)) then (((idx p0.aP p1).bind fun o=>bif (decide (o.aW>0)) then ((idx p0.aP j).bind fun aa=>(idx p0.aP p1).bind fun ab=>some (aa.aW==ab.aW)) else (some false)).bind fun ad=>bif ad then (some (.rt j)) else (some (.nx (IntKind.wrap .i64 (j+1))))) else (some (.br j)):Option (Fl (Int) Int))) N 0).bind fun ae=>ae.cs (fun(j:Int)=>some p1) (fun r=>some r)
def du (N:Nat) (p0: (List aB)):Option ((List Int)):=
 (iY p0.length (fun(ae:Nat) (j: (List aB))=>((idx p0 (ae:Int)).bind fun aa=>(lh (fun(o:Int)=>((bif (decide (o>0)) then ((idx j (IntKind.wrap .i64 (o - 1))).bind fun af=>bif (decide (af.e0>aa.e0)) then (some true) else ((idx j (IntKind.wrap .i64 (o - 1))).bind fun ag=>bif (ag.e0==aa.e0) then ((idx j (IntKind.wrap .i64 (o - 1))).bind fun ah=>some (decide (ah.e1>aa.e1))) else (some false))) else (some false)).bind fun ai=>bif ai then (some (.nx (IntKind.wrap .i64 (o - 1)))) else (some (.br o)):Option (Fl (Int) Empty))) N (j.length:Int)).bind fun aj=>aj.cs (fun(o:Int)=>(tp 16 j o ([aa]: (List aB))).bind fun ak=>some ak) (fun r=>r.elim):Option ((List aB)))) ([]: (List aB))).bind fun j=>(iY j.length (fun(al:Nat) (ab: (List Int))=>((idx j (al:Int)).bind fun ad=>(app 8 ab ([ad.e0,ad.e1]: (List Int))).bind fun an=>some an:Option ((List Int)))) ([]: (List Int))).bind fun ab=>some ab
def cI (N:Nat) (p0:aM) (p1 p2:Int):Option ((List Int)):=
 (idx p0.l p1).bind fun ab=>(idx ab.aK p2).bind fun ad=>(dJ N p0.t ad.cE).bind fun af=>(idx p0.t af).bind fun j=>(iY j.aP.length (fun(ae:Nat) (o: (List aB))=>((idx j.aP (ae:Int)).bind fun ag=>(gu N ab (⟨ad.Name,ag.Name⟩:bT)).bind fun aa=>(bif (decide (aa>=0)) then ((idx p0.qp p1).bind fun ah=>(idx ah aa).bind fun ai=>some ai) else (some aa)).bind fun aj=>(eV N j (ae:Int)).bind fun ak=>(app 16 o ([(⟨ak,aj⟩:aB)]: (List aB))).bind fun al=>some al:Option ((List aB)))) ([]: (List aB))).bind fun o=>(idx p0.parts p1).bind fun an=>(idx an p2).bind fun ao=>(du N o).bind fun aq=>(app 8 ([ao]: (List Int)) aq).bind fun ar=>some ar
def cL (N:Nat) (p0:aM) (p1 p2:Int):Option ((List Int)):=
 (idx p0.l p1).bind fun j=>(idx j.aY p2).bind fun aa=>(iY aa.aP.length (fun(ae:Nat) (o: (List aB))=>((idx aa.aP (ae:Int)).bind fun ab=>(fc N j.aK ab.Part).bind fun tq=>(idx j.aK tq).bind fun af=>(dJ N p0.t af.cE).bind fun ag=>(idx p0.t ag).bind fun ad=>(idx p0.parts p1).bind fun ah=>(idx ah tq).bind fun ai=>(fm N ad ab.bT).bind fun aj=>(eV N ad aj).bind fun ak=>(app 16 o ([(⟨ai,ak⟩:aB)]: (List aB))).bind fun al=>some al:Option ((List aB)))) ([]: (List aB))).bind fun o=>(idx p0.qp p1).bind fun an=>(idx an p2).bind fun ao=>(du N o).bind fun aq=>(app 8 ([ao]: (List Int)) aq).bind fun ar=>some ar
def dA (N:Nat) (p0: (List Int)) (p1: (List Int)):Option (Bool):=
 bif ((p0.length:Int) != (p1.length:Int)) then (some false) else ((kW p0.length (fun(j:Nat) (o:Unit)=>((idx p0 (j:Int)).bind fun aa=>(idx p1 (j:Int)).bind fun ab=>bif (aa != ab) then (some (.rt false)) else (some (.nx ())):Option (Fl (Unit) Bool))) ()).bind fun ad=>ad.cs (fun(o:Unit)=>some true) (fun r=>some r))
def eL (N:Nat) (p0: (List (List (List Int)))):Option ((List (List Int))×Int):=
 (iY p0.length (fun(ai:Nat) (ab: (List (List Int)))=>((idx p0 (ai:Int)).bind fun ag=>(iY ag.length (fun(aj:Nat) (o: (List (List Int)))=>((idx ag (aj:Int)).bind fun ad=>(lh (fun(j:Int)=>((bif (decide (j>0)) then ((idx o (IntKind.wrap .i64 (j - 1))).bind fun ak=>(cJ N ak ad).bind fun al=>some (decide (al>0))) else (some false)).bind fun an=>bif an then (some (.nx (IntKind.wrap .i64 (j - 1)))) else (some (.br j)):Option (Fl (Int) Empty))) N (o.length:Int)).bind fun ao=>ao.cs (fun(j:Int)=>(bif (j==0) then (some true) else ((idx o (IntKind.wrap .i64 (j - 1))).bind fun aq=>(dA N aq ad).bind fun ar=>some (!ar))).bind fun au=>(bif au then ((tp 24 o j ([ad]: (List (List Int)))).bind fun av=>some av) else (some o)).bind fun aw=>some aw) (fun r=>r.elim):Option ((List (List Int))))) ab).bind fun o=>some o:Option ((List (List Int))))) ([]: (List (List Int)))).bind fun ab=>(iY p0.length (fun(ax:Nat) (ae: (List (List Int)))=>((idx p0 (ax:Int)).bind fun ah=>(iY ah.length (fun(ay:Nat) (af: (List Int))=>((idx ah (ay:Int)).bind fun az=>(lh (fun(aa:Int)=>((idx ab aa).bind fun a0=>(dA N a0 az).bind fun a1=>bif (!a1) then (some (.nx (IntKind.wrap .i64 (aa+1)))) else (some (.br aa)):Option (Fl (Int) Empty))) N 0).bind fun a2=>a2.cs (fun(aa:Int)=>(app 8 af ([aa]: (List Int))).bind fun a3=>some a3) (fun r=>r.elim):Option ((List Int)))) ([]: (List Int))).bind fun af=>(app 24 ae ([af]: (List (List Int)))).bind fun a4=>some a4:Option ((List (List Int))))) ([]: (List (List Int)))).bind fun ae=>some (ae,(ab.length:Int))
def fu (N:Nat) (p1:Int):Option ((List Int)):=
 bif (decide (p1<0)) then (none) else ((bif (decide ((IntKind.wrap .i64 (p1 - (IntKind.wrap .i64 (((0:Nat):Int) - ((0:Nat):Int)))))>0)) then ((zI 8 (0:Int) (IntKind.wrap .i64 (p1 - (IntKind.wrap .i64 (((0:Nat):Int) - ((0:Nat):Int)))))).bind fun j=>(oK j 0 ((0:Nat):Int)).bind fun o=>some o) else (some ([]: (List Int)))).bind fun aa=>some aa)
def gk (N:Nat) (p0: (List (List Int))):Option ((List Int)):=
 (iY p0.length (fun(ab:Nat) (j:Int)=>((idx p0 (ab:Int)).bind fun aa=>bif (decide ((IntKind.wrap .i64 (j+ (aa.length:Int)))<0)) then (none) else (some (IntKind.wrap .i64 (j+ (aa.length:Int)))):Option (Int))) 0).bind fun j=>(fu N j).bind fun ad=>(iY p0.length (fun(ae:Nat) (o: (List Int))=>((idx p0 (ae:Int)).bind fun af=>(app 8 o af).bind fun ag=>some ag:Option ((List Int)))) ad).bind fun o=>some o
def gM (N:Nat) (p0: (List Int)):Option ((List Int)):=
 bif (decide ((p0.length:Int)<2)) then (some p0) else ((lh (fun(o:Int)=>(bif (decide (o< (p0.length:Int))) then ((idx p0 o).bind fun uL=>(idx p0 (IntKind.wrap .i64 (o - 1))).bind fun ab=>bif (uL==ab) then ((oK p0 o (p0.length:Int)).bind fun aj=>(lh (fun(j: (List Int)×Int×Int)=>(bif (decide (j.2.2< (((j.1.length - Int.toNat o):Nat):Int))) then ((mX j.1 o j.2.2).bind fun ad=>(mX j.1 o (IntKind.wrap .i64 (j.2.2 - 1))).bind fun ae=>(bif (ad != ae) then ((mX j.1 o j.2.2).bind fun af=>(idx j.1 j.2.1).bind fun ak=>some ((j.1.set (Int.toNat j.2.1) af),(IntKind.wrap .i64 (j.2.1+1)))) else (some (j.1,j.2.1))).bind fun aa=>some (.nx (aa.1,aa.2,(IntKind.wrap .i64 (j.2.2+1))))) else (some (.br (j.1,j.2.1,j.2.2))):Option (Fl ((List Int)×Int×Int) Empty))) N (p0,o,1)).bind fun ag=>ag.cs (fun(j: (List Int)×Int×Int)=>(oK j.1 j.2.1 (j.1.length:Int)).bind fun al=>(oK (j.1.take (Int.toNat j.2.1)++List.replicate (j.1.length - Int.toNat j.2.1) (0:Int)) 0 j.2.1).bind fun ah=>some (.rt ah)) (fun r=>r.elim)) else (some (.nx (IntKind.wrap .i64 (o+1))))) else (some (.br o)):Option (Fl (Int) (List Int)))) N 1).bind fun ai=>ai.cs (fun(o:Int)=>some p0) (fun r=>some r))
def dE (N:Nat) (p0: (List (List Int))):Option (Int):=
 (gk N p0).bind fun j=>(uJ j).bind fun o=>(gM N o).bind fun aa=>some (aa.length:Int)
def cY (N:Nat) (p0: (List aD)) (p1: (List aH)):Option (aM):=
 (fo N p0 p1).bind fun ai=>(lh (fun(j:aM×Int×Int)=>((iY p1.length (fun(aa:Nat) (o: (List (List (List Int)))×(List (List (List Int))))=>((idx p1 (aa:Int)).bind fun ag=>(iY ag.aK.length (fun(aj:Nat) (ab: (List (List Int)))=>((cI N j.1 (aa:Int) (aj:Int)).bind fun ak=>(app 24 ab ([ak]: (List (List Int)))).bind fun al=>some al:Option ((List (List Int))))) ([]: (List (List Int)))).bind fun ab=>(iY ag.aY.length (fun(an:Nat) (ad: (List (List Int)))=>((cL N j.1 (aa:Int) (an:Int)).bind fun ao=>(app 24 ad ([ao]: (List (List Int)))).bind fun aq=>some aq:Option ((List (List Int))))) ([]: (List (List Int)))).bind fun ad=>(app 24 o.1 ([ab]: (List (List (List Int))))).bind fun ar=>(app 24 o.2 ([ad]: (List (List (List Int))))).bind fun au=>some (ar,au):Option ((List (List (List Int)))×(List (List (List Int)))))) (([]: (List (List (List Int)))),([]: (List (List (List Int)))))).bind fun o=>(eL N o.1).bind fun ae=>(eL N o.2).bind fun af=>(bif (decide (j.2.1<0)) then ((dE N j.1.parts).bind fun av=>(dE N j.1.qp).bind fun aw=>some (av,aw)) else (some (j.2.1,j.2.2))).bind fun ah=>bif ((decide (ae.2<=ah.1))&&(decide (af.2<=ah.2))) then (some (.rt j.1)) else (some (.nx ((⟨j.1.t,j.1.l,ae.1,af.1⟩:aM),ae.2,af.2))):Option (Fl (aM×Int×Int) aM))) N (ai,(-1),(-1))).bind fun ax=>ax.cs (fun(j:aM×Int×Int)=>none) (fun r=>some r)
def fS (N:Nat) (p0: (List aD)) (p1:aH):Option ((List Int)×(List Int)×Int):=
 (eu N p0 p1).bind fun j=>bif (j != 0) then (some (([]: (List Int)),([]: (List Int)),j)) else ((cY N p0 ([p1]: (List aH))).bind fun o=>(idx o.parts 0).bind fun aa=>(idx o.qp 0).bind fun ab=>some (aa,ab,0))
def lk (N:Nat) (p0: (List aD)) (p1:Part):Option ((List bT)):=
 (eZ N p0 p1.cE).bind fun aa=>(idx p0 aa).bind fun o=>(iY o.aP.length (fun(ab:Nat) (j: (List bT))=>((idx o.aP (ab:Int)).bind fun ad=>(app 32 j ([(⟨p1.Name,ad.Name⟩:bT)]: (List bT))).bind fun ae=>some ae:Option ((List bT)))) ([]: (List bT))).bind fun j=>some j
def kI (N:Nat) (p0: (List aD)) (p1:aH):Option ((List bT)):=
 (iP N p1).bind fun ad=>(iY p1.aK.length (fun(ae:Nat) (o: (List bT))=>((idx p1.aK (ae:Int)).bind fun af=>(lk N p0 af).bind fun aa=>(iY aa.length (fun(ag:Nat) (j: (List bT))=>((idx aa (ag:Int)).bind fun ab=>(bif (!(ka ad ab)) then ((app 32 j ([ab]: (List bT))).bind fun ah=>some ah) else (some j)).bind fun ai=>some ai:Option ((List bT)))) o).bind fun j=>some j:Option ((List bT)))) ([]: (List bT))).bind fun o=>some o
def md (N:Nat) (p0: (List aD)) (p1:aH):Option ((List bT)×Int):=
 (eH N p0 p1).bind fun j=>bif (j != 0) then (some (([]: (List bT)),j)) else ((kI N p0 p1).bind fun o=>some (o,0))
def gv (N:Nat):Option (Bool):=
 (md N ([(⟨⟨[114]⟩,([(⟨⟨[49]⟩,6,0⟩:aU)]: (List aU))⟩:aD)]: (List aD)) (⟨([(⟨⟨[97]⟩,⟨[114]⟩⟩:Part)]: (List Part)),[]⟩:aH)).bind fun j=>(bif (j.2==0) then (bif ((j.1.length:Int)==1) then ((idx j.1 0).bind fun o=>some (decide (o= (⟨⟨[97]⟩,⟨[49]⟩⟩:bT)))) else (some false)) else (some false)).bind fun aa=>some aa
def cR (N:Nat) (p0: (List aD)) (p1:aH):Option (Bool):=
 (jg N p0 p1).bind fun j=>(fS N p0 p1).bind fun o=>(bif (j.2.2==o.2.2) then ((dA N j.1 o.1).bind fun aa=>bif aa then ((dA N j.2.1 o.2.1).bind fun ab=>bif ab then ((gv N).bind fun ad=>some ad) else (some false)) else (some false)) else (some false)).bind fun ae=>some ae
end
end Go.Gk
namespace Go.Gk
open Go
def i6 {R:Type} (m:Nat) (e:Nat->Option R):Option R:=(List.range m).findSome? e
theorem iT {R:Type} {m:Nat} {e:Nat->Option R}:i6 m e=none↔∀k,k<m->e k=none:=by
 simp [i6]
theorem hY {R:Type} {m:Nat} {e:Nat->Option R} {r:R}:i6 m e=some r↔∃k,k<m/\e k=some r/\∀j,j<k->e j=none:=by
 constructor
 ·intro h
  obtain⟨l1,a,l2,hl,ha,hn⟩:=List.findSome?_eq_some_iff.1 h
  have hlen:l1.length<m:=by have:=congrArg List.length hl;grind
  have hget: ∀i,i<l1.length->l1[i]? =some i:=fun i hi=>by
   have:=congrArg (·[i]?) hl
   grind
  have hat:a=l1.length:=by
   have:=congrArg (·[l1.length]?) hl
   grind
  grind
 ·rintro⟨k,hk,he,hn⟩
  refine List.findSome?_eq_some_iff.2 ⟨List.range k,k,(List.range (m - k - 1)).map (· + (k+1)),?_,he,fun x hx=>hn x (d5.1 hx)⟩
  refine List.ext_getElem? fun i=>?_
  by_cases h1:i<k
  ·grind
  ·rw [iq (by grind),List.length_range]
   by_cases h2:i=k
   all_goals grind
theorem z7 {R R':Type} {m:Nat} {e:Nat->Option R} (f:R->R'): (i6 m e).map f=i6 m (fun k=>(e k).map f):=by
 cases hx:i6 m e with
 | none=>grind [iT]
 | some r=>
  grind [hY]
section
variable {S R:Type}
def sQ (o:Option R) (s:S):Fl S R:=match o with | some r=> .rt r | none=> .nx s
def wo (o:Option R) (s:S):Fo S R:=match o with | some r=> .rt r | none=> .go s
theorem wq {body:Nat->S->Option (Fl S R)} (F:Nat->S) (e:Nat->Option R) (m:Nat): ∀(n k:Nat),k+n=m->
  (∀j,k<=j->j<m->(∀i,k<=i->i<j->e i=none)->body j (F j)=some (sQ (e j) (F (j+1))))->
  ∃o,uB body n k (F k)=some o/\((∀j,k<=j->j<m->e j=none)/\o = .go (F m)\/∃j r,k<=j/\j<m/\e j=some r/\(∀i,k<=i->i<j->e i=none)/\o = .rt r)
 | 0,k,hk,_=>⟨_,rfl, .inl ⟨fun j h1 h2=>by omega,by grind⟩⟩
 | n+1,k,hk,h=>by
  have hb:=h k (bP _) (by omega) (fun i h1 h2=>by omega)
  unfold uB
  rw [hb]
  cases hx:e k with
  | some r=>exact⟨_,rfl, .inr ⟨k,r,bP _,by omega,hx,fun i h1 h2=>by omega,rfl⟩⟩
  | none=>
   obtain⟨o,ho,hc⟩:=wq F e m n (k+1) (by omega) (fun j h1 h2 h3=>h j (by omega) h2 fun i h4 h5=>by
    grind)
   refine⟨o,ho,?_⟩
   rcases hc with ⟨h1,h2⟩ | ⟨j,r,h1,h2,h3,h4,h5⟩
   ·refine .inl ⟨fun j h3 h4=>?_,h2⟩
    by_cases h6:j=k
    ·subst h6;exact hx
    ·exact h1 j (by omega) h4
   ·refine .inr ⟨j,r,by omega,h2,h3,fun i h6 h7=>?_,h5⟩
    by_cases h8:i=k
    ·subst h8;exact hx
    ·exact h4 i (by omega) h7
theorem x8 {body:Nat->S->Option (Fl S R)} {m:Nat} {s:S} (F:Nat->S) (e:Nat->Option R) (hm:m<=4611686018427387904) (hs:F 0=s)
  (h: ∀k,k<m->(∀i,i<k->e i=none)->body k (F k)=some (sQ (e k) (F (k+1)))):kW m body s=some (wo (i6 m e) (F m)):=by
 subst hs
 unfold kW
 rw [aG hm]
 obtain⟨o,ho,hc⟩:=wq F e m m 0 (by omega) (fun j _ h2 h3=>h j h2 fun i hi=>h3 i (kU _) hi)
 rw [ho]
 rcases hc with ⟨h1,h2⟩ | ⟨j,r,_,h2,h3,h4,h5⟩
 ·rw [iT.2 fun k hk=>h1 k (kU _) hk,h2];rfl
 ·rw [hY.2 ⟨j,h2,h3,fun i hi=>h4 i (kU _) hi⟩,h5];rfl
theorem gl {body:Nat->Unit->Option (Fl Unit R)} {m:Nat} (e:Nat->Option R) (hm:m<=4611686018427387904)
  (h: ∀k,k<m->(∀i,i<k->e i=none)->body k ()=some (sQ (e k) ())):kW m body ()=some (wo (i6 m e) ()):=
 x8 (fun _=>()) e hm rfl h
theorem wu {body:Nat->S->Option S} (F:Nat->S): ∀(n k:Nat),(∀j,k<=j->j<k+n->body j (F j)=some (F (j+1)))->xd body n k (F k)=some (F (k+n))
 | 0,_,_=>rfl
 | n+1,k,h=>by
  unfold xd
  rw [h k (bP _) (by omega)]
  have:=wu F n (k+1) (fun j h1 h2=>h j (by omega) (by omega))
  rw [show k+ (n+1)=k+1+n by omega]
  exact this
theorem kX {body:Nat->S->Option S} {m:Nat} {s:S} (F:Nat->S) (hm:m<=4611686018427387904) (hs:F 0=s)
  (h: ∀k,k<m->body k (F k)=some (F (k+1))):iY m body s=some (F m):=by
 subst hs
 simp_all [iY,aG,wu,eD]
theorem qC {body:S->Option (Fl S R)} (Inv:S->Prop) (μ:S->Nat) (Go:S->Prop) (Rt:R->Prop)
  (h: ∀s,Inv s->∃fl,body s=some fl/\match fl with | .nx s'=>Inv s'/\μ s'<μ s | .br s'=>Go s' | .rt r=>Rt r):
  ∀(N:Nat) (s:S),Inv s->μ s<N->∃o,lh body N s=some o/\match o with | .go s'=>Go s' | .rt r=>Rt r
 | 0,s,_,hn=>by omega
 | N+1,s,hi,hn=>by
  obtain⟨fl,hb,hf⟩:=h s hi
  unfold lh
  rw [hb]
  cases fl with
  | nx s'=>exact qC Inv μ Go Rt h N s' hf.1 (by have:=hf.2;omega)
  | br s'=>exact⟨_,rfl,hf⟩
  | rt r=>exact⟨_,rfl,hf⟩
theorem wv {body:Nat->S->Option (Fl S R)} (Inv:Nat->S->Prop) (Go:S->Prop) (Rt:R->Prop) (m:Nat)
  (h: ∀k s,k<m->Inv k s->∃fl,body k s=some fl/\match fl with | .nx s'=>Inv (k+1) s' | .br s'=>Go s' | .rt r=>Rt r) (hg: ∀s,Inv m s->Go s):
  ∀(n k:Nat) (s:S),k+n=m->Inv k s->∃o,uB body n k s=some o/\match o with | .go s'=>Go s' | .rt r=>Rt r
 | 0,k,s,hk,hi=>⟨_,rfl,hg s (by rw [<-hk];exact hi)⟩
 | n+1,k,s,hk,hi=>by
  obtain⟨fl,hb,hf⟩:=h k s (by omega) hi
  unfold uB
  rw [hb]
  cases fl with
  | nx s'=>exact wv Inv Go Rt m h hg n (k+1) s' (by omega) hf
  | br s'=>exact⟨_,rfl,hf⟩
  | rt r=>exact⟨_,rfl,hf⟩
theorem A3 {body:Nat->S->Option (Fl S R)} {m:Nat} {s:S} (Inv:Nat->S->Prop) (Go:S->Prop) (Rt:R->Prop) (hm:m<=4611686018427387904) (h0:Inv 0 s)
  (h: ∀k s,k<m->Inv k s->∃fl,body k s=some fl/\match fl with | .nx s'=>Inv (k+1) s' | .br s'=>Go s' | .rt r=>Rt r) (hg: ∀s,Inv m s->Go s):
  ∃o,kW m body s=some o/\match o with | .go s'=>Go s' | .rt r=>Rt r:=by
 unfold kW
 rw [aG hm]
 exact wv Inv Go Rt m h hg m 0 s (by omega) h0
theorem wx {body:Nat->S->Option S} (Inv:Nat->S->Prop) (m:Nat) (h: ∀k s,k<m->Inv k s->∃s',body k s=some s'/\Inv (k+1) s'):
  ∀(n k:Nat) (s:S),k+n=m->Inv k s->∃s',xd body n k s=some s'/\Inv m s'
 | 0,k,s,hk,hi=>⟨_,rfl,by grind⟩
 | n+1,k,s,hk,hi=>by
  obtain⟨s',hb,hf⟩:=h k s (by omega) hi
  unfold xd
  rw [hb]
  exact wx Inv m h n (k+1) s' (by omega) hf
theorem A4 {body:Nat->S->Option S} {m:Nat} {s:S} (Inv:Nat->S->Prop) (hm:m<=4611686018427387904) (h0:Inv 0 s)
  (h: ∀k s,k<m->Inv k s->∃s',body k s=some s'/\Inv (k+1) s'): ∃s',iY m body s=some s'/\Inv m s':=by
 simp_all [iY,aG,wx]
end
section
variable {α β:Type}
theorem aA (x:α) (f:α->Option β): (some x).bind f=f x:=rfl
theorem gw (l:List α) (k:Nat) (h:k<l.length):idx l ((k:Nat):Int)=some l[k]:=by
 unfold idx;simp
theorem cB {l:List α} {k:Nat} {x:α} (h:l[k]? =some x):idx l ((k:Nat):Int)=some x:=by
 grind [idx,cV]
theorem wy (s:aT) (k:Nat) (h:k<s.bQ.length):vG s ((k:Nat):Int)=some s.bQ[k]:=by
 unfold vG;simp
theorem jy {k:Nat} (h:0<k) (hk:k<=4611686018427387904):IntKind.wrap .i64 (((k:Nat):Int) - 1)= ((k - 1:Nat):Int):=by
 grind [dz]
theorem mz (l:List α) (k:Nat) (h:k<=l.length):oK l 0 ((k:Nat):Int)=some (l.take k):=by
 unfold oK;grind
theorem wz (l:List α) (k:Nat) (h:k<=l.length):oK l ((k:Nat):Int) ((l.length:Nat):Int)=some (l.drop k):=by
 grind [oK,cV,Option.some.injEq,kT,dG]
theorem dR {b:Nat} {l ys:List α} (h: (l.length+ys.length)*b<=140737488355328):app b l ys=some (l++ys):=by grind [app]
theorem oP {b:Nat} (z:α) {n:Nat} (h:n*b<=140737488355328):mk b z ((n:Nat):Int)=some (List.replicate n z):=by
 unfold mk
 grind
end
theorem aT.ext' {a b:aT} (h:a.bQ=b.bQ):a=b:=by cases a;simp_all
theorem ko {a b:aT}:a.iM b=true↔a=b:=by
 grind [aT.iM,aT.ext']
theorem ld {a b:aT}:a.iM b=false↔a≠b:=by grind [ko]
theorem rI: ∀(a:List UInt8),Op.bytesLess a a=false
 | []=>rfl
 | a::l=>by
  unfold Op.bytesLess
  rw [rI l];simp
theorem sR: ∀{a b c:List UInt8},Op.bytesLess a b=true->Op.bytesLess b c=true->Op.bytesLess a c=true
 | [],[],_,h,_=>by simp [Op.bytesLess] at h
 | [],_::_,[],_,h=>by simp [Op.bytesLess] at h
 | [],_::_,_::_,_,_=>rfl
 | _::_,[],_,h,_=>by simp [Op.bytesLess] at h
 | _::_,_::_,[],_,h=>by simp [Op.bytesLess] at h
 | a::l,b::m,c::n,h1,h2=>by
  unfold Op.bytesLess at h1 h2 ⊢
  simp only [eC,cC,fx,beq_iff_eq] at h1 h2 ⊢
  rcases h1 with h1 | ⟨rfl,h1⟩
  ·rcases h2 with h2 | ⟨rfl,h2⟩
   ·exact .inl (UInt8.lt_trans h1 h2)
   ·exact .inl h1
  ·rcases h2 with h2 | ⟨rfl,h2⟩
   ·exact .inl h2
   ·exact .inr ⟨rfl,sR h1 h2⟩
theorem sS: ∀(a b:List UInt8),Op.bytesLess a b=true\/a=b\/Op.bytesLess b a=true
 | [],[]=> .inr (.inl rfl)
 | [],_::_=> .inl rfl
 | _::_,[]=> .inr (.inr rfl)
 | a::l,b::m=>by
  unfold Op.bytesLess
  simp only [eC,cC,fx,beq_iff_eq]
  by_cases h1:a<b
  ·exact .inl (.inl h1)
  ·by_cases h2:b<a
   ·exact .inr (.inr (.inl h2))
   ·have e:a=b:=by
     simp only [UInt8.lt_iff_toNat_lt] at h1 h2
     exact UInt8.toNat_inj.1 (by omega)
    subst e
    rcases sS l m with h | h | h
    ·exact .inl (.inr ⟨rfl,h⟩)
    ·exact .inr (.inl (by rw [h]))
    ·exact .inr (.inr (.inr ⟨rfl,h⟩))
theorem jq: ∀(a b:List UInt8),Lib.compareBytes a b<0↔Op.bytesLess a b=true
 | [],[]=>by simp [Lib.compareBytes,Op.bytesLess]
 | [],_::_=>by simp [Lib.compareBytes,Op.bytesLess]
 | _::_,[]=>by simp [Lib.compareBytes,Op.bytesLess]
 | a::l,b::m=>by
  unfold Lib.compareBytes Op.bytesLess
  simp only [eC,cC,fx,beq_iff_eq]
  split
  ·simp_all
  ·rename_i h1
   split
   ·rename_i h2
    have h3:a≠b:=fun e=>by subst e;exact h1 h2
    simp [h1,h3]
   ·rename_i h2
    have e:a=b:=by
     simp only [UInt8.lt_iff_toNat_lt] at h1 h2
     exact UInt8.toNat_inj.1 (by omega)
    subst e
    rw [jq l m];simp [h1]
theorem iD: ∀(a b:List UInt8),Lib.compareBytes a b=0↔a=b
 | [],[]=>by simp [Lib.compareBytes]
 | [],_::_=>by simp [Lib.compareBytes]
 | _::_,[]=>by simp [Lib.compareBytes]
 | a::l,b::m=>by
  unfold Lib.compareBytes
  split
  ·rename_i h1
   have h3:a≠b:=fun e=>by subst e;exact absurd h1 (by simp)
   simp [h3]
  ·rename_i h1
   split
   ·rename_i h2
    have h3:a≠b:=fun e=>by subst e;exact h1 h2
    simp [h3]
   ·rename_i h2
    have e:a=b:=by
     simp only [UInt8.lt_iff_toNat_lt] at h1 h2
     exact UInt8.toNat_inj.1 (by omega)
    subst e
    rw [iD l m];simp
def aT.lt (a b:aT):Prop:=a.ks b=true
theorem aT.lt_irrefl (a:aT): ¬aT.lt a a:=by simp [aT.lt,aT.ks,rI,decide]
theorem aT.lt_trans {a b c:aT} (h1:aT.lt a b) (h2:aT.lt b c):aT.lt a c:=sR h1 h2
theorem aT.wA (a b:aT):aT.lt a b\/a=b\/aT.lt b a:=by
 rcases sS a.bQ b.bQ with h | h | h
 ·exact .inl h
 ·grind [aT.ext']
 ·exact .inr (.inr h)
theorem aT.pA {a b:aT} (h:aT.lt a b):a≠b:=by grind [aT.lt_irrefl]
theorem aT.lt_asymm {a b:aT} (h:aT.lt a b): ¬aT.lt b a:=by grind [aT.lt_irrefl,aT.lt_trans]
theorem x9 {a b:aT}: (a.ks b||a.iM b)=false↔aT.lt b a:=by
 grind [Bool.or_eq_false_iff,ld,aT.wA,aT.lt,aT.pA,aT.lt_asymm]
end Go.Gk
namespace Go.Gk
open Go
class Bk (α:Type) where
 bk:α->Nat
 pos: ∀x,1<=bk x
def bk {α:Type} [Bk α] (x:α):Nat:=Bk.bk x
theorem xy {α:Type} [Bk α] (x:α):1<=bk x:=Bk.pos x
instance:Bk aT:=⟨fun s=>s.bQ.length+1,fun _=>by omega⟩
instance:Bk Int:=⟨fun _=>1,fun _=>by omega⟩
instance:Bk Bool:=⟨fun _=>1,fun _=>by omega⟩
instance {α:Type} [Bk α]:Bk (List α):=⟨fun l=>(l.map bk).sum+1,fun _=>by omega⟩
theorem xz {α:Type} [Bk α]:bk ([]:List α)=1:=rfl
theorem qD {α:Type} [Bk α] (x:α) (l:List α):bk (x::l)=bk x+bk l:=by
 rfl
theorem oe {α:Type} [Bk α]: ∀{l:List α} {x:α},x∈l->bk x+1<=bk l
 | y::l,x,h=>by
  rw [qD]
  rcases ja.1 h with h | h
  ·subst h;have:=xy l;omega
  ·have:=oe h;omega
theorem og {α:Type} [Bk α] {l:List α} {k:Nat} {x:α} (h:l[k]? =some x):bk x+1<=bk l:=oe (eR h)
theorem fy {α:Type} [Bk α]: ∀(l:List α),l.length+1<=bk l
 | []=>by rw [xz];simp
 | x::l=>by rw [qD,kS];have:=fy l;have:=xy x;omega
theorem oh (s:aT):bk s=s.bQ.length+1:=rfl
theorem ya {α:Type} [Bk α]: ∀(l:List α) (k:Nat),bk (l.take k)<=bk l
 | [],k=>by simp
 | x::l,0=>by rw [List.take_zero,xz];exact xy _
 | x::l,k+1=>by rw [List.take_succ_cons,qD,qD];have:=ya l k;omega
section
variable {α R:Type}
theorem yN {l:List α} {e:Nat->Option R} (f:α->Option R) (h: ∀k x,l[k]? =some x->e k=f x):i6 l.length e=l.findSome? f:=by
 cases hx:i6 l.length e with
 | none=>
  grind [List.findSome?_eq_none_iff,iL,iT,bM]
 | some r=>
  obtain⟨k,hk,he,hn⟩:=hY.1 hx
  refine(List.findSome?_eq_some_iff.2 ⟨l.take k,l[k],l.drop (k+1),?_,?_,fun y hy=>?_⟩).symm
  ·simp
  ·grind
  grind [iL,bM,bO,List.getElem?_take_of_lt]
theorem u7 (l:List α) (p:α->Bool) (r:R):l.findSome? (fun x=>if p x=true then some r else none)=if l.any p=true then some r else none:=by
 induction l with
 | nil=>simp
 | cons x l ih=>
  grind
theorem z8 {l:List α} {body:Nat->Unit->Option (Fl Unit R)} (f:α->Option R) (hl:l.length<=4611686018427387904)
  (h: ∀k x,l[k]? =some x->body k ()=some (sQ (f x) ())):kW l.length body ()=some (wo (l.findSome? f) ()):=by
 have h2:=gl (body:=body) (m:=l.length) (fun k=>(l[k]?).bind f) hl (fun k hk _=>by
  grind)
 grind [yN]
theorem qE {l:List α} {body:Nat->Unit->Option (Fl Unit R)} (p:α->Bool) (r:R) (hl:l.length<=4611686018427387904)
  (h: ∀k x,l[k]? =some x->body k ()=some (if p x=true then .rt r else .nx ())):kW l.length body ()=some (if l.any p=true then .rt r else .go ()):=by
 rw [z8 (fun x=>if p x=true then some r else none) hl (fun k x hx=>by rw [h k x hx];cases p x <;> rfl),u7]
 cases l.any p <;> rfl
end
section
variable {α β:Type}
def t3 (l:List α) (p:α->Bool):Int:=match l.findIdx? p with | some k=>((k:Nat):Int) | none=> -1
theorem wB {l:List α} {p:α->Bool} (h:l.any p=false):t3 l p = -1:=by
 unfold t3
 grind
theorem ky {l:List α} {p:α->Bool} {k:Nat} {x:α} (hk:l[k]? =some x) (hp:p x=true) (hn: ∀j y,j<k->l[j]? =some y->p y=false):t3 l p= ((k:Nat):Int):=by
 unfold t3
 have hlt:=(bM.1 hk).1
 have:l.findIdx? p=some k:=by
  rw [List.findIdx?_eq_some_iff_getElem]
  grind
 rw [this]
theorem hZ (l:List α) (p:α->Bool): (t3 l p = -1/\∀x∈l,p x=false)\/∃k x,t3 l p= ((k:Nat):Int)/\l[k]? =some x/\p x=true/\∀j y,j<k->l[j]? =some y->p y=false:=by
 unfold t3
 cases h:l.findIdx? p with
 | none=>grind
 | some k=>
  grind [List.findIdx?_eq_some_iff_getElem,aN]
theorem u9 (l:List α) (p:α->Bool):decide (t3 l p>=0)=l.any p:=by
 grind [hZ,List.any_eq_false,decide,jJ,eR]
def m6 (p0:List α) (p1:α->Option Bool):Option Int:=
 (kW p0.length (fun(k1:Nat) (_:Unit)=>((idx p0 ((k1:Nat):Int)).bind fun x7=>(p1 x7).bind fun x10=>bif x10 then (some (.rt ((k1:Nat):Int))) else (some (.nx ())):Option (Fl (Unit) Int))) ()).bind fun o11=>o11.cs (fun(_:Unit)=>some (-1)) (fun r=>some r)
theorem i7 {l:List α} {φ:α->Option Bool} (p:α->Bool) (hl:l.length<=4611686018427387904) (h: ∀x∈l,φ x=some (p x)):m6 l φ=some (t3 l p):=by
 unfold m6
 rw [gl (fun k=>(l[k]?).bind fun x=>if p x=true then some ((k:Nat):Int) else none) hl (fun k hk _=>by
  grind [gw,aA,d3,aN,sQ]),aA]
 grind [hZ,iT,aN,d3,wo,Fo.cs,hY,bM]
def kp (p0:List α) (p1:α->Option Bool):Option Bool:=
 (m6 p0 p1).bind fun x1=>some (decide (x1>=0))
theorem mA {l:List α} {φ:α->Option Bool} (p:α->Bool) (hl:l.length<=4611686018427387904) (h: ∀x∈l,φ x=some (p x)):kp l φ=some (l.any p):=by
 simp_all [kp,i7,aA,u9]
def va [DecidableEq α] (p0:List α) (p1:α):Option Int:=
 (kW p0.length (fun(k2:Nat) (_:Unit)=>((idx p0 ((k2:Nat):Int)).bind fun x12=>bif (decide (p1=x12)) then (some (.rt ((k2:Nat):Int))) else (some (.nx ())):Option (Fl (Unit) Int))) ()).bind fun o18=>o18.cs (fun(_:Unit)=>some (-1)) (fun r=>some r)
theorem t4 [DecidableEq α] {l:List α} {a:α} (hl:l.length<=4611686018427387904):va l a=some (t3 l (fun x=>decide (a=x))):=by
 have:=i7 (l:=l) (φ:=fun x=>some (decide (a=x))) (fun x=>decide (a=x)) hl (fun _ _=>rfl)
 rw [<-this];rfl
def rh [DecidableEq α] (p0:List α) (p1:α):Option Bool:=(va p0 p1).bind fun x3=>some (decide (x3>=0))
theorem qF [DecidableEq α] {l:List α} {a:α} (hl:l.length<=4611686018427387904):rh l a=some (decide (a∈l)):=by
 grind [rh,t4,aA,u9,Option.some.injEq]
def z9 [DecidableEq α] (p0 p1:List α):Option Bool:=
 bif (((p0.length:Nat):Int) != ((p1.length:Nat):Int)) then (some false) else ((kW p0.length (fun(k1:Nat) (_:Unit)=>((idx p0 ((k1:Nat):Int)).bind fun x13=>(idx p1 ((k1:Nat):Int)).bind fun x16=>bif (!(decide (x13=x16))) then (some (.rt false)) else (some (.nx ())):Option (Fl (Unit) Bool))) ()).bind fun o23=>o23.cs (fun(_:Unit)=>some true) (fun r=>some r))
theorem yO [DecidableEq α] {l m:List α} (hl:l.length<=4611686018427387904):z9 l m=some (decide (l=m)):=by
 unfold z9
 by_cases h:l.length=m.length
 ·have e: (((l.length:Nat):Int) != ((m.length:Nat):Int))=false:=by rw [h];simp
  rw [e,bL]
  rw [gl (fun k=>if l[k]? =m[k]? then none else some false) hl (fun k hk _=>by
   grind [gw,aA,aN,sQ]),aA]
  by_cases hx:l=m
  ·grind [iT,wo,Fo.cs]
  ·have: ∃r,i6 l.length (fun k=>if l[k]? =m[k]? then none else some false)=some r:=by
    cases hf:i6 l.length (fun k=>if l[k]? =m[k]? then none else some false) with
    | some r=>simp
    | none=>
     exfalso;refine hx (List.ext_getElem? fun i=>?_)
     grind [iT,List.getElem?_eq_none]
   grind [hY,wo,Fo.cs]
 ·have e: (((l.length:Nat):Int) != ((m.length:Nat):Int))=true:=by simp;omega
  rw [e,bJ,bW (fun h'=>h (by rw [h']))]
def fU (key:α->aT) (l:List α):Prop:=∀(i j:Nat) (x y:α),i<j->l[i]? =some x->l[j]? =some y->aT.lt (key x) (key y)
theorem yP {key:α->aT} {l:List α} (h: ∀k x y,l[k]? =some x->l[k+1]? =some y->aT.lt (key x) (key y)):fU key l:=by
 intro i j
 induction j with
 | zero=>omega
 | succ j ih=>
  grind [bM,aT.lt_trans,aN]
theorem fU.inj {key:α->aT} {l:List α} (h:fU key l) {i j:Nat} {x y:α} (hx:l[i]? =some x) (hy:l[j]? =some y) (e:key x=key y):i=j:=by
 rcases Nat.lt_trichotomy i j with h1 | h1 | h1
 ·exact absurd e (aT.pA (h i j x y h1 hx hy))
 ·exact h1
 ·exact absurd e.symm (aT.pA (h j i y x h1 hy hx))
def nat? (key:α->aT) (l:List α) (s:aT):Int:=t3 l (fun x=>(key x).iM s)
def vc (N:Nat) (p0:List α) (p1:β) (p2:α->β->Option Int):Option (Int×Bool):=
 (lh (fun(s2:Int×Int)=>(bif (decide (s2.1<s2.2)) then ((idx p0 (IntKind.wrap .i64 (Int.fdiv (IntKind.wrap .u64 (IntKind.wrap .i64 (s2.1+s2.2))) 2))).bind fun x13=>(p2 x13 p1).bind fun x16=>(bif (decide (x16<0)) then (some ((IntKind.wrap .i64 ((IntKind.wrap .i64 (Int.fdiv (IntKind.wrap .u64 (IntKind.wrap .i64 (s2.1+s2.2))) 2))+1)),s2.2)) else (some (s2.1,(IntKind.wrap .i64 (Int.fdiv (IntKind.wrap .u64 (IntKind.wrap .i64 (s2.1+s2.2))) 2))))).bind fun s17=>some (.nx (s17.1,s17.2))) else (some (.br (s2.1,s2.2))):Option (Fl (Int×Int) Empty))) N (0,((p0.length:Nat):Int))).bind fun o29=>o29.cs (fun(s2:Int×Int)=>(bif (decide (s2.1< ((p0.length:Nat):Int))) then ((idx p0 s2.1).bind fun x25=>(p2 x25 p1).bind fun x28=>some (x28==0)) else (some false)).bind fun s23=>some (s2.1,s23)) (fun r=>r.elim)
theorem t5 {a b:Nat} (h:a<b) (hb:b<=4611686018427387904):IntKind.wrap .i64 (Int.fdiv (IntKind.wrap .u64 (IntKind.wrap .i64 (((a:Nat):Int)+ ((b:Nat):Int)))) 2)= (((a+b) / 2:Nat):Int):=by
 rw [dz (x:=((a:Nat):Int)+ ((b:Nat):Int)) (by omega) (by omega)]
 have e:IntKind.wrap .u64 (((a:Nat):Int)+ ((b:Nat):Int))= ((a+b:Nat):Int):=by
  show ((a:Int)+b) % 18446744073709551616=_
  omega
 grind [Int.fdiv_eq_ediv_of_nonneg,dz]
theorem vd {N:Nat} {key:α->aT} {l:List α} {s:aT} {φ:α->aT->Option Int} (hφ: ∀x,φ x s=some (Lib.compareBytes (key x).bQ s.bQ)) (hs:fU key l)
  (hl:l.length<=1048576) (hN:4194304<=N): ∃r,vc N l s φ=some r/\(bif (!r.2) then (some (-1)) else (some r.1))=some (nat? key l s):=by
 unfold vc
 have h:=qC (S:=Int×Int) (R:=Empty)
  (body:=(fun(s2:Int×Int)=>(bif (decide (s2.1<s2.2)) then ((idx l (IntKind.wrap .i64 (Int.fdiv (IntKind.wrap .u64 (IntKind.wrap .i64 (s2.1+s2.2))) 2))).bind fun x13=>(φ x13 s).bind fun x16=>(bif (decide (x16<0)) then (some ((IntKind.wrap .i64 ((IntKind.wrap .i64 (Int.fdiv (IntKind.wrap .u64 (IntKind.wrap .i64 (s2.1+s2.2))) 2))+1)),s2.2)) else (some (s2.1,(IntKind.wrap .i64 (Int.fdiv (IntKind.wrap .u64 (IntKind.wrap .i64 (s2.1+s2.2))) 2))))).bind fun s17=>some (.nx (s17.1,s17.2))) else (some (.br (s2.1,s2.2))):Option (Fl (Int×Int) Empty))))
  (fun st=>∃a b:Nat,st= (((a:Nat):Int),((b:Nat):Int))/\a<=b/\b<=l.length/\(∀j x,j<a->l[j]? =some x->aT.lt (key x) s)/\(∀j x,b<=j->l[j]? =some x->¬aT.lt (key x) s))
  (fun st=>(st.2 - st.1).toNat)
  (fun st=>∃a:Nat,st.1= ((a:Nat):Int)/\a<=l.length/\(∀j x,j<a->l[j]? =some x->aT.lt (key x) s)/\(∀j x,a<=j->l[j]? =some x->¬aT.lt (key x) s))
  (fun _=>True) (by
   rintro st ⟨a,b,rfl,hab,hb,h1,h2⟩
   by_cases hlt:a<b
   ·have hm: (a+b) / 2<l.length:=by omega
    have hd:decide (((a:Nat):Int)< ((b:Nat):Int))=true:=by grind
    simp only [hd,bJ,t5 hlt (by omega),gw l _ hm,aA,hφ]
    by_cases hc:Lib.compareBytes (key l[(a+b) / 2]).bQ s.bQ<0
    ·have hc':aT.lt (key l[(a+b) / 2]) s:=(jq _ _).1 hc
     simp only [hc,decide_true,bJ,aA]
     refine⟨_,rfl,⟨(a+b) / 2+1,b,?_,by omega,hb,fun j x hj hx=>?_,h2⟩,?_⟩
     ·grind [dz]
     ·by_cases e:j= (a+b) / 2
      ·grind
      ·exact aT.lt_trans (hs j _ x _ (by omega) hx (aN hm)) hc'
     grind [dz]
    ·have hc': ¬aT.lt (key l[(a+b) / 2]) s:=fun h=>hc ((jq _ _).2 h)
     simp only [hc,decide_false,bL,aA]
     refine⟨_,rfl,⟨a,(a+b) / 2,rfl,by omega,by omega,h1,fun j x hj hx=>?_⟩,by omega⟩
     by_cases e:j= (a+b) / 2
     ·grind
     ·exact fun h3=>hc' (aT.lt_trans (hs _ j _ x (by omega) (aN hm) hx) h3)
   ·have hd:decide (((a:Nat):Int)< ((b:Nat):Int))=false:=by rw [decide_eq_false_iff_not];omega
    simp only [hd,bL]
    exact⟨_,rfl,a,rfl,by omega,h1,fun j x hj hx=>h2 j x (by omega) hx⟩)
  N (0,((l.length:Nat):Int)) ⟨0,l.length,rfl,by omega,bP _,fun j x hj=>by omega,fun j x hj hx=>by have:=(bM.1 hx).1;omega⟩ (by simp only;omega)
 obtain⟨o,ho,hc⟩:=h
 rw [ho,aA]
 cases o with
 | rt r=>exact r.elim
 | go st=>
  obtain⟨a,ha,hle,h1,h2⟩:=hc
  simp only [Fo.cs,ha]
  by_cases hlt:a<l.length
  ·have hd:decide (((a:Nat):Int)< ((l.length:Nat):Int))=true:=by rw [fx];omega
   simp only [hd,bJ,gw l _ hlt,aA,hφ]
   refine⟨_,rfl,?_⟩
   by_cases he:key l[a]=s
   ·have e0:Lib.compareBytes (key l[a]).bQ s.bQ=0:=(iD _ _).2 (by rw [he])
    simp only [e0,BEq.rfl,qc,bL]
    unfold nat?
    rw [ky (aN hlt) (ko.2 he) (fun j y hj hy=>by rw [ld];exact aT.pA (h1 j y hj hy))]
   ·have e0: (Lib.compareBytes (key l[a]).bQ s.bQ==0)=false:=by
     rw [beq_eq_false_iff_ne];intro h;exact he (aT.ext' ((iD _ _).1 h))
    simp only [e0,qd,bJ]
    unfold nat?
    rw [wB]
    rw [List.any_eq_false]
    intro x hx
    rw [kh,ld]
    obtain⟨j,hj⟩:=iL hx
    intro hk
    by_cases hja:j<a
    ·exact aT.pA (h1 j x hja hj) hk
    ·by_cases e:j=a
     ·subst e;rw [aN hlt] at hj;injection hj with hj;subst hj;exact he hk
     ·have h3:=hs a j _ x (by omega) (aN hlt) hj
      rw [hk] at h3
      exact h2 a _ (bP _) (aN hlt) h3
  ·have hd:decide (((a:Nat):Int)< ((l.length:Nat):Int))=false:=by rw [decide_eq_false_iff_not];omega
   simp only [hd,bL,aA]
   refine⟨_,rfl,?_⟩
   simp only [qd,bJ]
   unfold nat?
   rw [wB]
   rw [List.any_eq_false]
   intro x hx
   rw [kh,ld]
   obtain⟨j,hj⟩:=iL hx
   have:=(bM.1 hj).1
   exact aT.pA (h1 j x (by omega) hj)
def C6 (key:α->aT) (p0:List α) (p1:aT):Option Int:=
 (kW p0.length (fun(k1:Nat) (_:Unit)=>((idx p0 ((k1:Nat):Int)).bind fun x7=>bif ((key x7).iM p1) then (some (.rt ((k1:Nat):Int))) else (some (.nx ())):Option (Fl (Unit) Int))) ()).bind fun o11=>o11.cs (fun(_:Unit)=>some (-1)) (fun r=>some r)
theorem sT {key:α->aT} {l:List α} {s:aT} (hl:l.length<=4611686018427387904):C6 key l s=some (nat? key l s):=by
 have:=i7 (l:=l) (φ:=fun x=>some ((key x).iM s)) (fun x=>(key x).iM s) hl (fun _ _=>rfl)
 unfold nat?
 rw [<-this];rfl
def gC (key:α->aT) (l:List α) (k:Nat):Bool:=match l[k]?,l[k - 1]? with | some x,some y=>decide (0<k)&&((key x).ks (key y)||(key x).iM (key y)) | _,_=>false
theorem oj (key:α->aT) {l:List α} {k:Nat} {x:α} (hx:l[k]? =some x) (hl:l.length<=1048576):
  (bif (decide (((k:Nat):Int)>0)) then ((idx l (IntKind.wrap .i64 (((k:Nat):Int) - 1))).bind fun y=>some ((key x).ks (key y)||(key x).iM (key y))) else (some false))=some (gC key l k):=by
 grind [bM,gC,cK,jy,gw,aA,aN]
theorem kq {key:α->aT} {l:List α} (h: ∀k,k<l.length->gC key l k=false):fU key l:=by grind [yP,bM,gC,oI,decide_true,x9]
end
end Go.Gk
namespace Go.Gk
open Go Go.ChangeShapes Go.WideShapes Go.RowKit
structure UB (ub: (H:Type)->DataW H->Nat) (ua: (H:Type)->List (DataW H)->Nat):Prop where
 str: ∀(H:Type) (b:List UInt8),ub H (.lit (.string b))=b.length+1
 pos: ∀(H:Type) (d:DataW H),1<=ub H d
 sl: ∀(H:Type) (e s:List (DataW H)),ub H (.slice e s)=ua H e+ua H s+1
 ag: ∀(H:Type) (l:List (DataW H)),ub H (.agg l)=ua H l+1
 nil: ∀(H:Type),ua H []=0
 cons: ∀(H:Type) (x:DataW H) (l:List (DataW H)),ua H (x::l)=ub H x+ua H l
def Hw (w:World):cG:=fun b=>w.heap[b]?
structure gH (ub: (H:Type)->DataW H->Nat) (P:Program) (T:TypeId) (α:Type) [GT α] [Bk α]:Prop where
 trod: ∀{H:Type} {enc:TypeId×Value->H} {w:World} {base:Nat} {spare:Nat->Bool} {held:Bool} {fuel:Nat} {cs:List Value} {d:DataW H×List MemPlace},
  DataW.trod enc P w base spare held fuel T cs=some d->∃x:α,GT.ok (Hw w) cs x/\bk x<=ub H d.1
 Df: ∀{w:World} {r:Reach} {base:Nat} {v:Value},Value.okWide P w r base T v->v=qT α v.cells.toList
section
variable {ub: (H:Type)->DataW H->Nat} {ua: (H:Type)->List (DataW H)->Nat} {P:Program} {T e:TypeId}
theorem yQ (u:UB ub ua) (ht:P.underlying T=some (.int .i64)):gH ub P T Int where
 trod:=fun h=>by
  obtain⟨n,rfl,rfl,_⟩:=DataW.trod_int ht h
  exact⟨n,rfl,u.pos _ _⟩
 Df:=fun h=>by obtain⟨n,rfl⟩:=okWide_int ht h;rfl
theorem yR (u:UB ub ua) (ht:P.underlying T=some .string):gH ub P T aT where
 trod:=fun h=>by
  obtain⟨s,rfl,rfl,_⟩:=DataW.trod_string ht h
  refine⟨⟨s.data.toList⟩,?_,?_⟩
  ·show [Value.string s]= [Gk.str ⟨s.data.toList⟩]
   cases s;rfl
  ·rw [u.str];exact bP _
 Df:=fun h=>by obtain⟨n,rfl⟩:=okWide_string ht h;rfl
theorem rJ {α:Type} {R:Nat->α->Prop}: ∀(n:Nat),(∀i,i<n->∃x,R i x)->∃l:List α,l.length=n/\∀i x,l[i]? =some x->R i x
 | 0,_=>⟨[],rfl,fun i x h=>by simp at h⟩
 | n+1,h=>by
  obtain⟨l,h1,h2⟩:=rJ n (fun i hi=>h i (by omega))
  obtain⟨x,hx⟩:=h n (by omega)
  refine⟨l++[x],by simp [h1],fun i y hy=>?_⟩
  by_cases hi:i<n
  ·rw [il (by omega)] at hy;exact h2 i y hy
  ·have:=(bM.1 hy).1
   rw [cN] at this
   have:i=n:=by simp at this;omega
   subst this
   rw [iq (by omega),h1] at hy
   simp at hy;subst hy;exact hx
theorem t6 {H α:Type} [Bk α] (u:UB ub ua): ∀{l:List α} {es:List (DataW H×List MemPlace)},l.length=es.length->
  (∀(i:Nat) (x:α) (y:DataW H×List MemPlace),l[i]? =some x->es[i]? =some y->bk x<=ub H y.1)->bk l<=ua H (es.map (·.1))+1
 | [],[],_,_=>by rw [xz];omega
 | x::l,y::es,hl,h=>by
  have h1:=h 0 x y rfl rfl
  have h2:=t6 (H:=H) u (l:=l) (es:=es) (by simpa using hl) (fun i x y hx hy=>h (i+1) x y (by simpa using hx) (by simpa using hy))
  rw [qD,iJ,u.cons];omega
theorem wC {w:World} {base:Nat} {a:Addr} {n:Nat} {cs:List Value} (h:w.cells? base a n=some cs):At (Hw w) a cs:=by
 intro j v hv
 obtain⟨_,hlen,hc⟩:=World.cells?_some h
 have hj:=(bM.1 hv).1
 have h2:=hc j (by omega)
 rw [hv] at h2
 unfold qe Hw
 unfold World.cell? at h2
 exact h2
theorem kf {α:Type} [GT α] [Bk α] (u:UB ub ua) (he:gH ub P e α) (ht:P.underlying T=some (.slice e):=by kernel_rfl) (hc:P.cellsOf e=GT.sz α:=by kernel_rfl):gH ub P T (List α) where
 trod:=fun{H enc w base spare held fuel cs d} h=>by
  rcases DataW.trod_slice ht h with ⟨rfl,rfl⟩ | ⟨a,len,cap,elems,rest,n,_,rfl,rfl,_,hlc,hcm,hlen,hel,_⟩
  ·exact⟨[],⟨_,rfl,none,0,0,rfl,rfl,bP _,by simp [maxLen],fun i x hx=>by simp at hx⟩,u.pos _ _⟩
  ·have each: ∀i,i<len->∃x:α,(∃c y,GT.ok (Hw w) c x/\At (Hw w) (a.add (i*GT.sz α)) c/\elems[i]? =some y/\bk x<=ub H y.1):=by
    intro i hi
    have h1:=hel i hi
    rw [aN (by omega:i<elems.length),Option.bind_eq_some_iff] at h1
    obtain⟨c,h2,h3⟩:=h1
    obtain⟨x,h4,h5⟩:=he.trod h3
    refine⟨x,c,_,h4,?_,aN (by omega),h5⟩
    rw [hc] at h2
    exact wC h2
   obtain⟨l,hl,hr⟩:=rJ len each
   refine⟨l,⟨_,rfl,some a,len,cap,rfl,hl.symm,hlc,hcm,fun i x hx=>?_⟩,?_⟩
   ·obtain⟨c,y,h1,h2,_⟩:=hr i x hx
    exact⟨a,c,rfl,h1,h2⟩
   ·have:=t6 (H:=H) u (l:=l) (es:=elems) (by omega) (fun i x y hx hy=>by
     obtain⟨c,y',_,_,h3,h4⟩:=hr i x hx
     rw [hy] at h3;injection h3 with h3;subst h3;exact h4)
    rw [u.sl];omega
 Df:=fun h=>by obtain⟨a,n,c,rfl⟩:=okWide_slice ht h;rfl
def yb (ub: (H:Type)->DataW H->Nat) (ua: (H:Type)->List (DataW H)->Nat) (P:Program) (off:Nat) (fs:List Field) (β:Type) [GT β] (m:β->Nat):Prop:=
 ∀{H:Type} {enc:TypeId×Value->H} {w:World} {base:Nat} {spare:Nat->Bool} {held:Bool} {n:Nat} {cs:List Value} {ys:List (DataW H×List MemPlace)},
  (∀(i:Nat) (f:Field),fs[i]? =some f->DataW.trod enc P w base spare held n f.type ((cs.drop f.offset).take (P.cellsOf f.type))=ys[i]?)->ys.length=fs.length->
  cs.length=off+GT.sz β->∃x:β,GT.ok (Hw w) (cs.drop off) x/\m x<=ua H (ys.map (·.1))
theorem lf {β:Type} [GT β] [Bk β] {off:Nat} {f:Field} (u:UB ub ua) (h:gH ub P f.type β) (ho:f.offset=off:=by exact rfl) (hc:P.cellsOf f.type=GT.sz β:=by kernel_rfl):yb ub ua P off [f] β bk:=by
 intro H enc w base spare held n cs ys hf hl hcs
 match ys,hl with
 | [y],_=>
  have h1:=hf 0 f rfl
  rw [ho,hc,kT (by rw [dG];omega)] at h1
  obtain⟨x,h2,h3⟩:=h.trod (d:=y) h1
  exact⟨x,h2,by rw [iJ,u.cons];omega⟩
theorem iE {α β:Type} [GT α] [GT β] [Bk α] {off off':Nat} {f:Field} {fs:List Field} {m:β->Nat} (u:UB ub ua) (h:gH ub P f.type α) (hr:yb ub ua P off' fs β m) (ho:f.offset=off:=by exact rfl) (hc:P.cellsOf f.type=GT.sz α:=by kernel_rfl) (hoff:off'=off+GT.sz α:=by exact rfl):yb ub ua P off (f::fs) (α×β) (fun x=>bk x.1+m x.2):=by
 intro H enc w base spare held n cs ys hf hl hcs
 have hsz:GT.sz (α×β)=GT.sz α+GT.sz β:=rfl
 match ys,hl with
 | y::ys,hl=>
  have h1:=hf 0 f rfl
  rw [ho,hc] at h1
  obtain⟨x,h2,h3⟩:=h.trod (d:=y) h1
  obtain⟨x',h4,h5⟩:=hr (n:=n) (cs:=cs) (ys:=ys) (fun i g hg=>hf (i+1) g hg) (by simpa using hl) (by omega)
  refine⟨(x,x'),⟨_,_,?_,h2,h4⟩,?_⟩
  ·rw [hoff,<-List.drop_drop,List.take_append_drop]
  ·rw [iJ,u.cons];show bk x+m x'<=_;omega
theorem iU {γ β:Type} [GT β] [Bk γ] {fs:Array Field} {m:β->Nat} (u:UB ub ua) (f:γ->β) (g:β->γ) (hfg: ∀b,f (g b)=b) (ht:P.underlying T=some (.struct fs)) (h:yb ub ua P 0 fs.toList β m) (hm: ∀b,bk (g b)<=m b+1) (hc:P.cellsOf T=GT.sz β:=by kernel_rfl): @gH ub P T γ (GT.via f) _:=
 @gH.mk ub P T γ (GT.via f) _
  (fun{H enc w base spare held fuel cs d} hd=>by
   obtain⟨xs,n,_,rfl,hl,hlen,hf⟩:=DataW.trod_struct ht hd
   obtain⟨b,h1,h2⟩:=h (n:=n) (cs:=cs) (ys:=xs) (fun i g hg=>hf i g (by rw [<-Array.getElem?_toList];exact hg)) (by rw [hlen];simp) (by omega)
   refine⟨g b,?_,?_⟩
   ·show GT.ok (Hw w) cs (f (g b))
    rw [hfg];exact h1
   ·rw [u.ag];have:=hm b;omega)
  (fun hv=>by
   obtain⟨cs,rfl,_⟩:=okWide_struct ht hv
   cases cs;rfl)
theorem gH.arg {H:Type} {enc:TypeId×Value->H} {w:World} {base:Nat} {spare:Nat->Bool} {held:Bool} {r:Reach} {b0:Nat} {v:Value} {d:DataW H} {ps:List MemPlace} {α:Type} [GT α] [Bk α] (o:gH ub P T α)
  (hv:Value.okWide P w r b0 T v) (hd:DataW.Trod enc P w base spare held T v d ps): ∃x:α,po (Hw w) v x/\bk x<=ub H d:=by
 obtain⟨fuel,hf⟩:=hd
 obtain⟨x,h1,h2⟩:=o.trod hf
 exact⟨x,⟨_,o.Df hv,h1⟩,h2⟩
end
theorem Calls.fin {P:Program} {f:FuncId} {args:Array Value} {w:World} {R Q:Value->World->Prop} (h:Calls P f args w (eT R)) (k: ∀v w',R v w'->Q v w'):
  Calls P f args w (fun e W'=>∃v,e = .returned v/\Q v W'):=Calls.mono h fun _ w' ⟨v,e,hr⟩=>⟨v,e,k v w' hr⟩
def yS (W:World):HP:=⟨fun M h=>hle (Hw W) M/\h=kF,fun k ⟨a,b⟩=>⟨yo a k,b⟩⟩
theorem Holds.begin (W:World):Holds W W [yS W]:=by
 refine⟨Hw W,fun _=>kF,⟨rfl,rfl,rfl,bP _,fun b o h=>h,fun i Pr hq=>?_,fun _ _ _ _ h=>(by cases h),fun _ _ _ _ h=>(by cases h),fun _ _ _ _ _ _ _ h=>(by cases h)⟩⟩
 match i,hq with
 | 0,hq=>simp at hq;subst hq;exact⟨zu _,rfl⟩
theorem Holds.Bw {α:Type} [GT α] {W:World} {V:List HP} {v:Value} {x:α} (h:Holds W W (V++[yS W])) (hv:Gk.po (Hw W) v x):Holds W W (rd v x::(V++[yS W])):=
 h.tm fun M hs g=>by
  have h1:=(g.sat V.length (yS W) (by simp)).1
  exact⟨hv.mono h1,rfl⟩
theorem Holds.kept {E W w:World} {V:List HP} (h:Holds E w (V++[yS W])) (he:E=W):Below W.heap.size W w:=by
 subst he
 obtain⟨M,hs,g⟩:=h
 have h1:=(g.sat V.length (yS E) (by simp)).1
 have h2: ∀k o,E.heap[k]? =some o->w.heap[k]? =some o:=fun k o ho=>g.im k o (h1 k o ho)
 refine⟨g.os,g.tape,g.out,?_,fun k hk=>?_⟩
 ·by_cases h0:E.heap.size=0
  ·omega
  ·have h3:=h2 (E.heap.size - 1) _ (dw (by omega))
   have:=(Array.getElem?_eq_some_iff.1 h3).1
   omega
 ·rw [dw hk];exact h2 k _ (dw hk)
section
variable {H:Type} {enc:TypeId×Value->H} {P:Program}
theorem yT {f:Func} {s:ChangeSpec} {apart fresh handsOn again:Bool} {W W':World} {args:Array Value} {v:Value} {ds gs:List (DataW H)} {before pa pv:List MemPlace}
  (hW:DataW.Whole enc P f.params.toList s.vars apart W args.toList ds gs before)
  (hres: ∀(b:Nat) (sp:Nat->Bool) (hd:Bool),DataW.TrodAll enc P W' b sp hd f.resultTypes.toList (v.resultList f.resultTypes.size) (s.fn H (ds++gs)).results [])
  (hargs: ∀sp:Nat->Bool,(∀p∈before,sp p.block=true)->DataW.TrodAll enc P W' 0 sp true f.params.toList args.toList (s.fn H (ds++gs)).args pa)
  (hvars: ∀sp:Nat->Bool,(∀p∈before,sp p.block=true)->DataW.TrodVars enc P W' sp s.vars (s.fn H (ds++gs)).vars pv)
  (hps:before=pa++pv) (hb:Below W.heap.size W W')
  (hok: ∀(j:Nat) (t:TypeId) (r:Value),f.resultTypes[j]? =some t->(v.resultList f.resultTypes.size)[j]? =some r->Value.okWide P W' .any 0 t r):
  s.post enc P f apart fresh handsOn again W args v W':=by
 have hlt: ∀p∈before,p.block<W.heap.size:=fun p hp=>hW.lt p hp
 have hold: ∀p∈before,(fun b=>decide (b<W.heap.size)) p.block=true:=fun p hp=>by simpa using hlt p hp
 refine⟨ds,gs,before,[],pa,pv,hW,hres _ _ _,hargs _ hold,hvars _ hold,World.keptBut_mono (fun p hp=>⟨hp,?_⟩) (hb.frame (· ∈before)),fun _=>?_⟩
 ·rw [hps,jH] at hp
  exact Or.inr hp
 ·obtain⟨_,_,_,_,_,hz,hn⟩:=hW
  refine⟨hok,_,_,([]++pa)++pv,⟨[]++pa,pv,trodAll_append (hargs _ (fun _ _=>rfl)) (hres _ _ _),hvars _ (fun _ _=>rfl),rfl,?_,?_⟩,?_⟩
  ·intro b off hp
   have hin:MemPlace.cell b off∈before:=by rw [hps];simpa using hp
   rw [hb.frozen (hlt _ hin)]
   exact hz b off hin
  ·intro ha
   have:=hn ha
   rw [hps] at this
   simpa using this
  ·intro p hp _
   rw [hps]
   simpa using hp
theorem pB {W W':World} (hl:laidOutB P=true) (hb:Below W.heap.size W W') {sp:Nat->Bool}: ∀{ts:List TypeId} {vs:List Value} {ds:List (DataW H)} {ps:List MemPlace},
  (∀t∈ts,P.readableRec t=true/\t<P.types.size)->DataW.TrodAll enc P W 0 (fun _=>true) true ts vs ds ps->(∀p∈ps,p.block<W.heap.size)->(∀p∈ps,sp p.block=true)->DataW.TrodAll enc P W' 0 sp true ts vs ds ps
 | [],_,_,_,_,h,_,_=>by
  obtain⟨rfl,rfl,rfl⟩:=trodAll_nil h
  rfl
 | t::ts,_,_,_,ht,h,hlt,hsp=>by
  obtain⟨v,vs,d,ds,p,q,rfl,rfl,rfl,h1,h2⟩:=trodAll_cons h
  refine⟨p,q,?_,pB hl hb (fun t h=>ht t (by simp [h])) h2 (fun x hx=>hlt x (by simp [hx])) (fun x hx=>hsp x (by simp [hx])),rfl⟩
  exact WideElems.Trod_stays hl (ht t (by simp)).1 (ht t (by simp)).2 h1 (fun x hx=>hb.same (hlt x (by simp [hx]))) (fun x hx=>hsp x (by simp [hx]))
end
end Go.Gk
namespace Go.Gk
open Go
instance:Bk aU:=⟨fun x=>bk x.Name+bk x.Kind+bk x.aW+1,fun _=>by omega⟩
theorem pT (x:aU):bk x=bk x.Name+bk x.Kind+bk x.aW+1:=rfl
instance:Bk aD:=⟨fun x=>bk x.Name+bk x.aP+1,fun _=>by omega⟩
theorem jz (x:aD):bk x=bk x.Name+bk x.aP+1:=rfl
instance:Bk Part:=⟨fun x=>bk x.Name+bk x.cE+1,fun _=>by omega⟩
theorem ve (x:Part):bk x=bk x.Name+bk x.cE+1:=rfl
instance:Bk bT:=⟨fun x=>bk x.Part+bk x.bT+1,fun _=>by omega⟩
theorem BZ (x:bT):bk x=bk x.Part+bk x.bT+1:=rfl
instance:Bk Net:=⟨fun x=>bk x.Name+bk x.aP+bk x.kQ+1,fun _=>by omega⟩
theorem ri (x:Net):bk x=bk x.Name+bk x.aP+bk x.kQ+1:=rfl
instance:Bk aH:=⟨fun x=>bk x.aK+bk x.aY+1,fun _=>by omega⟩
theorem lx (x:aH):bk x=bk x.aK+bk x.aY+1:=rfl
instance:Bk aQ:=⟨fun x=>bk x.part+bk x.iZ+bk x.mark+1,fun _=>by omega⟩
instance:Bk aB:=⟨fun x=>bk x.e0+bk x.e1+1,fun _=>by omega⟩
instance:Bk aM:=⟨fun x=>bk x.t+bk x.l+bk x.parts+bk x.qp+1,fun _=>by omega⟩
end Go.Gk
namespace Go.Gk
open Go Go.Sort
section
variable {α:Type}
theorem rK {β:Type} (a:Array β) {n:Nat} (h:a.size=n):a.extract 0 n=a:=by grind
theorem B0 {φ:α->α->Option Int} {l:List α} (cf:α->α->Int) (hφ: ∀x∈l,∀y∈l,φ x y=some (cf x y)) (h1: ∀x∈l,¬cf x x<0)
  (h2: ∀x∈l,∀y∈l,∀z∈l,cf x y<0->cf y z<0->cf x z<0) (h3: ∀x∈l,∀y∈l,∀z∈l,¬cf x y<0->¬cf y z<0->¬cf x z<0):SWO (Bm (sK φ l)):=by
 have hm: ∀i:Fin l.length,l[i]∈l:=fun i=>d3 i.isLt
 have e: ∀i j:Fin l.length,sK φ l i j=cf l[i] l[j]:=fun i j=>by grind [sK]
 refine⟨fun x=>?_,fun x y z=>?_,fun x y z=>?_⟩
 all_goals grind [Bm,decide_eq_false_iff_not]
theorem Af {φ:α->α->Option Int} {l:List α} (cf:α->α->Int) (hφ: ∀x∈l,∀y∈l,φ x y=some (cf x y)) (h1: ∀x∈l,¬cf x x<0)
  (h2: ∀x∈l,∀y∈l,∀z∈l,cf x y<0->cf y z<0->cf x z<0) (h3: ∀x∈l,∀y∈l,∀z∈l,¬cf x y<0->¬cf y z<0->¬cf x z<0) (hl:l.length<4611686018427387904):
  ∃m,nG φ l=some m/\m.Perm l/\m.Pairwise (fun x y=>¬cf y x<0):=by
 have hO:=B0 cf hφ h1 h2 h3
 have hm: ∀i:Fin l.length,l[i]∈l:=fun i=>d3 i.isLt
 have hc: (∀i j:Fin l.length,∃c,φ l[i] l[j]=some c):=fun i j=>⟨_,hφ _ (hm i) _ (hm j)⟩
 refine⟨vX φ l,by simp_all [nG,aG],?_⟩
 unfold vX
 by_cases hn:0<l.length
 ·rw [dif_pos hn]
  letI inh:Inhabited (Fin l.length):=⟨⟨0,hn⟩⟩
  have hds: (Array.ofFn fun i:Fin l.length=>i).size=l.length:=by simp
  obtain⟨hp,hs⟩:=pdq_sorts (Bm (sK φ l)) hO (Array.ofFn fun i:Fin l.length=>i) 0 l.length (Lib.bitLen l.length) true true (kU _) (by omega) (Or.inl rfl)
  show (List.map (fun i=>l[i]) (pdq (Bm (sK φ l)) (Array.ofFn fun i:Fin l.length=>i) 0 l.length (Lib.bitLen l.length) true true).toList).Perm l/\_
  generalize pdq (Bm (sK φ l)) (Array.ofFn fun i:Fin l.length=>i) 0 l.length (Lib.bitLen l.length) true true=d' at hp hs
  obtain⟨hz,_,hpm⟩:=hp
  have hz':d'.size=l.length:=hz.trans hds
  rw [rK d' hz',rK _ hds] at hpm
  have hof: (Array.ofFn fun i:Fin l.length=>i).toList.map (fun i=>l[i])=l:=by
   rw [Array.toList_ofFn,List.map_ofFn]
   exact List.ofFn_getElem
  refine⟨(hpm.map (fun i=>l[i])).trans (List.Perm.of_eq hof),?_⟩
  rw [List.pairwise_map,lY]
  intro i j hi hj hij
  rw [Array.length_toList] at hi hj
  have:=hs i j (kU _) hij (by omega)
  grind [sK,Bm,decide_eq_false_iff_not]
 ·rw [dif_neg hn]
  have:l= []:=List.length_eq_zero_iff.1 (by omega)
  subst this
  exact⟨List.Perm.refl _,List.Pairwise.nil⟩
end
end Go.Gk
namespace Go.Gk
open Go
def Ok {β:Type} (o:Option β) (P:β->Prop):Prop:=∃r,o=some r/\P r
section
variable {α β S R:Type} {P:α->Prop} {Q:β->Prop}
theorem Ok.ret {x:β} (h:Q x):Ok (some x) Q:=⟨x,rfl,h⟩
theorem Ok.of {o:Option β} {x:β} (h:o=some x) (hq:Q x):Ok o Q:=⟨x,h,hq⟩
theorem Ok.mono {o:Option α} {P':α->Prop} (h:Ok o P) (k: ∀x,P x->P' x):Ok o P':=by obtain⟨x,h1,h2⟩:=h;exact⟨x,h1,k x h2⟩
theorem Ok.bind {o:Option α} {f:α->Option β} (h:Ok o P) (k: ∀x,P x->Ok (f x) Q):Ok (o.bind f) Q:=by
 obtain⟨x,h1,h2⟩:=h;grind
theorem Ok.eq {o:Option α} {f:α->Option β} {x:α} (h:o=some x) (k:Ok (f x) Q):Ok (o.bind f) Q:=by grind
theorem Ok.bif {b:Bool} {x y:Option β} (ht:b=true->Ok x Q) (hf:b=false->Ok y Q):Ok (bif b then x else y) Q:=by
 grind
theorem Ok.get {o:Option β} {x:β} (h:Ok o (fun r=>r=x)):o=some x:=by obtain⟨r,h1,h2⟩:=h;rw [h1,h2]
def Dg (Go:S->Prop) (Rt:R->Prop):Fo S R->Prop | .go s=>Go s | .rt r=>Rt r
def C8 (Nx Br:S->Prop) (Rt:R->Prop):Fl S R->Prop | .nx s=>Nx s | .br s=>Br s | .rt r=>Rt r
theorem Ok.nx {Nx Br:S->Prop} {Rt:R->Prop} {s:S} (h:Nx s):Ok (some (Fl.nx s)) (C8 Nx Br Rt):=⟨_,rfl,h⟩
theorem Ok.br {Nx Br:S->Prop} {Rt:R->Prop} {s:S} (h:Br s):Ok (some (Fl.br s)) (C8 Nx Br Rt):=⟨_,rfl,h⟩
theorem Ok.rt {Nx Br:S->Prop} {Rt:R->Prop} {r:R} (h:Rt r):Ok (some (Fl.rt r:Fl S R)) (C8 Nx Br Rt):=⟨_,rfl,h⟩
theorem Ok.cs {Go:S->Prop} {Rt:R->Prop} {o:Fo S R} {f:S->Option β} {g:R->Option β} (h:Dg Go Rt o) (hf: ∀s,Go s->Ok (f s) Q) (hg: ∀r,Rt r->Ok (g r) Q):Ok (o.cs f g) Q:=by
 cases o with
 | go s=>exact hf s h
 | rt r=>exact hg r h
theorem Ok.iY {body:Nat->S->Option S} {m:Nat} {s:S} (Inv:Nat->S->Prop) (hm:m<=4611686018427387904) (h0:Inv 0 s) (h: ∀k s,k<m->Inv k s->Ok (body k s) (Inv (k+1))):Ok (iY m body s) (Inv m):=
 A4 Inv hm h0 h
theorem Ok.kW {body:Nat->S->Option (Fl S R)} {m:Nat} {s:S} (Inv:Nat->S->Prop) {Go:S->Prop} {Rt:R->Prop} (hm:m<=4611686018427387904) (h0:Inv 0 s)
  (h: ∀k s,k<m->Inv k s->Ok (body k s) (C8 (Inv (k+1)) Go Rt)) (hg: ∀s,Inv m s->Go s):Ok (kW m body s) (Dg Go Rt):=by
 obtain⟨o,h1,h2⟩:=A3 (R:=R) Inv Go Rt hm h0 (fun k s hk hi=>by
  obtain⟨fl,a1,a2⟩:=h k s hk hi
  exact⟨fl,a1,by cases fl <;> exact a2⟩) hg
 exact⟨o,h1,by cases o <;> exact h2⟩
theorem Ok.lh {body:S->Option (Fl S R)} {N:Nat} {s:S} (Inv:S->Prop) (μ:S->Nat) {Go:S->Prop} {Rt:R->Prop}
  (h: ∀s,Inv s->Ok (body s) (C8 (fun s'=>Inv s'/\μ s'<μ s) Go Rt)) (hi:Inv s) (hn:μ s<N):Ok (lh body N s) (Dg Go Rt):=by
 obtain⟨o,h1,h2⟩:=qC (R:=R) Inv μ Go Rt (fun s hi=>by
  obtain⟨fl,a1,a2⟩:=h s hi
  exact⟨fl,a1,by cases fl <;> exact a2⟩) N s hi hn
 exact⟨o,h1,by cases o <;> exact h2⟩
theorem Ok.app {b:Nat} {l ys:List α} {f:List α->Option β} (h: (l.length+ys.length)*b<=140737488355328) (k:Ok (f (l++ys)) Q):Ok ((Go.Gk.app b l ys).bind f) Q:=by grind [dR]
theorem Ok.idx {l:List α} {i:Nat} {f:α->Option β} (h:i<l.length) (k:Ok (f l[i]) Q):Ok ((Go.Gk.idx l ((i:Nat):Int)).bind f) Q:=by grind [gw]
theorem Ok.ix {l:List α} {i:Nat} {x:α} {f:α->Option β} (h:l[i]? =some x) (k:Ok (f x) Q):Ok ((Go.Gk.idx l ((i:Nat):Int)).bind f) Q:=by grind [cB]
end
theorem wrap_add {n m:Nat} (h:n+m<=4611686018427387904):IntKind.wrap .i64 (((n:Nat):Int)+ ((m:Nat):Int))= ((n+m:Nat):Int):=by grind [dz]
theorem gX {n:Nat} (h:n+1<=4611686018427387904):IntKind.wrap .i64 (((n:Nat):Int)+1)= ((n+1:Nat):Int):=by grind [dz]
theorem kM {α:Type} [DecidableEq α]: ∀{l m:List α},l.Nodup->(∀x∈l,x∈m)->l.length<=m.length
 | [],m,_,_=>kU _
 | a::l,m,hn,hs=>by
  have ha:a∈m:=hs a (by simp)
  have hn':=List.nodup_cons.1 hn
  have:=kM (l:=l) (m:=m.erase a) hn'.2 (fun x hx=>by
   grind)
  rw [List.length_erase_of_mem ha] at this
  have:=List.length_pos_of_mem ha
  simp;omega
section
variable {α:Type} {N:Nat}
end
section
variable {κ ν:Type} [DecidableEq κ]
theorem yV (m:List (κ×ν)) (k k':κ) (x z:ν):ia (lj m k x) k' z=if k'=k then x else ia m k' z:=by
 induction m with
 | nil=>grind [lj,ia]
 | cons p m ih=>
  grind [lj,ia,bW,cK]
theorem yW (m:List (κ×ν)) (k k':κ) (x:ν):ka (lj m k x) k'= (decide (k'=k)||ka m k'):=by
 induction m with
 | nil=>rfl
 | cons p m ih=>
  unfold lj
  grind [ka,bW,decide]
def lG (m:List (κ×ν)) (l:List κ) (x:ν):List (κ×ν):=l.foldl (fun m k=>lj m k x) m
theorem sV (l:List κ) (x z:ν) (k:κ): ∀(m:List (κ×ν)),ia (lG m l x) k z=if k∈l then x else ia m k z:=by
 induction l with
 | nil=>simp [lG]
 | cons a l ih=>
  intro m
  show ia (lG (lj m a x) l x) k z=_
  grind [yV]
theorem xB (l:List κ) (x:ν) (k:κ): ∀(m:List (κ×ν)),ka (lG m l x) k= (decide (k∈l)||ka m k):=by
 induction l with
 | nil=>simp [lG]
 | cons a l ih=>
  intro m
  show ka (lG (lj m a x) l x) k=_
  grind [yW]
theorem t8 {l:List κ} {m:List (κ×ν)} (x:ν) (hl:l.length<=4611686018427387904):
  iY l.length (fun(k:Nat) (s:List (κ×ν))=>((idx l ((k:Nat):Int)).bind fun y=>some (lj s y x):Option (List (κ×ν)))) m=some (lG m l x):=by
 rw [kX (s:=m) (fun k=>lG m (l.take k) x) hl rfl (fun k hk=>by
  grind [gw,aA,lG,fw]),eB]
end
end Go.Gk
namespace Go.Gk
open Go
structure k8 {α:Type} (cf:α->α->Int):Prop where
 refl: ∀x,cf x x=0
 eq: ∀x y,cf x y=0->x=y
 vg: ∀x y,cf x y<0↔0<cf y x
 trans: ∀x y z,cf x y<0->cf y z<0->cf x z<0
def fz (a b:Int):Int:=if a<b then -1 else if b<a then 1 else 0
def cmpL:List Int->List Int->Int
 | [],[]=>0
 | [],_::_=> -1
 | _::_,[]=>1
 | x::a,y::b=>if x<y then -1 else if y<x then 1 else cmpL a b
theorem mN: ∀a:List Int,cmpL a a=0
 | []=>rfl
 | x::a=>by unfold cmpL;rw [aJ (by omega),aJ (by omega)];exact mN a
theorem cmpL_eq: ∀a b:List Int,cmpL a b=0->a=b
 | [],[],_=>rfl
 | [],_::_,h=>by unfold cmpL at h;omega
 | _::_,[],h=>by unfold cmpL at h;omega
 | x::a,y::b,h=>by
  unfold cmpL at h
  split at h
  ·omega
  split at h
  ·omega
  have:=cmpL_eq a b h
  have:x=y:=by omega
  grind
theorem rm: ∀a b:List Int,cmpL a b<0↔0<cmpL b a
 | [],[]=>by unfold cmpL;omega
 | [],_::_=>by unfold cmpL;omega
 | _::_,[]=>by unfold cmpL;omega
 | x::a,y::b=>by
  have:=rm a b
  unfold cmpL
  split <;> split <;> (try split) <;> omega
theorem p5: ∀a b c:List Int,cmpL a b<0->cmpL b c<0->cmpL a c<0
 | [],[],c,h,_=>by unfold cmpL at h;omega
 | [],y::b,[],h,h2=>by unfold cmpL at h2;omega
 | [],y::b,z::c,h,h2=>by unfold cmpL;omega
 | x::a,[],c,h,_=>by unfold cmpL at h;omega
 | x::a,y::b,[],h,h2=>by unfold cmpL at h2;omega
 | x::a,y::b,z::c,h,h2=>by
  have:=p5 a b c
  unfold cmpL at h h2 ⊢
  repeat' split at h
  all_goals repeat' split at h2
  all_goals repeat' split
  all_goals omega
theorem ik:k8 cmpL:=⟨mN,cmpL_eq,rm,p5⟩
section
variable {α:Type} {cf:α->α->Int}
def SD (cf:α->α->Int) (d:List α):Prop:=d.Pairwise fun x y=>cf x y<0
theorem k8.B1 (h:k8 cf) (x y:α):cf x y<0\/x=y\/cf y x<0:=by
 have h2:=h.vg y x
 by_cases h0:cf x y=0
 ·exact .inr (.inl (h.eq x y h0))
 ·omega
theorem k8.Cd (h:k8 cf) {x:α} (hx:cf x x<0):False:=by have:=h.refl x;omega
theorem SD.nodup (h:k8 cf) {d:List α} (hd:SD cf d):d.Nodup:=List.Pairwise.imp (S:=fun a b=>a≠b) (fun{a b} hab e=>by subst e;exact h.Cd hab) hd
theorem SD.ext (h:k8 cf) {d e:List α} (hd:SD cf d) (he:SD cf e) (hm: ∀x,x∈d↔x∈e):d=e:=by
 have hp:d.Perm e:=by
  classical
  rw [List.perm_iff_count]
  intro x
  have h1:=List.nodup_iff_count.1 (hd.nodup h) x
  have h2:=List.nodup_iff_count.1 (he.nodup h) x
  by_cases hx:x∈d
  ·have:=List.count_pos_iff.2 hx
   have:=List.count_pos_iff.2 ((hm x).1 hx)
   omega
  ·rw [List.count_eq_zero_of_not_mem hx,List.count_eq_zero_of_not_mem (fun hh=>hx ((hm x).2 hh))]
 exact List.Perm.eq_of_pairwise (le:=fun a b=>cf a b<0) (fun a b _ _ h1 h2=>(h.Cd (h.trans _ _ _ h1 h2)).elim) hd he hp
def d6 (cf:α->α->Int) (l d:List α):Prop:=SD cf d/\∀x,x∈d↔x∈l
theorem d6.uniq (h:k8 cf) {l m d e:List α} (hd:d6 cf l d) (he:d6 cf m e) (hm: ∀x,x∈l↔x∈m):d=e:=
 hd.1.ext h he.1 fun x=>by rw [hd.2,he.2,hm]
theorem d6.len [DecidableEq α] (h:k8 cf) {l d:List α} (hd:d6 cf l d):d.length<=l.length:=kM (hd.1.nodup h) fun x hx=>(hd.2 x).1 hx
def rn [DecidableEq α] (d:List α) (x:α):Int:=t3 d fun y=>decide (x=y)
theorem B2 [DecidableEq α] {d:List α} (hn:d.Nodup) {k:Nat} {x:α} (hk:d[k]? =some x):rn d x= ((k:Nat):Int):=by
 refine ky hk (by simp) fun j y hj hy=>?_
 rw [decide_eq_false_iff_not]
 rintro rfl
 have h1:=(bM.1 hk).1
 have h2:=(bM.1 hy).1
 have:=(List.getElem_inj hn (h₀:=h2) (h₁:=h1)).1 (by grind)
 omega
theorem Ag [DecidableEq α] {d:List α} {x:α} (hx:x∈d): ∃k,k<d.length/\rn d x= ((k:Nat):Int)/\d[k]? =some x:=by
 rcases hZ d (fun y=>decide (x=y)) with ⟨h1,h2⟩ | ⟨k,y,h1,h2,h3,h4⟩
 ·have:=h2 x hx;simp at this
 ·have:=of_decide_eq_true h3
  subst this
  exact⟨k,(bM.1 h2).1,h1,h2⟩
theorem wF [DecidableEq α] (h:k8 cf) {l d:List α} (hd:d6 cf l d):d6 fz (l.map (rn d)) ((List.range d.length).map fun(k:Nat)=>(k:Int)):=by
 refine⟨?_,fun x=>?_⟩
 ·unfold SD
  rw [List.pairwise_map]
  refine List.Pairwise.imp (fun{a b} hab=>?_) List.pairwise_lt_range
  unfold fz
  rw [aG (by omega)];decide
 ·simp only [ez,d5]
  constructor
  ·rintro⟨k,hk,rfl⟩
   exact⟨d[k],(hd.2 _).1 (d3 hk),B2 (hd.1.nodup h) (aN hk)⟩
  ·rintro⟨y,hy,rfl⟩
   obtain⟨k,hk,h1,_⟩:=Ag ((hd.2 y).2 hy)
   exact⟨k,hk,h1.symm⟩
theorem jt:k8 fz:=by
 refine⟨fun x=>?_,fun x y h=>?_,fun x y=>?_,fun x y z h h2=>?_⟩
 ·unfold fz;split <;> (try split) <;> omega
 ·unfold fz at h;split at h <;> (try split at h) <;> omega
 ·unfold fz;split <;> split <;> (try split) <;> omega
 ·have h3:x<y:=by unfold fz at h;split at h <;> (try split at h) <;> omega
  have h4:y<z:=by unfold fz at h2;split at h2 <;> (try split at h2) <;> omega
  unfold fz;rw [aG (by omega)];omega
def SW (cf:α->α->Int) (d:List α):Prop:=d.Pairwise fun x y=>¬cf y x<0
theorem SW.uniq (h:k8 cf) {l m:List α} (hl:SW cf l) (hm:SW cf m) (hp:l.Perm m):l=m:=
 List.Perm.eq_of_pairwise (le:=fun a b=>¬cf b a<0) (fun a b _ _ h1 h2=>by rcases h.B1 a b with e | e | e <;> grind) hl hm hp
theorem k8.sort (h:k8 cf) {φ:α->α->Option Int} {l:List α} (hφ: ∀x∈l,∀y∈l,φ x y=some (cf x y)) (hl:l.length<4611686018427387904): ∃m,nG φ l=some m/\m.Perm l/\SW cf m:=
 Af cf hφ (fun x _=>fun hx=>h.Cd hx) (fun x _ y _ z _=>h.trans x y z) (fun x _ y _ z _ h1 h2 h3=>by
  rcases h.B1 x y with e | e | e
  ·exact h1 e
  ·subst e;exact h2 h3
  ·exact h2 (h.trans _ _ _ e h3)) hl
end
section
variable {α β:Type} [DecidableEq β] {cf:α->α->Int} {cg:β->β->Int}
theorem yc {l:List α} {m:List β} {d:List α} {e:List β} (hd:d6 cf l d) (hc:k8 cg) (he:d6 cg m e) (f:α->β) (hf: ∀y∈m,∃x∈l,f x=y):e.length<=d.length:=by
 have:=kM (m:=d.map f) (he.1.nodup hc) (fun y hy=>by
  obtain⟨x,hx,rfl⟩:=hf y ((he.2 y).1 hy)
  exact List.mem_map_of_mem ((hd.2 x).2 hx))
 simpa using this
end
end Go.Gk
namespace Go.Gk
open Go
section
variable {N:Nat}
def yX (c:UInt8):Bool:=
 ((((decide (((c.toNat:Nat):Int)<65))||(decide (((c.toNat:Nat):Int)>90)))&&((decide (((c.toNat:Nat):Int)<97))||(decide (((c.toNat:Nat):Int)>122))))&&((decide (((c.toNat:Nat):Int)<48))||(decide (((c.toNat:Nat):Int)>57))))&&decide (Lib.indexByte [95,43,45,35] c<0)
def isWord (s:aT):Bool:= !s.bQ.any yX&&(decide (1<=s.bQ.length)&&decide (s.bQ.length<=40))
theorem qK (s:aT) (c:UInt8):eE N s ((c.toNat:Nat):Int)=some (Lib.indexByte s.bQ c):=by
 show some (Lib.indexByte s.bQ (Int.toNat ((c.toNat:Nat):Int)).toUInt8)=_
 simp
theorem sW {R:Type} (b1:Bool) (c:UInt8) (r:R):
  ((bif b1 then ((eE N (⟨[95,43,45,35]⟩) ((c.toNat:Nat):Int)).bind fun x14=>some (decide (x14<0))) else (some false)).bind fun s12=>bif s12 then (some (.rt r)) else (some (.nx ())):Option (Fl Unit R))=some (if (b1&&decide (Lib.indexByte [95,43,45,35] c<0))=true then .rt r else .nx ()):=by
 rw [qK,aA]
 grind
theorem j2 {s:aT} (h:s.bQ.length<=2097152):fL N s=some (isWord s):=by
 unfold fL
 rw [qE yX false (by omega) (fun k x hx=>by
  have hk:=(bM.1 hx).1
  have e:vG s ((k:Nat):Int)=some x:=by grind [wy,aN]
  rw [e,aA]
  exact sW (R:=Bool) _ x false),aA]
 unfold isWord
 grind [yX,Fo.cs,qd,Bool.false_eq_true,Option.some.injEq]
theorem mn {s:aT} (h:s.bQ.length<=2097152):dI N s=some (isWord s):=by
 unfold dI
 rw [qE yX false (by omega) (fun k x hx=>by
  have hk:=(bM.1 hx).1
  have e:vG s ((k:Nat):Int)=some x:=by rw [wy s k hk,<-aN hk,hx]
  rw [e,aA]
  refine(sW (R:=Bool) _ x false).trans ?_
  unfold yX
  rw [Bool.and_comm (_||_) (_||_)]),aA]
 unfold isWord dt
 cases s.bQ.any yX
 ·simp only [Fo.cs,aA,qd,Bool.true_and,Bool.false_eq_true,if_false,Option.some.injEq]
  rw [jd,cC,cC]
  simp only [fx]
  omega
 ·simp [Fo.cs]
def cutAt (c:UInt8):List UInt8->List (List UInt8)
 | []=>[[]]
 | b::l=>if b==c then []::cutAt c l else match cutAt c l with | h::t=>(b::h)::t | []=>[[b]]
theorem sX {c:UInt8}: ∀{l:List UInt8},c∉l->cutAt c l= [l]
 | [],_=>rfl
 | b::l,h=>by
  unfold cutAt
  have hb: (b==c)=false:=by rw [beq_eq_false_iff_ne];rintro rfl;exact h (by simp)
  rw [hb,sX (fun h'=>h (by simp [h']))];rfl
theorem wG {c:UInt8}: ∀{a b:List UInt8},c∉a->cutAt c (a++c::b)=a::cutAt c b
 | [],b,_=>by rw [List.nil_append];show (if (c==c)=true then _ else _)=_;simp
 | x::a,b,h=>by
  have hb: (x==c)=false:=by rw [beq_eq_false_iff_ne];rintro rfl;exact h (by simp)
  have ih:=wG (c:=c) (a:=a) (b:=b) (fun h'=>h (by simp [h']))
  show (if (x==c)=true then []::cutAt c (a++c::b) else match cutAt c (a++c::b) with | h::t=>(x::h)::t | []=>[[x]])=_
  rw [hb,ih];rfl
theorem oB: ∀(l:List UInt8) (c:UInt8),(Lib.indexByte l c = -1/\c∉l)\/∃a b,l=a++c::b/\c∉a/\Lib.indexByte l c= ((a.length:Nat):Int)
 | [],c=> .inl ⟨rfl,by simp⟩
 | x::l,c=>by
  unfold Lib.indexByte
  by_cases hx:x=c
  ·subst hx;exact .inr ⟨[],l,rfl,by simp,by simp⟩
  ·have hb: (x==c)=false:=by rw [beq_eq_false_iff_ne];exact hx
   rcases oB l c with ⟨h1,h2⟩ | ⟨a,b,h1,h2,h3⟩
   ·left;rw [hb,h1];refine⟨by simp,?_⟩;simp [h2];exact fun h=>hx h.symm
   ·right
    refine⟨x::a,b,by rw [h1];rfl,by grind,?_⟩
    rw [hb,h3]
    have: (((a.length:Nat):Int)== -1)=false:=by rw [beq_eq_false_iff_ne];omega
    rw [this];simp
theorem Ah (s:aT) (c:UInt8):g0 N s ⟨[c]⟩=some (Lib.indexByte s.bQ c):=by
 show (gb N s ⟨[c]⟩).bind _=_
 unfold gb
 by_cases h:aT.iM ⟨[c]⟩ s=true
 ·grind [ko,Lib.indexByte]
 ·rw [kh] at h
  rw [h]
  show ((eO N s ((c.toNat:Nat):Int)).bind _).bind _=_
  have:=qK (N:=N) s c
  grind [eE]
theorem Ai (s:aT) (c:UInt8):i3 N s ⟨[c]⟩=some ((s.bQ.count c:Nat):Int):=by
 unfold i3
 show (some _:Option Int)=_
 simp [Lib.countByte]
theorem yY {s:aT} {k:Nat} (h:k<=s.bQ.length):pI s 0 ((k:Nat):Int)=some ⟨s.bQ.take k⟩:=by
 unfold pI;grind
theorem yZ {s:aT} {k:Nat} (h:k<=s.bQ.length):pI s ((k:Nat):Int) ((s.bQ.length:Nat):Int)=some ⟨s.bQ.drop k⟩:=by
 grind [pI,cV,kT,dG]
def kN (s:aT) (c:UInt8):List aT:=(cutAt c s.bQ).map aT.mk
theorem wH {s:aT} (c:UInt8) (h:s.bQ.length<=2097152) (hN:4194304<=N):g8 N s ⟨[c]⟩=some (kN s c):=by
 have hc:s.bQ.count c<=s.bQ.length:=List.count_le_length
 unfold g8 iO
 rw [show ((-1:Int)==0)=false by decide,bL,show aT.iM ⟨[c]⟩ ⟨[]⟩=false by simp [aT.iM],bL,Ai,aA]
 rw [dz (x:=((s.bQ.count c:Nat):Int)+1) (by omega) (by omega),show decide ((-1:Int)<0)=true by decide,bJ,aA]
 rw [dz (x:=((s.bQ.length:Nat):Int)+1) (by omega) (by omega)]
 have e1: (if ((s.bQ.length:Nat):Int)+1< ((s.bQ.count c:Nat):Int)+1 then ((s.bQ.length:Nat):Int)+1 else ((s.bQ.count c:Nat):Int)+1)= ((s.bQ.count c+1:Nat):Int):=by
  omega
 rw [e1,oP _ (by omega),aA]
 rw [dz (x:=((s.bQ.count c+1:Nat):Int) - 1) (by omega) (by omega)]
 have key:=qC (S:=aT×List aT×Int) (R:=Empty) (body:=(fun(s7:aT×(List aT)×Int)=>(bif (decide (s7.2.2< ((s.bQ.count c+1:Nat):Int) - 1)) then ((g0 N s7.1 ⟨[c]⟩).bind fun x23=>bif (decide (x23<0)) then (some (.br (s7.1,s7.2.1,s7.2.2))) else ((pI s7.1 0 (IntKind.wrap .i64 (x23+0))).bind fun x24=>(idx s7.2.1 s7.2.2).bind fun x25=>(pI s7.1 (IntKind.wrap .i64 (x23+ (((⟨[c]⟩:aT).bQ.length:Nat):Int))) ((s7.1.bQ.length:Nat):Int)).bind fun x27=>some (.nx (x27,(s7.2.1.set (Int.toNat s7.2.2) x24),(IntKind.wrap .i64 (s7.2.2+1)))))) else (some (.br (s7.1,s7.2.1,s7.2.2))):Option (Fl (aT×(List aT)×Int) Empty))))
  (fun st=>∃ws:List (List UInt8),st.2.2= ((ws.length:Nat):Int)/\cutAt c s.bQ=ws++cutAt c st.1.bQ/\ws.length+st.1.bQ.count c=s.bQ.count c/\st.1.bQ.length<=s.bQ.length/\st.2.1=ws.map aT.mk++List.replicate (s.bQ.count c+1 - ws.length) ⟨[]⟩)
  (fun st=>s.bQ.count c+1 - st.2.2.toNat)
  (fun st=>∃ws:List (List UInt8),st.2.2= ((ws.length:Nat):Int)/\cutAt c s.bQ=ws++[st.1.bQ]/\ws.length=s.bQ.count c/\st.2.1=ws.map aT.mk++[⟨[]⟩])
  (fun _=>True) (by
   rintro⟨r,arr,i⟩ ⟨ws,h1,h2,h3,h4,h5⟩
   simp only at h1 h2 h3 h4 h5
   subst h1 h5
   by_cases hlt:ws.length<s.bQ.count c
   ·have hd:decide (((ws.length:Nat):Int)< ((s.bQ.count c+1:Nat):Int) - 1)=true:=by grind
    simp only [hd,bJ,Ah,aA]
    rcases oB r.bQ c with ⟨_,hn⟩ | ⟨a,b,hr,ha,hi⟩
    ·grind
    ·have hrl:r.bQ.length=a.length+ (b.length+1):=by rw [hr];simp
     rw [hi,bW (by omega),bL]
     rw [show ((a.length:Nat):Int)+0= ((a.length:Nat):Int) by omega,dz (x:=((a.length:Nat):Int)) (by omega) (by omega),yY (by omega),aA]
     rw [gw _ _ (by simp;omega),aA]
     rw [show ((a.length:Nat):Int)+ (((⟨[c]⟩:aT).bQ.length:Nat):Int)= ((a.length+1:Nat):Int) by simp,dz (x:=((a.length+1:Nat):Int)) (by omega) (by omega),yZ (by omega),aA]
     refine⟨_,rfl,⟨ws++[a],?_,?_,?_,?_,?_⟩,?_⟩
     ·grind [dz]
     ·simp_all [wG]
     ·simp only
      rw [hr] at h3 ⊢
      simp [List.count_eq_zero_of_not_mem ha] at h3 ⊢;omega
     ·simp;omega
     ·simp only [cV]
      rw [List.set_append_right _ _ (by simp)]
      simp only [dD,Nat.sub_self]
      obtain⟨d,hd'⟩: ∃d,s.bQ.count c+1 - ws.length=d+1:=⟨s.bQ.count c - ws.length,by omega⟩
      rw [hd',List.replicate_succ,List.set_cons_zero,show s.bQ.count c+1 - (ws++[a]).length=d by simp;omega]
      simp [hr]
     ·simp only;rw [dz (by omega) (by omega)];omega
   ·have hd:decide (((ws.length:Nat):Int)< ((s.bQ.count c+1:Nat):Int) - 1)=false:=by rw [decide_eq_false_iff_not];omega
    simp only [hd,bL]
    refine⟨_,rfl,ws,rfl,?_,by omega,?_⟩
    ·have h0:r.bQ.count c=0:=by omega
     rw [h2,sX (List.count_eq_zero.1 h0)]
    ·rw [show s.bQ.count c+1 - ws.length=1 by omega];rfl)
  N (s,List.replicate (s.bQ.count c+1) ⟨[]⟩,0) ⟨[],rfl,rfl,by simp,bP _,by simp⟩ (by simp only;omega)
 obtain⟨o,ho,hgo⟩:=key
 rw [ho,aA]
 cases o with
 | rt r=>exact r.elim
 | go st=>
  obtain⟨r,arr,i⟩:=st
  obtain⟨ws,h1,h2,h3,h4⟩:=hgo
  simp only at h1 h2 h3 h4
  subst h1 h4
  simp only [Fo.cs]
  rw [gw _ _ (by simp),aA,dz (by omega) (by omega)]
  rw [show ((ws.length:Nat):Int)+1= ((ws.length+1:Nat):Int) by omega,mz _ _ (by simp),aA,aA]
  unfold kN
  rw [h2]
  rw [cV,List.set_append_right _ _ (by simp),kT (by simp)]
  simp
def kO (s:aT):Bool:=decide (s.bQ.length<=200)&&(kN s 47).all isWord
theorem oQ {c:UInt8}: ∀{l x:List UInt8},x∈cutAt c l->x.length<=l.length
 | [],x,h=>by simp [cutAt] at h;subst h;simp
 | b::l,x,h=>by
  unfold cutAt at h
  split at h
  ·rcases ja.1 h with h | h
   ·subst h;simp
   ·have:=oQ h;simp;omega
  ·split at h
   ·rename_i t e
    rcases ja.1 h with h | h
    ·subst h;have:=oQ (c:=c) (l:=l) (by rw [e];exact List.mem_cons_self);simp;omega
    ·have:=oQ (c:=c) (l:=l) (by rw [e];exact List.mem_cons_of_mem _ h);simp;omega
   ·simp at h;subst h;simp
theorem t9 (c:UInt8): ∀(l:List UInt8),(cutAt c l).length<=l.length+1
 | []=>by simp [cutAt]
 | b::l=>by
  have:=t9 c l
  unfold cutAt
  split
  ·simp;omega
  ·split
   ·rename_i e;rw [e] at this;simp at this ⊢;omega
   ·simp
theorem uc {s x:aT} {c:UInt8} (h:x∈kN s c):x.bQ.length<=s.bQ.length:=by
 obtain⟨y,hy,rfl⟩:=ez.1 h
 exact oQ hy
theorem ud (s:aT) (c:UInt8): (kN s c).length<=s.bQ.length+1:=by simp [kN,dD,t9]
theorem l9 {s:aT} (h:s.bQ.length<=2097152) (hN:4194304<=N):fO N s=some (kO s):=by
 unfold fO kO
 by_cases hl:s.bQ.length<=200
 ·rw [cK (by omega),bJ,wH 47 h hN,aA]
  have e:=mA (l:=kN s 47) (φ:=eG N) (fun x=> !isWord x) (by have:=ud s 47;omega) (fun x hx=>by
   unfold eG
   rw [j2 (by have:=uc hx;omega)];rfl)
  have e2:eF N (kN s 47) (eG N)=kp (kN s 47) (eG N):=rfl
  rw [e2,e,aA,aA,cK hl,Bool.true_and]
  congr 1
  rw [jd]
  simp
 ·rw [bW (by omega),bL,aA,bW hl,Bool.false_and]
theorem pC {s:aT} (h:s.bQ.length<=2097152) (hN:4194304<=N):ek N s=some (kO s):=by
 unfold ek
 rw [wH 47 h hN,aA,qE (fun x=> !isWord x) false (by have:=ud s 47;omega) (fun k x hx=>by
  rw [cB hx,aA,mn (by have:=uc (eR hx);omega),aA]
  cases isWord x <;> rfl),aA]
 unfold kO
 have e: (kN s 47).any (fun x=> !isWord x) = !(kN s 47).all isWord:=by rw [jd];simp
 rw [e]
 cases (kN s 47).all isWord
 ·simp [Fo.cs]
 ·simp only [qc,Bool.false_eq_true,if_false,Fo.cs,Bool.and_true]
  congr 1;rw [jd];simp only [fx];omega
end
end Go.Gk
namespace Go.Gk
open Go
theorem sY {α:Type} (l:List α) (a b:Nat) (h:a+b<l.length):mX l ((a:Nat):Int) ((b:Nat):Int)=some l[a+b]:=by
 unfold mX
 rw [aG (by omega),show ((a:Nat):Int)+ ((b:Nat):Int)= ((a+b:Nat):Int) by omega,gw _ _ h]
section
variable {α:Type} {cf:α->α->Int} {N:Nat}
theorem SD.Bz {l:List α} {a:α} (h:SD cf l) (hl: ∀c∈l,cf c a<0):SD cf (l++[a]):=by
 unfold SD at *
 rw [List.pairwise_append]
 exact⟨h,List.pairwise_singleton _ _,fun x hx y hy=>by simp at hy;subst hy;exact hl x hx⟩
theorem SD.last {l:List α} {a:α} (h:SD cf l) (hl:l.getLast? =some a): ∀c∈l,c=a\/cf c a<0:=by
 intro c hc
 obtain⟨m,hs⟩: ∃m,l=m++[a]:=by
  have:=List.getLast?_eq_some_iff.1 hl
  exact this
 subst hs
 rcases jH.1 hc with h1 | h1
 ·exact .inr ((List.pairwise_append.1 h).2.2 c h1 a (by simp))
 ·simp at h1;exact .inl h1
theorem k8.step (hO:k8 cf) {a b c:α} (h:c=a\/cf c a<0) (h1: ¬cf b a<0) (h2:b≠a):cf c b<0:=by
 have h3:cf a b<0:=by
  rcases hO.B1 a b with e | e | e
  ·exact e
  ·exact absurd e.symm h2
  ·exact absurd e h1
 rcases h with rfl | h
 ·exact h3
 ·exact hO.trans _ _ _ h h3
def mO (z:α) (N:Nat) (p0:List α) (p1:α->α->Option Bool):Option (List α):=
 bif (decide ((p0.length:Int)<2)) then (some p0) else ((lh (fun(s32:Int)=>(bif (decide (s32< (p0.length:Int))) then ((idx p0 s32).bind fun x163=>(idx p0 (IntKind.wrap .i64 (s32 - 1))).bind fun x164=>(p1 x163 x164).bind fun x165=>bif x165 then ((oK p0 s32 (p0.length:Int)).bind fun x197=>(lh (fun(s199: (List α)×Int×Int)=>(bif (decide (s199.2.2< (((s199.1.length - Int.toNat s32):Nat):Int))) then ((mX s199.1 s32 s199.2.2).bind fun x216=>(mX s199.1 s32 (IntKind.wrap .i64 (s199.2.2 - 1))).bind fun x217=>(p1 x216 x217).bind fun x218=>(bif (!x218) then ((mX s199.1 s32 s199.2.2).bind fun x222=>(idx s199.1 s199.2.1).bind fun x223=>some ((s199.1.set (Int.toNat s199.2.1) x222),(IntKind.wrap .i64 (s199.2.1+1)))) else (some (s199.1,s199.2.1))).bind fun s221=>some (.nx (s221.1,s221.2,(IntKind.wrap .i64 (s199.2.2+1))))) else (some (.br (s199.1,s199.2.1,s199.2.2))):Option (Fl ((List α)×Int×Int) Empty))) N (p0,s32,1)).bind fun o227=>o227.cs (fun(s199: (List α)×Int×Int)=>(oK s199.1 s199.2.1 (s199.1.length:Int)).bind fun x224=>(oK (s199.1.take (Int.toNat s199.2.1)++List.replicate (s199.1.length - Int.toNat s199.2.1) z) 0 s199.2.1).bind fun x225=>some (.rt x225)) (fun r=>r.elim)) else (some (.nx (IntKind.wrap .i64 (s32+1))))) else (some (.br s32)):Option (Fl (Int) (List α)))) N 1).bind fun o228=>o228.cs (fun(s32:Int)=>some p0) (fun r=>some r))
theorem lH [DecidableEq α] (hO:k8 cf) {z:α} {φ:α->α->Option Bool} {l:List α} (hφ: ∀x∈l,∀y∈l,φ x y=some (decide (x=y))) (hs:SW cf l) (hl:l.length<=4611686018427387000) (hN:l.length<N):
  Ok (mO z N l φ) (fun m=>SD cf m/\∀c,c∈m↔c∈l):=by
 unfold mO
 refine Ok.bif (fun h2=>Ok.ret ⟨?_,fun c=>Iff.rfl⟩) (fun h2=>?_)
 ·have h2:=of_decide_eq_true h2
  match l,h2 with
  | [],_=>exact List.Pairwise.nil
  | [a],_=>exact List.pairwise_singleton _ _
  | a::b::l,h2=>grind
 ·have h2:=of_decide_eq_false h2
  have le: ∀(i j:Nat) (x y:α),i<j->l[i]? =some x->l[j]? =some y->¬cf y x<0:=fun i j x y hij hx hy=>by
   obtain⟨h1,rfl⟩:=bM.1 hx
   obtain⟨h2,rfl⟩:=bM.1 hy
   exact lY.1 hs i j h1 h2 hij
  refine Ok.bind (Ok.lh (Go:=fun _=>SD cf l) (Rt:=fun m=>SD cf m/\∀c,c∈m↔c∈l) (fun s=>∃k:Nat,s= ((k:Nat):Int)/\1<=k/\k<=l.length/\SD cf (l.take k)) (fun s=>l.length - s.toNat) ?_ ⟨1,rfl,bP _,by omega,?_⟩ (by simp;omega)) ?_
  ·rintro s ⟨k,rfl,hk1,hkl,hinc⟩
   refine Ok.bif (fun h=>?_) (fun h=>Ok.br ?_)
   ·have hk:k<l.length:=by grind
    refine Ok.idx hk ?_
    rw [jy hk1 (by omega)]
    refine Ok.idx (by omega) ?_
    refine Ok.eq (hφ _ (d3 _) _ (d3 _)) ?_
    refine Ok.bif (fun he=>?_) (fun he=>?_)
    ·have he:l[k]=l[k - 1]:=by grind
     refine Ok.eq (wz l k hkl) ?_
     refine Ok.bind (Ok.lh (Go:=fun s=>∃i:Nat,s.2.1= ((i:Nat):Int)/\i<=l.length/\s.1.length=l.length/\SD cf (s.1.take i)/\∀c,c∈s.1.take i↔c∈l) (Rt:=fun _=>True)
      (fun s=>∃i j:Nat,s.2.1= ((i:Nat):Int)/\s.2.2= ((j:Nat):Int)/\1<=j/\k+j<=l.length/\i<=k+j - 1/\s.1.length=l.length/\SD cf (s.1.take i)/\(s.1.take i).getLast? =l[k+j - 1]? /\
       (∀c,c∈s.1.take i↔c∈l.take (k+j))/\∀m,k+j - 1<=m->s.1[m]? =l[m]?) (fun s=>l.length - s.2.2.toNat) ?_ ?_ (by simp;omega)) ?_
     ·rintro⟨u,a,b⟩ ⟨i,j,e1,e2,hj,hjl,hij,hlen,hi,hlast,hmem,hrest⟩
      dsimp only at e1 e2 hlen hi hlast hmem hrest ⊢
      subst e1;subst e2
      rw [cV]
      refine Ok.bif (fun h=>?_) (fun h=>Ok.br ?_)
      ·have hlt:k+j<l.length:=by have:=of_decide_eq_true h;omega
       have hx:u[k+j]'(by omega)=l[k+j]:=by have:=hrest (k+j) (by omega);rw [aN (by omega),aN hlt] at this;injection this
       have hy:u[k+ (j - 1)]'(by omega)=l[k+ (j - 1)]:=by have:=hrest (k+ (j - 1)) (by omega);rw [aN (by omega),aN (by omega)] at this;injection this
       refine Ok.eq (sY u k j (by omega)) ?_
       rw [jy hj (by omega)]
       refine Ok.eq (sY u k (j - 1) (by omega)) ?_
       rw [hx,hy]
       refine Ok.eq (hφ _ (d3 _) _ (d3 _)) ?_
       have hts:l.take (k+j+1)=l.take (k+j)++[l[k+j]]:=fw hlt
       have hlast': (u.take i).getLast? =some l[k+ (j - 1)]:=by rw [hlast,show k+j - 1=k+ (j - 1) by omega,aN (by omega)]
       have hxy: ¬cf l[k+j] l[k+ (j - 1)]<0:=le (k+ (j - 1)) (k+j) _ _ (by omega) (aN _) (aN _)
       refine Ok.bind (P:=fun s'=>s'.1.length=l.length/\∃i':Nat,s'.2= ((i':Nat):Int)/\i'<=k+j/\SD cf (s'.1.take i')/\(s'.1.take i').getLast? =l[k+j]? /\(∀c,c∈s'.1.take i'↔c∈l.take (k+j+1))/\∀m,k+j<=m->s'.1[m]? =l[m]?) ?_ ?_
       ·refine Ok.bif (fun hne=>?_) (fun hne=>Ok.ret ?_)
        ·have hne:l[k+j]≠l[k+ (j - 1)]:=by simpa using hne
         refine Ok.eq (sY u k j (by omega)) ?_
         rw [hx]
         refine Ok.idx (by omega) (Ok.ret ⟨by simp [hlen],i+1,?_,by omega,?_⟩)
         ·rw [gX (by omega)]
         ·dsimp only
          rw [cV]
          have ht: (u.set i l[k+j]).take (i+1)=u.take i++[l[k+j]]:=by
           rw [fw (by simp;omega),List.take_set_of_le (bP _)];simp
          rw [ht]
          refine⟨hi.Bz fun c hc=>hO.step (hi.last hlast' c hc) hxy hne,by simp [aN hlt],fun c=>?_,fun m hm=>?_⟩
          ·rw [hts,jH,jH,hmem]
          ·rw [gJ,aJ (by omega)];exact hrest m (by omega)
        ·have he:l[k+j]=l[k+ (j - 1)]:=by simpa using hne
         refine⟨hlen,i,rfl,by omega,hi,?_,fun c=>?_,fun m hm=>hrest m (by omega)⟩
         ·dsimp only;rw [hlast',aN hlt,he]
         ·rw [hts,jH,<-hmem]
          constructor
          ·exact .inl
          ·rintro(h | h)
           ·exact h
           ·simp at h;subst h
            rw [he];exact List.mem_of_getLast? hlast'
       ·rintro⟨v,a⟩ ⟨g1,i',g2,g3,g4,g5,g6,g7⟩
        dsimp only at g1 g2 g4 g5 g6 g7 ⊢
        refine Ok.nx ⟨⟨i',j+1,g2,?_,by omega,by omega,by omega,g1,g4,?_,g6,fun m hm=>g7 m (by omega)⟩,?_⟩
        ·rw [gX (by omega)]
        ·rw [show k+ (j+1) - 1=k+j by omega];exact g5
        ·rw [gX (by omega)];simp only [cV];omega
      ·have hge:k+j=l.length:=by have:=of_decide_eq_false h;omega
       refine⟨i,rfl,by omega,hlen,hi,fun c=>?_⟩
       rw [hmem,hge,eB]
     ·refine⟨k,1,rfl,rfl,bP _,by omega,by omega,rfl,hinc,?_,fun c=>?_,fun m _=>rfl⟩
      ·dsimp only
       rw [show k+1 - 1=k by omega,aN hk,he,List.getLast?_eq_getElem?,bO,Nat.min_eq_left hkl,List.getElem?_take_of_lt (by omega),aN (by omega)]
      ·dsimp only
       rw [fw hk,jH]
       constructor
       ·exact .inl
       ·rintro(h | h)
        ·exact h
        ·simp at h;subst h;rw [he]
         refine eR (i:=k - 1) ?_
         rw [List.getElem?_take_of_lt (by omega),aN (by omega)]
     ·rintro o ho
      refine Ok.cs ho ?_ (fun r=>r.elim)
      rintro⟨u,a,b⟩ ⟨i,e1,hi,hlen,hinc',hmem⟩
      dsimp only at e1 hlen hinc' hmem ⊢
      subst e1
      refine Ok.eq (wz u i (by omega)) ?_
      rw [cV]
      refine Ok.eq (mz _ i (by simp;omega)) (Ok.rt ?_)
      rw [List.take_append_of_le_length (by simp;omega),List.take_take,Nat.min_self]
      exact⟨hinc',hmem⟩
    ·have he:l[k]≠l[k - 1]:=by simpa using he
     refine Ok.nx ⟨⟨k+1,by rw [gX (by omega)],by omega,by omega,?_⟩,by rw [gX (by omega)];simp only [cV];omega⟩
     rw [fw hk]
     refine hinc.Bz fun c hc=>?_
     have hlast: (l.take k).getLast? =some l[k - 1]:=by
      rw [List.getLast?_eq_getElem?,bO,Nat.min_eq_left hkl,List.getElem?_take_of_lt (by omega),aN (by omega)]
     exact hO.step (hinc.last hlast c hc) (le (k - 1) k _ _ (by omega) (aN (by omega:k - 1<l.length)) (aN hk)) he
   ·have hge:k=l.length:=by have:=of_decide_eq_false h;omega
    subst hge;rw [eB] at hinc;exact hinc
  ·match l,h2 with
   | [],h2=>simp at h2
   | a::l,_=>exact List.pairwise_singleton _ _
  ·rintro o ho
   exact Ok.cs ho (fun s h=>Ok.ret ⟨h,fun c=>Iff.rfl⟩) (fun r h=>Ok.ret h)end
section
variable {N:Nat}
theorem y2 (a b:Int):gT N a b=some (fz a b):=by
 have e: ∀x:Int,hG N x=some false:=fun x=>by unfold hG;simp
 unfold gT fz
 rw [e,aA,e,aA]
 by_cases h1:a<b
 ·simp [h1]
 ·by_cases h2:b<a <;> simp [h1,h2]
theorem oR: ∀(a b:List Int) (k:Nat),a.take k=b.take k->k<=a.length->k<=b.length->cmpL a b=cmpL (a.drop k) (b.drop k)
 | a,b,0,_,_,_=>by simp
 | x::a,y::b,k+1,h,h1,h2=>by
  simp only [List.take_succ_cons,List.cons.injEq] at h
  obtain⟨rfl,h⟩:=h
  rw [List.drop_succ_cons,List.drop_succ_cons,<-oR a b k h (by simpa using h1) (by simpa using h2)]
  conv=>lhs;unfold cmpL
  rw [aJ (by omega),aJ (by omega)]
 | [],_,k+1,_,h1,_=>by simp at h1
 | _::_,[],k+1,_,_,h2=>by simp at h2
theorem sZ {a b:List Int} (ha:a.length<=4611686018427387904):cJ N a b=some (cmpL a b):=by
 refine Ok.get ?_
 unfold cJ
 refine Ok.bind (Ok.kW (Inv:=fun k _=>k<=b.length/\a.take k=b.take k) (Go:=fun _=>a.length<=b.length/\a=b.take a.length) (Rt:=fun r=>r=cmpL a b) ha ⟨by omega,by simp⟩ (fun k s hk hi=>?_) (fun s hi=>by
  refine⟨hi.1,?_⟩
  have:=hi.2
  rw [eB] at this;exact this)) ?_
 ·obtain⟨h1,h2⟩:=hi
  refine Ok.idx hk ?_
  refine Ok.bif (fun h=>Ok.rt ?_) (fun h=>?_)
  ·have hb:k=b.length:=by have:=of_decide_eq_true h;omega
   rw [oR a b k h2 (by omega) (by omega),hb,List.drop_length,<-hb,kV hk];rfl
  ·have hkb:k<b.length:=by have:=of_decide_eq_false h;omega
   refine Ok.idx hkb ?_
   refine Ok.eq (y2 _ _) ?_
   have e:cmpL a b=if fz a[k] b[k]≠0 then fz a[k] b[k] else cmpL (a.drop (k+1)) (b.drop (k+1)):=by
    rw [oR a b k h2 (by omega) (by omega),kV hk,kV hkb]
    conv=>lhs;unfold cmpL
    unfold fz
    by_cases h1:a[k]<b[k]
    ·rw [aG h1,aG h1,aG (by omega)]
    ·rw [aJ h1,aJ h1]
     by_cases h2:b[k]<a[k]
     ·rw [aG h2,aG h2,aG (by omega)]
     ·rw [aJ h2,aJ h2,aJ (by omega)]
   refine Ok.bif (fun hc=>Ok.rt ?_) (fun hc=>Ok.nx ⟨by omega,?_⟩)
   ·have hc:fz a[k] b[k]≠0:=by simpa using hc
    rw [e,aG hc]
   ·have hc:fz a[k] b[k]=0:=by simpa using hc
    have:=jt.eq _ _ hc
    rw [fw hk,fw hkb,h2,this]
 ·intro o ho
  refine Ok.cs ho (fun s hs=>?_) (fun r hr=>Ok.ret hr)
  obtain⟨h1,h2⟩:=hs
  have e:cmpL a b=cmpL [] (b.drop a.length):=by rw [oR a b a.length (by rw [eB];exact h2) (bP _) h1,List.drop_length]
  refine Ok.bif (fun h=>Ok.ret ?_) (fun h=>Ok.ret ?_)
  ·have hlt:a.length<b.length:=by have:=of_decide_eq_true h;omega
   rw [e,kV hlt];rfl
  ·have hge:b.length<=a.length:=by have:=of_decide_eq_false h;omega
   rw [e,List.drop_eq_nil_of_le hge];rfl
theorem mP {l m:List Int} (hl:l.length<=4611686018427387904):dA N l m=some (decide (l=m)):=by
 rw [<-yO (l:=l) (m:=m) hl]
 rfl
def nv (a b:aT):Int:=Lib.compareBytes a.bQ b.bQ
end
end Go.Gk
namespace Go.Gk
open Go
section
variable {α β:Type}
theorem Aj {N:Nat} {l:List α} {s:β} {φ:α->β->Option Int} (c:α->Int) (hφ: ∀x∈l,φ x s=some (c x)) (hs: ∀(i j:Nat) (x y:α),i<j->l[i]? =some x->l[j]? =some y->0<=c x->0<c y)
  (hl:l.length<=1048576) (hN:4194304<=N): ∃r,vc N l s φ=some r/\r.2=l.any (fun x=>c x==0)/\(r.2=true->r.1=t3 l (fun x=>c x==0)):=by
 show Ok (vc N l s φ) (fun r=>r.2=l.any (fun x=>c x==0)/\(r.2=true->r.1=t3 l (fun x=>c x==0)))
 unfold vc
 refine Ok.bind (Ok.lh (Go:=fun st:Int×Int=>∃a:Nat,st.1= ((a:Nat):Int)/\a<=l.length/\(∀j x,j<a->l[j]? =some x->c x<0)/\(∀j x,a<=j->l[j]? =some x->0<=c x)) (Rt:=fun _=>True)
  (fun st=>∃a b:Nat,st= (((a:Nat):Int),((b:Nat):Int))/\a<=b/\b<=l.length/\(∀j x,j<a->l[j]? =some x->c x<0)/\(∀j x,b<=j->l[j]? =some x->0<=c x))
  (fun st=>(st.2 - st.1).toNat) ?_ ⟨0,l.length,rfl,by omega,bP _,fun j x hj=>by omega,fun j x hj hx=>by grind⟩ (by omega)) ?_
 ·rintro st ⟨a,b,rfl,hab,hb,h1,h2⟩
  dsimp only
  by_cases hlt:a<b
  ·have hm: (a+b) / 2<l.length:=by omega
   have hx:l[(a+b) / 2]? =some l[(a+b) / 2]:=aN hm
   rw [show decide (((a:Nat):Int)< ((b:Nat):Int))=true by grind,bJ,t5 hlt (by omega)]
   refine Ok.ix hx (Ok.eq (hφ _ (d3 _)) ?_)
   by_cases hc:c l[(a+b) / 2]<0
   ·rw [cK hc,bJ,aA]
    refine Ok.nx ⟨⟨(a+b) / 2+1,b,?_,by omega,hb,fun j x hj hx'=>?_,h2⟩,?_⟩
    ·rw [gX (by omega)]
    ·by_cases e:j= (a+b) / 2
     ·subst e;rw [hx] at hx';injection hx' with hx';rw [<-hx'];exact hc
     ·by_cases h0:c x<0
      ·exact h0
      ·have:=hs j _ x _ (by omega) hx' hx (by omega)
       omega
    ·rw [gX (by omega)];simp only;omega
   ·rw [bW hc,bL,aA]
    refine Ok.nx ⟨⟨a,(a+b) / 2,rfl,by omega,by omega,h1,fun j x hj hx'=>?_⟩,by simp only;omega⟩
    by_cases e:j= (a+b) / 2
    ·subst e;rw [hx] at hx';injection hx' with hx';rw [<-hx'];omega
    ·have:=hs _ j _ x (by omega) hx hx' (by omega)
     omega
  ·rw [show decide (((a:Nat):Int)< ((b:Nat):Int))=false by rw [decide_eq_false_iff_not];omega,bL]
   exact Ok.br ⟨a,rfl,by omega,h1,fun j x hj hx=>h2 j x (by omega) hx⟩
 intro o ho
 refine Ok.cs ho ?_ (fun r hr=>r.elim)
 rintro⟨st1,st2⟩ ⟨a,ha,hle,h1,h2⟩
 dsimp only at ha ⊢
 subst ha
 by_cases hlt:a<l.length
 ·have hx:l[a]? =some l[a]:=aN hlt
  rw [show decide (((a:Nat):Int)< ((l.length:Nat):Int))=true by rw [fx];omega,bJ,cB hx,aA,hφ _ (d3 _),aA,aA]
  refine Ok.ret ?_
  by_cases he:c l[a]=0
  ·have hb: (c l[a]==0)=true:=by rw [beq_iff_eq];exact he
   rw [hb]
   refine⟨(jJ.2 ⟨_,d3 hlt,hb⟩).symm,fun _=>?_⟩
   rw [ky hx hb (fun j y hj hy=>by have:=h1 j y hj hy;rw [beq_eq_false_iff_ne];omega)]
  ·have hb: (c l[a]==0)=false:=by rw [beq_eq_false_iff_ne];exact he
   rw [hb]
   refine⟨?_,fun h=>by cases h⟩
   symm
   rw [List.any_eq_false]
   intro x hx'
   obtain⟨j,hj⟩:=iL hx'
   rw [kh,beq_eq_false_iff_ne]
   by_cases hja:j<a
   ·have:=h1 j x hja hj;omega
   ·by_cases e:j=a
    ·subst e;rw [hx] at hj;injection hj with hj;rw [<-hj];exact he
    ·have h3:=h2 a _ (bP _) hx
     have:=hs a j _ x (by omega) hx hj h3
     omega
 ·rw [show decide (((a:Nat):Int)< ((l.length:Nat):Int))=false by rw [decide_eq_false_iff_not];omega,bL,aA]
  refine Ok.ret ⟨?_,fun h=>by cases h⟩
  symm
  rw [List.any_eq_false]
  intro x hx'
  obtain⟨j,hj⟩:=iL hx'
  have:=(bM.1 hj).1
  have:=h1 j x (by omega) hj
  rw [kh,beq_eq_false_iff_ne];omega
end
end Go.Gk
namespace Go.Gk
open Go
section
variable {N:Nat}
def ny (l:List aU) (k:Nat):Option Int:=
 match l[k]? with
 | none=>none
 | some p=>if isWord p.Name=false then some 5 else if (decide (p.Kind<1)||decide (p.Kind>7))=true then some 4 else if (decide (p.aW<0)||decide (p.aW>200))=true then some 1 else if gC aU.Name l k=true then some 8 else none
def nz (p q:aU):Bool:=decide (p.aW>0)&&(q.aW==p.aW)&&(q.Kind != p.Kind)
def s6 (l:List aU) (k:Nat):Option Int:=
 match l[k]? with
 | none=>none
 | some p=>if (l.take k).any (nz p)=true then some 12 else none
def fI (l:List aU):Int:=if l.length=0 then 9 else if 200<l.length then 2 else ((i6 l.length (ny l)).or (i6 l.length (s6 l))).getD 0
def ma (t:List aD) (k:Nat):Option Int:=
 match t[k]? with
 | none=>none
 | some x=>if isWord x.Name=false then some 5 else if fI x.aP≠0 then some (fI x.aP) else if gC aD.Name t k=true then some 8 else none
def checkTypes (t:List aD):Int:=if 200<t.length then 2 else (i6 t.length (ma t)).getD 0
theorem qL {R β:Type} (o:Option R) (f:Unit->Option β) (g:R->Option β): (wo o ()).cs f g=o.elim (f ()) g:=by cases o <;> rfl
theorem mQ (o:Option Int): (wo o ()).cs (fun _=>some (0:Int)) (fun r=>some r)=some (o.getD 0):=by cases o <;> rfl
theorem getD_or (a b:Option Int): (a.elim (some (b.getD 0)) fun r=>some r)=some ((a.or b).getD 0):=by cases a <;> rfl
theorem oC {l:List aU} (h:bk l<=1048576):ga N l=some (fI l):=by
 have hlen:=fy l
 unfold ga fI
 by_cases h0:l.length=0
 ·rw [aG h0,h0];rfl
 ·have e0: (((l.length:Nat):Int)==0)=false:=by rw [beq_eq_false_iff_ne];omega
  rw [aJ h0,e0,bL]
  by_cases h1:200<l.length
  ·rw [aG h1,cK (by omega),bJ]
  ·rw [aJ h1,bW (by omega),bL]
   rw [gl (ny l) (by omega) (fun k hk _=>by
    have hx:l[k]? =some l[k]:=aN hk
    have hb:=og hx
    rw [pT,oh] at hb
    rw [cB hx,aA,j2 (by omega),aA,oj aU.Name hx (by omega)]
    unfold ny
    rw [hx]
    dsimp only
    cases isWord l[k].Name
    ·rfl
    ·cases decide (l[k].Kind<1)||decide (l[k].Kind>7)
     ·cases decide (l[k].aW<0)||decide (l[k].aW>200)
      ·cases gC aU.Name l k <;> rfl
      ·rfl
     ·rfl),aA]
   rw [qL]
   rw [gl (s6 l) (by omega) (fun k hk _=>by
    have hx:l[k]? =some l[k]:=aN hk
    rw [cB hx,aA,mz l k (by omega),aA]
    have e:=mA (l:=l.take k) (φ:=fun y0=>dH N y0 l[k]) (nz l[k]) (by rw [bO];omega) (fun q _=>by
     unfold dH nz
     cases decide (l[k].aW>0)
     ·rfl
     ·cases q.aW==l[k].aW <;> rfl)
    have e2:eA N (l.take k) (fun y0=>dH N y0 l[k])=kp (l.take k) (fun y0=>dH N y0 l[k]):=rfl
    rw [e2,e,aA]
    unfold s6
    rw [hx]
    dsimp only
    cases (l.take k).any (nz l[k]) <;> rfl),aA,mQ]
   exact getD_or _ _
theorem nW {t:List aD} (h:bk t<=1048576):fM N t=some (checkTypes t):=by
 have hlen:=fy t
 unfold fM checkTypes
 by_cases h1:200<t.length
 ·rw [aG h1,cK (by omega),bJ]
 ·rw [aJ h1,bW (by omega),bL]
  rw [gl (ma t) (by omega) (fun k hk _=>by
   have hx:t[k]? =some t[k]:=aN hk
   have hb:=og hx
   rw [jz] at hb
   have hb2:=oh t[k].Name
   rw [cB hx,aA,j2 (by omega),aA,oC (by omega),aA,oj aD.Name hx (by omega)]
   unfold ma
   rw [hx]
   dsimp only
   cases isWord t[k].Name
   ·rfl
   ·by_cases hc:fI t[k].aP=0
    ·rw [hc];cases gC aD.Name t k <;> rfl
    ·have: (fI t[k].aP != 0)=true:=by rw [bne_iff_ne];exact hc
     rw [this];simp [hc,sQ]),aA,mQ]
theorem pD (a b c:Int):dt N a b c=some (!(decide (a<b)||decide (a>c))):=by
 unfold dt
 congr 1
 rw [jd];simp
theorem rp {x:aD} (h:bk x<=1048576):ej N x=some (if isWord x.Name=false then 5 else fI x.aP):=by
 rw [jz] at h
 have hs:=oh x.Name
 have hlen:=fy x.aP
 unfold ej
 rw [mn (by omega),aA]
 cases isWord x.Name
 ·rfl
 simp only [qc,bL,Bool.true_eq_false,if_false]
 unfold fI
 generalize hl:x.aP=l at *
 by_cases h0:l.length=0
 ·rw [aG h0,h0];rfl
 ·have e0: (((l.length:Nat):Int)==0)=false:=by rw [beq_eq_false_iff_ne];omega
  rw [aJ h0,e0,bL]
  by_cases h1:200<l.length
  ·rw [aG h1,cK (by omega),bJ]
  ·rw [aJ h1,bW (by omega),bL]
   rw [gl (ny l) (by omega) (fun k hk _=>by
    have hx:l[k]? =some l[k]:=aN hk
    have hb:=og hx
    rw [pT,oh] at hb
    rw [cB hx,aA,mn (by omega),aA,pD,aA,pD,aA,oj aU.Name hx (by omega)]
    unfold ny
    rw [hx]
    dsimp only
    cases isWord l[k].Name
    ·rfl
    ·cases decide (l[k].Kind<1)||decide (l[k].Kind>7)
     ·cases decide (l[k].aW<0)||decide (l[k].aW>200)
      ·cases gC aU.Name l k <;> rfl
      ·rfl
     ·rfl),aA]
   rw [qL]
   rw [gl (s6 l) (by omega) (fun k hk _=>by
    have hx:l[k]? =some l[k]:=aN hk
    rw [cB hx,aA,mz l k (by omega),aA]
    rw [qE (nz l[k]) (12:Int) (by rw [bO];omega) (fun j q hq=>by
     rw [cB hq,aA]
     have e: ((decide (l[k].aW>0)&&(l[k].aW==q.aW))&&(l[k].Kind != q.Kind))=nz l[k] q:=by
      unfold nz
      rw [jd];simp;omega
     rw [e];cases nz l[k] q <;> rfl),aA]
    unfold s6
    rw [hx]
    dsimp only
    cases (l.take k).any (nz l[k]) <;> rfl),aA,mQ]
   exact getD_or _ _
theorem qM {t:List aD} (h:bk t<=1048576):ea N t=some (checkTypes t):=by
 have hlen:=fy t
 unfold ea checkTypes
 by_cases h1:200<t.length
 ·rw [aG h1,cK (by omega),bJ]
 ·rw [aJ h1,bW (by omega),bL]
  rw [gl (ma t) (by omega) (fun k hk _=>by
   have hx:t[k]? =some t[k]:=aN hk
   have hb:=og hx
   rw [cB hx,aA,rp (by omega),aA,oj aD.Name hx (by omega)]
   unfold ma
   rw [hx]
   dsimp only
   cases isWord t[k].Name
   ·rfl
   ·simp only [Bool.true_eq_false,if_false]
    by_cases hc:fI t[k].aP=0
    ·rw [hc];cases gC aD.Name t k <;> rfl
    ·have: (fI t[k].aP != 0)=true:=by rw [bne_iff_ne];exact hc
     rw [this];simp [hc,sQ]),aA,mQ]
structure vh (t:List aD):Prop where
 sorted:fU aD.Name t
 pins: ∀x∈t,fU aU.Name x.aP
theorem oS {e:Nat->Option Int} {m:Nat} (hz: ∀k r,e k=some r->r≠0) (h: (i6 m e).getD 0=0): ∀k,k<m->e k=none:=by
 cases hx:i6 m e with
 | none=>exact iT.1 hx
 | some r=>
  obtain⟨k,_,hk,_⟩:=hY.1 hx
  rw [hx] at h;exact absurd h (hz k r hk)
theorem y3 {l:List aU} {k:Nat} {r:Int} (h:ny l k=some r):r≠0:=by
 unfold ny at h
 repeat' split at h
 all_goals first | (injection h with h;omega) | cases h
theorem vj {l:List aU} (h:fI l=0):fU aU.Name l:=by
 unfold fI at h
 split at h
 ·cases h
 split at h
 ·cases h
 refine kq fun k hk=>?_
 cases hx:i6 l.length (ny l) with
 | some r=>
  obtain⟨j,_,hj,_⟩:=hY.1 hx
  rw [hx] at h;exact absurd h (y3 hj)
 | none=>
  have:=iT.1 hx k hk
  unfold ny at this
  rw [aN hk] at this
  dsimp only at this
  repeat' split at this
  all_goals first | (simp at this;done) | simp_all
theorem pE {t:List aD} (h:checkTypes t=0):vh t:=by
 unfold checkTypes at h
 split at h
 ·cases h
 have hz: ∀k r,ma t k=some r->r≠0:=by
  intro k r hk
  unfold ma at hk
  repeat' split at hk
  all_goals first | (injection hk with hk;subst hk;first | assumption | omega) | cases hk
 have hn:=oS hz h
 have key: ∀k (hk:k<t.length),fI t[k].aP=0/\gC aD.Name t k=false:=by
  intro k hk
  have:=hn k hk
  unfold ma at this
  rw [aN hk] at this
  dsimp only at this
  repeat' split at this
  all_goals first | (simp at this;done) | simp_all
 refine⟨kq fun k hk=>(key k hk).2,fun x hx=>?_⟩
 obtain⟨k,hk⟩:=iL hx
 obtain⟨hlt,rfl⟩:=bM.1 hk
 exact vj (key k hlt).1
end
end Go.Gk
namespace Go.Gk
open Go
section
variable {N:Nat}
theorem rq {t:List aD} {s:aT} (hs:fU aD.Name t) (ht:bk t<=1048576) (hN:4194304<=N):eZ N t s=some (nat? aD.Name t s):=by
 have:=fy t
 obtain⟨r,h1,h2⟩:=vd (N:=N) (key:=aD.Name) (l:=t) (s:=s) (φ:=ff N) (fun x=>rfl) hs (by omega) hN
 have e:cM N t s (ff N)=vc N t s (ff N):=rfl
 unfold eZ
 rw [e,h1,aA];exact h2
theorem y4 {l:List Part} {s:aT} (hs:fU Part.Name l) (hl:l.length<=1048576) (hN:4194304<=N):iB N l s=some (nat? Part.Name l s):=by
 obtain⟨r,h1,h2⟩:=vd (N:=N) (key:=Part.Name) (l:=l) (s:=s) (φ:=fg N) (fun x=>rfl) hs (by omega) hN
 have e:cZ N l s (fg N)=vc N l s (fg N):=rfl
 unfold iB
 rw [e,h1,aA];exact h2
theorem wI {y:aD} {s:aT} (hs:fU aU.Name y.aP) (hl:y.aP.length<=1048576) (hN:4194304<=N):g9 N y s=some (nat? aU.Name y.aP s):=by
 obtain⟨r,h1,h2⟩:=vd (N:=N) (key:=aU.Name) (l:=y.aP) (s:=s) (φ:=fG N) (fun x=>rfl) hs (by omega) hN
 have e:cP N y.aP s (fG N)=vc N y.aP s (fG N):=rfl
 unfold g9
 rw [e,h1,aA];exact h2
theorem oT {t:List aD} {s:aT} (hl:t.length<=1048576):dJ N t s=some (nat? aD.Name t s):=by
 rw [<-sT (by omega)];rfl
theorem ue {l:List Part} {s:aT} (hl:l.length<=1048576):fc N l s=some (nat? Part.Name l s):=by
 rw [<-sT (by omega)];rfl
theorem wJ {y:aD} {s:aT} (hl:y.aP.length<=1048576):fm N y s=some (nat? aU.Name y.aP s):=by
 rw [<-sT (by omega)];rfl
theorem gQ {α:Type} (key:α->aT) (l:List α) (s:aT): (nat? key l s = -1/\∀x∈l,key x≠s)\/∃k x,nat? key l s= ((k:Nat):Int)/\l[k]? =some x/\key x=s:=by
 rcases hZ l (fun x=>(key x).iM s) with ⟨h1,h2⟩ | ⟨k,x,h1,h2,h3,_⟩
 ·exact .inl ⟨h1,fun x hx=>ld.1 (h2 x hx)⟩
 ·exact .inr ⟨k,x,h1,h2,ko.1 h3⟩
theorem yd {α:Type} (key:α->aT) (l:List α) (s:aT):decide (nat? key l s>=0)=l.any (fun x=>(key x).iM s):=u9 _ _
def j3 (t:List aD) (l:List Part) (k:Nat):Option Int:=
 match l[k]? with
 | none=>none
 | some p=>if kO p.Name=false then some 5 else if nat? aD.Name t p.cE<0 then some 9 else if gC Part.Name l k=true then some 8 else none
def dB (t:List aD) (l:List Part):Int:=if 1000<l.length then 2 else (i6 l.length (j3 t l)).getD 0
theorem s8 {R:Type} (a:Bool) (z:Int) (b:Bool) (f:Int->R):
  ((bif (!a) then (some (.rt (f 5))) else (bif (decide (z<0)) then (some (.rt (f 9))) else ((some b).bind fun s=>bif s then (some (.rt (f 8))) else (some (.nx ()))))):Option (Fl Unit R)) =
  some (sQ ((if a=false then some (5:Int) else if z<0 then some 9 else if b=true then some 8 else none).map f) ()):=by
 cases a
 ·rfl
 ·by_cases hz:z<0
  ·rw [cK hz];simp [sQ,hz]
  ·rw [bW hz];cases b <;> simp [sQ,hz]
theorem s9 (o:Option Int):o.map (fun x=>x)=o:=by cases o <;> rfl
theorem ta {t:List aD} {l:List Part} (hs:fU aD.Name t) (ht:bk t<=1048576) (hl:l.length<=1048576) (hln: ∀p∈l,p.Name.bQ.length<=2097152) (hN:4194304<=N):
  fN N t l (fO N)=some (dB t l):=by
 unfold fN dB
 by_cases h1:1000<l.length
 ·rw [aG h1,cK (by omega),bJ]
 ·rw [aJ h1,bW (by omega),bL]
  rw [gl (j3 t l) (by omega) (fun k hk _=>by
   have hx:l[k]? =some l[k]:=aN hk
   have hb:=hln _ (d3 hk)
   rw [cB hx,aA,l9 (by omega) hN,aA,rq hs ht hN,aA,oj Part.Name hx (by omega)]
   refine(s8 _ _ _ (fun x:Int=>x)).trans ?_
   rw [s9];unfold j3;rw [hx]),aA,mQ]
def ju (t:List aD) (l:List Part) (p:bT):Bool:=
 match l.find? (fun x=>x.Name.iM p.Part) with
 | none=>false
 | some x=>match t.find? (fun y=>y.Name.iM x.cE) with
  | none=>false
  | some y=>y.aP.any (fun q=>q.Name.iM p.bT)
theorem qN {α:Type} {l:List α} {p:α->Bool} {k:Nat} {x:α} (hk:t3 l p= ((k:Nat):Int)) (hx:l[k]? =some x):l.find? p=some x:=by
 rcases hZ l p with ⟨h1,_⟩ | ⟨k',x',h1,h2,h3,h4⟩
 ·omega
 ·have:k'=k:=by omega
  subst this
  rw [hx] at h2;injection h2 with h2;subst h2
  rw [List.find?_eq_some_iff_getElem]
  obtain⟨hlt,hxx⟩:=bM.1 hx
  exact⟨h3,k',hlt,hxx,fun j hj=>by rw [h4 j l[j] hj (aN (by omega))];rfl⟩
theorem uf {α:Type} {l:List α} {p:α->Bool} (hk:t3 l p = -1):l.find? p=none:=by
 rcases hZ l p with ⟨_,h⟩ | ⟨k',x',h1,_⟩
 ·rw [List.find?_eq_none];intro x hx;rw [h x hx];decide
 ·omega
def Typed (t:List aD) (l:List Part):Prop:=∀x∈l,0<=nat? aD.Name t x.cE
theorem rL {t:List aD} {l:List Part} {p:bT} (htl:Typed t l) {fp:Option Int} {ft:aT->Option Int} {fq:aD->Option Int}
  (h1:fp=some (nat? Part.Name l p.Part)) (h2: ∀s,ft s=some (nat? aD.Name t s)) (h3: ∀y∈t,fq y=some (nat? aU.Name y.aP p.bT)):
  (fp.bind fun x2=>(bif (decide (x2>=0)) then ((idx l x2).bind fun x18=>(ft x18.cE).bind fun x21=>(idx t x21).bind fun E1=>(fq E1).bind fun x25=>some (decide (x25>=0))) else (some false)).bind fun s16=>some s16)=some (ju t l p):=by
 rw [h1,aA]
 unfold ju
 rcases gQ Part.Name l p.Part with ⟨h4,_⟩ | ⟨k,x,h4,h5,h6⟩
 ·rw [uf h4,h4];rfl
 ·rw [qN h4 h5,h4,cK (by omega),bJ,cB h5,aA,h2,aA]
  dsimp only
  have h7:=htl x (eR h5)
  rcases gQ aD.Name t x.cE with ⟨h8,_⟩ | ⟨j,y,h8,h9,_⟩
  ·omega
  ·rw [qN h8 h9,h8,cB h9,aA,h3 y (eR h9),aA,aA,yd]
theorem p6 {t:List aD} {l:List Part} {p:bT} (ht:vh t) (hl:fU Part.Name l) (htl:Typed t l) (hbt:bk t<=1048576) (hbl:l.length<=1048576) (hN:4194304<=N):
  jN N t l p=some (ju t l p):=by
 exact rL htl (y4 hl (by omega) hN) (fun s=>rq ht.sorted hbt hN) (fun y hy=>wI (ht.pins y hy) (by
  have h1:=oe hy;rw [jz] at h1;have h2:=fy y.aP;omega) hN)
theorem tB {t:List aD} {x:aH} {p:bT} (htl:Typed t x.aK) (hbt:bk t<=1048576) (hbl:bk x<=1048576):gi N t x p=some (ju t x.aK p):=by
 rw [lx] at hbl
 have h1:=fy x.aK
 have h2:=fy t
 exact rL htl (ue (by omega)) (fun s=>oT (by omega)) (fun y hy=>wJ (by
  have h1:=oe hy;rw [jz] at h1;have h2:=fy y.aP;omega))
def mb (a b:bT):Bool:=a.Part.ks b.Part||(a.Part.iM b.Part&&a.bT.ks b.bT)
def lI (l:List bT) (k:Nat):Bool:=match l[k]?,l[k - 1]? with | some p,some q=>decide (0<k)&& !mb q p | _,_=>false
theorem xC (a b:aT):0<Lib.compareBytes a.bQ b.bQ↔aT.lt b a:=by
 have h1:=jq a.bQ b.bQ
 have h2:=iD a.bQ b.bQ
 rcases aT.wA a b with h | h | h
 ·have h3:=h1.2 h
  exact⟨fun h'=>by omega,fun h'=>absurd h' (aT.lt_asymm h)⟩
 ·subst h
  have h3:=h2.2 rfl
  exact⟨fun h'=>by omega,fun h'=>absurd h' (aT.lt_irrefl _)⟩
 ·refine⟨fun _=>h,fun _=>?_⟩
  have h3: ¬Lib.compareBytes a.bQ b.bQ<0:=fun h'=>aT.lt_asymm h (h1.1 h')
  have h4: ¬Lib.compareBytes a.bQ b.bQ=0:=fun h'=>aT.pA h (aT.ext' (h2.1 h')).symm
  omega
def vk (a b:bT):Int:=if Lib.compareBytes a.Part.bQ b.Part.bQ=0 then Lib.compareBytes a.bT.bQ b.bT.bQ else Lib.compareBytes a.Part.bQ b.Part.bQ
theorem tb (a b:bT):gr N a b=some (vk a b):=by
 show (bif (Lib.compareBytes a.Part.bQ b.Part.bQ != 0) then some (Lib.compareBytes a.Part.bQ b.Part.bQ) else some (Lib.compareBytes a.bT.bQ b.bT.bQ))=_
 unfold vk
 by_cases h:Lib.compareBytes a.Part.bQ b.Part.bQ=0
 ·rw [h];rfl
 ·have: (Lib.compareBytes a.Part.bQ b.Part.bQ != 0)=true:=by rw [bne_iff_ne];exact h
  rw [this,aJ h];rfl
theorem y5 (a b:bT):decide (vk a b<=0) = !mb b a:=by
 unfold vk mb
 by_cases h:Lib.compareBytes a.Part.bQ b.Part.bQ=0
 ·have e:a.Part=b.Part:=aT.ext' ((iD _ _).1 h)
  have e2:b.Part.ks a.Part=false:=by rw [e,<-kh];exact aT.lt_irrefl _
  rw [aG h,e2,ko.2 e.symm,Bool.false_or,Bool.true_and]
  have:=xC a.bT b.bT
  rw [jd,fx,Bool.not_eq_true',<-kh]
  constructor
  ·intro h1 h2;have:=this.2 h2;omega
  ·intro h1
   by_cases h3:0<Lib.compareBytes a.bT.bQ b.bT.bQ
   ·exact absurd (this.1 h3) h1
   ·omega
 ·have e:b.Part≠a.Part:=fun e=>h ((iD _ _).2 (by rw [e]))
  rw [aJ h,ld.2 e,Bool.false_and,Bool.or_false]
  have:=xC a.Part b.Part
  rw [jd,fx,Bool.not_eq_true',<-kh]
  constructor
  ·intro h1 h2;have:=this.2 h2;omega
  ·intro h1
   by_cases h3:0<Lib.compareBytes a.Part.bQ b.Part.bQ
   ·exact absurd (this.1 h3) h1
   ·omega
theorem ug {l:List bT} {k:Nat} {x:bT} {f:bT->Option Bool} (hf: ∀y,f y=some (!mb y x)) (hx:l[k]? =some x) (hl:l.length<=1048576):
  (bif (decide (((k:Nat):Int)>0)) then ((idx l (IntKind.wrap .i64 (((k:Nat):Int) - 1))).bind f) else (some false))=some (lI l k):=by
 have hk:=(bM.1 hx).1
 unfold lI
 by_cases h0:0<k
 ·rw [cK (by omega),bJ,jy h0 (by omega),gw l _ (by omega),aA,hx,aN (by omega:k - 1<l.length),hf]
  simp [h0]
 ·have:k=0:=by omega
  subst this
  rw [hx];simp
def nA (l:List Net) (p:bT):Bool:=l.any (fun n=>decide (p∈n.aP))
def nI (t:List aD) (x:aH) (i:Nat) (l:List bT) (k:Nat):Option Int:=
 match l[k]? with
 | none=>none
 | some p=>if ju t x.aK p=false then some 9 else if lI l k=true then some 8 else if nA (x.aY.take i) p=true then some 7 else none
def nB (t:List aD) (x:aH) (i:Nat):Option Int:=
 match x.aY[i]? with
 | none=>none
 | some n=>if kO n.Name=false then some 5 else if n.aP.length=0 then some 9 else if 500<n.aP.length then some 2 else
   (i6 n.aP.length (nI t x i n.aP)).or (if 0<n.kQ.length then some 3 else if gC Net.Name x.aY i=true then some 8 else none)
def mR (t:List aD) (x:aH):Int:=if 1000<x.aY.length then 2 else (i6 x.aY.length (nB t x)).getD 0
def fZ (t:List aD) (x:aH):Int:=
 if checkTypes t≠0 then checkTypes t else if dB t x.aK≠0 then dB t x.aK else mR t x
theorem p7 {t:List aD} {l:List Part} {k:Nat} {r:Int} (h:j3 t l k=some r):r≠0:=by
 unfold j3 at h
 repeat' split at h
 all_goals first | (injection h with h;omega) | cases h
structure ye (t:List aD) (l:List Part):Prop where
 sorted:fU Part.Name l
 typed:Typed t l
theorem mo {t:List aD} {l:List Part} (h:dB t l=0):ye t l:=by
 unfold dB at h
 split at h
 ·cases h
 have hn:=oS (fun k r hk=>p7 hk) h
 have key: ∀k (hk:k<l.length),0<=nat? aD.Name t l[k].cE/\gC Part.Name l k=false:=by
  intro k hk
  have:=hn k hk
  unfold j3 at this
  rw [aN hk] at this
  dsimp only at this
  repeat' split at this
  all_goals first | (simp at this;done) | simp_all
 refine⟨kq fun k hk=>(key k hk).2,fun x hx=>?_⟩
 obtain⟨k,hk⟩:=iL hx
 obtain⟨hlt,rfl⟩:=bM.1 hk
 exact(key k hlt).1
theorem wK {t:List aD} {x:aH} {i:Nat} {l:List bT} {k:Nat} {r:Int} (h:nI t x i l k=some r):r≠0:=by
 unfold nI at h
 repeat' split at h
 all_goals first | (injection h with h;omega) | cases h
theorem r6 {l:List bT} {has:bT->Option Bool} {m:List (bT×Bool)} (hB:bT->Bool) (hh: ∀p∈l,has p=some (hB p)) (hl:l.length<=1048576):
  fa N l has m=some (if 500<l.length then ((2:Int),m) else
   (i6 l.length (fun k=>match l[k]? with
    | none=>none
    | some p=>if hB p=false then some (9:Int) else if lI l k=true then some 8 else if ia m p false=true then some 7 else none)).elim ((0:Int),lG m l true) (fun r=>(r,m))):=by
 unfold fa
 by_cases h1:500<l.length
 ·rw [aG h1,cK (by omega),bJ]
 ·rw [aJ h1,bW (by omega),bL]
  rw [gl (fun k=>Option.map (fun(r:Int)=>(r,m)) (match l[k]? with
    | none=>none
    | some p=>if hB p=false then some (9:Int) else if lI l k=true then some 8 else if ia m p false=true then some 7 else none)) (by omega) (fun k hk _=>by
   have hx:l[k]? =some l[k]:=aN hk
   rw [cB hx,aA,hh _ (d3 hk),aA,ug (fun y=>by rw [tb,aA,y5]) hx hl,hx]
   dsimp only
   cases hB l[k]
   ·rfl
   ·cases lI l k
    ·cases ia m l[k] false <;> rfl
    ·rfl),aA,qL,t8 true (by omega),aA]
  rw [<-z7]
  generalize i6 l.length _=o
  cases o <;> rfl
def nC (x:aH) (i:Nat):List (bT×Bool):=(x.aY.take i).foldl (fun m n=>lG m n.aP true) []
theorem y6 (l:List Net) (p:bT): ∀(m:List (bT×Bool)),ia (l.foldl (fun m n=>lG m n.aP true) m) p false= (nA l p||ia m p false):=by
 induction l with
 | nil=>intro m;rfl
 | cons n l ih=>
  intro m
  rw [List.foldl_cons,ih,sV]
  unfold nA
  rw [List.any_cons]
  by_cases h:p∈n.aP <;> simp [h]
theorem vl (x:aH) (i:Nat) (p:bT):ia (nC x i) p false=nA (x.aY.take i) p:=by
 unfold nC
 rw [y6];simp [ia]
theorem vm {x:aH} {i:Nat} {n:Net} (h:x.aY[i]? =some n):nC x (i+1)=lG (nC x i) n.aP true:=by
 unfold nC
 obtain⟨hlt,rfl⟩:=bM.1 h
 rw [fw hlt,List.foldl_append];rfl
structure Dh (x:aH):Prop where
 pl:x.aK.length<=1048576
 pn: ∀p∈x.aK,p.Name.bQ.length<=2097152
 nl:x.aY.length<=1048576
 nn: ∀n∈x.aY,n.Name.bQ.length<=2097152
 np: ∀n∈x.aY,n.aP.length<=1048576
theorem Ak {x:aH} (h:bk x<=1048576):Dh x:=by
 rw [lx] at h
 have h1:=fy x.aK
 have h2:=fy x.aY
 refine⟨by omega,fun p hp=>?_,by omega,fun n hn=>?_,fun n hn=>?_⟩
 ·have:=oe hp
  rw [ve] at this
  have h3:=oh p.Name
  omega
 ·have:=oe hn
  rw [ri,oh] at this
  omega
 ·have:=oe hn
  rw [ri] at this
  have h3:=fy n.aP
  omega
theorem nX {t:List aD} {x:aH} (hbt:bk t<=1048576) (hbx:Dh x) (hN:4194304<=N):eH N t x=some (fZ t x):=by
 have hpl:=hbx.pl
 have hln:=hbx.nl
 unfold eH fZ
 rw [nW hbt,aA]
 by_cases h1:checkTypes t≠0
 ·have e: (checkTypes t != 0)=true:=by rw [bne_iff_ne];exact h1
  rw [e,bJ,aG h1]
 replace h1:=Decidable.not_not.1 h1
 have ht:=pE h1
 have e: (checkTypes t != 0)=false:=by rw [h1];rfl
 rw [e,bL,aJ (fun h=>h h1),ta ht.sorted hbt hbx.pl hbx.pn hN,aA]
 by_cases h2:dB t x.aK≠0
 ·have e: (dB t x.aK != 0)=true:=by rw [bne_iff_ne];exact h2
  rw [e,bJ,aG h2]
 replace h2:=Decidable.not_not.1 h2
 have hp:=mo h2
 have e: (dB t x.aK != 0)=false:=by rw [h2];rfl
 rw [e,bL,aJ (fun h=>h h2)]
 unfold mR
 by_cases h3:1000<x.aY.length
 ·rw [aG h3,cK (by omega),bJ]
 ·rw [aJ h3,bW (by omega),bL]
  rw [x8 (s:=([]:List (bT×Bool))) (nC x) (nB t x) (by omega) rfl (fun i hi _=>by
   have hx:x.aY[i]? =some x.aY[i]:=aN hi
   have hb2:=hbx.nn _ (d3 hi)
   have hlp:=hbx.np _ (d3 hi)
   rw [vm hx]
   rw [cB hx,aA,l9 (by omega) hN,aA,r6 (ju t x.aK) (fun p _=>by
    unfold gh
    rw [p6 ht hp.sorted hp.typed hbt hpl hN,aA]) (by omega),aA,oj Net.Name hx (by omega)]
   unfold nB
   rw [hx]
   dsimp only
   cases kO x.aY[i].Name
   ·rfl
   simp only [qc,bL,Bool.true_eq_false,if_false]
   by_cases h4:x.aY[i].aP.length=0
   ·rw [aG h4,h4];rfl
   have e4: (((x.aY[i].aP.length:Nat):Int)==0)=false:=by rw [beq_eq_false_iff_ne];omega
   rw [aJ h4,e4,bL]
   by_cases h5:500<x.aY[i].aP.length
   ·rw [aG h5,aG h5];rfl
   rw [aJ h5,aJ h5]
   have e5: (i6 x.aY[i].aP.length (fun k=>match x.aY[i].aP[k]? with
    | none=>none
    | some p=>if ju t x.aK p=false then some (9:Int) else if lI x.aY[i].aP k=true then some 8 else if ia (nC x i) p false=true then some 7 else none))=i6 x.aY[i].aP.length (nI t x i x.aY[i].aP):=by
    congr 1
    funext k
    unfold nI
    split
    ·rfl
    ·rw [vl]
   rw [e5]
   cases h6:i6 x.aY[i].aP.length (nI t x i x.aY[i].aP) with
   | some r=>
    obtain⟨j,_,hj,_⟩:=hY.1 h6
    have e6: (r != 0)=true:=by rw [bne_iff_ne];exact wK hj
    simp only [Option.elim_some,e6,bJ];rfl
   | none=>
    simp only [Option.elim_none,bne_self_eq_false,bL,Option.none_or]
    by_cases h7:0<x.aY[i].kQ.length
    ·rw [aG h7,cK (by omega)];rfl
    ·rw [aJ h7,bW (by omega)]
     cases gC Net.Name x.aY i <;> rfl),aA]
  cases i6 x.aY.length (nB t x) <;> rfl
theorem oD {t:List aD} {x:aH} (hbt:bk t<=1048576) (hbx:bk x<=1048576) (hN:4194304<=N):eH N t x=some (fZ t x):=nX hbt (Ak hbx) hN
theorem y7 {l:List Net} {p:bT} (hb:bk l<=1048576):fe N l p=some (nA l p):=by
 have:=fy l
 unfold fe
 rw [qE (fun n=>decide (p∈n.aP)) true (by omega) (fun k n hn=>by
  have hb2:=og hn
  rw [ri] at hb2
  have:=fy n.aP
  have e:eJ N n.aP p=rh n.aP p:=rfl
  rw [cB hn,aA,e,qF (by omega),aA]
  cases decide (p∈n.aP) <;> rfl),aA]
 unfold nA
 cases l.any _ <;> rfl
theorem rr {t:List aD} {x:aH} (hbt:bk t<=1048576) (hbx:bk x<=1048576) (hN:4194304<=N):
  er N t x=some (if dB t x.aK≠0 then dB t x.aK else mR t x):=by
 have hb:=lx x
 have hln:=fy x.aY
 have hlp:=fy x.aK
 have hlt:=fy t
 unfold er
 by_cases h1:1000<x.aK.length
 ·have:dB t x.aK=2:=by unfold dB;rw [aG h1]
  rw [cK (by omega),bJ,this];rfl
 rw [bW (by omega),bL]
 rw [gl (j3 t x.aK) (by omega) (fun k hk _=>by
  have hx:x.aK[k]? =some x.aK[k]:=aN hk
  have hb:=og hx
  rw [ve] at hb
  have hb2:=oh x.aK[k].Name
  rw [cB hx,aA,pC (by omega) hN,aA,oT (by omega),aA,oj Part.Name hx (by omega)]
  refine(s8 _ _ _ (fun x:Int=>x)).trans ?_
  rw [s9];unfold j3;rw [hx]),aA,qL]
 have hcp:dB t x.aK= (i6 x.aK.length (j3 t x.aK)).getD 0:=by unfold dB;rw [aJ h1]
 cases h2:i6 x.aK.length (j3 t x.aK) with
 | some r=>
  obtain⟨j,_,hj,_⟩:=hY.1 h2
  rw [h2] at hcp
  simp only [Option.getD_some] at hcp
  rw [hcp,aG (p7 hj)];rfl
 | none=>
  rw [h2] at hcp
  simp only [Option.getD_none] at hcp
  have hp:=mo hcp
  rw [hcp,aJ (fun h=>h rfl)]
  simp only [Option.elim_none]
  unfold mR
  by_cases h3:1000<x.aY.length
  ·rw [aG h3,cK (by omega),bJ]
  ·rw [aJ h3,bW (by omega),bL]
   rw [gl (nB t x) (by omega) (fun i hi _=>by
    have hx:x.aY[i]? =some x.aY[i]:=aN hi
    have hb2:=og hx
    rw [ri,oh] at hb2
    have hlp:=fy x.aY[i].aP
    rw [cB hx,aA,pC (by omega) hN,aA,oj Net.Name hx (by omega)]
    unfold nB
    rw [hx]
    dsimp only
    cases kO x.aY[i].Name
    ·rfl
    simp only [qc,bL,Bool.true_eq_false,if_false]
    by_cases h4:x.aY[i].aP.length=0
    ·rw [aG h4,h4];rfl
    have e4: (((x.aY[i].aP.length:Nat):Int)==0)=false:=by rw [beq_eq_false_iff_ne];omega
    rw [aJ h4,e4,bL]
    by_cases h5:500<x.aY[i].aP.length
    ·rw [aG h5,cK (by omega)];rfl
    rw [aJ h5,bW (by omega),bL]
    rw [gl (nI t x i x.aY[i].aP) (by omega) (fun k hk _=>by
     have hy:x.aY[i].aP[k]? =some x.aY[i].aP[k]:=aN hk
     rw [cB hy,aA,tB hp.typed hbt hbx,aA,ug (f:=fun x522=>(gj N x522 x.aY[i].aP[k]).bind fun x526=>some (!x526)) (fun y=>rfl) hy (by omega),aA,mz _ i (by omega),aA,y7 (by have:=ya x.aY i;omega),aA]
     unfold nI
     rw [hy]
     dsimp only
     cases ju t x.aK x.aY[i].aP[k]
     ·rfl
     ·cases lI x.aY[i].aP k
      ·cases nA (x.aY.take i) x.aY[i].aP[k] <;> rfl
      ·rfl),aA,qL]
    cases i6 x.aY[i].aP.length (nI t x i x.aY[i].aP) with
    | some r=>rfl
    | none=>
     simp only [Option.elim_none,Option.none_or]
     by_cases h7:0<x.aY[i].kQ.length
     ·rw [aG h7,cK (by omega)];rfl
     ·rw [aJ h7,bW (by omega)]
      cases gC Net.Name x.aY i <;> rfl),aA,mQ]
theorem ru {t:List aD} {x:aH} (hbt:bk t<=1048576) (hbx:bk x<=1048576) (hN:4194304<=N):eu N t x=some (fZ t x):=by
 unfold eu fZ
 rw [qM hbt,aA,rr hbt hbx hN,aA]
 by_cases h1:checkTypes t=0
 ·rw [h1];rfl
 ·have e: (checkTypes t != 0)=true:=by rw [bne_iff_ne];exact h1
  rw [e,aG h1];rfl
end
end Go.Gk
namespace Go.Gk
open Go
theorem lJ:k8 nv:=⟨fun x=>(iD _ _).2 rfl,fun x y h=>aT.ext' ((iD _ _).1 h),fun x y=>by
 unfold nv
 rw [xC,jq];rfl,fun x y z h h2=>by
 unfold nv at *
 rw [jq] at *
 exact aT.lt_trans (a:=x) (b:=y) (c:=z) h h2⟩
section
variable {α:Type} {cf:α->α->Int} {N:Nat}
theorem Al {β:Type} (l:List α) (f:α->β) (z:β) (k:Nat) (hk:k<l.length): ((l.take k).map f++List.replicate (l.length - k) z).set k (f l[k])= (l.take (k+1)).map f++List.replicate (l.length - (k+1)) z:=by
 have e1: ((l.take k).map f).length=k:=by rw [dD,bO];omega
 rw [List.set_append_right _ _ (by omega),e1,Nat.sub_self,show l.length - k= (l.length - (k+1))+1 by omega,List.replicate_succ,List.set_cons_zero,fw hk,iI]
 simp
noncomputable def Am (z:α) (b N:Nat) (φ:α->α->Option Int) (p0:List α):Option (List Int×Int):=
 ((app b ([]:List α) p0).bind fun x32=>some x32).bind fun x32=>(nG φ x32).bind fun x34=>(mO z N x34 (fun y0 y1=>(φ y0 y1).bind fun x31=>some (x31==0))).bind fun x35=>(mk 8 (0:Int) (p0.length:Int)).bind fun x37=>(iY p0.length (fun(k39:Nat) (s40:List α×List Int)=>((idx p0 (k39:Int)).bind fun x54=>(vc N s40.1 x54 φ).bind fun x56=>(idx s40.2 (k39:Int)).bind fun x57=>some (s40.1,(s40.2.set (Int.toNat (k39:Int)) x56.1)):Option (List α×List Int))) (x35,x37)).bind fun s40=>some (s40.2,(s40.1.length:Int))
theorem uh [DecidableEq α] (hO:k8 cf) {z:α} {b:Nat} {φ:α->α->Option Int} {l:List α} (hφ: ∀x∈l,∀y∈l,φ x y=some (cf x y)) (hl:l.length<=1048576) (hb:b<=1000) (hN:4194304<=N):
  Ok (Am z b N φ l) (fun r=>∃d,d6 cf l d/\r= (l.map (rn d),(d.length:Int))):=by
 unfold Am
 rw [dR (by
  have:l.length*b<=1048576*1000:=Nat.mul_le_mul hl hb
  simpa using by omega),aA,aA,List.nil_append]
 obtain⟨m,hm,hp,hw⟩:=hO.sort hφ (by omega)
 refine Ok.eq hm ?_
 have hmm: ∀x,x∈m↔x∈l:=fun x=>hp.mem_iff
 have hml:m.length=l.length:=hp.length_eq
 refine Ok.bind (lH hO (fun x hx y hy=>by
  rw [hφ x ((hmm x).1 hx) y ((hmm y).1 hy),aA]
  congr 1
  by_cases e:x=y
  ·subst e;rw [hO.refl];simp
  ·rw [bW e];exact beq_eq_false_iff_ne.2 fun h=>e (hO.eq _ _ h)) hw (by omega) (by omega)) (fun d hd=>?_)
 have hD:d6 cf l d:=⟨hd.1,fun x=>(hd.2 x).trans (hmm x)⟩
 have hdl:=hD.len hO
 refine Ok.eq (oP _ (by omega)) ?_
 refine Ok.bind (Ok.iY (fun k s=>s= (d,(l.take k).map (rn d)++List.replicate (l.length - k) (0:Int))) (by omega) (by simp) (fun k s hk hs=>?_)) (fun s hs=>Ok.ret ⟨d,hD,?_⟩)
 ·subst hs
  refine Ok.idx hk ?_
  have hx:l[k]∈l:=d3 hk
  obtain⟨r,h1,h2,h3⟩:=Aj (N:=N) (l:=d) (s:=l[k]) (φ:=φ) (fun y=>cf y l[k]) (fun y hy=>hφ y ((hD.2 y).1 hy) _ hx) (fun i j x y hij hxi hyj hc=>by
   obtain⟨g1,rfl⟩:=bM.1 hxi
   obtain⟨g2,rfl⟩:=bM.1 hyj
   have h0:=lY.1 hD.1 i j g1 g2 hij
   have h4:=hO.vg l[k] d[j]
   rcases hO.B1 d[j] l[k] with e | e | e
   ·have:=hO.trans _ _ _ h0 e;omega
   ·rw [e] at h0;omega
   ·omega) (by omega) hN
  refine Ok.eq h1 ?_
  have e: (fun y=>cf y l[k]==0)=fun y=>decide (l[k]=y):=by
   funext y
   by_cases e:l[k]=y
   ·subst e;rw [hO.refl];simp
   ·rw [bW e];exact beq_eq_false_iff_ne.2 fun h=>e (hO.eq _ _ h).symm
  rw [e] at h2 h3
  have ht:r.2=true:=by
   rw [h2,jJ]
   exact⟨l[k],(hD.2 _).2 hx,by simp⟩
  have h3:=h3 ht
  refine Ok.idx (by simp;omega) (Ok.ret ?_)
  rw [h3,cV]
  congr 1
  exact Al l (rn d) 0 k hk
 ·subst hs
  simp
end
section
variable {N:Nat}
theorem y8 {l:List aT} (hl:l.length<=1048576) (hN:4194304<=N):Ok (eI N l) (fun r=>∃d,d6 nv l d/\r= (l.map (rn d),(d.length:Int))):=
 uh (z:=⟨[]⟩) (b:=16) (φ:=dy N) lJ (fun x _ y _=>rfl) hl (by omega) hN
theorem uj {l:List (List Int)} (hl:l.length<=1048576) (h: ∀x∈l,x.length<=4611686018427387904) (hN:4194304<=N):Ok (ei N l) (fun r=>∃d,d6 cmpL l d/\r= (l.map (rn d),(d.length:Int))):=
 uh (z:=[]) (b:=24) (φ:=cJ N) ik (fun x hx y _=>sZ (h x hx)) hl (by omega) hN
end
end Go.Gk
namespace Go.Gk
open Go
section
variable {α:Type} {cf:α->α->Int} {N:Nat}
theorem wL {all:List α} {s:α} {body:Int->Option (Fl Int Empty)} (hO:k8 cf) (hw:SW cf all) (h0:body 0=some (.br 0)) (hl:all.length<N)
  (hs: ∀k (hk:k<all.length),body ((k+1:Nat):Int)=some (if 0<cf all[k] s then .nx ((k:Nat):Int) else .br ((k+1:Nat):Int))):
  Ok (lh body N ((all.length:Nat):Int)) (Dg (fun r=>∃k:Nat,r= ((k:Nat):Int)/\k<=all.length/\(∀j (hj:j<all.length),k<=j->0<cf all[j] s)/\(∀j (hj:j<all.length),j<k->¬0<cf all[j] s)) (fun _=>True)):=by
 refine Ok.lh (fun r=>∃k:Nat,r= ((k:Nat):Int)/\k<=all.length/\(∀j (hj:j<all.length),k<=j->0<cf all[j] s)) (fun r=>r.toNat) ?_ ⟨all.length,rfl,bP _,fun j hj h=>by omega⟩ (by simp;omega)
 rintro r ⟨k,rfl,hk,h1⟩
 cases k with
 | zero=>
  refine Ok.of h0 ?_
  exact⟨0,rfl,by omega,h1,fun j hj h=>by omega⟩
 | succ k=>
  refine Ok.of (hs k (by omega)) ?_
  by_cases hc:0<cf all[k] s
  ·rw [aG hc]
   refine⟨⟨k,rfl,by omega,fun j hj h=>?_⟩,by simp⟩
   by_cases e:j=k
   ·subst e;exact hc
   ·exact h1 j hj (by omega)
  ·rw [aJ hc]
   refine⟨k+1,rfl,hk,h1,fun j hj h=>?_⟩
   by_cases e:j=k
   ·subst e;exact hc
   ·have h2:=lY.1 hw j k hj (by omega) (by omega)
    intro h3
    have h4:=hO.vg s all[j]
    have h5:=hO.vg s all[k]
    rcases hO.B1 all[j] all[k] with g | g | g
    ·exact hc (h5.1 (hO.trans _ _ _ (h4.2 h3) g))
    ·rw [g] at h3;exact hc h3
    ·exact h2 g
theorem tC {all:List α} {k j:Nat} {x:α} (h:x∈all.take k): ∃j,∃hj:j<all.length,j<k/\all[j]=x:=by
 obtain⟨j,hj,rfl⟩:=List.mem_iff_getElem.1 h
 rw [bO] at hj
 exact⟨j,by omega,by omega,by rw [List.getElem_take]⟩
theorem wM {all:List α} {k:Nat} {x:α} (h:x∈all.drop k): ∃j,∃hj:j<all.length,k<=j/\all[j]=x:=by
 obtain⟨j,hj,rfl⟩:=List.mem_iff_getElem.1 h
 rw [dG] at hj
 exact⟨k+j,by omega,by omega,by rw [List.getElem_drop]⟩
theorem wN {R:α->α->Prop} {all:List α} {s:α} {k:Nat} (hw:all.Pairwise R) (h1: ∀j (hj:j<all.length),k<=j->R s all[j]) (h2: ∀j (hj:j<all.length),j<k->R all[j] s): (all.take k++[s]++all.drop k).Pairwise R:=by
 rw [gI,List.pairwise_append]
 refine⟨hw.sublist (List.take_sublist _ _),?_,fun x hx y hy=>?_⟩
 ·rw [List.singleton_append,List.pairwise_cons]
  refine⟨fun y hy=>?_,hw.sublist (List.drop_sublist _ _)⟩
  obtain⟨j,hj,h3,rfl⟩:=wM hy
  exact h1 j hj h3
 ·obtain⟨j,hj,h3,rfl⟩:=tC (j:=0) hx
  rw [List.singleton_append,ja] at hy
  rcases hy with rfl | hy
  ·exact h2 j hj h3
  ·obtain⟨i,hi,h4,rfl⟩:=wM hy
   exact lY.1 hw j i hj hi (by omega)
theorem wO (all:List α) (s:α) (k:Nat): (all.take k++[s]++all.drop k).Perm (all++[s]):=by
 have h1: (all.take k++[s]++all.drop k).Perm (all.take k++(all.drop k++[s])):=by
  rw [gI];exact List.Perm.append_left _ List.perm_append_comm
 rwa [<-gI,List.take_append_drop] at h1
theorem uk {b:Nat} {l:List α} {s:α} {k:Nat} (hk:k<=l.length) (hl:l.length<=1048576) (hb:b<=1000):tp b l ((k:Nat):Int) [s]=some (l.take k++[s]++l.drop k):=by
 have h3: (l.length+1)*b<=1048577*1000:=Nat.mul_le_mul (by omega) hb
 unfold tp
 rw [aG ⟨by omega,by omega,rfl,by simp only [List.length_singleton];omega⟩,cV]
end
section
variable {N:Nat}
theorem SD.sw {α:Type} {cf:α->α->Int} (hO:k8 cf) {l:List α} (h:SD cf l):SW cf l:=h.imp fun{a b} hab h2=>hO.Cd (hO.trans _ _ _ hab h2)
theorem B3 {all:List (List Int)} {s:List Int} {done:List (List Int)} (hd:d6 cmpL done all) (hn:done.length<=1048576) (hr: ∀x∈done,x.length<=4611686018427387904) (hN:4194304<=N):
  Ok ((lh (fun(s484:Int)=>((bif (decide (s484>0)) then ((idx all (IntKind.wrap .i64 (s484 - 1))).bind fun x509=>(cJ N x509 s).bind fun x511=>some (decide (x511>0))) else (some false)).bind fun s507=>bif s507 then (some (.nx (IntKind.wrap .i64 (s484 - 1)))) else (some (.br s484)):Option (Fl (Int) Empty))) N (all.length:Int)).bind fun o529=>o529.cs (fun(s484:Int)=>(bif (s484==0) then (some true) else ((idx all (IntKind.wrap .i64 (s484 - 1))).bind fun x518=>(dA N x518 s).bind fun x520=>some (!x520))).bind fun s516=>(bif s516 then ((tp 24 all s484 ([s]: (List (List Int)))).bind fun x527=>some x527) else (some all)).bind fun s524=>some s524) (fun r=>r.elim))
   (fun r=>d6 cmpL (done++[s]) r):=by
 have r9:=hd.len ik
 have hla: ∀j (hj:j<all.length),all[j].length<=4611686018427387904:=fun j hj=>hr _ ((hd.2 _).1 (d3 hj))
 have hidx: ∀k (hk:k<all.length),idx all (IntKind.wrap .i64 (((k+1:Nat):Int) - 1))=some all[k]:=fun k hk=>by
  rw [jy (by omega) (by omega),oI,gw _ _ hk]
 refine Ok.bind (wL (s:=s) ik (hd.1.sw ik) (by rfl) (by omega) (fun k hk=>?_)) (fun o ho=>?_)
 ·rw [cK (by omega),bJ,hidx k hk,aA,sZ (hla k hk),aA,aA,jy (by omega) (by omega),oI]
  by_cases hc:0<cmpL all[k] s
  ·rw [aG hc,cK (by omega),bJ]
  ·rw [aJ hc,bW (by omega),bL]
 ·refine Ok.cs ho ?_ (fun r=>r.elim)
  rintro r ⟨k,rfl,hk,h1,h2⟩
  have key: ∀b:Bool,(b=true↔¬s∈done)->Ok ((bif b then ((tp 24 all ((k:Nat):Int) ([s]: (List (List Int)))).bind fun x527=>some x527) else (some all)).bind fun s524=>some s524) (fun r=>d6 cmpL (done++[s]) r):=by
   intro b hb
   cases b
   ·rw [bL,aA]
    have hm:s∈done:=Decidable.not_not.1 fun h=>by have:=hb.2 h;cases this
    refine Ok.ret ⟨hd.1,fun x=>?_⟩
    rw [hd.2,jH]
    constructor
    ·exact .inl
    ·rintro(h | h)
     ·exact h
     ·simp at h;subst h;exact hm
   ·rw [bJ,uk hk (by omega) (by omega),aA,aA]
    have hm:=hb.1 rfl
    refine Ok.ret ⟨wN hd.1 (fun j hj h=>(ik.vg _ _).2 (h1 j hj h)) (fun j hj h=>?_),fun x=>?_⟩
    ·have h3:=h2 j hj h
     rcases ik.B1 all[j] s with e | e | e
     ·exact e
     ·exact absurd ((hd.2 _).1 (e▸d3 hj)) hm
     ·exact absurd ((ik.vg _ _).1 e) h3
    ·rw [(wO all s k).mem_iff,jH,jH,hd.2]
  cases k with
  | zero=>
   rw [show ((((0:Nat):Int))==0)=true from rfl,bJ,aA]
   refine key true ⟨fun _ h=>?_,fun _=>rfl⟩
   obtain⟨j,hj,e⟩:=List.mem_iff_getElem.1 ((hd.2 s).2 h)
   have:=h1 j hj (by omega)
   rw [e,mN] at this;omega
  | succ k=>
   rw [show ((((k+1:Nat):Int))==0)=false by rw [beq_eq_false_iff_ne];omega,bL,hidx k (by omega),aA,mP (hla k (by omega)),aA,aA]
   refine key _ ⟨fun hb h=>?_,fun h=>?_⟩
   ·have hne:all[k]≠s:=by simpa using hb
    obtain⟨j,hj,e⟩:=List.mem_iff_getElem.1 ((hd.2 s).2 h)
    by_cases hjk:k+1<=j
    ·have:=h1 j hj hjk
     rw [e,mN] at this;omega
    ·have h3:=h2 k (by omega) (by omega)
     by_cases e2:j=k
     ·subst e2;exact hne e
     ·have h4:=lY.1 hd.1 j k hj (by omega) (by omega)
      rw [e] at h4
      exact h3 ((ik.vg _ _).1 h4)
   ·have hne:all[k]≠s:=fun e=>h ((hd.2 _).1 (e▸d3 _))
    simp [hne]
theorem A9 {d:List (List Int)} {s:List Int} (hs:s∈d) (hl:d.length<=1048576) (hr: ∀x∈d,x.length<=4611686018427387904) (hN:4194304<=N):
  lh (fun(s728:Int)=>((idx d s728).bind fun x735=>(dA N x735 s).bind fun x737=>bif (!x737) then (some (.nx (IntKind.wrap .i64 (s728+1)))) else (some (.br s728)):Option (Fl (Int) Empty))) N 0=some (.go (rn d s)):=by
 obtain⟨m,hm,h1,h2⟩:=Ag hs
 have:=Ok.lh (N:=N) (R:=Empty) (s:=(0:Int)) (body:=fun(s728:Int)=>((idx d s728).bind fun x735=>(dA N x735 s).bind fun x737=>bif (!x737) then (some (.nx (IntKind.wrap .i64 (s728+1)))) else (some (.br s728)):Option (Fl (Int) Empty)))
  (fun r=>∃k:Nat,r= ((k:Nat):Int)/\k<=m/\∀j y,j<k->d[j]? =some y->decide (s=y)=false) (fun r=>d.length - r.toNat) (Go:=fun r=>r=rn d s) (Rt:=fun _=>True) (by
   rintro r ⟨k,rfl,hk,h3⟩
   have hkl:k<d.length:=by omega
   refine Ok.idx hkl (Ok.eq (mP (hr _ (d3 hkl))) ?_)
   refine Ok.bif (fun hb=>?_) (fun hb=>Ok.br ?_)
   ·have hne:d[k]≠s:=by simpa using hb
    have hkm:k≠m:=fun e=>by
     subst e;rw [aN hkl] at h2;injection h2 with h2;exact hne h2
    rw [gX (by omega)]
    refine Ok.nx ⟨⟨k+1,rfl,by omega,fun j y hj hy=>?_⟩,by simp only [cV];omega⟩
    by_cases e:j=k
    ·subst e;rw [aN hkl] at hy;injection hy with hy
     rw [decide_eq_false_iff_not];rintro rfl;exact hne hy
    ·exact h3 j y (by omega) hy
   ·have he:d[k]=s:=by simpa using hb
    unfold rn
    rw [ky (k:=k) (x:=d[k]) (aN hkl) (by simp [he]) h3]) ⟨0,rfl,by omega,fun j y hj=>by omega⟩ (by simp;omega)
 obtain⟨o,h3,h4⟩:=this
 rw [h3]
 cases o with
 | go r=>rw [show r=rn d s from h4]
 | rt r=>exact r.elim
theorem oU {α:Type} {L:List (List α)} {i:Nat} (hi:i<L.length): (L.take (i+1)).flatten= (L.take i).flatten++L[i]:=by
 rw [fw hi,List.flatten_append,List.flatten_singleton]
theorem wP {α:Type} {L:List (List α)} {i:Nat}: (L.take i).flatten.length<=L.flatten.length:=by
 conv=>rhs;rw [<-List.take_append_drop i L,List.flatten_append,cN]
 omega
theorem yf {α:Type} {L:List (List α)} {i:Nat} (hi:i<L.length): (L.take i).flatten.length+L[i].length<=L.flatten.length:=by
 have:=wP (L:=L) (i:=i+1)
 rw [oU hi,cN] at this;exact this
theorem rM {L:List (List (List Int))} (hL:L.length<=1048576) (hl:L.flatten.length<=1048576) (hr: ∀x∈L.flatten,x.length<=4611686018427387904) (hN:4194304<=N):
  Ok (eL N L) (fun r=>∃d,d6 cmpL L.flatten d/\r= (L.map (fun l=>l.map (rn d)),(d.length:Int))):=by
 unfold eL
 have hsub: ∀i,∀x∈(L.take i).flatten,x∈L.flatten:=fun i x hx=>by
  rw [<-List.take_append_drop i L,List.flatten_append];exact List.mem_append_left _ hx
 refine Ok.bind (Ok.iY (fun i s=>d6 cmpL (L.take i).flatten s) (by omega) ⟨by simp [SD],by simp⟩ (fun i s hi hs=>?_)) (fun d hd=>?_)
 ·refine Ok.idx hi ?_
  have hin: ∀x∈L[i],x∈L.flatten:=fun x hx=>List.mem_flatten.2 ⟨_,d3 hi,hx⟩
  have hfi:=yf hi
  refine Ok.bind (P:=fun r=>d6 cmpL ((L.take i).flatten++L[i]) r) (Ok.mono (Ok.iY (fun k s=>d6 cmpL ((L.take i).flatten++L[i].take k) s) (by omega) (by simpa using hs) (fun k s hk hs=>?_)) (fun r hr=>by rwa [eB] at hr)) (fun r hr=>Ok.ret ?_)
  ·refine Ok.idx hk ?_
   rw [fw hk,<-gI]
   refine B3 hs (by rw [cN,bO];omega) (fun x hx=>?_) hN
   rcases jH.1 hx with h | h
   ·exact hr x (hsub i x h)
   ·exact hr x (hin x (List.take_subset _ _ h))
  ·rw [oU hi];exact hr
 ·rw [eB] at hd
  have hdl:=hd.len ik
  have hdr: ∀x∈d,x.length<=4611686018427387904:=fun x hx=>hr x ((hd.2 x).1 hx)
  refine Ok.bind (Ok.iY (fun i s=>s= (L.take i).map (fun l=>l.map (rn d))) (by omega) (by simp) (fun i s hi hs=>?_)) (fun s hs=>Ok.ret ⟨d,hd,by rw [hs,eB]⟩)
  subst hs
  refine Ok.idx hi ?_
  have hfi:=yf hi
  refine Ok.bind (Ok.iY (fun k s=>s= (L[i].take k).map (rn d)) (by omega) (by simp) (fun k s hk hs=>?_)) (fun s hs=>?_)
  ·subst hs
   refine Ok.idx hk ?_
   rw [A9 ((hd.2 _).2 (List.mem_flatten.2 ⟨_,d3 hi,d3 hk⟩)) (by omega) hdr hN,aA]
   show Ok ((app 8 ((L[i].take k).map (rn d)) [rn d L[i][k]]).bind fun x=>some x) _
   rw [dR (by simp only [dD,bO,List.length_singleton];omega),aA]
   exact Ok.ret (by rw [fw hk,iI];rfl)
  ·subst hs
   rw [eB,dR (by simp only [dD,bO,List.length_singleton];omega),aA]
   exact Ok.ret (by rw [fw hi,iI];rfl)
end
end Go.Gk
namespace Go.Gk
open Go
section
variable {N:Nat}
structure j4 (t:List aD) (x:aH):Prop where
 types:vh t
 parts:ye t x.aK
 y9:x.aK.length<=1000
 qO:x.aY.length<=1000
 yg: ∀n∈x.aY,0<n.aP.length/\n.aP.length<=500
 Di: ∀n∈x.aY,n.kQ= []
 qp:fU Net.Name x.aY
 path: ∀n∈x.aY,kO n.Name=true
 E5: ∀p∈x.aK,kO p.Name=true
 E6: ∀n∈x.aY,∀p∈n.aP,ju t x.aK p=true
 B4: ∀n∈x.aY,∀(i j:Nat) (p q:bT),i<j->n.aP[i]? =some p->n.aP[j]? =some q->mb p q=true
 once: ∀(i j:Nat) (n m:Net) (p:bT),x.aY[i]? =some n->x.aY[j]? =some m->p∈n.aP->p∈m.aP->i=j
theorem vn (a:bT):mb a a=false:=by
 unfold mb
 have h1:a.Part.ks a.Part=false:=by rw [<-kh];exact aT.lt_irrefl _
 have h2:a.bT.ks a.bT=false:=by rw [<-kh];exact aT.lt_irrefl _
 rw [h1,h2];simp
theorem wQ {a b c:bT} (h1:mb a b=true) (h2:mb b c=true):mb a c=true:=by
 unfold mb at *
 simp only [eC,cC,ko] at *
 rcases h1 with h1 | ⟨e1,h1⟩
 ·rcases h2 with h2 | ⟨e2,_⟩
  ·exact .inl (aT.lt_trans h1 h2)
  ·rw [<-e2];exact .inl h1
 ·rcases h2 with h2 | ⟨e2,h2⟩
  ·rw [e1];exact .inl h2
  ·exact .inr ⟨e1.trans e2,aT.lt_trans h1 h2⟩
theorem za {l:List bT} (h: ∀k,k<l.length->lI l k=false): ∀(i j:Nat) (p q:bT),i<j->l[i]? =some p->l[j]? =some q->mb p q=true:=by
 intro i j
 induction j with
 | zero=>intro p q hij;omega
 | succ j ih=>
  intro p q hij hp hq
  have hj:=(bM.1 hq).1
  have h1:=h (j+1) hj
  unfold lI at h1
  rw [hq,oI,aN (by omega:j<l.length)] at h1
  simp at h1
  by_cases e:i=j
  ·subst e
   rw [aN (by omega:i<l.length)] at hp;injection hp with hp;subst hp;exact h1
  ·exact wQ (ih p l[j] (by omega) hp (aN (by omega))) h1
theorem zb {t:List aD} {x:aH} {k:Nat} {r:Int} (h:nB t x k=some r):r≠0:=by
 unfold nB at h
 split at h
 ·cases h
 split at h
 ·injection h with h;omega
 split at h
 ·injection h with h;omega
 split at h
 ·injection h with h;omega
 cases hx:i6 _ (nI t x k _) with
 | some r'=>
  rw [hx] at h
  injection h with h
  subst h
  obtain⟨j,_,hj,_⟩:=hY.1 hx
  exact wK hj
 | none=>
  rw [hx] at h
  simp only [Option.none_or] at h
  split at h
  ·injection h with h;omega
  split at h
  ·injection h with h;omega
  ·cases h
theorem vo {t:List aD} {x:aH} (h:fZ t x=0):j4 t x:=by
 unfold fZ at h
 by_cases h1:checkTypes t≠0
 ·rw [aG h1] at h;exact absurd h h1
 rw [aJ h1] at h
 by_cases h2:dB t x.aK≠0
 ·rw [aG h2] at h;exact absurd h h2
 rw [aJ h2] at h
 replace h1:=Decidable.not_not.1 h1
 replace h2:=Decidable.not_not.1 h2
 unfold mR at h
 by_cases h3:1000<x.aY.length
 ·rw [aG h3] at h;cases h
 rw [aJ h3] at h
 have hn:=oS (fun k r hk=>zb hk) h
 have key: ∀i (hi:i<x.aY.length),kO x.aY[i].Name=true/\0<x.aY[i].aP.length/\x.aY[i].aP.length<=500/\x.aY[i].kQ= []/\gC Net.Name x.aY i=false/\
   ∀k (hk:k<x.aY[i].aP.length),ju t x.aK x.aY[i].aP[k]=true/\lI x.aY[i].aP k=false/\nA (x.aY.take i) x.aY[i].aP[k]=false:=by
  intro i hi
  have h4:=hn i hi
  unfold nB at h4
  rw [aN hi] at h4
  dsimp only at h4
  split at h4
  ·cases h4
  split at h4
  ·cases h4
  split at h4
  ·cases h4
  cases h5:i6 x.aY[i].aP.length (nI t x i x.aY[i].aP) with
  | some r=>rw [h5] at h4;cases h4
  | none=>
   rw [h5] at h4
   simp only [Option.none_or] at h4
   split at h4
   ·cases h4
   split at h4
   ·cases h4
   rename_i h6 h7 h8 h9 h10
   refine⟨by simpa using h6,by omega,by omega,List.length_eq_zero_iff.1 (by omega),by simpa using h10,fun k hk=>?_⟩
   have h11:=iT.1 h5 k hk
   unfold nI at h11
   rw [aN hk] at h11
   dsimp only at h11
   repeat' split at h11
   all_goals first | (simp at h11;done) | simp_all
 have hpe: ∀k (hk:k<x.aK.length),kO x.aK[k].Name=true:=by
  intro k hk
  have h5:=h2
  unfold dB at h5
  split at h5
  ·cases h5
  have h4:=oS (fun k r hk=>p7 hk) h5 k hk
  unfold j3 at h4
  rw [aN hk] at h4
  dsimp only at h4
  split at h4
  ·cases h4
  ·rename_i h6;simpa using h6
 have mem: ∀n∈x.aY,∃i,∃hi:i<x.aY.length,n=x.aY[i]:=fun n hn=>by
  obtain⟨i,hi⟩:=iL hn
  obtain⟨hlt,rfl⟩:=bM.1 hi
  exact⟨i,hlt,rfl⟩
 refine⟨pE h1,mo h2,?_,by omega,fun n hn=>?_,fun n hn=>?_,kq fun i hi=>(key i hi).2.2.2.2.1,fun n hn=>?_,fun p hp=>?_,fun n hn p hp=>?_,fun n hn=>?_,?_⟩
 ·unfold dB at h2
  split at h2
  ·cases h2
  ·omega
 ·obtain⟨i,hi,rfl⟩:=mem n hn;exact⟨(key i hi).2.1,(key i hi).2.2.1⟩
 ·obtain⟨i,hi,rfl⟩:=mem n hn;exact(key i hi).2.2.2.1
 ·obtain⟨i,hi,rfl⟩:=mem n hn;exact(key i hi).1
 ·obtain⟨k,hk⟩:=iL hp
  obtain⟨hlt,rfl⟩:=bM.1 hk
  exact hpe k hlt
 ·obtain⟨i,hi,rfl⟩:=mem n hn
  obtain⟨k,hk⟩:=iL hp
  obtain⟨hlt,rfl⟩:=bM.1 hk
  exact((key i hi).2.2.2.2.2 k hlt).1
 ·obtain⟨i,hi,rfl⟩:=mem n hn
  exact za fun k hk=>((key i hi).2.2.2.2.2 k hk).2.1
 ·have one: ∀(i j:Nat) (n m:Net) (p:bT),i<j->x.aY[i]? =some n->x.aY[j]? =some m->p∈n.aP->p∈m.aP->False:=by
   intro i j n m p hij hn hm hpn hpm
   obtain⟨hj,rfl⟩:=bM.1 hm
   obtain⟨k,hk⟩:=iL hpm
   obtain⟨hlt,rfl⟩:=bM.1 hk
   have h5:=((key j hj).2.2.2.2.2 k hlt).2.2
   unfold nA at h5
   rw [List.any_eq_false] at h5
   refine h5 n (eR (i:=i) (by rw [List.getElem?_take_of_lt hij];exact hn)) ?_
   simpa using hpn
  intro i j n m p hn hm hpn hpm
  rcases Nat.lt_trichotomy i j with h5 | h5 | h5
  ·exact(one i j n m p h5 hn hm hpn hpm).elim
  ·exact h5
  ·exact(one j i m n p h5 hm hn hpm hpn).elim
def ey (x:aH) (p:bT):Int:=t3 x.aY (fun n=>decide (p∈n.aP))
theorem vq {x:aH} {p:bT} (hb:bk x<=1048576):gu N x p=some (ey x p):=by
 rw [lx] at hb
 have:=fy x.aY
 have e:=i7 (l:=x.aY) (φ:=fun n=>eJ N n.aP p) (fun n=>decide (p∈n.aP)) (by omega) (fun n hn=>by
  have hb2:=oe hn
  rw [ri] at hb2
  have:=fy n.aP
  exact qF (by omega))
 unfold ey
 rw [<-e];rfl
def j5 (x:aH) (i:Nat):List (bT×Int):=(List.range i).foldl (fun m k=>lG m ((x.aY[k]?.map Net.aP).getD []) ((k:Nat):Int)) []
theorem oE {x:aH} {i:Nat} {n:Net} (h:x.aY[i]? =some n):j5 x (i+1)=lG (j5 x i) n.aP ((i:Nat):Int):=by
 unfold j5
 rw [List.range_succ,List.foldl_append,List.foldl_cons,List.foldl_nil,h];rfl
theorem An {x:aH} (hb:Dh x):iP N x=some (j5 x x.aY.length):=by
 have:=hb.nl
 unfold iP
 rw [kX (s:=([]:List (bT×Int))) (j5 x) (by omega) rfl (fun k hk=>by
  have hx:x.aY[k]? =some x.aY[k]:=aN hk
  have:=hb.np _ (d3 hk)
  rw [cB hx,aA,t8 _ (by omega),aA,oE hx]),aA]
theorem rN {x:aH} {p:bT}: ∀(i:Nat),i<=x.aY.length->ka (j5 x i) p= (x.aY.take i).any (fun n=>decide (p∈n.aP))
 | 0,_=>by simp [j5,ka]
 | i+1,h=>by
  have hx:x.aY[i]? =some x.aY[i]:=aN (by omega)
  rw [oE hx,xB,rN i (by omega),fw (by omega),List.any_append]
  simp [Bool.or_comm]
theorem rO {x:aH} {p:bT} {j:Nat} (hj: ∀k n,x.aY[k]? =some n->p∈n.aP->k=j) (z:Int): ∀(i:Nat),i<=x.aY.length->ia (j5 x i) p z=if ((x.aY.take i).any (fun n=>decide (p∈n.aP)))=true then ((j:Nat):Int) else z
 | 0,_=>by simp [j5,ia]
 | i+1,h=>by
  have hx:x.aY[i]? =some x.aY[i]:=aN (by omega)
  rw [oE hx,sV,rO hj z i (by omega),fw (by omega),List.any_append]
  by_cases hp:p∈x.aY[i].aP
  ·have hji:=hj i _ hx hp
   rw [aG hp,aG (by simp [hp])]
   omega
  ·rw [aJ hp];simp [hp]
theorem zc {t:List aD} {x:aH} (h:j4 t x) (p:bT):
  ka (j5 x x.aY.length) p=decide (ey x p>=0)/\(0<=ey x p->∀z,ia (j5 x x.aY.length) p z=ey x p):=by
 have e:ka (j5 x x.aY.length) p=x.aY.any (fun n=>decide (p∈n.aP)):=by rw [rN _ (bP _),eB]
 unfold ey
 refine⟨by rw [e,u9],fun h0 z=>?_⟩
 rcases hZ x.aY (fun n=>decide (p∈n.aP)) with ⟨h1,_⟩ | ⟨k,n,h1,h2,h3,_⟩
 ·rw [h1] at h0;omega
 ·have h3':p∈n.aP:=by simpa using h3
  rw [rO (j:=k) (fun i m hm hp=>h.once i k m n p hm h2 hp h3') z _ (bP _),eB,h1,aG]
  exact jJ.2 ⟨n,eR h2,h3⟩
def ef (t:List aD) (p:Part):aD:=(t.find? (fun y=>y.Name.iM p.cE)).getD default
def EU (t:List aD) (p:Part):List bT:=(ef t p).aP.map (fun y=>⟨p.Name,y.Name⟩)
theorem lK {t:List aD} {p:Part} (h:0<=nat? aD.Name t p.cE): ∃k:Nat,nat? aD.Name t p.cE= ((k:Nat):Int)/\t[k]? =some (ef t p):=by
 rcases gQ aD.Name t p.cE with ⟨h1,_⟩ | ⟨k,y,h1,h2,_⟩
 ·omega
 ·refine⟨k,h1,?_⟩
  unfold ef
  rw [qN h1 h2];exact h2
theorem mS {α β:Type} {l:List α} {body:Nat->List β->Option (List β)} {s0:List β} (f:α->List β) (hl:l.length<=4611686018427387904)
  (h: ∀k y,l[k]? =some y->body k (s0++(l.take k).flatMap f)=some (s0++(l.take k).flatMap f++f y)):iY l.length body s0=some (s0++l.flatMap f):=by
 rw [kX (s:=s0) (fun k=>s0++(l.take k).flatMap f) hl (by simp) (fun k hk=>by
  rw [h k l[k] (aN hk),fw hk,List.flatMap_append,gI];simp),eB]
theorem jC {α β:Type} (f:α->List β) (b:Nat): ∀(l:List α),(∀x∈l,(f x).length<=b)->(l.flatMap f).length<=l.length*b
 | [],_=>by simp
 | x::l,h=>by
  have h1:=h x (by simp)
  have h2:=jC f b l (fun y hy=>h y (by simp [hy]))
  rw [List.flatMap_cons,cN,kS,Nat.succ_mul];omega
theorem j6 {t:List aD} {p:Part} (hbt:bk t<=1048576) (h:0<=nat? aD.Name t p.cE): (ef t p).aP.length<=1048576:=by
 obtain⟨k,_,h2⟩:=lK h
 have h3:=og h2
 rw [jz] at h3
 have:=fy (ef t p).aP
 omega
theorem wR (hN:4194304<=N):gv N=some true:=by
 obtain⟨M,rfl⟩: ∃M,N=M+64:=⟨N - 64,by omega⟩
 rfl
end
end Go.Gk
namespace Go.Gk
open Go
section
variable {N:Nat}
section
variable {α:Type}
theorem xD {key:α->aT} {l:List α}:fU key l↔l.Pairwise (fun a b=>aT.lt (key a) (key b)):=by
 rw [lY]
 constructor
 ·intro h i j hi hj hij
  exact h i j _ _ hij (aN hi) (aN hj)
 ·intro h i j x y hij hx hy
  obtain⟨hi,rfl⟩:=bM.1 hx
  obtain⟨hj,rfl⟩:=bM.1 hy
  exact h i j hi hj hij
def yh (l:List bT):Prop:=l.Pairwise (fun a b=>mb a b=true)
theorem xE {l:List bT}: (∀(i j:Nat) (p q:bT),i<j->l[i]? =some p->l[j]? =some q->mb p q=true)↔yh l:=by
 unfold yh
 rw [lY]
 constructor
 ·intro h i j hi hj hij
  exact h i j _ _ hij (aN hi) (aN hj)
 ·intro h i j x y hij hx hy
  obtain⟨hi,rfl⟩:=bM.1 hx
  obtain⟨hj,rfl⟩:=bM.1 hy
  exact h i j hi hj hij
theorem fU.gC {key:α->aT} {l:List α} (h:fU key l) {k:Nat} (hk:k<l.length):Gk.gC key l k=false:=by
 unfold Gk.gC
 rw [aN hk,aN (by omega:k - 1<l.length)]
 dsimp only
 by_cases h0:0<k
 ·rw [x9.2 (h (k - 1) k _ _ (by omega) (aN (by omega)) (aN hk))];simp
 ·rw [bW h0];simp
end
section
variable {α:Type}
end
end
end Go.Gk
namespace Go.Gk
open Go
section
variable {N:Nat}
def lL (y:aD) (s:aT):Int:=
 match y.aP[(nat? aU.Name y.aP s).toNat]? with
 | some p=>if 0<p.aW then t3 y.aP (fun q=>q.aW==p.aW) else nat? aU.Name y.aP s
 | none=>nat? aU.Name y.aP s
theorem Ba {y:aD} {s:aT} (hs:fU aU.Name y.aP) (hl:y.aP.length<=1048576) (h0:0<=nat? aU.Name y.aP s) (hN:4194304<=N):jO N y s=some (lL y s):=by
 unfold jO lL
 rw [wI hs hl hN,aA]
 rcases gQ aU.Name y.aP s with ⟨h,_⟩ | ⟨k,p,h,hp,_⟩
 ·omega
 rw [h,cV,cB hp,aA,hp]
 dsimp only
 by_cases hg:0<p.aW
 ·have e:d9 N y.aP (fun y0=>fX N y0 p.aW)=m6 y.aP (fun y0=>fX N y0 p.aW):=rfl
  rw [cK hg,bJ,aG hg,e,i7 (φ:=fun y0=>fX N y0 p.aW) (fun q:aU=>q.aW==p.aW) (by omega) (fun x _=>rfl),aA]
 ·rw [bW hg,bL,aJ hg]
theorem tc {y:aD} {s:aT} (hl:y.aP.length<=1048576) (h0:0<=nat? aU.Name y.aP s) (hN:4194304<=N):eV N y (nat? aU.Name y.aP s)=some (lL y s):=by
 unfold eV lL
 rcases gQ aU.Name y.aP s with ⟨h,_⟩ | ⟨k,p,h,hp,_⟩
 ·omega
 have hk:=(bM.1 hp).1
 rw [h,cV,hp]
 dsimp only
 generalize hR: (if 0<p.aW then t3 y.aP (fun q=>q.aW==p.aW) else ((k:Nat):Int))=R
 obtain⟨o,ho,hc⟩:=qC (body:=fun(s33:Int)=>(bif (decide (s33< ((k:Nat):Int))) then (((idx y.aP ((k:Nat):Int)).bind fun x115=>bif (decide (x115.aW>0)) then ((idx y.aP s33).bind fun x120=>(idx y.aP ((k:Nat):Int)).bind fun x124=>some (x120.aW==x124.aW)) else (some false)).bind fun s113=>bif s113 then (some (.rt s33)) else (some (.nx (IntKind.wrap .i64 (s33+1))))) else (some (.br s33)):Option (Fl (Int) Int)))
  (fun s=>∃i:Nat,s= ((i:Nat):Int)/\i<=k/\(0<p.aW->∀j q,j<i->y.aP[j]? =some q->(q.aW==p.aW)=false)) (fun s=>k - s.toNat) (fun _=>R= ((k:Nat):Int)) (fun r=>r=R) (by
   rintro s ⟨i,rfl,hi,hn⟩
   by_cases hlt:i<k
   ·have hq:y.aP[i]? =some y.aP[i]:=aN (by omega)
    rw [cK (by omega),bJ,cB hp,aA]
    by_cases hg:0<p.aW
    ·rw [cK hg,bJ,cB hq,aA,aA,aA]
     cases hx: (y.aP[i].aW==p.aW)
     ·refine⟨_,rfl,⟨i+1,gX (by omega),by omega,fun _ j q hj hjq=>?_⟩,?_⟩
      ·by_cases hji:j=i
       ·subst hji;rw [hq] at hjq;injection hjq with hjq;rw [<-hjq];exact hx
       ·exact hn hg j q (by omega) hjq
      ·rw [gX (by omega)];omega
     ·refine⟨_,rfl,?_⟩
      rw [<-hR,aG hg]
      exact(ky hq hx (fun j q hj hjq=>hn hg j q hj hjq)).symm
    ·rw [bW hg,bL,aA]
     refine⟨_,rfl,⟨i+1,gX (by omega),by omega,fun h=>absurd h hg⟩,?_⟩
     rw [gX (by omega)];omega
   ·have:i=k:=by omega
    subst this
    rw [bW (by omega),bL]
    refine⟨_,rfl,?_⟩
    show R=_
    rw [<-hR]
    split
    ·rename_i hg
     exact ky hp (by simp) (fun j q hj hjq=>hn hg j q hj hjq)
    ·rfl) N 0 ⟨0,rfl,by omega,fun _ j q hj=>by omega⟩ (by simp;omega)
 rw [ho,aA]
 cases o with
 | go s=>simp only at hc;simp only [Fo.cs];rw [hc]
 | rt r=>simp only at hc;simp only [Fo.cs];rw [hc]
def mT (x:aH) (s:aT):Part:=(x.aK.find? (fun p=>p.Name.iM s)).getD default
def E7 (t:List aD) (x:aH) (p:bT):Int:=lL (ef t (mT x p.Part)) p.bT
theorem wS {x:aH} {s:aT} (h:0<=nat? Part.Name x.aK s): ∃k:Nat,nat? Part.Name x.aK s= ((k:Nat):Int)/\x.aK[k]? =some (mT x s):=by
 rcases gQ Part.Name x.aK s with ⟨h1,_⟩ | ⟨k,y,h1,h2,_⟩
 ·omega
 ·refine⟨k,h1,?_⟩
  unfold mT
  rw [qN h1 h2];exact h2
theorem rP {t:List aD} {l:List Part} {p:bT} (h:ju t l p=true):0<=nat? Part.Name l p.Part:=by
 rcases gQ Part.Name l p.Part with ⟨h1,_⟩ | ⟨k,y,h1,h2,_⟩
 ·unfold ju at h
  rw [uf h1] at h;cases h
 ·omega
theorem td {t:List aD} {x:aH} {p:bT} (h:ju t x.aK p=true):0<=nat? aU.Name (ef t (mT x p.Part)).aP p.bT:=by
 unfold ju at h
 have e1:mT x p.Part= (x.aK.find? (fun q=>q.Name.iM p.Part)).getD default:=rfl
 split at h
 ·cases h
 rename_i q hq
 rw [hq] at e1
 simp only [Option.getD_some] at e1
 have e2:ef t q= (t.find? (fun y=>y.Name.iM q.cE)).getD default:=rfl
 split at h
 ·cases h
 rename_i y hy
 rw [hy] at e2
 simp only [Option.getD_some] at e2
 rw [e1,e2]
 have:=yd aU.Name y.aP p.bT
 rw [h] at this
 exact of_decide_eq_true this
theorem xF {t:List aD} {x:aH} (hbt:bk t<=1048576) (ok:j4 t x) {s:aT} (h:0<=nat? Part.Name x.aK s):
  ∃k:Nat,nat? aD.Name t (mT x s).cE= ((k:Nat):Int)/\t[k]? =some (ef t (mT x s))/\fU aU.Name (ef t (mT x s)).aP/\(ef t (mT x s)).aP.length<=1048576:=by
 obtain⟨k,_,hk⟩:=wS h
 have h1:=ok.parts.typed _ (eR hk)
 obtain⟨i,h2,h3⟩:=lK h1
 exact⟨i,h2,h3,ok.types.pins _ (eR h3),j6 hbt h1⟩
end
end Go.Gk
namespace Go.Gk
open Go
section
variable {κ:Type} [DecidableEq κ]
end
section
variable {κ ν:Type}
end
def wT (l:List Int):List Int:=l.mergeSort fun x y=>decide (x<=y)
theorem ze {l:List Int} (h:l.length<4611686018427387904):uJ l=some (wT l):=aG h
theorem xG (l:List Int): (wT l).Perm l:=List.mergeSort_perm _ _
end Go.Gk
namespace Go.Gk
open Go
section
variable {N:Nat}
structure UF (n:Nat) (up:List Int) (r:Nat->Nat):Prop where
 len:up.length=n
 rt: ∀i,i<n->∃u:Nat,up[i]? =some ((u:Nat):Int)/\u<=i/\r u=r i/\(u=i↔r i=i)
theorem UF.le {n:Nat} {up:List Int} {r:Nat->Nat} (h:UF n up r): ∀i,i<n->r i<=i:=by
 intro i
 induction i using Nat.strongRecOn with
 | ind i ih=>
  intro hi
  obtain⟨u,_,h2,h3,h4⟩:=h.rt i hi
  grind
def tH (r:Nat->Nat) (a b:Nat):Nat->Nat:=fun x=>if r x=max a b then min a b else r x
def te (r:Nat->Nat) (E:List (Nat×Nat)):Prop:=∀p∈E,r p.1=r p.2
def Ao (n:Nat) (r:Nat->Nat) (E:List (Nat×Nat)):Prop:=∀S:Nat->Prop,(∀p∈E,S p.1↔S p.2)->∀i j,i<n->j<n->r i=r j->S i->S j
theorem te.join {r:Nat->Nat} {E:List (Nat×Nat)} (h:te r E) (i k:Nat) (_h2:r (r i)=r i):te (tH r (r i) (r k)) (E++[(i,k)]):=fun p hp=>by
 rcases jH.1 hp with hp | hp
 ·unfold tH;rw [h p hp]
 ·simp at hp;subst hp
  unfold tH
  dsimp only
  split <;> split <;> omega
theorem Ao.join {n:Nat} {r:Nat->Nat} {E:List (Nat×Nat)} (h:Ao n r E) {i k:Nat} (hi:i<n) (hk:k<n):Ao n (tH r (r i) (r k)) (E++[(i,k)]):=fun S hS x y hx hy hr hSx=>by
 have hE: ∀p∈E,S p.1↔S p.2:=fun p hp=>hS p (List.mem_append_left _ hp)
 have hik:S i↔S k:=hS (i,k) (by simp)
 have key:=h S hE
 unfold tH at hr
 by_cases h1:r x=r y
 ·exact key x y hx hy h1 hSx
 ·have: (r x=r i/\r y=r k)\/(r x=r k/\r y=r i):=by
   split at hr <;> split at hr <;> omega
  rcases this with ⟨e1,e2⟩ | ⟨e1,e2⟩
  ·exact key k y hk hy e2.symm (hik.1 (key x i hx hi e1 hSx))
  ·exact key i y hi hy e2.symm (hik.2 (key x k hx hk e1 hSx))
theorem Ao.id (n:Nat):Ao n (fun i=>i) []:=fun S _ i j _ _ h hs=>by
 have h:i=j:=h
 subst h;exact hs
theorem te.id:te (fun i=>i) []:=fun p hp=>by simp at hp
end
end Go.Gk
namespace Go.Gk
open Go
theorem aT.B5 {a b:aT} (h:aT.lt a b):a.bQ<b.bQ:=by
 have:Op.bytesLess a.bQ b.bQ=true:=h
 rw [Go.Proofs.bytesLess_eq] at this
 simpa using this
end Go.Gk
namespace Go.Gk
open Go
def tD (a b:aB):Int:=cmpL [a.e0,a.e1] [b.e0,b.e1]
theorem lM:k8 tD:=⟨fun x=>mN _,fun x y h=>by
 have:=cmpL_eq _ _ h
 cases x;cases y;simp_all,fun x y=>rm _ _,fun x y z=>p5 _ _ _⟩
def um (l:List aB):List Int:=l.flatMap fun p=>[p.e0,p.e1]
theorem oV (l:List aB): (um l).length=2*l.length:=by
 induction l with
 | nil=>rfl
 | cons a l ih=>simp only [um,List.flatMap_cons,cN,kS,List.length_nil] at *;omega
def tE (l:List aB):List aB:=l.mergeSort fun a b=>decide (¬tD b a<0)
theorem ry (l:List aB): (tE l).Perm l:=List.mergeSort_perm _ _
theorem yi (l:List aB):SW tD (tE l):=by
 have:=List.pairwise_mergeSort (le:=fun a b:aB=>decide (¬tD b a<0)) (fun a b c h h'=>by
  rw [fx] at h h' ⊢
  intro h3
  rcases lM.B1 a b with e | e | e
  ·exact h' (lM.trans _ _ _ h3 e)
  ·subst e;exact h' h3
  ·exact h e) (fun a b=>by
  rw [eC,fx,fx]
  by_cases h:tD b a<0
  ·exact .inr fun h2=>lM.Cd (lM.trans _ _ _ h h2)
  ·exact .inl h) l
 exact this.imp fun h=>by simpa using h
theorem vr {l m:List aB} (hp:m.Perm l) (hm:SW tD m):m=tE l:=SW.uniq lM hm (yi l) (hp.trans (ry l).symm)
theorem xH {l m:List aB} (h:l.Perm m):tE l=tE m:=vr ((ry l).trans h) (yi l)
theorem oF (l:List aB): (tE l).length=l.length:=(ry l).length_eq
section
variable {N:Nat}
theorem zf (a x:aB): (bif (decide (a.e0>x.e0)) then (some true) else (bif (a.e0==x.e0) then (some (decide (a.e1>x.e1))) else (some false)))=some (decide (0<tD a x)):=by
 unfold tD
 have e:cmpL [a.e0,a.e1] [x.e0,x.e1]=if a.e0<x.e0 then -1 else if x.e0<a.e0 then 1 else if a.e1<x.e1 then -1 else if x.e1<a.e1 then 1 else 0:=by
  simp only [cmpL]
 rw [e]
 by_cases h1:x.e0<a.e0
 ·rw [cK (by omega),bJ,aJ (by omega),aG h1];rfl
 ·rw [bW (by omega),bL]
  by_cases h2:a.e0=x.e0
  ·rw [show (a.e0==x.e0)=true by rw [beq_iff_eq];exact h2,bJ,aJ (by omega),aJ h1]
   by_cases h3:x.e1<a.e1
   ·rw [cK (by omega),aJ (by omega),aG h3];rfl
   ·rw [bW (by omega)]
    split <;> simp [h3]
  ·rw [show (a.e0==x.e0)=false by rw [beq_eq_false_iff_ne];exact h2,bL,aG (by omega)];rfl
theorem uo {row:List aB} {s0:List Int} (hl:row.length<=1048576) (h0:s0.length<=1048576):
  iY row.length (fun(k145:Nat) (s146: (List Int))=>((idx row (k145:Int)).bind fun x164=>(app 8 s146 ([x164.e0,x164.e1]: (List Int))).bind fun x168=>some x168:Option ((List Int)))) s0=some (s0++um row):=by
 refine mS (fun p:aB=>[p.e0,p.e1]) (by omega) (fun k y hy=>?_)
 have hk:=(bM.1 hy).1
 have h1:=oV (row.take k)
 unfold um at h1
 rw [cB hy,aA,dR (by simp only [cN,kS,List.length_nil];rw [h1,bO];omega),aA]
theorem oG {l:List aB} (hl:l.length<=1048576) (hN:4194304<=N):du N l=some (um (tE l)):=by
 refine Ok.get ?_
 unfold du
 refine Ok.bind (Ok.iY (fun k s=>s.Perm (l.take k)/\SW tD s) (by omega) ⟨by simp,List.Pairwise.nil⟩ (fun k s hk hs=>?_)) (fun s hs=>?_)
 ·obtain⟨hp,hw⟩:=hs
  have hsl:s.length=k:=by rw [hp.length_eq,bO];omega
  refine Ok.idx hk ?_
  refine Ok.bind (wL (s:=l[k]) lM hw (by rfl) (by omega) (fun j hj=>?_)) (fun o ho=>?_)
  ·have hi:idx s (IntKind.wrap .i64 (((j+1:Nat):Int) - 1))=some s[j]:=by rw [jy (by omega) (by omega),oI,gw _ _ hj]
   rw [cK (by omega),bJ]
   simp only [hi,aA]
   rw [zf,aA,jy (by omega) (by omega),oI]
   by_cases hc:0<tD s[j] l[k]
   ·rw [aG hc,cK hc,bJ]
   ·rw [aJ hc,bW hc,bL]
  ·refine Ok.cs ho ?_ (fun r=>r.elim)
   rintro r ⟨j,rfl,hj,h1,h2⟩
   rw [uk hj (by omega) (by omega),aA]
   refine Ok.ret ⟨?_,wN hw (fun i hi h=>?_) (fun i hi h=>?_)⟩
   ·rw [fw hk]
    exact(wO s l[k] j).trans (hp.append_right _)
   ·have:=h1 i hi h
    have:=lM.vg l[k] s[i]
    intro h3;exact lM.Cd (lM.trans _ _ _ h3 (this.2 (h1 i hi h)))
   ·intro h3;exact h2 i hi h ((lM.vg _ _).1 h3)
 ·rw [eB] at hs
  rw [vr hs.1 hs.2,uo (by rw [oF];omega) (by simp),aA]
  exact Ok.ret (by simp)
def AA (c:Int) (r:List aB):List Int:=c::um (tE r)
theorem yj (c:Int) (r:List aB): (AA c r).length=2*r.length+1:=by unfold AA;rw [kS,oV,oF]
theorem xI {r:List aB} (hr:r.length<=1048576):nG (fH N) r=some (tE r):=by
 obtain⟨m,h1,h2,h3⟩:=lM.sort (φ:=fH N) (l:=r) (fun x _ y _=>by
  unfold fH
  rw [sZ (by simp),aA];rfl) (by omega)
 rw [h1,vr h2 h3]
theorem wU {cs:List Int} {rows:List (List aB)} (hc:rows.length=cs.length) (hl:cs.length<=1048576) (hr: ∀r∈rows,r.length<=1048576):fB N cs rows=some (List.zipWith AA cs rows):=by
 refine Ok.get ?_
 unfold fB
 refine Ok.bind (Ok.iY (fun k s=>(s.1.length=rows.length/\∀j,k<=j->s.1[j]? =rows[j]?)/\s.2= (List.zipWith AA cs rows).take k) (by omega) ⟨⟨rfl,fun _ _=>rfl⟩,rfl⟩ (fun k s hk hs=>?_)) (fun s hs=>Ok.ret ?_)
 ·obtain⟨⟨h1,h2⟩,h3⟩:=hs
  have hkr:k<rows.length:=by omega
  have hx:s.1[k]? =some rows[k]:=by rw [h2 k (bP _),aN hkr]
  have hrl:=hr _ (d3 hkr)
  refine Ok.idx hk (Ok.ix hx (Ok.eq (xI hrl) ?_))
  rw [cV]
  refine Ok.ix (x:=tE rows[k]) (by rw [gJ];simp;omega) ?_
  rw [uo (by rw [oF];exact hrl) (by simp),aA,h3,dR (by simp only [bO,List.length_zipWith,List.length_singleton];omega),aA]
  refine Ok.ret ⟨⟨by simp [h1],fun j hj=>?_⟩,?_⟩
  ·rw [gJ,aJ (by omega),gJ,aJ (by omega)];exact h2 j (by omega)
  ·have hz:k< (List.zipWith AA cs rows).length:=by rw [List.length_zipWith];omega
   rw [fw hz,List.getElem_zipWith];rfl
 ·rw [hs.2,kT (by rw [List.length_zipWith];omega)]
theorem Ap {n:Nat} (hn:n<=1048576):fu N ((n:Nat):Int)=some []:=by
 unfold fu
 rw [bW (by omega),bL]
 have e1:IntKind.wrap .i64 (((n:Nat):Int) - (IntKind.wrap .i64 (((0:Nat):Int) - ((0:Nat):Int))))= ((n:Nat):Int):=by
  have:IntKind.wrap .i64 (((0:Nat):Int) - ((0:Nat):Int))=0:=by rw [dz (by omega) (by omega)];rfl
  rw [this,dz (by omega) (by omega)];omega
 rw [e1]
 by_cases h:0<n
 ·rw [cK (by omega),bJ]
  have:zI 8 (0:Int) ((n:Nat):Int)=some (List.replicate n 0):=by
   unfold zI;rw [aG (by omega)];rfl
  rw [this,aA,mz _ _ (by omega),aA,aA]
  rfl
 ·rw [bW (by omega),bL,aA]
theorem xJ {L:List (List Int)} (h1:L.length<=1048576) (h2:L.flatten.length<=1048576):gk N L=some L.flatten:=by
 unfold gk
 have hlen: ∀k,(L.take k).flatten.length<=1048576:=fun k=>je wP h2
 rw [kX (s:=(0:Int)) (fun k=>(((L.take k).flatten.length:Nat):Int)) (by omega) rfl (fun k hk=>by
  have h3:=hlen (k+1)
  rw [oU hk,cN] at h3 ⊢
  rw [gw _ _ hk,aA]
  have e:IntKind.wrap .i64 ((((L.take k).flatten.length:Nat):Int)+ ((L[k].length:Nat):Int))= (((L.take k).flatten.length+L[k].length:Nat):Int):=by rw [dz (by omega) (by omega)];omega
  rw [e,bW (by omega),bL]),aA,eB,Ap h2,aA]
 rw [kX (s:=([]:List Int)) (fun k=>(L.take k).flatten) (by omega) rfl (fun k hk=>by
  have h3:=hlen (k+1)
  rw [oU hk,cN] at h3
  rw [gw _ _ hk,aA,dR (by omega),aA,oU hk]),aA,eB]
theorem qP {L:List (List Int)} (h1:L.length<=1048576) (h2:L.flatten.length<=1048576) (hN:4194304<=N):Ok (dE N L) (fun r=>∃d,d6 fz L.flatten d/\r= (d.length:Int)):=by
 unfold dE
 refine Ok.eq (xJ h1 h2) (Ok.eq (ze (by omega)) ?_)
 have hp:=xG L.flatten
 have hw:SW fz (wT L.flatten):=by
  have:=List.pairwise_mergeSort (le:=fun x y:Int=>decide (x<=y)) (fun a b c h h'=>by
   rw [fx] at h h' ⊢;omega) (fun a b=>by
   rw [eC,fx,fx];omega) L.flatten
  refine this.imp fun{a b} h=>?_
  have h:a<=b:=by simpa using h
  unfold fz
  rw [aJ (by omega)]
  split <;> omega
 have e:gM N (wT L.flatten)=mO 0 N (wT L.flatten) (fun x y=>some (x==y)):=rfl
 rw [e]
 refine Ok.bind (lH jt (fun x _ y _=>by by_cases h:x=y <;> simp [h]) hw (by rw [hp.length_eq];omega) (by rw [hp.length_eq];omega)) (fun d hd=>Ok.ret ⟨d,⟨hd.1,fun x=>(hd.2 x).trans hp.mem_iff⟩,rfl⟩)
theorem xK {l:List aT} (hl:l.length<4611686018427387904): ∃m,uK l=some m/\m.Perm l/\SW nv m:=by
 refine⟨((l.map aT.bQ).mergeSort fun x y=>decide (x<=y)).map aT.mk,aG hl,?_,?_⟩
 ·have:=(List.mergeSort_perm (l.map aT.bQ) fun x y=>decide (x<=y)).map aT.mk
  rw [List.map_map] at this
  exact this.trans (List.Perm.of_eq (List.map_id' _))
 ·have:=List.pairwise_mergeSort (le:=fun x y:List UInt8=>decide (x<=y)) (fun a b c h h'=>by
   rw [fx] at h h' ⊢;exact List.le_trans h h') (fun a b=>by
   rw [eC,fx,fx];exact List.le_total _ _) (l.map aT.bQ)
  unfold SW
  rw [List.pairwise_map]
  refine this.imp fun{a b} h h2=>?_
  have h:a<=b:=by simpa using h
  have h3:aT.lt ⟨b⟩ ⟨a⟩:=(jq b a).1 h2
  have:=aT.B5 h3
  exact absurd this (List.not_lt.2 h)
def typesOf (ls:List aH):List aT:=ls.flatMap fun x=>x.aK.map Part.cE
theorem qQ {ls:List aH} {k:Nat} (hk:k<ls.length):typesOf (ls.take (k+1))=typesOf (ls.take k)++ls[k].aK.map Part.cE:=by
 unfold typesOf
 rw [fw hk,List.flatMap_append];simp
theorem wV {ls:List aH} (k:Nat): (typesOf (ls.take k)).length<=(typesOf ls).length:=by
 conv=>rhs;rw [<-List.take_append_drop k ls]
 unfold typesOf
 rw [List.flatMap_append,cN];omega
theorem vt {ls:List aH} (h1:ls.length<=1048576) (h2: (typesOf ls).length<=1048576) (hN:4194304<=N):Ok (ew N ls) (fun d=>d6 nv (typesOf ls) d):=by
 unfold ew
 refine Ok.bind (P:=fun s=>s=typesOf ls) (Ok.mono (Ok.iY (fun k s=>s=typesOf (ls.take k)) (by omega) rfl (fun k s hk hs=>?_)) (fun s hs=>by rwa [eB] at hs)) (fun s hs=>?_)
 ·subst hs
  refine Ok.idx hk ?_
  have h3:=wV (ls:=ls) (k+1)
  rw [qQ hk,cN,dD] at h3
  rw [mS (fun p:Part=>[p.cE]) (by omega) (fun j y hy=>by
   have hj:=(bM.1 hy).1
   have h4:=jC (fun p:Part=>[p.cE]) 1 (ls[k].aK.take j) (fun _ _=>by simp)
   rw [bO] at h4
   rw [cB hy,aA,dR (by simp only [cN,List.length_singleton];omega),aA]),aA]
  refine Ok.ret ?_
  rw [qQ hk]
  congr 1
  exact(List.map_eq_flatMap ..).symm
 ·subst hs
  obtain⟨m,g1,g2,g3⟩:=xK (l:=typesOf ls) (by omega)
  refine Ok.eq g1 ?_
  have e:fR N m=mO ⟨[]⟩ N m (fun x y=>some (x.iM y)):=rfl
  rw [e]
  refine Ok.bind (lH lJ (fun x _ y _=>by
   congr 1
   rw [jd,ko,decide_eq_true_iff]) g3 (by rw [g2.length_eq];omega) (by rw [g2.length_eq];omega)) (fun d hd=>Ok.ret ⟨hd.1,fun x=>(hd.2 x).trans g2.mem_iff⟩)
theorem zg {d:List aT} {s:aT} (hl:d.length<=4611686018427387904):eK N d s=some (rn d s):=by
 have e:eK N d s=va d s:=by
  unfold eK va
  have: ∀x:aT,s.iM x=decide (s=x):=fun x=>by rw [jd,ko,decide_eq_true_iff]
  simp only [this]
 rw [e,t4 hl];rfl
def tf (d:List aT) (x:aH):List Int:=x.aK.map fun p=>rn d p.cE
def vu (x:aH):List Int:=List.replicate x.aY.length 0
theorem Aq {t:List aD} {ls:List aH} (h1:ls.length<=1000) (h2: (typesOf ls).length<=1048576) (h3: ∀x∈ls,x.aK.length<=1048576/\x.aY.length<=1048576) (hN:4194304<=N):
  Ok (fo N t ls) (fun c=>∃d,d6 nv (typesOf ls) d/\c= ⟨t,ls,ls.map (tf d),ls.map vu⟩):=by
 unfold fo
 refine Ok.bind (vt (by omega) h2 hN) (fun d hd=>?_)
 have hdl:=hd.len lJ
 have hd4:d.length<=4611686018427387904:=by omega
 refine Ok.bind (Ok.iY (fun k s=>s= ((ls.take k).map (tf d),(ls.take k).map vu,d)) (by omega) rfl (fun k s hk hs=>?_)) (fun s hs=>Ok.ret ⟨d,hd,by rw [hs,eB]⟩)
 subst hs
 have hx:=h3 _ (d3 hk)
 refine Ok.idx hk ?_
 rw [mS (s0:=([]:List Int)) (fun p:Part=>[rn d p.cE]) (by omega) (fun j y hy=>by
  have hj:=(bM.1 hy).1
  have h4:=jC (fun p:Part=>[rn d p.cE]) 1 (ls[k].aK.take j) (fun _ _=>by simp)
  rw [bO] at h4
  rw [cB hy,aA,zg hd4,aA,dR (by simp only [cN,List.length_singleton,List.length_nil];omega),aA]),aA]
 rw [dR (by simp only [dD,bO,List.length_singleton];omega),aA,oP _ (by omega),aA,dR (by simp only [dD,bO,List.length_singleton];omega),aA]
 refine Ok.ret ?_
 rw [fw hk,iI,iI]
 congr 2
 rw [List.nil_append,<-List.map_eq_flatMap];rfl
end
end Go.Gk
namespace Go.Gk
open Go
section
variable {N:Nat}
def nD (t:List aD) (x:aH) (a b k:Nat) (p:Part) (z:aU):aQ:=
 ⟨((a+k:Nat):Int),if 0<=ey x ⟨p.Name,z.Name⟩ then (b:Int)+ey x ⟨p.Name,z.Name⟩ else -1,lL (ef t p) z.Name⟩
def nJ (t:List aD) (x:aH) (a b k:Nat):List aQ:=(ef t (x.aK.getD k default)).aP.map (nD t x a b k (x.aK.getD k default))
def nK (t:List aD) (x:aH) (a b:Nat):List aQ:=(List.range x.aK.length).flatMap (nJ t x a b)
theorem sg {α:Type} (l:List α) (p:α->Bool):t3 l p< (l.length:Int):=by
 rcases hZ l p with ⟨h,_⟩ | ⟨k,x,h,h2,_⟩
 ·omega
 ·have:=(bM.1 h2).1;omega
theorem oW {α:Type} {key:α->aT} {l:List α} (hs:fU key l) {k:Nat} {x:α} (hx:l[k]? =some x):nat? key l (key x)= ((k:Nat):Int):=by
 refine ky hx (by rw [ko]) fun j y hj hy=>?_
 rw [Bool.eq_false_iff]
 intro h
 rw [ko] at h
 exact aT.pA (hs j k y x hj hy hx) h
theorem zh {t:List aD} {x:aH} (hbt:bk t<=1048576) (ok:j4 t x) (a b:Nat) {k:Nat} (hk:k<x.aK.length): (nJ t x a b k).length<=1048576:=by
 unfold nJ
 rw [dD,List.getD_eq_getElem?_getD,aN hk]
 exact j6 hbt (ok.parts.typed _ (d3 hk))
theorem lN {α:Type} (f:Nat->List α) (b:Nat): ∀(n:Nat),(∀k,k<n->(f k).length<=b)->((List.range n).flatMap f).length<=n*b
 | 0,_=>by simp
 | n+1,h=>by
  have:=lN f b n fun k hk=>h k (by omega)
  have:=h n (by omega)
  rw [List.range_succ,List.flatMap_append,cN,Nat.add_mul,Nat.one_mul]
  simp only [List.flatMap_cons,List.flatMap_nil,f9]
  omega
theorem uq {t:List aD} {x:aH} (hbt:bk t<=1048576) (ok:j4 t x) (a b:Nat) {n:Nat} (hn:n<=x.aK.length): ((List.range n).flatMap (nJ t x a b)).length<=1048576000:=by
 have h1:=lN (nJ t x a b) 1048576 n fun k hk=>zh hbt ok a b (by omega)
 have h2:n*1048576<=1000*1048576:=Nat.mul_le_mul_right _ (by have:=ok.y9;omega)
 omega
theorem zi {t:List aD} {x:aH} {ty:List aT} {ti:List aQ} {a b:Nat} (hbt:bk t<=1048576) (hx:Dh x) (ok:j4 t x) (hty:ty.length<=1048576) (hti:ti.length<=1048576000) (ha:a<=1048576) (hb:b<=1048576) (hN:4194304<=N):
  fi N ty ti ((a:Nat):Int) ((b:Nat):Int) t x=some (ty++x.aK.map Part.cE,ti++nK t x a b,((a+x.aK.length:Nat):Int),((b+x.aY.length:Nat):Int)):=by
 have hfew:=ok.y9
 have hfn:=ok.qO
 unfold fi
 rw [An hx,aA]
 rw [kX (s:=(ty,ti)) (fun k=>(ty++(x.aK.take k).map Part.cE,ti++(List.range k).flatMap (nJ t x a b))) (by omega) (by simp) (fun k hk=>by
  have hp:x.aK[k]? =some x.aK[k]:=aN hk
  have hd:x.aK.getD k default=x.aK[k]:=by rw [List.getD_eq_getElem?_getD,hp];rfl
  have htyp:=ok.parts.typed _ (d3 hk)
  obtain⟨i,h1,h2⟩:=lK htyp
  have hpl:=j6 hbt htyp
  have hlen:=uq hbt ok a b (Nat.le_of_lt hk)
  have hsp:=ok.types.pins _ (eR h2)
  rw [cB hp,aA,rq ok.types.sorted hbt hN,aA,h1,cB h2,aA,dR (by simp only [cN,dD,bO,List.length_singleton];omega),aA]
  rw [mS (fun z:aU=>[nD t x a b k x.aK[k] z]) (by omega) (fun j z hz=>by
   have hj:=(bM.1 hz).1
   have hm:=zc ok ⟨x.aK[k].Name,z.Name⟩
   have hnl:ey x ⟨x.aK[k].Name,z.Name⟩< (x.aY.length:Int):=sg _ _
   have e: (bif (ka (j5 x x.aY.length) (⟨x.aK[k].Name,z.Name⟩:bT)) then (some (IntKind.wrap .i64 (((b:Nat):Int)+ (ia (j5 x x.aY.length) (⟨x.aK[k].Name,z.Name⟩:bT) (0:Int))))) else (some (-1)))=some (if 0<=ey x ⟨x.aK[k].Name,z.Name⟩ then (b:Int)+ey x ⟨x.aK[k].Name,z.Name⟩ else -1):=by
    rw [hm.1]
    by_cases h0:0<=ey x ⟨x.aK[k].Name,z.Name⟩
    ·rw [cK h0,bJ,hm.2 h0,aG h0,dz (by omega) (by omega)]
    ·rw [bW h0,bL,aJ h0]
   have h4:=jC (fun z:aU=>[nD t x a b k x.aK[k] z]) 1 ((ef t x.aK[k]).aP.take j) (fun _ _=>by simp)
   rw [bO] at h4
   rw [cB hz,aA,e,aA,Ba hsp hpl (by rw [oW hsp hz];omega) hN,aA,dR (by simp only [cN,List.length_singleton];omega),aA,wrap_add (by omega)]
   rfl),aA]
  congr 2
  ·rw [fw hk,iI,<-gI];rfl
  ·rw [List.range_succ,List.flatMap_append,<-gI]
   congr 1
   unfold nJ
   rw [List.flatMap_singleton,hd,<-List.map_eq_flatMap]),aA]
 rw [eB,wrap_add (by omega),wrap_add (by omega)]
 rfl
def qR (Q:List Int) (n:Int):Int:=if 0<=n then Q.getD n.toNat 0 else -1
def BA (Q:List Int) (z:aQ):aB:=⟨z.mark,qR Q z.iZ⟩
def yk (P:List Int) (z:aQ):aB:=⟨P.getD z.part.toNat 0,z.mark⟩
def mU (T:List aQ) (Q:List Int) (j:Nat):List aB:=(T.filter fun z=>z.part==(j:Int)).map (BA Q)
def pe (T:List aQ) (P:List Int) (j:Nat):List aB:=(T.filter fun z=>z.iZ==(j:Int)).map (yk P)
theorem ur {α:Type} (f:Nat->α) (n j:Nat) (v:α): ((List.range n).map f).set j v= (List.range n).map (fun i=>if i=j then v else f i):=by
 apply List.ext_getElem?
 intro i
 rw [gJ,jI,jI]
 by_cases h:j=i
 ·subst h
  rw [aG rfl]
  by_cases hl:j<n
  ·rw [aG (by simpa using hl),List.getElem?_range hl];simp
  ·rw [aJ (by simpa using hl),List.getElem?_eq_none (by simpa using hl)];rfl
 ·rw [aJ h]
  by_cases hl:i<n
  ·have h': ¬i=j:=fun e=>h e.symm
   rw [List.getElem?_range hl];simp [h']
  ·rw [List.getElem?_eq_none (by simpa using hl)];rfl
def BB (np nn:Nat) (z:aQ):Prop:=(0<=z.part/\z.part< (np:Int))/\(0<=z.iZ/\z.iZ< (nn:Int)\/z.iZ = -1)
theorem zj {T:List aQ} {P Q:List Int} {np nn:Nat} (hP:P.length=np) (hQ:Q.length=nn) (hT: ∀z∈T,BB np nn z) (hl:T.length<=4194304000):
  iY T.length (fun(k633:Nat) (s634: (List (List aB))×(List (List aB)))=>((idx T (k633:Int)).bind fun x815=>(bif (decide (x815.iZ>=0)) then ((idx Q x815.iZ).bind fun x848=>(idx s634.2 x815.iZ).bind fun x849=>(idx P x815.part).bind fun x854=>(app 16 x849 ([(⟨x854,x815.mark⟩:aB)]: (List aB))).bind fun x857=>(idx s634.2 x815.iZ).bind fun x859=>some ((s634.2.set (Int.toNat x815.iZ) x857),x848)) else (some (s634.2,(-1)))).bind fun s846=>(idx s634.1 x815.part).bind fun x875=>(app 16 x875 ([(⟨x815.mark,s846.2⟩:aB)]: (List aB))).bind fun x882=>(idx s634.1 x815.part).bind fun x884=>some ((s634.1.set (Int.toNat x815.part) x882),s846.1):Option ((List (List aB))×(List (List aB))))) (List.replicate np [],List.replicate nn [])=some ((List.range np).map (mU T Q),(List.range nn).map (pe T P)):=by
 refine(kX (fun k=>((List.range np).map (mU (T.take k) Q),(List.range nn).map (pe (T.take k) P))) (by omega) (by
  have: ∀(f:Nat->List aB) (n:Nat),(∀j,f j= [])->(List.range n).map f=List.replicate n []:=fun f n h=>by
   rw [List.map_congr_left (g:=fun _=>[]) (fun j _=>h j),List.map_const',List.length_range]
  show ((List.range np).map (mU [] Q),(List.range nn).map (pe [] P))=_
  rw [this (mU [] Q) np (fun _=>rfl),this (pe [] P) nn (fun _=>rfl)]) (fun k hk=>?_)).trans (by rw [eB])
 have hz:=hT _ (d3 hk)
 obtain⟨⟨p0,p1⟩,hn⟩:=hz
 rw [gw _ _ hk,aA]
 obtain⟨j,hj⟩: ∃j:Nat,T[k].part= (j:Int):=⟨T[k].part.toNat,by omega⟩
 have hjn:j<np:=by omega
 have hrl: ∀(p:aQ->Bool) (f:aQ->aB),(((T.take k).filter p).map f).length<=4194304000:=fun p f=>by
  rw [dD]
  have:=List.length_filter_le p (T.take k)
  rw [bO] at this;omega
 have hfil: ∀(p:aQ->Bool) (f:aQ->aB),((T.take (k+1)).filter p).map f= ((T.take k).filter p).map f++(if p T[k]=true then [f T[k]] else []):=fun p f=>by
  rw [fw hk,List.filter_append,iI]
  congr 1
  cases h:p T[k] <;> simp [h]
 have eP: ∀c:Int,c=qR Q T[k].iZ->(((idx ((List.range np).map (mU (T.take k) Q)) T[k].part).bind fun x875=>(app 16 x875 ([(⟨T[k].mark,c⟩:aB)]: (List aB))).bind fun x882=>(idx ((List.range np).map (mU (T.take k) Q)) T[k].part).bind fun x884=>some ((((List.range np).map (mU (T.take k) Q)).set (Int.toNat T[k].part) x882))))=some ((List.range np).map (mU (T.take (k+1)) Q)):=by
  intro c hc
  have hg: ((List.range np).map (mU (T.take k) Q))[j]? =some (mU (T.take k) Q j):=by rw [jI,List.getElem?_range hjn];rfl
  rw [hj,cB hg,aA,dR (by have:=hrl (fun z=>z.part==(j:Int)) (BA Q);simp only [List.length_singleton];unfold mU;omega),aA,aA,cV,ur]
  congr 1
  refine List.map_congr_left fun i _=>?_
  unfold mU
  rw [hfil]
  by_cases e:i=j
  ·subst e;rw [aG rfl,aG (by rw [hj];simp),hc];rfl
  ·rw [aJ e,aJ (by rw [hj,beq_iff_eq];omega),f9]
 have fin: ∀(c:Int) (s2:List (List aB)),c=qR Q T[k].iZ->s2= (List.range nn).map (pe (T.take (k+1)) P)->(((idx ((List.range np).map (mU (T.take k) Q)) T[k].part).bind fun x875=>(app 16 x875 ([(⟨T[k].mark,c⟩:aB)]: (List aB))).bind fun x882=>(idx ((List.range np).map (mU (T.take k) Q)) T[k].part).bind fun x884=>some ((((List.range np).map (mU (T.take k) Q)).set (Int.toNat T[k].part) x882),s2)))=some ((List.range np).map (mU (T.take (k+1)) Q),(List.range nn).map (pe (T.take (k+1)) P)):=by
  intro c s2 hc h2
  have:=eP c hc
  subst h2
  generalize hA:idx ((List.range np).map (mU (T.take k) Q)) T[k].part=A at this ⊢
  cases A with
  | none=>cases this
  | some r=>
   rw [aA] at this ⊢
   generalize hB:app 16 r [(⟨T[k].mark,c⟩:aB)]=B at this ⊢
   cases B with
   | none=>cases this
   | some r2=>
    rw [aA,aA] at this ⊢
    injection this with this
    rw [this]
 dsimp only
 rcases hn with ⟨n0,n1⟩ | hn
 ·obtain⟨i,hi⟩: ∃i:Nat,T[k].iZ= (i:Int):=⟨T[k].iZ.toNat,by omega⟩
  have hin:i<nn:=by omega
  have hg: ((List.range nn).map (pe (T.take k) P))[i]? =some (pe (T.take k) P i):=by rw [jI,List.getElem?_range hin];rfl
  have hq:Q[i]? =some Q[i]:=aN (by omega)
  have hp:P[j]? =some P[j]:=aN (by omega)
  rw [cK n0,bJ]
  have e1:idx Q T[k].iZ=some Q[i]:=by rw [hi];exact cB hq
  have e2:idx ((List.range nn).map (pe (T.take k) P)) T[k].iZ=some (pe (T.take k) P i):=by rw [hi];exact cB hg
  have e3:idx P T[k].part=some P[j]:=by rw [hj];exact cB hp
  rw [e1,aA,e2,aA,e3,aA,dR (by have:=hrl (fun z=>z.iZ==(i:Int)) (yk P);simp only [List.length_singleton];unfold pe;omega),aA,aA,aA]
  refine fin _ _ ?_ ?_
  ·unfold qR
   rw [aG n0,hi,cV,List.getD_eq_getElem?_getD,hq];rfl
  ·rw [hi,cV,ur]
   refine List.map_congr_left fun m _=>?_
   unfold pe
   rw [hfil]
   by_cases e:m=i
   ·subst e;rw [aG rfl,aG (by rw [hi];simp)]
    congr 1
    unfold yk
    rw [hj,cV,List.getD_eq_getElem?_getD,hp];rfl
   ·rw [aJ e,aJ (by rw [hi,beq_iff_eq];omega),f9]
 ·rw [bW (by omega),bL,aA]
  refine fin _ _ ?_ ?_
  ·unfold qR;rw [aJ (by omega)]
  ·refine List.map_congr_left fun m _=>?_
   unfold pe
   rw [hfil,aJ (by rw [hn,beq_iff_eq];omega),f9]
end
end Go.Gk
namespace Go.Gk
open Go
def off (len:Nat->Nat):Nat->Nat
 | 0=>0
 | i+1=>off len i+len i
theorem Ar {len:Nat->Nat} {i j:Nat} (h:i<=j):off len i<=off len j:=by
 obtain⟨d,rfl⟩: ∃d,j=i+d:=⟨j - i,by omega⟩
 clear h
 induction d with
 | zero=>exact bP _
 | succ d ih=>
  have e:off len (i+ (d+1))=off len (i+d)+len (i+d):=rfl
  omega
theorem rz {len:Nat->Nat} {i j:Nat} (h:i<j):off len i+len i<=off len j:=Ar (len:=len) (i:=i+1) h
theorem range_add {α:Type} (f:Nat->α) (a b:Nat): (List.range (a+b)).map f= (List.range a).map f++(List.range b).map (fun k=>f (a+k)):=by
 rw [List.range_add,iI,List.map_map];rfl
theorem lO {α:Type} (f:Nat->α) (len:Nat->Nat): ∀n,(List.range (off len n)).map f= ((List.range n).map (fun i=>(List.range (len i)).map (fun k=>f (off len i+k)))).flatten
 | 0=>by simp [off]
 | n+1=>by
  rw [List.range_succ,iI,List.flatten_append,<-lO f len n]
  simp only [off,iJ,List.map_nil,List.flatten_cons,List.flatten_nil,f9]
  exact range_add f _ _
theorem tg {α:Type} (l:List α) (d:α):l= (List.range l.length).map (fun j=>l.getD j d):=by
 apply List.ext_getElem?
 intro i
 rw [jI]
 by_cases h:i<l.length
 ·rw [List.getElem?_range h,aN h,Option.map_some,List.getD_eq_getElem?_getD,aN h];rfl
 ·rw [List.getElem?_eq_none (by omega),List.getElem?_eq_none (by simpa using h)];rfl
theorem uu {α β γ:Type} (f:α->β->γ) (a:Nat->α) (b:Nat->β) (n:Nat):List.zipWith f ((List.range n).map a) ((List.range n).map b)= (List.range n).map (fun j=>f (a j) (b j)):=by
 rw [List.zipWith_map,List.zipWith_self]
theorem xL {α β:Type} {f g:α->List β} {l:List α} (h: ∀a∈l,f a=g a):l.flatMap f=l.flatMap g:=by
 unfold List.flatMap
 rw [List.map_congr_left h]
theorem oH {α:Type} {g:Nat->List α}: ∀{n:Nat},(∀j,j<n->g j= [])->(List.range n).flatMap g= []
 | 0,_=>by simp
 | n+1,h=>by
  rw [List.range_succ,List.flatMap_append,oH fun j hj=>h j (by omega)]
  simp [h n (by omega)]
theorem ji {α:Type} {g:Nat->List α} {i:Nat}: ∀{n:Nat},i<n->(∀j,j<n->j≠i->g j= [])->(List.range n).flatMap g=g i
 | 0,h,_=>by omega
 | n+1,hi,h=>by
  rw [List.range_succ,List.flatMap_append]
  by_cases e:i=n
  ·subst e
   rw [oH fun j hj=>h j (by omega) (by omega)];simp
  ·rw [ji (i:=i) (by omega) fun j hj hne=>h j (by omega) hne]
   have:=h n (by omega) (by omega)
   simp [this]
def pf {α:Type} (len:Nat->Nat) (n:Nat) (L:List (List α)):Prop:=L.length=n/\∀i,i<n->(L.getD i []).length=len i
theorem pf.flat {α:Type} {len:Nat->Nat} {n:Nat} {L:List (List α)} (h:pf len n L): ∀i,i<=n->(L.take i).flatten.length=off len i
 | 0,_=>by simp [off]
 | i+1,hi=>by
  have hl:i<L.length:=by rw [h.1];omega
  have h2:=h.2 i (by omega)
  rw [List.getD_eq_getElem?_getD,aN hl] at h2
  rw [oU hl,cN,h.flat i (by omega)]
  simp only [off];simpa using h2
theorem pf.len {α:Type} {len:Nat->Nat} {n:Nat} {L:List (List α)} (h:pf len n L):L.flatten.length=off len n:=by
 have:=h.flat n (bP _)
 rwa [kT (by rw [h.1];omega)] at this
theorem pf.get {α:Type} {len:Nat->Nat} {n:Nat} {L:List (List α)} (h:pf len n L) {i k:Nat} (hi:i<n) (hk:k<len i) (d:α):L.flatten.getD (off len i+k) d= (L.getD i []).getD k d:=by
 have hl:i<L.length:=by rw [h.1];omega
 have h2:=h.2 i hi
 have e:L.getD i []=L[i]:=by rw [List.getD_eq_getElem?_getD,aN hl];rfl
 rw [e] at h2 ⊢
 conv=>lhs;rw [<-List.take_append_drop i L,List.flatten_append]
 rw [List.getD_eq_getElem?_getD,iq (by rw [h.flat i (by omega)];omega),h.flat i (by omega),show off len i+k - off len i=k by omega,kV hl,List.flatten_cons,il (by omega),List.getD_eq_getElem?_getD]
def nth (ls:List aH) (i:Nat):aH:=ls.getD i default
def gF (ls:List aH) (i:Nat):Nat:=(nth ls i).aK.length
def fk (ls:List aH) (i:Nat):Nat:=(nth ls i).aY.length
def pg (t:List aD) (ls:List aH) (n:Nat):List aQ:=(List.range n).flatMap fun i=>nK t (nth ls i) (off (gF ls) i) (off (fk ls) i)
structure gY (t:List aD) (ls:List aH):Prop where
 bt:bk t<=1048576
 ok: ∀i,i<ls.length->j4 t (nth ls i)
 y9:ls.length<=2
section
variable {t:List aD} {ls:List aH}
theorem gY.C9 (h:gY t ls): ∀i,i<=ls.length->off (gF ls) i<=i*1000
 | 0,_=>by simp [off]
 | i+1,hi=>by
  have:=h.C9 i (by omega)
  have:=(h.ok i (by omega)).y9
  simp only [off,gF];omega
theorem gY.Da (h:gY t ls): ∀i,i<=ls.length->off (fk ls) i<=i*1000
 | 0,_=>by simp [off]
 | i+1,hi=>by
  have:=h.Da i (by omega)
  have:=(h.ok i (by omega)).qO
  simp only [off,fk];omega
theorem gY.nP (h:gY t ls):off (gF ls) ls.length<=2000:=by have:=h.C9 _ (bP _);have:=h.y9;omega
theorem gY.nN (h:gY t ls):off (fk ls) ls.length<=2000:=by have:=h.Da _ (bP _);have:=h.y9;omega
theorem rA {x:aH} {a b:Nat} {z:aQ}:z∈nK t x a b↔∃k,k<x.aK.length/\∃y∈(ef t (x.aK.getD k default)).aP,z=nD t x a b k (x.aK.getD k default) y:=by
 unfold nK nJ
 simp only [List.mem_flatMap,d5,ez]
 constructor
 ·rintro⟨k,hk,y,hy,rfl⟩;exact⟨k,hk,y,hy,rfl⟩
 ·rintro⟨k,hk,y,hy,rfl⟩;exact⟨k,hk,y,hy,rfl⟩
theorem wW (x:aH) (a b k:Nat) (p:Part) (y:aU): (nD t x a b k p y).iZ = -1\/∃n:Nat,n<x.aY.length/\ey x ⟨p.Name,y.Name⟩= (n:Int)/\(nD t x a b k p y).iZ= ((b+n:Nat):Int):=by
 unfold nD
 dsimp only
 split
 ·have:ey x ⟨p.Name,y.Name⟩< (x.aY.length:Int):=sg _ _
  exact .inr ⟨(ey x ⟨p.Name,y.Name⟩).toNat,by omega,by omega,by omega⟩
 ·exact .inl rfl
theorem Bb {n:Nat} (hn:n<=ls.length): ∀z∈pg t ls n,BB (off (gF ls) ls.length) (off (fk ls) ls.length) z:=by
 intro z hz
 obtain⟨i,hi,hz⟩:=List.mem_flatMap.1 hz
 have hi:=d5.1 hi
 obtain⟨k,hk,y,_,rfl⟩:=rA.1 hz
 have h1:=rz (len:=gF ls) (i:=i) (j:=ls.length) (by omega)
 have h2:=rz (len:=fk ls) (i:=i) (j:=ls.length) (by omega)
 unfold gF at h1
 unfold fk at h2
 refine⟨⟨by unfold nD;dsimp only;omega,by unfold nD;dsimp only;unfold gF;omega⟩,?_⟩
 rcases wW (nth ls i) (off (gF ls) i) (off (fk ls) i) k ((nth ls i).aK.getD k default) y with e | ⟨m,hm,_,e⟩
 ·exact .inr e
 ·rw [e];unfold fk at *;exact .inl ⟨by omega,by omega⟩
theorem As (h:gY t ls) {n:Nat} (hn:n<=ls.length): (pg t ls n).length<=n*1048576000:=
 lN _ _ n fun i hi=>uq h.bt (h.ok i (by omega)) _ _ (bP _)
theorem wX {x:aH} {a b k:Nat} (hk:k<x.aK.length): (nK t x a b).filter (fun z=>z.part==((a+k:Nat):Int))=nJ t x a b k:=by
 unfold nK
 rw [List.filter_flatMap,ji hk (fun j hj hne=>?_)]
 ·rw [List.filter_eq_self]
  intro z hz
  obtain⟨y,_,rfl⟩:=ez.1 hz
  exact beq_iff_eq.2 rfl
 ·rw [List.filter_eq_nil_iff]
  intro z hz
  obtain⟨y,_,rfl⟩:=ez.1 hz
  rw [beq_iff_eq]
  unfold nD;dsimp only;omega
theorem Bc {i k:Nat} (hi:i<ls.length) (hk:k<gF ls i): (pg t ls ls.length).filter (fun z=>z.part==((off (gF ls) i+k:Nat):Int))=nJ t (nth ls i) (off (gF ls) i) (off (fk ls) i) k:=by
 unfold pg
 rw [List.filter_flatMap,ji hi (fun j hj hne=>?_),wX hk]
 rw [List.filter_eq_nil_iff]
 intro z hz
 obtain⟨m,hm,y,_,rfl⟩:=rA.1 hz
 rw [beq_iff_eq]
 unfold nD;dsimp only
 rcases Nat.lt_or_gt_of_ne hne with h | h
 ·have:=rz (len:=gF ls) h
  unfold gF at *;omega
 ·have:=rz (len:=gF ls) h
  unfold gF at *;omega
theorem Bd {i n:Nat} (hi:i<ls.length) (hn:n<fk ls i): (pg t ls ls.length).filter (fun z=>z.iZ==((off (fk ls) i+n:Nat):Int))= (nK t (nth ls i) (off (gF ls) i) (off (fk ls) i)).filter (fun z=>z.iZ==((off (fk ls) i+n:Nat):Int)):=by
 unfold pg
 rw [List.filter_flatMap,ji hi (fun j hj hne=>?_)]
 rw [List.filter_eq_nil_iff]
 intro z hz
 obtain⟨m,hm,y,_,rfl⟩:=rA.1 hz
 rw [beq_iff_eq]
 rcases wW (t:=t) (nth ls j) (off (gF ls) j) (off (fk ls) j) m ((nth ls j).aK.getD m default) y with e | ⟨q,hq,_,e⟩
 ·rw [e];omega
 ·rw [e]
  rcases Nat.lt_or_gt_of_ne hne with h | h
  ·have:=rz (len:=fk ls) h
   unfold fk at *;omega
  ·have:=rz (len:=fk ls) h
   unfold fk at *;omega
def k9 (t:List aD) (x:aH):List bT:=(List.range x.aK.length).flatMap fun k=>(ef t (x.aK.getD k default)).aP.map fun z=>⟨(x.aK.getD k default).Name,z.Name⟩
def gN (t:List aD) (x:aH) (P:List Int) (q:bT):aB:=⟨P.getD (nat? Part.Name x.aK q.Part).toNat 0,E7 t x q⟩
theorem th {x:aH} (hs:fU Part.Name x.aK) {k:Nat} {p:Part} (hp:x.aK[k]? =some p):mT x p.Name=p:=by
 unfold mT
 rw [qN (oW hs hp) hp];rfl
theorem lP {x:aH} {k:Nat} (hk:k<x.aK.length):x.aK[k]? =some (x.aK.getD k default):=by rw [List.getD_eq_getElem?_getD,aN hk];rfl
theorem Au {x:aH} (ok:j4 t x) (a b n:Nat) (P Pl:List Int) (hP: ∀k,k<x.aK.length->P.getD (a+k) 0=Pl.getD k 0):
  ((nK t x a b).filter (fun z=>z.iZ==((b+n:Nat):Int))).map (yk P)= ((k9 t x).filter (fun q=>ey x q==(n:Int))).map (gN t x Pl):=by
 unfold nK k9 nJ
 rw [List.filter_flatMap,List.filter_flatMap,List.map_flatMap,List.map_flatMap]
 refine xL fun k hk=>?_
 have hk:=d5.1 hk
 have hp:=lP hk
 generalize x.aK.getD k default=p at hp
 rw [List.filter_map,List.filter_map,List.map_map,List.map_map]
 have e: ((fun z:aQ=>z.iZ==((b+n:Nat):Int))∘nD t x a b k p)= ((fun q=>ey x q==(n:Int))∘fun z:aU=>(⟨p.Name,z.Name⟩:bT)):=by
  funext y
  show ((nD t x a b k p y).iZ==((b+n:Nat):Int))= (ey x ⟨p.Name,y.Name⟩==(n:Int))
  unfold nD
  dsimp only
  rw [jd,beq_iff_eq,beq_iff_eq]
  split <;> omega
 rw [e]
 refine List.map_congr_left fun y hy=>?_
 show (⟨P.getD (nD t x a b k p y).part.toNat 0,(nD t x a b k p y).mark⟩:aB)= ⟨Pl.getD (nat? Part.Name x.aK p.Name).toNat 0,lL (ef t (mT x p.Name)) y.Name⟩
 rw [oW ok.parts.sorted hp,th ok.parts.sorted hp]
 unfold nD
 dsimp only
 rw [cV,cV,hP k hk]
theorem tF {x:aH} (ok:j4 t x): (k9 t x).Nodup:=by
 unfold k9 List.Nodup
 rw [List.pairwise_flatMap]
 refine⟨fun k hk=>?_,?_⟩
 ·have hk:=d5.1 hk
  obtain⟨i,_,h2⟩:=lK (ok.parts.typed _ (eR (lP hk)))
  rw [List.pairwise_map]
  refine(xD.1 (ok.types.pins _ (eR h2))).imp fun{a b} h e=>?_
  injection e with _ e
  exact aT.pA h e
 ·refine List.Pairwise.imp_of_mem (fun{a b} ha hb hab y hy z hz=>?_) List.pairwise_lt_range
  have ha:=d5.1 ha
  have hb:=d5.1 hb
  obtain⟨u,_,rfl⟩:=ez.1 hy
  obtain⟨v,_,rfl⟩:=ez.1 hz
  intro e
  injection e with e _
  exact aT.pA (ok.parts.sorted a b _ _ hab (lP ha) (lP hb)) e
theorem wY {x:aH} (ok:j4 t x) {q:bT} (h:ju t x.aK q=true):q∈k9 t x:=by
 have h1:=rP h
 have h2:=td h
 unfold k9
 rw [List.mem_flatMap]
 rcases gQ Part.Name x.aK q.Part with ⟨g1,_⟩ | ⟨k,p,g1,g2,g3⟩
 ·omega
 have hk:=(bM.1 g2).1
 have hp:=lP hk
 rw [g2] at hp
 injection hp with hp
 refine⟨k,d5.2 hk,?_⟩
 rw [<-hp]
 have e:mT x q.Part=p:=by rw [<-g3];exact th ok.parts.sorted g2
 rw [e] at h2
 rcases gQ aU.Name (ef t p).aP q.bT with ⟨f1,_⟩ | ⟨j,z,f1,f2,f3⟩
 ·omega
 refine ez.2 ⟨z,eR f2,?_⟩
 cases q;simp_all
theorem zk {x:aH} {n:Nat} {q:bT} (ok:j4 t x) (hn:n<x.aY.length):ey x q= (n:Int)↔q∈x.aY[n].aP:=by
 unfold ey
 constructor
 ·intro h
  rcases hZ x.aY (fun m=>decide (q∈m.aP)) with ⟨h1,_⟩ | ⟨k,m,h1,h2,h3,_⟩
  ·omega
  ·have:k=n:=by omega
   subst this
   rw [aN hn] at h2
   injection h2 with h2
   rw [h2];exact of_decide_eq_true h3
 ·intro h
  refine ky (aN hn) (cK h) fun j m hj hm=>?_
  rw [decide_eq_false_iff_not]
  intro h2
  have:=ok.once j n m _ q hm (aN hn) h2 h
  omega
theorem Av {x:aH} (ok:j4 t x) {n:Nat} (hn:n<x.aY.length): ((k9 t x).filter (fun q=>ey x q==(n:Int))).Perm x.aY[n].aP:=by
 have h1: ((k9 t x).filter (fun q=>ey x q==(n:Int))).Nodup:=(tF ok).sublist List.filter_sublist
 have h2:x.aY[n].aP.Nodup:=(xE.1 (ok.B4 _ (d3 hn))).imp fun{a b} h e=>by subst e;rw [vn] at h;cases h
 have hm: ∀q,q∈(k9 t x).filter (fun q=>ey x q==(n:Int))↔q∈x.aY[n].aP:=fun q=>by
  rw [List.mem_filter,beq_iff_eq,zk ok hn]
  exact⟨fun h=>h.2,fun h=>⟨wY ok (ok.E6 _ (d3 hn) q h),h⟩⟩
 rw [List.perm_iff_count]
 intro q
 have a1:=List.nodup_iff_count.1 h1 q
 have a2:=List.nodup_iff_count.1 h2 q
 by_cases hq:q∈x.aY[n].aP
 ·have:=List.count_pos_iff.2 hq
  have:=List.count_pos_iff.2 ((hm q).2 hq)
  omega
 ·rw [List.count_eq_zero_of_not_mem hq,List.count_eq_zero_of_not_mem (fun h=>hq ((hm q).1 h))]
end
end Go.Gk
namespace Go.Gk
open Go
def rB (t:List aD) (x:aH) (Q:List Int) (k:Nat):List aB:=
 (ef t (x.aK.getD k default)).aP.map fun z=>⟨lL (ef t (x.aK.getD k default)) z.Name,qR Q (ey x ⟨(x.aK.getD k default).Name,z.Name⟩)⟩
def rC (t:List aD) (x:aH) (P:List Int) (n:Nat):List aB:=(x.aY.getD n default).aP.map (gN t x P)
def Ce (t:List aD) (x:aH) (P Q:List Int) (k:Nat):List Int:=AA (P.getD k 0) (rB t x Q k)
def Cf (t:List aD) (x:aH) (P Q:List Int) (n:Nat):List Int:=AA (Q.getD n 0) (rC t x P n)
def SP (t:List aD) (ls:List aH) (Pn Qn:List (List Int)):List (List (List Int)):=(List.range ls.length).map fun i=>(List.range (gF ls i)).map (Ce t (nth ls i) (Pn.getD i []) (Qn.getD i []))
def SN (t:List aD) (ls:List aH) (Pn Qn:List (List Int)):List (List (List Int)):=(List.range ls.length).map fun i=>(List.range (fk ls i)).map (Cf t (nth ls i) (Pn.getD i []) (Qn.getD i []))
section
variable {t:List aD} {ls:List aH} {Pn Qn:List (List Int)} {N:Nat}
theorem yl (hQ:pf (fk ls) ls.length Qn) {i k:Nat} (hi:i<ls.length) (hk:k<gF ls i):mU (pg t ls ls.length) Qn.flatten (off (gF ls) i+k)=rB t (nth ls i) (Qn.getD i []) k:=by
 unfold mU rB
 rw [Bc hi hk]
 unfold nJ
 rw [List.map_map]
 refine List.map_congr_left fun y _=>?_
 show (⟨_,qR Qn.flatten (nD t (nth ls i) _ _ k _ y).iZ⟩:aB)=_
 unfold nD
 dsimp only
 congr 1
 by_cases h:0<=ey (nth ls i) ⟨((nth ls i).aK.getD k default).Name,y.Name⟩
 ·have hl:ey (nth ls i) ⟨((nth ls i).aK.getD k default).Name,y.Name⟩< ((nth ls i).aY.length:Int):=sg _ _
  rw [aG h]
  unfold qR
  rw [aG (by omega),aG h,show ((off (fk ls) i:Int)+ey (nth ls i) ⟨((nth ls i).aK.getD k default).Name,y.Name⟩).toNat=off (fk ls) i+ (ey (nth ls i) ⟨((nth ls i).aK.getD k default).Name,y.Name⟩).toNat by omega]
  exact hQ.get hi (by unfold fk;omega) 0
 ·rw [aJ h]
  unfold qR
  rw [aJ (by omega),aJ h]
theorem ym (h:gY t ls) (hP:pf (gF ls) ls.length Pn) {i n:Nat} (hi:i<ls.length) (hn:n<fk ls i): (pe (pg t ls ls.length) Pn.flatten (off (fk ls) i+n)).Perm (rC t (nth ls i) (Pn.getD i []) n):=by
 have ok:=h.ok i hi
 unfold pe rC
 rw [Bd hi hn,Au ok _ _ n _ (Pn.getD i []) (fun k hk=>hP.get hi hk 0)]
 have hn':n< (nth ls i).aY.length:=hn
 have e: (nth ls i).aY.getD n default= (nth ls i).aY[n]:=by rw [List.getD_eq_getElem?_getD,aN hn'];rfl
 rw [e]
 exact(Av ok hn').map _
theorem zm {c:Int} {r s:List aB} (h:r.Perm s):AA c r=AA c s:=by unfold AA;rw [xH h]
theorem p8 (h:gY t ls) {i k:Nat} (hi:i<ls.length) (hk:k<gF ls i) (Q:List Int): (rB t (nth ls i) Q k).length<=1048576:=by
 have ok:=h.ok i hi
 unfold rB
 rw [dD]
 exact j6 h.bt (ok.parts.typed _ (eR (lP hk)))
theorem p9 (h:gY t ls) {i n:Nat} (hi:i<ls.length) (hn:n<fk ls i) (P:List Int): (rC t (nth ls i) P n).length<=500:=by
 have ok:=h.ok i hi
 have hn':n< (nth ls i).aY.length:=hn
 unfold rC
 rw [dD,List.getD_eq_getElem?_getD,aN hn']
 exact(ok.yg _ (d3 hn')).2
theorem B6 (h:gY t ls) (hP:pf (gF ls) ls.length Pn) (hQ:pf (fk ls) ls.length Qn):
  fB N Pn.flatten ((List.range (off (gF ls) ls.length)).map (mU (pg t ls ls.length) Qn.flatten))=some (SP t ls Pn Qn).flatten:=by
 have hl:=hP.len
 have h2000:=h.nP
 rw [wU (by rw [dD,List.length_range,hl]) (by omega) (fun r hr=>?_)]
 ·congr 1
  conv=>lhs;rw [tg Pn.flatten 0,hl]
  rw [uu,lO]
  unfold SP
  congr 1
  refine List.map_congr_left fun i hi=>List.map_congr_left fun k hk=>?_
  have hi:=d5.1 hi
  have hk:=d5.1 hk
  rw [hP.get hi hk,yl hQ hi hk];rfl
 ·rw [lO] at hr
  obtain⟨l,hl,hr⟩:=List.mem_flatten.1 hr
  obtain⟨i,hi,rfl⟩:=ez.1 hl
  obtain⟨k,hk,rfl⟩:=ez.1 hr
  have hi:=d5.1 hi
  have hk:=d5.1 hk
  rw [yl hQ hi hk]
  exact p8 h hi hk _
theorem B7 (h:gY t ls) (hP:pf (gF ls) ls.length Pn) (hQ:pf (fk ls) ls.length Qn):
  fB N Qn.flatten ((List.range (off (fk ls) ls.length)).map (pe (pg t ls ls.length) Pn.flatten))=some (SN t ls Pn Qn).flatten:=by
 have hl:=hQ.len
 have h2000:=h.nN
 rw [wU (by rw [dD,List.length_range,hl]) (by omega) (fun r hr=>?_)]
 ·congr 1
  conv=>lhs;rw [tg Qn.flatten 0,hl]
  rw [uu,lO]
  unfold SN
  congr 1
  refine List.map_congr_left fun i hi=>List.map_congr_left fun k hk=>?_
  have hi:=d5.1 hi
  have hk:=d5.1 hk
  rw [hQ.get hi hk,zm (ym h hP hi hk)];rfl
 ·rw [lO] at hr
  obtain⟨l,hl,hr⟩:=List.mem_flatten.1 hr
  obtain⟨i,hi,rfl⟩:=ez.1 hl
  obtain⟨k,hk,rfl⟩:=ez.1 hr
  have hi:=d5.1 hi
  have hk:=d5.1 hk
  have:=(ym h hP hi hk).length_eq
  have:=p9 h hi hk (Pn.getD i [])
  omega
theorem tj {i:Nat} (hi:i<ls.length):ls[i]? =some (nth ls i):=by unfold nth;rw [List.getD_eq_getElem?_getD,aN hi];rfl
theorem pf.Be {α:Type} {len:Nat->Nat} {n:Nat} {L:List (List α)} (h:pf len n L) {i:Nat} (hi:i<n):L[i]? =some (L.getD i []):=by
 rw [List.getD_eq_getElem?_getD,aN (by rw [h.1];exact hi)];rfl
theorem pf.Bf {α:Type} {len:Nat->Nat} {n:Nat} {L:List (List α)} (h:pf len n L) {i k:Nat} (hi:i<n) (hk:k<len i) (d:α): (L.getD i [])[k]? =some ((L.getD i []).getD k d):=by
 rw [List.getD_eq_getElem?_getD (l:=L.getD i []),aN (by rw [h.2 i hi];exact hk)];rfl
theorem zn {x:aH} {q:bT} (h: ¬0<=ey x q):ey x q = -1:=by
 unfold ey at *
 rcases hZ x.aY (fun n=>decide (q∈n.aP)) with ⟨h1,_⟩ | ⟨k,m,h1,_⟩
 ·exact h1
 ·omega
theorem wZ (h:gY t ls) (hb: ∀i,i<ls.length->bk (nth ls i)<=1048576) (hP:pf (gF ls) ls.length Pn) (hQ:pf (fk ls) ls.length Qn) {i k:Nat} (hi:i<ls.length) (hk:k<gF ls i) (hN:4194304<=N):
  cI N ⟨t,ls,Pn,Qn⟩ ((i:Nat):Int) ((k:Nat):Int)=some (Ce t (nth ls i) (Pn.getD i []) (Qn.getD i []) k):=by
 have ok:=h.ok i hi
 have hp:=lP hk
 have htyp:=ok.parts.typed _ (eR hp)
 obtain⟨j,h1,h2⟩:=lK htyp
 have hpl:=j6 h.bt htyp
 have hsp:=ok.types.pins _ (eR h2)
 have htl:=fy t
 have hbt:=h.bt
 unfold cI
 dsimp only
 rw [cB (tj hi),aA,cB hp,aA,oT (by omega),aA,h1,cB h2,aA]
 rw [mS (s0:=([]:List aB)) (fun z:aU=>[(⟨lL (ef t ((nth ls i).aK.getD k default)) z.Name,qR (Qn.getD i []) (ey (nth ls i) ⟨((nth ls i).aK.getD k default).Name,z.Name⟩)⟩:aB)]) (by omega) (fun m z hz=>by
  have hm:=(bM.1 hz).1
  have h4:=jC (fun z:aU=>[(⟨lL (ef t ((nth ls i).aK.getD k default)) z.Name,qR (Qn.getD i []) (ey (nth ls i) ⟨((nth ls i).aK.getD k default).Name,z.Name⟩)⟩:aB)]) 1 ((ef t ((nth ls i).aK.getD k default)).aP.take m) (fun _ _=>by simp)
  rw [bO] at h4
  have hself:=oW hsp hz
  have e: (bif (decide (ey (nth ls i) ⟨((nth ls i).aK.getD k default).Name,z.Name⟩>=0)) then ((idx Qn ((i:Nat):Int)).bind fun x129=>(idx x129 (ey (nth ls i) ⟨((nth ls i).aK.getD k default).Name,z.Name⟩)).bind fun x132=>some x132) else (some (ey (nth ls i) ⟨((nth ls i).aK.getD k default).Name,z.Name⟩)))=some (qR (Qn.getD i []) (ey (nth ls i) ⟨((nth ls i).aK.getD k default).Name,z.Name⟩)):=by
   by_cases h0:0<=ey (nth ls i) ⟨((nth ls i).aK.getD k default).Name,z.Name⟩
   ·have hl:ey (nth ls i) ⟨((nth ls i).aK.getD k default).Name,z.Name⟩< ((nth ls i).aY.length:Int):=sg _ _
    generalize ey (nth ls i) ⟨((nth ls i).aK.getD k default).Name,z.Name⟩=n at h0 hl
    obtain⟨n,rfl⟩: ∃a:Nat,n= (a:Int):=⟨n.toNat,by omega⟩
    rw [cK h0,bJ,cB (hQ.Be hi),aA,cB (hQ.Bf hi (by unfold fk;omega) 0),aA]
    unfold qR
    rw [aG h0,cV]
   ·rw [bW h0,bL,zn h0];rfl
  rw [cB hz,aA,vq (hb i hi),aA,e,aA,<-hself,tc hpl (by rw [hself];omega) hN,aA,dR (by simp only [List.nil_append,List.length_singleton];omega),aA]),aA]
 rw [cB (hP.Be hi),aA,cB (hP.Bf hi hk 0),aA]
 have e2: ([]:List aB)++(ef t ((nth ls i).aK.getD k default)).aP.flatMap (fun z:aU=>[(⟨lL (ef t ((nth ls i).aK.getD k default)) z.Name,qR (Qn.getD i []) (ey (nth ls i) ⟨((nth ls i).aK.getD k default).Name,z.Name⟩)⟩:aB)])=rB t (nth ls i) (Qn.getD i []) k:=by
  rw [List.nil_append,<-List.map_eq_flatMap];rfl
 have hpl2:=p8 h hi hk (Qn.getD i [])
 rw [e2,oG hpl2 hN,aA,dR (by rw [oV,oF];simp only [List.length_singleton];omega),aA]
 rfl
theorem xM (h:gY t ls) (hP:pf (gF ls) ls.length Pn) (hQ:pf (fk ls) ls.length Qn) {i n:Nat} (hi:i<ls.length) (hn:n<fk ls i) (hN:4194304<=N):
  cL N ⟨t,ls,Pn,Qn⟩ ((i:Nat):Int) ((n:Nat):Int)=some (Cf t (nth ls i) (Pn.getD i []) (Qn.getD i []) n):=by
 have ok:=h.ok i hi
 have hn':n< (nth ls i).aY.length:=hn
 have hnn: (nth ls i).aY[n]? =some ((nth ls i).aY.getD n default):=by rw [List.getD_eq_getElem?_getD,aN hn'];rfl
 have hmem:=eR hnn
 have h500:=(ok.yg _ hmem).2
 have htl:=fy t
 have hbt:=h.bt
 have hfew:=ok.y9
 unfold cL
 dsimp only
 rw [cB (tj hi),aA,cB hnn,aA]
 rw [mS (s0:=([]:List aB)) (fun q:bT=>[gN t (nth ls i) (Pn.getD i []) q]) (by omega) (fun m q hq=>by
  have hm:=(bM.1 hq).1
  have h4:=jC (fun q:bT=>[gN t (nth ls i) (Pn.getD i []) q]) 1 (((nth ls i).aY.getD n default).aP.take m) (fun _ _=>by simp)
  rw [bO] at h4
  have hh:=ok.E6 _ hmem q (eR hq)
  have g1:=rP hh
  have g2:=td hh
  obtain⟨a,a1,a2⟩:=wS g1
  have hak:=(bM.1 a2).1
  obtain⟨b,b1,b2,b3,b4⟩:=xF h.bt ok g1
  rw [cB hq,aA,ue (by omega),aA,a1,cB a2,aA,oT (by omega),aA,b1,cB b2,aA,cB (hP.Be hi),aA,cB (hP.Bf hi hak 0),aA,wJ b4,aA,tc b4 g2 hN,aA,dR (by simp only [List.nil_append,List.length_singleton];omega),aA]
  unfold gN E7
  rw [a1,cV]),aA]
 rw [cB (hQ.Be hi),aA,cB (hQ.Bf hi hn 0),aA]
 have e2: ([]:List aB)++((nth ls i).aY.getD n default).aP.flatMap (fun q:bT=>[gN t (nth ls i) (Pn.getD i []) q])=rC t (nth ls i) (Pn.getD i []) n:=by
  rw [List.nil_append,<-List.map_eq_flatMap];rfl
 have hpl2:=p9 h hi hn (Pn.getD i [])
 rw [e2,oG (by omega) hN,aA,dR (by rw [oV,oF];simp only [List.length_singleton];omega),aA]
 rfl
end
end Go.Gk
namespace Go.Gk
open Go
noncomputable def dO {α:Type} (cf:α->α->Int) (l:List α):List α:=Classical.epsilon fun d=>d6 cf l d
theorem d6.dO {α:Type} {cf:α->α->Int} (hO:k8 cf) {l d:List α} (h:d6 cf l d):Gk.dO cf l=d:=by
 have h2:d6 cf l (Gk.dO cf l):=Classical.epsilon_spec (p:=fun d=>d6 cf l d) ⟨d,h⟩
 exact h2.uniq hO h fun _=>Iff.rfl
abbrev CS:=List (List Int)×List (List Int)
noncomputable def zq (S:List (List (List Int))):List (List Int):=S.map fun l=>l.map (rn (dO cmpL S.flatten))
noncomputable def AB (t:List aD) (ls:List aH) (s:CS):CS:=(zq (SP t ls s.1 s.2),zq (SN t ls s.1 s.2))
def yn (t:List aD) (ls:List aH) (s:CS):Prop:=
 (dO cmpL (SP t ls s.1 s.2).flatten).length= (dO fz s.1.flatten).length/\(dO cmpL (SN t ls s.1 s.2).flatten).length= (dO fz s.2.flatten).length
inductive qa (t:List aD) (ls:List aH):CS->CS->Prop
 | stop {s:CS}:yn t ls s->qa t ls s s
 | step {s r:CS}: ¬yn t ls s->qa t ls (AB t ls s) r->qa t ls s r
theorem qa.uniq {t:List aD} {ls:List aH} {s r r':CS} (h:qa t ls s r) (h':qa t ls s r'):r=r':=by
 induction h with
 | stop hs=>cases h' with
  | stop _=>rfl
  | step hn _=>exact absurd hs hn
 | step hn _ ih=>cases h' with
  | stop hs=>exact absurd hs hn
  | step _ h2=>exact ih h2
structure mV (ls:List aH) (s:CS):Prop where
 sp:pf (gF ls) ls.length s.1
 sn:pf (fk ls) ls.length s.2
 dp: ∃e,d6 fz s.1.flatten e
 dn: ∃e,d6 fz s.2.flatten e
theorem uv {α:Type} (len:Nat->Nat) (n:Nat) (f:Nat->Nat->α):pf len n ((List.range n).map fun i=>(List.range (len i)).map (f i)):=by
 refine⟨by simp,fun i hi=>?_⟩
 rw [List.getD_eq_getElem?_getD,jI,List.getElem?_range hi];simp
theorem pf.map {α β:Type} {len:Nat->Nat} {n:Nat} {L:List (List α)} (h:pf len n L) (f:α->β):pf len n (L.map fun l=>l.map f):=by
 refine⟨by rw [dD,h.1],fun i hi=>?_⟩
 have:=h.2 i hi
 rw [List.getD_eq_getElem?_getD] at this ⊢
 rw [jI]
 rw [aN (by rw [h.1];exact hi)] at this ⊢
 simpa using this
theorem xN (t:List aD) (ls:List aH) (P Q:List (List Int)):pf (gF ls) ls.length (SP t ls P Q):=uv _ _ _
theorem xO (t:List aD) (ls:List aH) (P Q:List (List Int)):pf (fk ls) ls.length (SN t ls P Q):=uv _ _ _
theorem w3 {α β:Type} (L:List (List α)) (f:α->β): (L.map fun l=>l.map f).flatten=L.flatten.map f:=by rw [List.map_flatten]
section
variable {t:List aD} {ls:List aH} {N:Nat}
theorem tk {S:List (List (List Int))} {d:List (List Int)} (h:d6 cmpL S.flatten d):d6 fz (zq S).flatten ((List.range d.length).map fun(k:Nat)=>(k:Int)):=by
 unfold zq
 rw [w3,h.dO ik]
 exact wF ik h
theorem mc {S:List (List (List Int))} {d:List (List Int)} (h:d6 cmpL S.flatten d): (dO fz (zq S).flatten).length=d.length:=by
 rw [(tk h).dO jt,dD,List.length_range]
theorem oX {s:CS} {dP dN:List (List Int)} (hP:d6 cmpL (SP t ls s.1 s.2).flatten dP) (hN:d6 cmpL (SN t ls s.1 s.2).flatten dN):mV ls (AB t ls s):=
 ⟨(xN t ls s.1 s.2).map _,(xO t ls s.1 s.2).map _,⟨_,tk hP⟩,⟨_,tk hN⟩⟩
theorem BC {s:CS} (h:mV ls s) {d:List (List Int)} (hd:d6 cmpL (SP t ls s.1 s.2).flatten d): (dO fz s.1.flatten).length<=d.length:=by
 obtain⟨e,he⟩:=h.dp
 rw [he.dO jt]
 refine yc hd jt he (fun l=>l.headD 0) fun y hy=>?_
 obtain⟨l,hl,hy⟩:=List.mem_flatten.1 hy
 obtain⟨i,hi,rfl⟩:=List.mem_iff_getElem.1 hl
 obtain⟨k,hk,rfl⟩:=List.mem_iff_getElem.1 hy
 have hi':i<ls.length:=by rw [<-h.sp.1];exact hi
 have e2:s.1.getD i []=s.1[i]:=by rw [List.getD_eq_getElem?_getD,aN hi];rfl
 have hk':k<gF ls i:=by rw [<-h.sp.2 i hi',e2];exact hk
 refine⟨Ce t (nth ls i) (s.1.getD i []) (s.2.getD i []) k,List.mem_flatten.2 ⟨_,ez.2 ⟨i,d5.2 hi',rfl⟩,ez.2 ⟨k,d5.2 hk',rfl⟩⟩,?_⟩
 show (s.1.getD i []).getD k 0=_
 rw [e2,List.getD_eq_getElem?_getD,aN hk];rfl
theorem BD {s:CS} (h:mV ls s) {d:List (List Int)} (hd:d6 cmpL (SN t ls s.1 s.2).flatten d): (dO fz s.2.flatten).length<=d.length:=by
 obtain⟨e,he⟩:=h.dn
 rw [he.dO jt]
 refine yc hd jt he (fun l=>l.headD 0) fun y hy=>?_
 obtain⟨l,hl,hy⟩:=List.mem_flatten.1 hy
 obtain⟨i,hi,rfl⟩:=List.mem_iff_getElem.1 hl
 obtain⟨k,hk,rfl⟩:=List.mem_iff_getElem.1 hy
 have hi':i<ls.length:=by rw [<-h.sn.1];exact hi
 have e2:s.2.getD i []=s.2[i]:=by rw [List.getD_eq_getElem?_getD,aN hi];rfl
 have hk':k<fk ls i:=by rw [<-h.sn.2 i hi',e2];exact hk
 refine⟨Cf t (nth ls i) (s.1.getD i []) (s.2.getD i []) k,List.mem_flatten.2 ⟨_,ez.2 ⟨i,d5.2 hi',rfl⟩,ez.2 ⟨k,d5.2 hk',rfl⟩⟩,?_⟩
 show (s.2.getD i []).getD k 0=_
 rw [e2,List.getD_eq_getElem?_getD,aN hk];rfl
theorem BE (h:gY t ls) (P Q:List (List Int)): (SP t ls P Q).flatten.length<=2000/\∀x∈(SP t ls P Q).flatten,x.length<=4611686018427387904:=by
 refine⟨by rw [(xN t ls P Q).len];exact h.nP,fun x hx=>?_⟩
 obtain⟨l,hl,hx⟩:=List.mem_flatten.1 hx
 obtain⟨i,hi,rfl⟩:=ez.1 hl
 obtain⟨k,hk,rfl⟩:=ez.1 hx
 have:=p8 h (d5.1 hi) (d5.1 hk) (Q.getD i [])
 unfold Ce
 rw [yj];omega
theorem BF (h:gY t ls) (P Q:List (List Int)): (SN t ls P Q).flatten.length<=2000/\∀x∈(SN t ls P Q).flatten,x.length<=4611686018427387904:=by
 refine⟨by rw [(xO t ls P Q).len];exact h.nN,fun x hx=>?_⟩
 obtain⟨l,hl,hx⟩:=List.mem_flatten.1 hx
 obtain⟨i,hi,rfl⟩:=ez.1 hl
 obtain⟨k,hk,rfl⟩:=ez.1 hx
 have:=p9 h (d5.1 hi) (d5.1 hk) (P.getD i [])
 unfold Cf
 rw [yj];omega
theorem uw {s:CS} (h:gY t ls) (g:mV ls s): (dO fz s.1.flatten).length<=2000:=by
 obtain⟨e,he⟩:=g.dp
 have:=he.len jt
 rw [g.sp.len] at this
 rw [he.dO jt]
 exact je this h.nP
theorem ux {s:CS} (h:gY t ls) (g:mV ls s): (dO fz s.2.flatten).length<=2000:=by
 obtain⟨e,he⟩:=g.dn
 have:=he.len jt
 rw [g.sn.len] at this
 rw [he.dO jt]
 exact je this h.nN
theorem w4 {s:CS} {dP dN:List (List Int)} (hP:d6 cmpL (SP t ls s.1 s.2).flatten dP) (hN:d6 cmpL (SN t ls s.1 s.2).flatten dN):
  yn t ls s↔dP.length= (dO fz s.1.flatten).length/\dN.length= (dO fz s.2.flatten).length:=by
 unfold yn
 rw [hP.dO ik,hN.dO ik]
theorem w5 {S:List (List (List Int))} {d:List (List Int)} (h:d6 cmpL S.flatten d):S.flatten.map (rn d)= (zq S).flatten:=by
 unfold zq
 rw [w3,h.dO ik]
noncomputable def la (ls:List aH):CS:=(ls.map (tf (dO nv (typesOf ls))),ls.map vu)
theorem vv {α:Type} {len:Nat->Nat} (f:aH->List α) (hf: ∀i,i<ls.length->(f (nth ls i)).length=len i):pf len ls.length (ls.map f):=by
 refine⟨by rw [dD],fun i hi=>?_⟩
 rw [List.getD_eq_getElem?_getD,jI,tj hi]
 exact hf i hi
theorem rD (d:List aT): (ls.map (tf d)).flatten= (typesOf ls).map (rn d):=by
 unfold typesOf tf
 rw [List.map_flatMap]
 unfold List.flatMap
 congr 1
 refine List.map_congr_left fun x _=>?_
 rw [List.map_map];rfl
theorem rE: ∀ls:List aH,(ls.map vu).flatten=List.replicate (ls.map vu).flatten.length 0
 | []=>rfl
 | x::ls=>by
  have ih:=rE ls
  rw [iJ,List.flatten_cons,cN,<-List.replicate_append_replicate,<-ih]
  congr 1
  unfold vu
  rw [jc]
theorem zo (n:Nat):d6 fz (List.replicate n 0) (if n=0 then [] else [0]):=by
 by_cases h:n=0
 ·subst h;exact⟨List.Pairwise.nil,fun x=>by simp⟩
 ·rw [aJ h]
  refine⟨List.pairwise_singleton _ _,fun x=>?_⟩
  rw [List.mem_replicate];simp [h]
theorem uy {d:List aT} (h:d6 nv (typesOf ls) d):mV ls (la ls)/\(dO fz (la ls).1.flatten).length=d.length/\(dO fz (la ls).2.flatten).length= (if 1<off (fk ls) ls.length then 1 else off (fk ls) ls.length):=by
 have hp:d6 fz (la ls).1.flatten ((List.range d.length).map fun(k:Nat)=>(k:Int)):=by
  unfold la
  rw [rD,h.dO lJ]
  exact wF lJ h
 have sn:pf (fk ls) ls.length (la ls).2:=vv vu fun i hi=>by unfold vu fk;rw [jc]
 have hn:d6 fz (la ls).2.flatten (if off (fk ls) ls.length=0 then [] else [0]):=by
  have e: (la ls).2.flatten=List.replicate (off (fk ls) ls.length) 0:=by
   rw [<-sn.len];exact rE ls
  rw [e];exact zo _
 refine⟨⟨vv (tf _) fun i hi=>by unfold tf gF;rw [dD],sn,⟨_,hp⟩,⟨_,hn⟩⟩,?_,?_⟩
 ·rw [hp.dO jt,dD,List.length_range]
 ·rw [hn.dO jt]
  split <;> split <;> simp <;> omega
theorem rQ (ls:List aH): (typesOf ls).length=off (gF ls) ls.length:=by
 have:pf (gF ls) ls.length (ls.map (tf [])):=vv (tf []) fun i hi=>by unfold tf gF;rw [dD]
 rw [<-this.len,rD,dD]
theorem vx (h:gY t ls) (hN:4194304<=N):
  Ok (d4 N (typesOf ls) (pg t ls ls.length) ((off (gF ls) ls.length:Nat):Int) ((off (fk ls) ls.length:Nat):Int)) (fun r=>∃s,mV ls s/\qa t ls (la ls) s/\r= (s.1.flatten,s.2.flatten)):=by
 have hnP:=h.nP
 have hnN:=h.nN
 unfold d4
 refine Ok.bind (y8 (by rw [rQ];omega) hN) ?_
 rintro x31 ⟨d,hd,rfl⟩
 obtain⟨hg,hc1,hc2⟩:=uy hd
 refine Ok.eq (oP _ (by omega)) ?_
 have e1: (typesOf ls).map (rn d)= (la ls).1.flatten:=by unfold la;rw [rD,hd.dO lJ]
 have e2:List.replicate (off (fk ls) ls.length) (0:Int)= (la ls).2.flatten:=by
  rw [<-hg.sn.len];exact(rE ls).symm
 have e3: (if 1< ((off (fk ls) ls.length:Nat):Int) then (1:Int) else ((off (fk ls) ls.length:Nat):Int))= (((dO fz (la ls).2.flatten).length:Nat):Int):=by
  rw [hc2];split <;> split <;> omega
 dsimp only
 rw [e1,e2,e3,<-hc1]
 have hwl:=As h (bP ls.length)
 have hwl: (pg t ls ls.length).length<=4194304000:=by have:=h.y9;omega
 refine Ok.bind (Ok.lh (fun s=>∃c,mV ls c/\(∀r,qa t ls c r->qa t ls (la ls) r)/\s= (c.1.flatten,c.2.flatten,(((dO fz c.1.flatten).length:Nat):Int),(((dO fz c.2.flatten).length:Nat):Int)))
  (fun s=>4001 - (s.2.2.1.toNat+s.2.2.2.toNat)) (Go:=fun _=>False) (Rt:=fun r=>∃s,mV ls s/\qa t ls (la ls) s/\r= (s.1.flatten,s.2.flatten)) ?_ ⟨la ls,hg,fun r hr=>hr,rfl⟩ (by omega)) (fun o ho=>Ok.cs ho (fun s hs=>hs.elim) (fun r hr=>Ok.ret hr))
 rintro s ⟨c,g,hf,rfl⟩
 dsimp only
 refine Ok.eq (oP _ (by omega)) (Ok.eq (oP _ (by omega)) ?_)
 refine Ok.eq (zj g.sp.len g.sn.len (Bb (bP _)) hwl) ?_
 dsimp only
 obtain⟨l1,l2⟩:=BE h c.1 c.2
 obtain⟨l3,l4⟩:=BF h c.1 c.2
 refine Ok.eq (B6 h g.sp g.sn) (Ok.bind (uj (by omega) l2 hN) ?_)
 rintro x904 ⟨dP,hdP,rfl⟩
 refine Ok.eq (B7 h g.sp g.sn) (Ok.bind (uj (by omega) l4 hN) ?_)
 rintro x908 ⟨dN,hdN,rfl⟩
 dsimp only
 have hst:=w4 hdP hdN
 have gp:=BC g hdP
 have gn:=BD g hdN
 refine Ok.bif (fun hb=>Ok.rt ⟨c,g,hf _ (.stop (hst.2 ?_)),rfl⟩) (fun hb=>Ok.nx ⟨⟨AB t ls c,oX hdP hdN,fun r hr=>hf r (.step (fun hs=>?_) hr),?_⟩,?_⟩)
 ·rw [cC,beq_iff_eq,beq_iff_eq] at hb
  exact⟨by omega,by omega⟩
 ·have:=hst.1 hs
  rw [this.1,this.2] at hb
  simp at hb
 ·rw [w5 hdP,w5 hdN]
  unfold AB
  dsimp only
  rw [mc hdP,mc hdN]
 ·have q1:=uw h (oX hdP hdN)
  have q2:=ux h (oX hdP hdN)
  unfold AB at q1 q2
  dsimp only at q1 q2
  rw [mc hdP] at q1
  rw [mc hdN] at q2
  have: ¬(dP.length= (dO fz c.1.flatten).length/\dN.length= (dO fz c.2.flatten).length):=fun hs=>by
   rw [hs.1,hs.2] at hb;simp at hb
  simp only [cV]
  omega
end
end Go.Gk
namespace Go.Gk
open Go
section
variable {t:List aD} {ls:List aH} {N:Nat}
theorem uz {α:Type} {n:Nat} {body:Nat->List α->Option (List α)} (f:Nat->α) (hn:n<=4611686018427387904) (h: ∀k,k<n->body k ((List.range k).map f)=some ((List.range k).map f++[f k])):iY n body []=some ((List.range n).map f):=
 kX (fun k=>(List.range k).map f) hn (by simp) fun k hk=>by rw [h k hk,List.range_succ,iI];rfl
theorem Aw {P Q:List (List Int)} (h:gY t ls) (hb: ∀i,i<ls.length->bk (nth ls i)<=1048576) (sp:pf (gF ls) ls.length P) (sn:pf (fk ls) ls.length Q) (hN:4194304<=N):
  (iY ls.length (fun(k523:Nat) (s524: (List (List (List Int)))×(List (List (List Int))))=>((idx ls (k523:Int)).bind fun x667=>(iY x667.aK.length (fun(k672:Nat) (s673: (List (List Int)))=>((cI N ⟨t,ls,P,Q⟩ (k523:Int) (k672:Int)).bind fun x692=>(app 24 s673 ([x692]: (List (List Int)))).bind fun x695=>some x695:Option ((List (List Int))))) ([]: (List (List Int)))).bind fun s673=>(iY x667.aY.length (fun(k699:Nat) (s700: (List (List Int)))=>((cL N ⟨t,ls,P,Q⟩ (k523:Int) (k699:Int)).bind fun x719=>(app 24 s700 ([x719]: (List (List Int)))).bind fun x722=>some x722:Option ((List (List Int))))) ([]: (List (List Int)))).bind fun s700=>(app 24 s524.1 ([s673]: (List (List (List Int))))).bind fun x726=>(app 24 s524.2 ([s700]: (List (List (List Int))))).bind fun x729=>some (x726,x729):Option ((List (List (List Int)))×(List (List (List Int)))))) (([]: (List (List (List Int)))),([]: (List (List (List Int))))))=some (SP t ls P Q,SN t ls P Q):=by
 have hfew:=h.y9
 refine kX (fun k=>((List.range k).map fun i=>(List.range (gF ls i)).map (Ce t (nth ls i) (P.getD i []) (Q.getD i [])),(List.range k).map fun i=>(List.range (fk ls i)).map (Cf t (nth ls i) (P.getD i []) (Q.getD i [])))) (by omega) rfl (fun i hi=>?_)
 have ok:=h.ok i hi
 have h1:=ok.y9
 have h2:=ok.qO
 rw [cB (tj hi),aA]
 rw [uz (Ce t (nth ls i) (P.getD i []) (Q.getD i [])) (by omega) (fun k hk=>by
  rw [wZ h hb sp sn hi hk hN,aA,dR (by simp only [dD,List.length_range,List.length_singleton];omega),aA]),aA]
 rw [uz (Cf t (nth ls i) (P.getD i []) (Q.getD i [])) (by omega) (fun k hk=>by
  rw [xM h sp sn hi hk hN,aA,dR (by simp only [dD,List.length_range,List.length_singleton];omega),aA]),aA]
 rw [dR (by simp only [dD,List.length_range,List.length_singleton];omega),aA,dR (by simp only [dD,List.length_range,List.length_singleton];omega),aA]
 rw [List.range_succ,iI,iI];rfl
theorem w6 (h:gY t ls) (hb: ∀i,i<ls.length->bk (nth ls i)<=1048576) (hN:4194304<=N):
  Ok (cY N t ls) (fun r=>∃s,mV ls s/\qa t ls (la ls) s/\r= ⟨t,ls,s.1,s.2⟩):=by
 have hnP:=h.nP
 have hnN:=h.nN
 have hfew:=h.y9
 unfold cY
 refine Ok.bind (Aq (by omega) (by rw [rQ];omega) (fun x hx=>by
  obtain⟨i,hi,rfl⟩:=List.mem_iff_getElem.1 hx
  have:=h.ok i hi
  have e:nth ls i=ls[i]:=by have:=tj hi;rw [aN hi] at this;injection this with this;exact this.symm
  rw [e] at this
  have h1:=this.y9
  have h2:=this.qO
  exact⟨by omega,by omega⟩) hN) ?_
 rintro x32 ⟨d,hd,rfl⟩
 obtain⟨hg,hc1,hc2⟩:=uy hd
 have e1: (⟨t,ls,ls.map (tf d),ls.map vu⟩:aM)= ⟨t,ls,(la ls).1,(la ls).2⟩:=by unfold la;rw [hd.dO lJ]
 rw [e1]
 refine Ok.bind (Ok.lh (fun s=>∃c,mV ls c/\(∀r,qa t ls c r->qa t ls (la ls) r)/\s.1= ⟨t,ls,c.1,c.2⟩/\((s.2.1 = -1/\s.2.2 = -1)\/(s.2.1= (((dO fz c.1.flatten).length:Nat):Int)/\s.2.2= (((dO fz c.2.flatten).length:Nat):Int))))
  (fun s=>4001 - ((dO fz s.1.parts.flatten).length+ (dO fz s.1.qp.flatten).length)) (Go:=fun _=>False) (Rt:=fun r=>∃s,mV ls s/\qa t ls (la ls) s/\r= ⟨t,ls,s.1,s.2⟩) ?_ ⟨la ls,hg,fun r hr=>hr,rfl, .inl ⟨rfl,rfl⟩⟩ (by omega)) (fun o ho=>Ok.cs ho (fun s hs=>hs.elim) (fun r hr=>Ok.ret hr))
 rintro⟨s1,s2,s3⟩ ⟨c,g,hf,hs1,hs2⟩
 dsimp only at hs1 hs2 ⊢
 subst hs1
 refine Ok.eq (Aw h hb g.sp g.sn hN) ?_
 dsimp only
 obtain⟨l1,l2⟩:=BE h c.1 c.2
 obtain⟨l3,l4⟩:=BF h c.1 c.2
 have hSl: (SP t ls c.1 c.2).length<=1048576:=by rw [(xN t ls c.1 c.2).1];omega
 have hNl: (SN t ls c.1 c.2).length<=1048576:=by rw [(xO t ls c.1 c.2).1];omega
 refine Ok.bind (rM hSl (by omega) l2 hN) ?_
 rintro x741 ⟨dP,hdP,rfl⟩
 refine Ok.bind (rM hNl (by omega) l4 hN) ?_
 rintro x743 ⟨dN,hdN,rfl⟩
 dsimp only
 refine Ok.bind (P:=fun s=>s= ((((dO fz c.1.flatten).length:Nat):Int),(((dO fz c.2.flatten).length:Nat):Int))) ?_ ?_
 ·rcases hs2 with ⟨rfl,rfl⟩ | ⟨rfl,rfl⟩
  ·rw [show decide ((-1:Int)<0)=true from rfl,bJ]
   refine Ok.bind (qP (by rw [g.sp.1];omega) (by rw [g.sp.len];omega) hN) ?_
   rintro _ ⟨e,he,rfl⟩
   refine Ok.bind (qP (by rw [g.sn.1];omega) (by rw [g.sn.len];omega) hN) ?_
   rintro _ ⟨e',he',rfl⟩
   exact Ok.ret (by rw [he.dO jt,he'.dO jt])
  ·rw [bW (by omega),bL]
   exact Ok.ret rfl
 ·rintro _ rfl
  dsimp only
  have hst:=w4 hdP hdN
  have gp:=BC g hdP
  have gn:=BD g hdN
  refine Ok.bif (fun hb=>Ok.rt ⟨c,g,hf _ (.stop (hst.2 ?_)),rfl⟩) (fun hb=>Ok.nx ⟨⟨AB t ls c,oX hdP hdN,fun r hr=>hf r (.step (fun hs=>?_) hr),?_, .inr ⟨?_,?_⟩⟩,?_⟩)
  ·rw [cC,decide_eq_true_iff,decide_eq_true_iff] at hb
   exact⟨by omega,by omega⟩
  ·have:=hst.1 hs
   rw [this.1,this.2] at hb
   simp at hb
  ·unfold AB zq
   dsimp only
   rw [hdP.dO ik,hdN.dO ik]
  ·unfold AB
   dsimp only
   rw [mc hdP]
  ·unfold AB
   dsimp only
   rw [mc hdN]
  ·have q1:=uw h (oX hdP hdN)
   have q2:=ux h (oX hdP hdN)
   unfold AB at q1 q2
   dsimp only at q1 q2
   have f1: (SP t ls c.1 c.2).map (fun l=>l.map (rn dP))=zq (SP t ls c.1 c.2):=by unfold zq;rw [hdP.dO ik]
   have f2: (SN t ls c.1 c.2).map (fun l=>l.map (rn dN))=zq (SN t ls c.1 c.2):=by unfold zq;rw [hdN.dO ik]
   rw [f1,f2]
   rw [mc hdP] at q1 ⊢
   rw [mc hdN] at q2 ⊢
   have: ¬(dP.length= (dO fz c.1.flatten).length/\dN.length= (dO fz c.2.flatten).length):=fun hs=>by
    rw [hs.1,hs.2] at hb;simp at hb
   omega
theorem vz (h:gY t ls) (hb: ∀i,i<ls.length->bk (nth ls i)<=1048576) (hN:4194304<=N):
  ∃s,mV ls s/\qa t ls (la ls) s/\d4 N (typesOf ls) (pg t ls ls.length) ((off (gF ls) ls.length:Nat):Int) ((off (fk ls) ls.length:Nat):Int)=some (s.1.flatten,s.2.flatten)/\cY N t ls=some ⟨t,ls,s.1,s.2⟩:=by
 obtain⟨_,h1,s,g,f,rfl⟩:=vx (N:=N) h hN
 obtain⟨_,h2,s',g',f',rfl⟩:=w6 (N:=N) h hb hN
 have:=f.uniq f'
 subst this
 exact⟨s,g,f,h1,h2⟩
end
end Go.Gk
namespace Go.Gk
open Go
section
variable {t:List aD} {N:Nat}
theorem zp {x:aH} (hbt:bk t<=1048576) (ok:j4 t x):gY t [x]:=⟨hbt,fun i hi=>by
 have:i=0:=by simpa using hi
 subst this;exact ok,by simp⟩
theorem Ax (x:aH):pg t [x] 1=nK t x 0 0:=by
 unfold pg
 simp [List.range_succ,off,nth]
theorem w7 {x:aH} (hbt:bk t<=1048576) (hbx:bk x<=1048576) (ok:j4 t x) (hN:4194304<=N):
  ∃p q:List Int,p.length<=1000/\q.length<=1000/\((fi N ([]:List aT) ([]:List aQ) 0 0 t x).bind fun x36=>(d4 N x36.1 x36.2.1 x36.2.2.1 x36.2.2.2).bind fun x39=>some (x39.1,x39.2,(0:Int)))=some (p,q,0)/\
   ((cY N t [x]).bind fun x36=>(idx x36.parts 0).bind fun x40=>(idx x36.qp 0).bind fun x44=>some (x40,x44,(0:Int)))=some (p,q,0):=by
 have h:=zp hbt ok
 obtain⟨s,g,f,h1,h2⟩:=vz (N:=N) h (fun i hi=>by
  have:i=0:=by simpa using hi
  subst this;exact hbx) hN
 have hput:fi N ([]:List aT) ([]:List aQ) 0 0 t x=some ([]++x.aK.map Part.cE,[]++nK t x 0 0,((0+x.aK.length:Nat):Int),((0+x.aY.length:Nat):Int)):=
  zi (a:=0) (b:=0) hbt (Ak hbx) ok (by simp) (by simp) (by omega) (by omega) hN
 have e1:typesOf [x]= []++x.aK.map Part.cE:=by unfold typesOf;simp
 have e2:pg t [x] [x].length= []++nK t x 0 0:=by rw [List.nil_append];exact Ax x
 have e3:off (gF [x]) [x].length=0+x.aK.length:=rfl
 have e4:off (fk [x]) [x].length=0+x.aY.length:=rfl
 rw [e1,e2,e3,e4] at h1
 obtain⟨s1,s2⟩:=s
 obtain⟨g1,g2,_,_⟩:=g
 dsimp only at g1 g2 h1 h2
 have q1:=g1.1
 have q2:=g2.1
 match s1,s2,q1,q2 with
 | [p],[q],_,_=>
  have l1:=g1.2 0 (by simp)
  have l2:=g2.2 0 (by simp)
  have f1:p.length=x.aK.length:=l1
  have f2:q.length=x.aY.length:=l2
  have:=ok.y9
  have:=ok.qO
  refine⟨p,q,by omega,by omega,?_,?_⟩
  ·rw [hput,aA]
   dsimp only
   rw [h1,aA]
   simp
  ·rw [h2,aA]
   rfl
theorem lQ {t:List aD} {x:aH} (hbt:bk t<=1048576) (hbx:bk x<=1048576) (hN:4194304<=N):cR N t x=some true:=by
 unfold cR jg fS
 rw [oD hbt hbx hN,aA,ru hbt hbx hN]
 by_cases hc:fZ t x=0
 ·obtain⟨p,q,l1,l2,h1,h2⟩:=w7 (N:=N) hbt hbx (vo hc) hN
  have e: (fZ t x != 0)=false:=by rw [hc];rfl
  rw [e,bL,h1,aA,aA,e,bL,h2,aA]
  dsimp only
  rw [show ((0:Int)==0)=true from rfl,bJ,mP (by omega),aA,cK rfl,bJ,mP (by omega),aA,cK rfl,bJ,wR hN]
  rfl
 ·have e: (fZ t x != 0)=true:=by rw [bne_iff_ne];exact hc
  rw [e,bJ,aA,aA,e,bJ,aA]
  dsimp only
  rw [show (fZ t x==fZ t x)=true by simp,bJ,mP (by simp),aA,cK rfl,bJ,aA,bJ,wR hN]
  rfl
end
end Go.Gk
